/- joined texts -/
import Derived.Test.YtkfpmjjcogigfaaGreatDoorW6
set_option linter.all false
namespace Go.Wk
open Go.Proofs
set_option maxRecDepth 10000
section
variable {α:Type} {f:α→By}
theorem zic:∀{l m:List α},(l.Pairwise fun a b=>blt (f a) (f b)=true)→(m.Pairwise fun a b=>blt (f a) (f b)=true)→(∀x,x∈l↔x∈m)→l=m
 |[],[],_,_,_=>rfl
 |[],y::m,_,_,h=>by have:=(h y).2 (by simp);cases this
 |x::l,[],_,_,h=>by have:=(h x).1 (by simp);cases this
 |x::l,y::m,hl,hm,h=>by
  have hl':=List.pairwise_cons.1 hl
  have hm':=List.pairwise_cons.1 hm
  have hxy:x=y:=by
   rcases List.mem_cons.1 ((h x).1 (by simp)) with e|e
   ·exact e
   rcases List.mem_cons.1 ((h y).2 (by simp)) with e2|e2
   ·exact e2.symm
   have h1:=hm'.1 x e
   rw[zdq (hl'.1 y e2)]at h1
   cases h1
  subst hxy
  rw[zic hl'.2 hm'.2 fun z=>?_]
  constructor
  ·intro hz
   rcases List.mem_cons.1 ((h z).1 (by simp[hz])) with e|e
   ·subst e
    have:=hl'.1 z hz
    rw[yJ]at this;cases this
   exact e
  intro hz
  rcases List.mem_cons.1 ((h z).2 (by simp[hz])) with e|e
  ·subst e
   have:=hm'.1 z hz
   rw[yJ]at this;cases this
  exact e
theorem zmQ{l:List α}(h:l.Pairwise fun a b=>blt (f a) (f b)=true):(l.map f).Nodup:=by
 rw[List.Nodup,List.pairwise_map]
 exact h.imp fun h=>zhl h
theorem zgc:∀{l:List α},(l.map f).Nodup→∀{a b:α},a∈l→b∈l→f a=f b→a=b
 |x::l,h,a,b,ha,hb,e=>by
  rw[List.map_cons,List.nodup_cons]at h
  rcases List.mem_cons.1 ha with h1|h1<;>rcases List.mem_cons.1 hb with h2|h2
  ·rw[h1,h2]
  ·exact absurd (List.mem_map.2 ⟨b,h2,by rw[←e,h1]⟩) h.1
  ·exact absurd (List.mem_map.2 ⟨a,h1,by rw[e,h2]⟩) h.1
  exact zgc h.2 h1 h2 e
end
structure Tb where
 n:By
 s:yx
 r:LV
deriving DecidableEq
abbrev Cat:=List Tb
def zd2(c:Cat):Prop:=c.Pairwise fun a b=>blt a.n b.n=true
def atC(c:Cat)(n:By):Option Tb:=c.find? fun t=>decide (t.n=n)
def zcg(c:Cat)(n:By):Cat:=c.filter fun t=>decide (t.n≠n)
def zso(c:Cat)(t:Tb):Cat:=c.takeWhile (fun x=>blt x.n t.n)++t::c.dropWhile (fun x=>blt x.n t.n)
def zaD(c:Cat)(t:Tb):Cat:=zso (zcg c t.n) t
structure zaJ(c:Cat):Prop where
 srt:zd2 c
 tab:∀t∈c,yA t.s t.r
 le:c.length≤12
section
variable {c d:Cat} {n:By} {t u:Tb}
theorem zd2.uniq(h:zd2 c)(ht:t∈c)(hu:u∈c)(e:t.n=u.n):t=u:=zgc (f:=Tb.n) (zmQ h) ht hu e
theorem zbR(h:atC c n=some t):t∈c∧t.n=n:=⟨List.mem_of_find?_eq_some h,by simpa using List.find?_some (p:=fun x:Tb=>decide (x.n=n)) h⟩
theorem zgo(h:atC c n=none):∀t∈c,t.n≠n:=fun t ht e=>by
 have:=List.find?_eq_none.1 h t ht
 simp[e]at this
theorem zlp(h:zd2 c)(ht:t∈c):atC c t.n=some t:=by
 cases ha:atC c t.n with
 |none=>exact absurd rfl (zgo ha t ht)
 |some u=>
  obtain⟨h1,h2⟩:=zbR ha
  rw[h.uniq h1 ht h2]
theorem zep:t∈zcg c n↔t∈c∧t.n≠n:=by simp[zcg]
theorem zrv:u∈zso c t↔u=t∨u∈c:=by
 have e:=List.takeWhile_append_dropWhile (p:=fun x:Tb=>blt x.n t.n) (l:=c)
 unfold zso
 constructor
 ·intro h
  rcases List.mem_append.1 h with h|h
  ·exact .inr (e▸List.mem_append_left _ h)
  rcases List.mem_cons.1 h with h|h
  ·exact .inl h
  exact .inr (e▸List.mem_append_right _ h)
 rintro (rfl|h)
 ·simp
 rw[←e]at h
 rcases List.mem_append.1 h with h|h
 ·exact List.mem_append_left _ h
 exact List.mem_append_right _ (List.mem_cons_of_mem _ h)
theorem zae:u∈zaD c t↔u=t∨(u∈c∧u.n≠t.n):=by rw[zaD,zrv,zep]
theorem ziX:(zso c t).length=c.length+1:=by
 have:=congrArg List.length (List.takeWhile_append_dropWhile (p:=fun x:Tb=>blt x.n t.n) (l:=c))
 unfold zso
 simp only[List.length_append,List.length_cons] at *
 omega
theorem zd2.less(h:zd2 c)(n:By):zd2 (zcg c n):=h.sublist List.filter_sublist
theorem zd2.with(h:zd2 c)(t:Tb):zd2 (zaD c t):=zkL Tb.n t _ (h.less t.n) fun a ha=>(zep.1 ha).2
theorem zj3(h:zd2 c)(ht:t∈c):(zcg c t.n).length+1=c.length:=by
 induction c with
 |nil=>cases ht
 |cons x c ih=>
  obtain⟨h1,h2⟩:=List.pairwise_cons.1 h
  have hfil:∀l:Cat,(∀y∈l,y.n≠t.n)→zcg l t.n=l:=fun l hl=>List.filter_eq_self.2 fun y hy=>by simpa using hl y hy
  rcases List.mem_cons.1 ht with rfl|ht
  ·have:zcg (t::c) t.n=zcg c t.n:=by simp[zcg]
   rw[this,hfil c fun y hy e=>by have:=h1 y hy;rw[e,yJ]at this;cases this]
   rfl
  have hx:x.n≠t.n:=zhl (h1 t ht)
  have:zcg (x::c) t.n=x::zcg c t.n:=by simp[zcg,hx]
  rw[this,List.length_cons,List.length_cons,ih h2 ht]
theorem zi0(c:Cat)(n:By):(zcg c n).length≤c.length:=List.length_filter_le _ _
theorem zaJ.less(h:zaJ c)(n:By):zaJ (zcg c n):=⟨h.srt.less n,fun t ht=>h.tab t (zep.1 ht).1,Nat.le_trans (zi0 c n) h.le⟩
theorem zaJ.new(h:zaJ c)(ht:yA t.s t.r)(hl:c.length<12):zaJ (zaD c t):=
 ⟨h.srt.with t,fun u hu=>by
  rcases zae.1 hu with rfl|⟨h1,_⟩
  ·exact ht
  ·exact h.tab u h1,by
  have:=zi0 c t.n
  rw[zaD,ziX];omega⟩
theorem zaJ.set(h:zaJ c)(hu:atC c t.n=some u)(ht:yA t.s t.r):zaJ (zaD c t):=
 ⟨h.srt.with t,fun v hv=>by
  rcases zae.1 hv with rfl|⟨h1,_⟩
  ·exact ht
  ·exact h.tab v h1,by
  obtain⟨h1,h2⟩:=zbR hu
  have:=zj3 h.srt h1
  have:=h.le
  rw[h2] at *
  rw[zaD,ziX];omega⟩
theorem zaJ.nil:zaJ []:=⟨List.Pairwise.nil,by simp,by simp⟩
theorem zd2.ext(h:zd2 c)(k:zd2 d)(e:∀x,x∈c↔x∈d):c=d:=zic (f:=Tb.n) h k e
theorem zo2(h:zd2 c)(ht:t∈c):zaD c t=c:=by
 refine(h.with t).ext h fun x=>?_
 rw[zae]
 constructor
 ·rintro (rfl|h)<;>simp_all
 intro hx
 by_cases e:x.n=t.n
 ·exact .inl (h.uniq hx ht e)
 exact .inr ⟨hx,e⟩
end
structure EvT where
 k:Int
 t:By
 s:yx
 o:List zT
 w:List zT
 m:List (By×By)
deriving DecidableEq
def zcm:yx:=⟨[],[],[]⟩
def yz(x:EvT):EvT:=⟨x.k,if x.k=6 then e0 else x.t,if x.k=4 then x.s else zcm,if x.k=2∨x.k=3 then x.o else [],if x.k=1∨x.k=2 then x.w else [],if x.k=6 then x.m else []⟩
def zhM(l:List zT):Bool:=decide (1≤l.length∧l.length≤8) && l.all fun x=>decide (zbq x=0)
def zdZ(m:List (By×By)):Bool:=decide (1≤m.length∧m.length≤4) && m.all fun p=>zaF p.1 && zaF p.2
def zei(x:EvT):Bool:=
 if x.k=1 then zaF x.t && zhM x.w else if x.k=2 then zaF x.t && zhM x.o && zhM x.w else if x.k=3 then zaF x.t && zhM x.o
 else if x.k=4 then zaF x.t && zaq x.s else if x.k=5 then zaF x.t else if x.k=6 then zdZ x.m else false
def z9(x:EvT):Bool:=decide (1≤x.k∧x.k≤6) && decide (x=yz x) && zei x && (!decide (x.k=2) || decide (x.o.length=x.w.length))
def zb2(c q:Cat)(m:List (By×By)):Cat:=m.foldl (fun q p=>match atC c p.1 with|some t=>zaD q ⟨p.2,t.s,t.r⟩|none=>q) q
def zbx(c:Cat)(m:List (By×By)):Cat:=c.filter fun t => !(m.any fun p=>decide (p.1=t.n))
def zd0(m:List (By×By)):Bool := !decide ((m.map Prod.fst).Nodup)
def zcc(c q:Cat):List (By×By)→Bool
 |[]=>false
 |p::m=>(atC q p.2).isSome || zcc c (zb2 c q [p]) m
def zeT(c:Cat)(m:List (By×By)):Int:=
 if zd0 m then 2 else if m.any (fun p=>(atC c p.1).isNone) then 5 else if zcc c (zbx c m) m then 220 else 0
def zdK(c:Cat)(m:List (By×By)):Cat:=zb2 c (zbx c m) m
def zd5(t:Tb)(l:List zT):Bool:=decide (zai t.s l=0) && decide (zbN t.s t.r (zV t.s l)=some l)
def zbI(t:Tb)(x:EvT):Int:=if x.k=1 then zfi t.s t.r x.w else if zd5 t x.o=false then 230 else if x.k=3 then 0 else zeH t.s t.r (zV t.s x.o) x.w
def zci(t:Tb)(x:EvT):LV:=if x.k=1 then zfu t.s t.r x.w else if zd5 t x.o=false then t.r else if x.k=3 then zay t.s t.r (zV t.s x.o) else zfo t.s t.r (zV t.s x.o) x.w
def doE(c:Cat)(x:EvT):Int:=
 if z9 x=false then 2 else if x.k=6 then zeT c x.m else match atC c x.t with
  |none=>if x.k=4 then (if 12≤c.length then 3 else 0) else 5
  |some t=>if x.k=4 then 220 else if x.k=5 then 0 else zbI t x
def doC(c:Cat)(x:EvT):Cat:=
 if doE c x≠0 then c else if x.k=6 then zdK c x.m else if x.k=4 then zaD c ⟨x.t,x.s,[]⟩ else if x.k=5 then zcg c x.t else match atC c x.t with
  |none=>c
  |some t=>zaD c ⟨t.n,t.s,zci t x⟩
def zek(c:Cat):List EvT→Nat→Nat×Int
 |[],_=>(0,0)
 |x::l,i=>if doE c x≠0 then (i,doE c x) else zek (doC c x) l (i+1)
def zdL(c:Cat)(l:List EvT):Cat:=l.foldl doC c
def zkv(c:Cat)(l:List EvT):Cat:=if (zek c l 0).2=0 then zdL c l else c
section
variable {c q d:Cat} {t u:Tb} {n:By} {x:EvT} {m:List (By×By)}
theorem zeA{x:EvT}(h:z9 x=true):(1≤x.k∧x.k≤6)∧x=yz x∧zei x=true∧(x.k=2→x.o.length=x.w.length):=by
 simp only[z9,Bool.and_eq_true,decide_eq_true_eq,Bool.or_eq_true,Bool.not_eq_true',decide_eq_false_iff_not]at h
 obtain⟨⟨⟨h1,h2⟩,h3⟩,h4⟩:=h
 exact⟨h1,h2,h3,fun hk=>h4.resolve_left (fun h=>h hk)⟩
theorem zcV{x:EvT}(h1:1≤x.k∧x.k≤6)(h2:x=yz x)(h3:zei x=true)(h4:x.k=2→x.o.length=x.w.length):z9 x=true:=by
 simp only[z9,Bool.and_eq_true,decide_eq_true_eq,Bool.or_eq_true,Bool.not_eq_true',decide_eq_false_iff_not]
 refine⟨⟨⟨h1,h2⟩,h3⟩,?_⟩
 by_cases hk:x.k=2
 ·exact .inr (h4 hk)
 exact .inl hk
theorem zdo:t∈zbx c m↔t∈c∧t.n∉m.map Prod.fst:=by
 simp only[zbx,List.mem_filter,Bool.not_eq_true',List.any_eq_false,decide_eq_true_eq,List.mem_map,not_exists,not_and]
theorem zfE{p:By×By}:zb2 c q (p::m)=zb2 c (zb2 c q [p]) m:=rfl
theorem zo0{p:By×By}:zb2 c q (m++[p])=zb2 c (zb2 c q m) [p]:=by simp[zb2]
theorem zgK{p:By×By}(h:atC c p.1=some t):zb2 c q [p]=zaD q ⟨p.2,t.s,t.r⟩:=by simp[zb2,h]
theorem zgJ{l:List (By×By)}:zcc c q l=false↔∀i p,l[i]? = some p→atC (zb2 c q (l.take i)) p.2=none:=by
 induction l generalizing q with
 |nil=>simp[zcc]
 |cons p l ih=>
  unfold zcc
  rw[Bool.or_eq_false_iff,ih]
  constructor
  ·rintro ⟨h1,h2⟩ i y hy
   cases i with
   |zero=>
    simp at hy
    subst hy
    simpa[zb2] using h1
   |succ i=>exact h2 i y (by simpa using hy)
  intro h
  refine⟨by simpa[zb2] using h 0 p U,fun i y hy=>h (i+1) y (by simpa using hy)⟩
theorem zpJ{l:List (By×By)}{i:Nat}{p:By×By}(hp:l[i]? = some p)(h:atC (zb2 c q (l.take i)) p.2≠none):zcc c q l=true:=by
 cases ht:zcc c q l with
 |true=>rfl
 |false=>exact absurd (zgJ.1 ht i p hp) h
theorem zoF(h:zaJ c)(m:List (By×By)):zaJ (zbx c m):=⟨h.srt.sublist List.filter_sublist,fun t ht=>h.tab t (zdo.1 ht).1,Nat.le_trans (List.length_filter_le _ _) h.le⟩
theorem zrC(hq:zd2 q):zd2 (zb2 c q m):=by
 induction m generalizing q with
 |nil=>exact hq
 |cons p m ih=>
  rw[zfE]
  refine ih ?_
  unfold zb2
  simp only[List.foldl_cons,List.foldl_nil]
  split
  ·exact hq.with _
  exact hq
theorem zsd(h:∀t∈c,yA t.s t.r)(hq:∀t∈q,yA t.s t.r):∀t∈zb2 c q m,yA t.s t.r:=by
 induction m generalizing q with
 |nil=>exact hq
 |cons p m ih=>
  rw[zfE]
  refine ih ?_
  unfold zb2
  simp only[List.foldl_cons,List.foldl_nil]
  split
  ·rename_i t ht
   intro u hu
   rcases zae.1 hu with rfl|⟨h1,_⟩
   ·exact h t (zbR ht).1
   exact hq u h1
  exact hq
theorem zsg:(zb2 c q m).length≤q.length+m.length:=by
 induction m generalizing q with
 |nil=>simp[zb2]
 |cons p m ih=>
  rw[zfE]
  have h1:=ih (q:=zb2 c q [p])
  have h2:(zb2 c q [p]).length≤q.length+1:=by
   unfold zb2
   simp only[List.foldl_cons,List.foldl_nil]
   split
   ·rename_i t _
    rw[zaD,ziX]
    have:=zi0 q p.2
    show (zcg q p.2).length+1≤_
    omega
   omega
  rw[List.length_cons]
  omega
theorem zjP(h:zd2 c):∀{m:List (By×By)},(m.map Prod.fst).Nodup→(∀p∈m,(atC c p.1).isSome=true)→(zbx c m).length+m.length=c.length
 |[],_,_=>by
  have:zbx c []=c:=List.filter_eq_self.2 fun y _=>by simp
  rw[this]
  simp
 |p::m,hn,ha=>by
  rw[List.map_cons,List.nodup_cons]at hn
  have ih:=zjP h hn.2 fun y hy=>ha y (List.mem_cons_of_mem _ hy)
  obtain⟨t,ht⟩:=Option.isSome_iff_exists.1 (ha p (by simp))
  obtain⟨h1,h2⟩:=zbR ht
  have e:zbx c (p::m)=zcg (zbx c m) t.n:=by
   unfold zbx zcg
   rw[List.filter_filter]
   refine List.filter_congr fun y _=>?_
   rw[h2]
   by_cases e:p.1=y.n
   ·simp[e]
   have e':y.n≠p.1:=fun h=>e h.symm
   simp[e,e']
  have:=zj3 (c:=zbx c m) (h.sublist List.filter_sublist) (zdo.2 ⟨h1,by rw[h2];exact hn.1⟩:t∈zbx c m)
  rw[e,List.length_cons]
  omega
theorem zp2(h:zaJ c)(he:zeT c m=0):zd0 m=false∧(∀p∈m,(atC c p.1).isSome=true)∧zcc c (zbx c m) m=false:=by
 unfold zeT at he
 cases h1:zd0 m with
 |true=>simp[h1]at he
 |false=>
  cases h2:m.any (fun p=>(atC c p.1).isNone) with
  |true=>simp[h1,h2]at he
  |false=>
   cases h3:zcc c (zbx c m) m with
   |true=>simp[h1,h2,h3]at he
   |false=>
    refine⟨U,fun p hp=>?_,U⟩
    have:=List.any_eq_false.1 h2 p hp
    cases ha:atC c p.1 with
    |none=>simp[ha]at this
    |some t=>rfl
theorem zaJ.ren(h:zaJ c)(he:zeT c m=0):zaJ (zdK c m):=by
 obtain⟨h1,h2,_⟩:=zp2 h he
 have hn:(m.map Prod.fst).Nodup:=by simpa[zd0] using h1
 have hl:=zjP h.srt hn h2
 have h3:=zsg (c:=c) (q:=zbx c m) (m:=m)
 have:=h.le
 exact⟨zrC (zoF h m).srt,zsd h.tab (zoF h m).tab,by unfold zdK;omega⟩
theorem zy4(h:z9 x=true)(hk:x.k=4):zaF x.t=true∧zaq x.s=true:=by
 have:=(zeA h).2.2.1
 simpa[zei,hk] using this
end
section
variable {K:Type} [DecidableEq K]
def zi4:List (K×Va)→K→List (K×Va)
 |[],_=>[]
 |p::r,k=>if p.1=k then r else p::zi4 r k
theorem zhH:∀{es:List (K×Va)} (k:K),(es.map (·.1)).Nodup→zi4 es k=es.filter fun p=>decide (p.1≠k)
 |[],_,_=>rfl
 |p::r,k,h=>by
  rw[List.map_cons,List.nodup_cons]at h
  unfold zi4
  by_cases e:p.1=k
  ·have hr:r.filter (fun p=>decide (p.1≠k))=r:=List.filter_eq_self.2 fun y hy=>by
    have:y.1≠k:=fun he=>h.1 (List.mem_map.2 ⟨y,hy,he.trans e.symm⟩)
    simpa using this
   rw[if_pos e,List.filter_cons,if_neg (by simp[e]),hr]
  rw[if_neg e,List.filter_cons,if_pos (by simpa using e),zhH k h.2]
variable {κ:zjl K}
theorem zi2(k:K):∀(l:List MapEntry) (es:List (K×Va)) (i j:Nat) (u:Va),l.map rd=es.map (krd κ)→zc3 es k i=some (j,u)→(l.eraseIdx (j-i)).map rd=(zi4 es k).map (krd κ)
 |[],[],_,_,_,_,h=>by simp[zc3]at h
 |[],_::_,_,_,_,h,_=>by simp at h
 |_::_,[],_,_,_,h,_=>by simp at h
 |e::l,p::es,i,j,u,h,hm=>by
  simp only[List.map_cons,List.cons.injEq]at h
  obtain⟨h1,h2⟩:=h
  simp only[zc3]at hm
  by_cases he:p.1=k
  ·rw[if_pos he]at hm
   simp only[Option.some.injEq,Prod.mk.injEq]at hm
   obtain⟨rfl,_⟩:=hm
   rw[Nat.sub_self]
   simp only[zi4,if_pos he,List.eraseIdx_zero,List.tail_cons,h2]
  rw[if_neg he]at hm
  have hge:=zh0 k es (i+1) j u hm
  rw[show j-i=(j-(i+1))+1 by omega]
  simp only[zi4,if_neg he,List.eraseIdx_cons_succ,List.map_cons,h1,zi2 k l es (i+1) j u h2 hm]
theorem zjN(k:K):∀(es:List (K×Va)) (i:Nat),zc3 es k i=none→zi4 es k=es
 |[],_,_=>rfl
 |p::r,i,h=>by
  simp only[zc3]at h
  split at h
  ·cases h
  rename_i he
  simp only[zi4,if_neg he,zjN k r (i+1) h]
section
variable {P:Program} {n:Nat} {F:Fr} {w:Wl} {d:Tmp} {dst:Option Tmp} {ty t kt et:TypeId} {pos:String} {af:Array Edge} {gd:Option (Nat×Bool)} {K':Fr→Wl→Prop} {b:Nat} {es:List (K×Va)}
theorem zqY{ts:Array TypeId}(ht:ts[0]? = some t)(hm:zdF P t=some (kt,et))(hk:P.underlying kt=some κ.kd)(h:zY κ w b es)(k:K) :
 ∃w',(Builtin.delete_ ts ty #[.map (some b),κ.kv k]).run P w=.ok (.tuple #[]) w'∧w'.heap.size=w.heap.size∧zl [b] w w'∧zY κ w' b (zi4 es k):=by
 obtain⟨a,c,hb,hl,hs1,hs2⟩:=h
 have hlt:=(Array.getElem?_eq_some_iff.1 hb).1
 cases hx:zc3 es k 0 with
 |none=>
  refine⟨w.putObj b (.map a c),?_,by simp[World.putObj],zl.put _ _ _,_,_,World.putObj_heap_same hlt,?_,hs1,hs2⟩
  ·simp[Builtin.delete_,ht,run_underlying (zcv hm),Go.MapKept.run_getObj_map hb,κ.chk P kt k _ w hk,zdp hk k hl,hx,Go.MapKept.run_setObj_map _ hb,World.putObj]
  rw[zjN k es 0 hx];exact hl
 |some q=>
  obtain⟨i,u⟩:=q
  have hdel:=zi2 k a.toList es 0 i u hl hx
  refine⟨w.putObj b (.map (a.eraseIdxIfInBounds i) c),?_,by simp[World.putObj],zl.put _ _ _,_,_,World.putObj_heap_same hlt,?_,?_,?_⟩
  ·simp[Builtin.delete_,ht,run_underlying (zcv hm),Go.MapKept.run_getObj_map hb,κ.chk P kt k _ w hk,zdp hk k hl,hx,Go.MapKept.run_setObj_map _ hb,World.putObj]
  ·simpa using hdel
  ·have e:(a.eraseIdxIfInBounds i).toList=a.toList.eraseIdx i:=by simp
   rw[e]
   exact hs1.sublist ((List.eraseIdx_sublist _ _).map _)
  intro e he
  have e1:(a.eraseIdxIfInBounds i).toList=a.toList.eraseIdx i:=by simp
  rw[e1]at he
  exact hs2 e (List.mem_of_mem_eraseIdx he)
theorem znV(hm:zdF P t=some (kt,et))(hk:P.underlying kt=some κ.kd){x y:Operand}{t2:TypeId}{k:K}(hx:ev F x=some (.map (some b)))(hy:ev F y=some (κ.kv k))(h:zY κ w b es)
 (hK:∀w',w'.heap.size=w.heap.size→zl [b] w w'→zY κ w' b (zi4 es k)→K' F w'):St P n F ⟨none,.call { callee:=.builtin .delete,args := #[x,y],argTypes := #[t,t2] },ty,pos,af,gd⟩ w K':=by
 obtain⟨w',hr,h1,h2,h3⟩:=zqY (P:=P) (ts := #[t,t2]) (ty:=ty) rfl hm hk h k
 refine St.vlNone (v:=.tuple #[]) (w':=w') ?_ U (hK w' h1 h2 h3)
 intro a ha
 simp[execOp,resolve,invoke,builtin,ha.eval hx,ha.eval hy,hr]
theorem zd9(hm:zdF P t=some (kt,et)){x:Operand}(hx:ev F x=some (.map (some b)))(h:zY κ w b es) :
 Vl P n F ⟨dst,.call { callee:=.builtin .len,args := #[x],argTypes := #[t] },ty,pos,af,gd⟩ w (Ii (es.length:Nat)) w:=by
 intro a ha
 obtain⟨ar,c,hb,hl,_⟩:=h
 have hz:ar.size=es.length:=by
  have:=congrArg List.length hl
  simpa using this
 simp[execOp,resolve,invoke,builtin,Builtin.len_,ha.eval hx,run_underlying (zcv hm),Go.MapKept.run_getObj_map hb,goInt,hz]
theorem zsP(hm:zdF P t=some (kt,et)){x y:Operand}{u:TypeId}{q:Option Nat}(hx:ev F x=some (.map q))(hy:ev F y=some (.map none)) :
 Vl P n F ⟨dst,.binOp .eql t x y u,ty,pos,af,gd⟩ w (.bool q.isNone) w:=by
 intro a ha
 have h1:(Op.equal t (.map q) (.map none)).run P w=.ok q.isNone w:=zbb fun d=>by cases q<;>simp[Op.equalIn,run_underlying (zcv hm)]
 simp[execOp,ha.eval hx,ha.eval hy,eqGuard,binOp,h1]
def zvg(P:Program)(t:TypeId):Bool:=
 match P.underlying t with
 |some (.array m e)=>Nat.beq m 2 && zhR P e && (yZ P e == some false) && (yR P e == some 1) && !P.eqGuardType P.depth t
 |_=>false
theorem ztH{x y:Operand}{t u:TypeId}{a b c e:By}(h:zvg P t=true)(hx:ev F x=some (.agg #[.string a,.string b]))(hy:ev F y=some (.agg #[.string c,.string e])) :
 Vl P n F ⟨dst,.binOp .neq t x y u,ty,pos,af,gd⟩ w (.bool (!decide ((a,b)=(c,e)))) w:=by
 intro ac ha
 unfold zvg at h
 split at h
 ·rename_i m el hu
  simp only[Bool.and_eq_true,Bool.not_eq_true',beq_iff_eq]at h
  obtain⟨⟨⟨⟨hm,hs⟩,hag⟩,hz⟩,hg⟩:=h
  obtain rfl:=Nat.eq_of_beq_eq_true hm
  have hse:=yN hs
  have pt:∀(vs:Array Va) (i:Nat) (v:Va),vs[i]? = some v→(part el vs i).run P w=.ok v w:=by
   intro vs i v hv
   simp[part,zao hag,hv]
  have p1:=pt #[.string a,.string b] 0 (.string a) rfl
  have p2:=pt #[.string c,.string e] 0 (.string c) rfl
  have p3:=pt #[.string a,.string b] 1 (.string b) rfl
  have p4:=pt #[.string c,.string e] 1 (.string e) rfl
  have key:∀d,(∀x y:By,(Op.equalIn d el (.string x) (.string y)).run P w=.ok (decide (x=y)) w)→(Op.equalIn (d+1) t (.agg #[.string a,.string b]) (.agg #[.string c,.string e])).run P w=.ok (decide (a=c) && decide (b=e)) w:=by
   intro d hd
   have q1:=hd a c
   have q2:=hd b e
   unfold Op.equalIn
   simp only[Sem.run_bind,run_underlying hu,Result.andThen_ok,zU hz]
   generalize decide (a=c)=r1 at *
   generalize decide (b=e)=r2 at *
   cases r1<;>cases r2<;>simp[Std.Legacy.Range.forIn_eq_forIn_range',Std.Legacy.Range.size,List.range',p1,p2,p3,p4,q1,q2]
  have e1:(Op.equalIn 10000 t (.agg #[.string a,.string b]) (.agg #[.string c,.string e])).run P w=.ok (decide (a=c) && decide (b=e)) w:=key 9999 fun x y=>by rw[run_equalIn_string (P:=P) w 9998 el x y hse,zeS]
  simp only[execOp,ha.eval hx,ha.eval hy,Sem.run_bind,run_eqGuard_agg w _ _ _ _ _ _ hg,Result.andThen_ok,run_neq_struct,e1]
  by_cases h1:a=c<;>by_cases h2:b=e<;>simp[h1,h2]
 simp at h
theorem zt2{x:Operand}{xt:TypeId}{v:Va}(h:zjb P t=true)(hx:ev F x=some (.iface t v)):Vl P n F ⟨dst,.typeAssert x xt t false,ty,pos,af,gd⟩ w v w:=by
 intro a ha
 obtain⟨d,hd,hne⟩:=zk6 h
 cases d<;>simp[execOp,Instr.typeAssert,ha.eval hx,run_underlying hd]
 exact absurd U (hne _)
end
theorem zo9{P:Program}{w:Wl}{b t:Nat}{es:List (K×Va)}(h:zY κ w b es):∃w',(Extern.MapsClone.clone #[.iface t (.map (some b))]).run P w=.ok (.iface t (.map (some w.heap.size))) w'∧w'.heap.size=w.heap.size+1∧zl [] w w'∧zY κ w' w.heap.size es:=by
 obtain⟨a,c,hb,hl,hs⟩:=h
 refine⟨w.alloc (.map a c),?_,by simp,zl.alloc _ _ _,a,c,heap_alloc_new w _,hl,hs⟩
 conv=>lhs;arg 2;whnf
 simp[Sem.run,Sem.run_bind',Sem.bind,hb,run_newObj_alloc,Sem.run_bind]
end
class Lw where
 n:Nat
set_option linter.unusedSectionVars false
variable [Lw]
def fl{α:Type}(f:α→List Va)(l:List α):List Va:=l.flatMap f
section
variable {α:Type} {f:α→List Va} {k:Nat}
theorem zfD(x:α)(l:List α):fl f (x::l)=f x++fl f l:=rfl
theorem zpt(l m:List α):fl f (l++m)=fl f l++fl f m:=by simp[fl]
theorem zko(hf:∀x,(f x).length=k):∀l:List α,(fl f l).length=l.length*k
 |[]=>by simp[fl]
 |x::l=>by rw[zfD,List.length_append,hf,zko hf l,List.length_cons,Nat.add_mul];omega
theorem zon(hf:∀x,(f x).length=k):∀(i:Nat) (l:List α),fl f (l.drop i)=(fl f l).drop (i*k)
 |0,l=>by simp
 |i+1,[]=>by simp[fl]
 |i+1,x::l=>by
  rw[List.drop_succ_cons,zon hf i l,zfD,List.drop_append,hf,Nat.add_mul]
  have:(f x).drop (i*k+1*k)=[]:=List.drop_eq_nil_of_le (by rw[hf];omega)
  rw[this,List.nil_append]
  congr 1
  omega
theorem zou(hf:∀x,(f x).length=k):∀(i:Nat) (l:List α),fl f (l.take i)=(fl f l).take (i*k)
 |0,l=>by simp[fl]
 |i+1,[]=>by simp[fl]
 |i+1,x::l=>by
  rw[List.take_succ_cons,zfD,zou hf i l,zfD,List.take_append,hf,Nat.add_mul]
  have:(f x).take (i*k+1*k)=f x:=Tl (by rw[hf];omega)
  rw[this]
  congr 2
  omega
theorem zqe(hf:∀x,(f x).length=k){l:List α}{i:Nat}{x:α}(h:l[i]? = some x):((fl f l).drop (i*k)).take k=f x:=by
 rw[←zon hf]
 obtain⟨hl,rfl⟩:=Gs h
 rw[List.drop_eq_getElem_cons hl,zfD]
 exact List.take_left' (hf _)
theorem zwF(h1:∀x,∀u∈f x,u.oneCell'=true)(l:List α):∀u∈fl f l,u.oneCell'=true:=by
 intro u hu
 obtain⟨x,_,hx⟩:=List.mem_flatMap.1 hu
 exact h1 x u hx
end
def yh{α:Type}(w:Wl)(e k:Nat)(f:α→List Va)(v:Va)(l:List α):Prop:=zw w e k v l.length (fl f l)
section
variable {α:Type} {f:α→List Va} {w w':Wl} {e k:Nat} {v:Va} {l:List α}
theorem yh.chg0(h:yh w e k f v l)(hc:zl [] w w'):yh w' e k f v l:=zw.chg0 h hc
theorem yh.chg{S:List Nat}(h:yh w e k f v l)(hc:zl S w w')(hb:∀b∈zq v,b∉S):yh w' e k f v l:=zw.chg h hc hb
theorem yh.nil(w:Wl)(e k:Nat)(f:α→List Va):yh w e k f (.slice none 0 0) []:=zw.nil w e k
theorem yh.val(h:yh w e k f v l):∃p c,v=.slice p l.length c∧l.length≤c:=zw.val h
theorem yh.at(hf:∀x,(f x).length=k)(h:yh w e k f v l){i:Nat}{x:α}(hi:l[i]? = some x):∃b off cap,v=.slice (some ⟨b,off,none⟩) l.length cap∧zB w b (off+i*k) (f x):=by
 have hl:=(Gs hi).1
 obtain⟨b,off,cap,hv,hc⟩:=zw.atk h hl
 rw[zqe hf hi]at hc
 exact⟨b,off,cap,hv,hc⟩
end
def zO{α:Type}(w:Wl)(_e k:Nat)(f:α→List Va)(v:Va)(l:List α):Prop:=Rd w k v l.length (fl f l)
def zo7:Va→Bool
 |.int .. | .string _ | .bool _=>true
 |_=>false
def Nl(w:Wl)(S:List Nat):Prop:=∀b∈S,∀c e fr,w.heap[b]? = some (.cells c e fr)→∀u∈c.toList,zo7 u=false
theorem Nl.one{w:Wl}{b:Nat}{e:TypeId}{c:List Va}(hb:zK w b e c)(h:∀u∈c,zo7 u=false):Nl w [b]:=fun x hx c' e' fr he=>by
 simp at hx;subst hx
 have:=Option.some.inj ((show w.heap[x]? = _ from hb).symm.trans he)
 cases this
 simpa using h
section
variable {α:Type} {f:α→List Va} {w w':Wl} {e k:Nat} {v:Va} {l:List α}
theorem yh.arr(h:yh w e k f v l):zO w e k f v l:=zw.toRd h
theorem zO.chg0(h:zO w e k f v l)(hc:zl [] w w'):zO w' e k f v l:=Rd.chg0 h hc
theorem zO.chg{S:List Nat}(h:zO w e k f v l)(hc:zl S w w')(hb:∀b∈zq v,b∉S):zO w' e k f v l:=Rd.chg h hc hb
theorem zO.chgC{S:List Nat}(h:zO w e k f v l)(hc:zl S w w')(hf:∀x,∀u∈f x,zo7 u=true)(hS:Nl w S):zO w' e k f v l:=
 Rd.chgC h hc fun b hb c e fr he u hu hm=>by
  obtain⟨x,_,hx⟩:=List.mem_flatMap.1 hu
  have:=hf x u hx
  rw[hS b hb c e fr he u hm]at this;cases this
theorem zO.nil(w:Wl)(e k:Nat)(f:α→List Va):zO w e k f (.slice none 0 0) []:=Rd.nil w k
theorem zO.val(h:zO w e k f v l):∃p c,v=.slice p l.length c∧l.length≤c:=Rd.val h
theorem zO.one1(h:zO w e k f v l):v.oneCell'=true:=Rd.one1 h
theorem zO.at(hf:∀x,(f x).length=k)(h:zO w e k f v l){i:Nat}{x:α}(hi:l[i]? = some x):∃b off cap,v=.slice (some ⟨b,off,none⟩) l.length cap∧zB w b (off+i*k) (f x):=by
 have hl:=(Gs hi).1
 obtain⟨b,off,cap,hv,hc⟩:=Rd.atk h hl
 rw[zqe hf hi]at hc
 exact⟨b,off,cap,hv,hc⟩
theorem zO.take(hf:∀x,(f x).length=k){p:Option Addr}{c n:Nat}(h:zO w e k f (.slice p l.length c) l)(hn:n≤l.length){m:Nat}(h1:n≤m)(h2:m≤c):zO w e k f (cut p 0 n m k) (l.take n):=by
 have:=Rd.cut h (l:=0) (h:=n) (m:=m) (by omega) h1 h2 hn
 unfold zO
 rw[zou hf,List.length_take,Nat.min_eq_left hn]
 simpa using this
theorem zO.of_blk{b:Nat}{e':TypeId}(hf:∀x,(f x).length=k)(h1:∀x,∀u∈f x,u.oneCell'=true)(hb:zK w b e' (fl f l))(hn:l.length≤maxLen):zO w e k f (.slice (some ⟨b,0,none⟩) l.length l.length) l:=
 (zw.of_blk hb (zko hf l) hn (zwF h1 l)).toRd
end
theorem zc2(x:zT):x.cs.length=4:=rfl
theorem Col.one(c:Col):∀u∈c.cs,u.oneCell'=true:=by
 intro u hu;simp[Col.cs]at hu;rcases hu with rfl|rfl|rfl|rfl<;>rfl
theorem zb9(c:Col):c.cs.length=4:=rfl
def ics(i:Int):List Va:=[Ii i]
theorem zgE(i:Int):(ics i).length=1:=rfl
theorem zsU(i:Int):∀u∈ics i,u.oneCell'=true:=by intro u hu;simp[ics]at hu;subst hu;rfl
def yn(w:Wl)(v:Va)(l:List zT):Prop:=zO w 111 4 zT.cs v l
def zg5(w:Wl)(v:Va)(l:List Col):Prop:=zO w 114 4 Col.cs v l
def zap(w:Wl)(v:Va)(l:List Int):Prop:=zO w 3 1 ics v l
theorem zap.cell{w:Wl}{v:Va}{l:List Int}(h:zap w v l){i:Nat}{x:Int}(hi:l[i]? = some x):∃b off cap,v=.slice (some ⟨b,off,none⟩) l.length cap∧w.cell? ⟨b,off+i*1,none⟩=some (Ii x):=by
 obtain⟨b,off,cap,hv,hc⟩:=zO.at zgE h hi
 exact⟨b,off,cap,hv,hc 0 _ U⟩
def zcp{α:Type}(w:Wl)(e k:Nat)(f:α→List Va):List Va→List (List α)→Prop
 |[],[]=>True
 |v::vs,l::ls=>zO w e k f v l∧zcp w e k f vs ls
 |_,_=>False
section
variable {α:Type} {f:α→List Va} {w w':Wl} {e k:Nat}
theorem zcp.length:∀{vs:List Va} {ls:List (List α)},zcp w e k f vs ls→vs.length=ls.length
 |[],[],_=>rfl
 |_::_,_::_,h=>by simp[zcp.length h.2]
theorem zcp.at:∀{vs:List Va} {ls:List (List α)} {i:Nat} {l:List α},zcp w e k f vs ls→ls[i]? = some l→∃v,vs[i]? = some v∧zO w e k f v l
 |[],[],_,_,_,h=>by simp at h
 |v::vs,l::ls,0,l',h,hi=>by simp at hi;subst hi;exact⟨v,rfl,h.1⟩
 |v::vs,l::ls,i+1,l',h,hi=>by simpa using h.2.at (by simpa using hi)
theorem zcp.chg{S:List Nat}(hc:zl S w w'):∀{vs:List Va} {ls:List (List α)},(∀v∈vs,∀b∈zq v,b∉S)→zcp w e k f vs ls→zcp w' e k f vs ls
 |[],[],_,_=>trivial
 |v::vs,l::ls,hb,h=>⟨h.1.chg hc (hb v (by simp)),zcp.chg hc (fun u hu=>hb u (by simp[hu])) h.2⟩
theorem zcp.chg0{vs:List Va}{ls:List (List α)}(h:zcp w e k f vs ls)(hc:zl [] w w'):zcp w' e k f vs ls:=zcp.chg hc (by simp) h
end
def zdU(w:Wl)(v:Va)(l:List zT):Prop:=yh w 111 4 zT.cs v l
def ye{α:Type}(w:Wl)(e k:Nat)(f:α→List Va):List Va→List (List α)→Prop
 |[],[]=>True
 |v::vs,l::ls=>yh w e k f v l∧ye w e k f vs ls
 |_,_=>False
section
variable {α:Type} {f:α→List Va} {w w':Wl} {e k:Nat}
theorem ye.length:∀{vs:List Va} {ls:List (List α)},ye w e k f vs ls→vs.length=ls.length
 |[],[],_=>rfl
 |_::_,_::_,h=>by simp[ye.length h.2]
theorem ye.at:∀{vs:List Va} {ls:List (List α)} {i:Nat} {l:List α},ye w e k f vs ls→ls[i]? = some l→∃v,vs[i]? = some v∧yh w e k f v l
 |[],[],_,_,_,h=>by simp at h
 |v::vs,l::ls,0,l',h,hi=>by simp at hi;subst hi;exact⟨v,rfl,h.1⟩
 |v::vs,l::ls,i+1,l',h,hi=>by simpa using h.2.at (by simpa using hi)
theorem ye.append:∀{vs us:List Va} {ls ms:List (List α)},ye w e k f vs ls→ye w e k f us ms→ye w e k f (vs++us) (ls++ms)
 |[],_,[],_,_,h=>h
 |_::_,_,_::_,_,h,h'=>⟨h.1,h.2.append h'⟩
theorem ye.chg{S:List Nat}(hc:zl S w w'):∀{vs:List Va} {ls:List (List α)},(∀v∈vs,∀b∈zq v,b∉S)→ye w e k f vs ls→ye w' e k f vs ls
 |[],[],_,_=>trivial
 |v::vs,l::ls,hb,h=>⟨h.1.chg hc (hb v (by simp)),ye.chg hc (fun u hu=>hb u (by simp[hu])) h.2⟩
theorem ye.chg0{vs:List Va}{ls:List (List α)}(h:ye w e k f vs ls)(hc:zl [] w w'):ye w' e k f vs ls:=ye.chg hc (by simp) h
theorem ye.one:∀{vs:List Va} {ls:List (List α)},ye w e k f vs ls→∀u∈vs,u.oneCell'=true
 |[],[],_,u,hu=>by simp at hu
 |v::vs,l::ls,h,u,hu=>by
  rcases List.mem_cons.1 hu with rfl|hu
  ·exact zw.one1 h.1
  exact h.2.one u hu
theorem ye.apart{b:Nat}{e':TypeId}{c:List Va}(hb:zK w b e' c)(hne:Nat.beq e e'=false):∀{vs:List Va} {ls:List (List α)},ye w e k f vs ls→∀v∈vs,∀x∈zq v,x∉[b]
 |[],[],_,v,hv=>by simp at hv
 |v::vs,l::ls,h,u,hu=>by
  rcases List.mem_cons.1 hu with rfl|hu
  ·exact zw.apart h.1 hb hne
  exact h.2.apart hb hne u hu
theorem ye.apartSl{e' k' n:Nat}{v:Va}{xs:List Va}(hv:zw w e' k' v n xs)(hne:Nat.beq e e'=false):∀{vs:List Va} {ls:List (List α)},ye w e k f vs ls→∀u∈vs,∀x∈zq u,x∉zq v
 |[],[],_,u,hu=>by simp at hu
 |u::vs,l::ls,h,u',hu=>by
  rcases List.mem_cons.1 hu with rfl|hu
  ·exact zw.apartSl h.1 hv hne
  exact h.2.apartSl hv hne u' hu
end
def okT(E e:Nat):Bool:=Nat.beq E e || Nat.beq E 32
def Ou(w:Wl)(E:Nat)(v:Va)(len:Nat)(vs:List Va):Prop:=
 Rd w 1 v len vs∧(0<len→∃b off cap e c fr,v=.slice (some ⟨b,off,none⟩) len cap∧w.heap[b]? = some (.cells c e fr)∧okT E e=true)
section
variable {w w':Wl} {E len:Nat} {v:Va} {vs:List Va}
theorem zw.toOu(h:zw w E 1 v len vs):Ou w E v len vs:=by
 refine⟨h.toRd,fun hp=>?_⟩
 rcases h with⟨_,rfl,_⟩|⟨b,off,cap,c,rfl,h⟩
 ·omega
 exact⟨b,off,cap,E,_,_,rfl,h.blk,by simp[okT]⟩
def Nt(w:Wl)(E:Nat)(S:List Nat):Prop:=∀b∈S,∀c e fr,w.heap[b]? = some (.cells c e fr)→okT E e=false
theorem Ou.chgS{S:List Nat}(h:Ou w E v len vs)(hc:zl S w w')(hS:Nt w E S):Ou w' E v len vs:=by
 obtain⟨h1,h2⟩:=h
 rcases Nat.eq_zero_or_pos len with hz|hp
 ·subst hz
  obtain⟨p,cap,rfl,g2,g3,g4,g5,g6⟩:=h1
  exact⟨⟨p,cap,rfl,g2,g3,g4,g5,fun h=>absurd h (by omega)⟩,fun h=>absurd h (by omega)⟩
 obtain⟨b,off,cap,e,c,fr,rfl,hb,hk⟩:=h2 hp
 have hn:b∉S:=fun hm=>by
  have:=hS b hm _ _ _ hb
  rw[hk]at this;cases this
 refine⟨Rd.chg h1 hc (by intro x hx;simp[zq]at hx;subst hx;exact hn),fun _=>⟨b,off,cap,e,c,fr,rfl,?_,hk⟩⟩
 exact(hc.block b (Array.getElem?_eq_some_iff.1 hb).1 hn).trans hb
theorem Ou.chg0(h:Ou w E v len vs)(hc:zl [] w w'):Ou w' E v len vs:=h.chgS hc (fun _ hx=>by simp at hx)
end
def zc7{α:Type}(w:Wl)(E e k:Nat)(f:α→List Va)(v:Va)(ls:List (List α)):Prop:=∃vs,Ou w E v ls.length vs∧zcp w e k f vs ls
section
variable {α:Type} {f:α→List Va} {w w':Wl} {E e k:Nat} {v:Va} {ls:List (List α)}
theorem zc7.chg0(h:zc7 w E e k f v ls)(hc:zl [] w w'):zc7 w' E e k f v ls:=let ⟨vs,h1,h2⟩:=h; ⟨vs,h1.chg0 hc,h2.chg0 hc⟩
theorem zc7.val(h:zc7 w E e k f v ls):∃p c,v=.slice p ls.length c∧ls.length≤c:=let ⟨_,h1,_⟩:=h; Rd.val h1.1
theorem zc7.at(h:zc7 w E e k f v ls){i:Nat}{l:List α}(hi:ls[i]? = some l):∃b off cap u,v=.slice (some ⟨b,off,none⟩) ls.length cap∧w.cell? ⟨b,off+i*1,none⟩=some u∧zO w e k f u l:=by
 obtain⟨vs,h1,h2⟩:=h
 obtain⟨u,hu,ha⟩:=h2.at hi
 obtain⟨b,off,cap,u',hv,hu',hc⟩:=Rd.at1 h1.1 (Gs hi).1
 rw[hu]at hu'
 cases hu'
 exact⟨b,off,cap,u,hv,hc,ha⟩
theorem zc7.one1(h:zc7 w E e k f v ls):v.oneCell'=true:=let ⟨_,h1,_⟩:=h; Rd.one1 h1.1
end
def Low(w w':Wl):Prop:=∀b,b<w.heap.size→w'.heap[b]? = w.heap[b]?
theorem Rd.low{w w':Wl}{k:Nat}{v:Va}{len:Nat}{xs:List Va}(h:Rd w k v len xs)(hk:Low w w'):Rd w' k v len xs:=
 h.keep fun b off u j _ _ hc=>by
  have hlt:b<w.heap.size:=by
   rcases Nat.lt_or_ge b w.heap.size with h1|h1
   ·exact h1
   simp[World.cell?,Array.getElem?_eq_none h1]at hc
  unfold World.cell? at hc ⊢
  rw[hk b hlt];exact hc
theorem zO.low{α:Type}{f:α→List Va}{w w':Wl}{e k:Nat}{v:Va}{l:List α}(h:zO w e k f v l)(hk:Low w w'):zO w' e k f v l:=Rd.low h hk
theorem zcp.low{α:Type}{f:α→List Va}{w w':Wl}{e k:Nat}(hk:Low w w'):∀{vs:List Va} {ls:List (List α)},zcp w e k f vs ls→zcp w' e k f vs ls
 |[],[],_=>trivial
 |_::_,_::_,h=>⟨Rd.low h.1 hk,zcp.low hk h.2⟩
theorem zmK(x:zT):∀u∈x.cs,zo7 u=true:=by intro u hu;simp[zT.cs]at hu;rcases hu with rfl|rfl|rfl|rfl<;>rfl
theorem zs9(x:Col):∀u∈x.cs,zo7 u=true:=by intro u hu;simp[Col.cs]at hu;rcases hu with rfl|rfl|rfl|rfl<;>rfl
def zdO(w:Wl)(v:Va)(ls:List (List Int)):Prop:=zc7 w 32 3 1 ics v ls
def zoi(e:Nat):Bool := !Nat.beq e 178 && !Nat.beq e 83 && !Nat.beq e 48 && !Nat.beq e 39
def Lo(w:Wl)(b:Nat):Prop:=b<Lw.n∨∃c e fr,w.heap[b]? = some (.cells c e fr)∧zoi e=true
def Ns(w:Wl)(S:List Nat):Prop:=∀b∈S,Lw.n≤b∧∀c e fr,w.heap[b]? = some (.cells c e fr)→zoi e=false
theorem Ns.not{w:Wl}{S:List Nat}{b:Nat}(h:Ns w S)(hl:Lo w b):b∉S:=fun hm=>by
 obtain⟨h1,h2⟩:=h b hm
 rcases hl with h3|⟨c,e,fr,h3,h4⟩
 ·omega
 rw[h2 _ _ _ h3]at h4;cases h4
theorem Ns.one{w:Wl}{b:Nat}{e:TypeId}{c:List Va}(hb:zK w b e c)(h:zoi e=false)(hN:Lw.n≤b):Ns w [b]:=fun x hx=>by
 simp at hx;subst hx
 refine⟨hN,fun c' e' fr he=>?_⟩
 have:=Option.some.inj ((show w.heap[x]? = _ from hb).symm.trans he)
 cases this
 exact h
theorem Lo.chg{w w':Wl}{S:List Nat}{b:Nat}(h:Lo w b)(hc:zl S w w')(hS:Ns w S):Lo w' b:=by
 rcases h with h|⟨c,e,fr,h3,h4⟩
 ·exact .inl h
 exact .inr ⟨c,e,fr,(hc.block b (Array.getElem?_eq_some_iff.1 h3).1 (hS.not (.inr ⟨c,e,fr,h3,h4⟩))).trans h3,h4⟩
theorem Rd.ou{w:Wl}{v:Va}{n:Nat}{vs:List Va}(h:Rd w 1 v n vs):Ou w 32 v n vs:=by
 refine⟨h,fun hp=>?_⟩
 obtain⟨p,cap,rfl,h1,h2,h3,h4,h5⟩:=h
 obtain⟨b,off,rfl,hc⟩:=h5 hp
 have hv:vs[0]? = some (vs[0]'(by omega)):=by simp
 have h0:=hc 0 _ hv
 unfold World.cell? at h0
 cases ho:w.heap[b]? with
 |none=>simp[ho]at h0
 |some o=>
  cases o with
  |cells x y z=>exact⟨b,off,cap,y,x,z,rfl,ho,by simp[okT]⟩
  |_=>simp[ho]at h0
def zgr:Va→List Nat
 |.slice (some a) (_+1) _=>[a.block]
 |_=>[]
theorem zqJ{v:Va}{b:Nat}(h:b∈zgr v):b∈zq v:=by
 unfold zgr at h
 split at h
 ·exact h
 cases h
theorem Rd.chgP{w w':Wl}{k:Nat}{v:Va}{len:Nat}{xs:List Va}{S:List Nat}(h:Rd w k v len xs)(hc:zl S w w')(hb:∀b∈zgr v,b∉S):Rd w' k v len xs:=
 h.keep fun b off u j hv hj hcell=>zgX hc hcell (hb b (by
  have h1:=h.len_xs
  have h2:=(Gs hj).1
  obtain⟨m,rfl⟩:∃m,len=m+1:=by
   cases len with
   |zero=>simp at h1;simp[h1]at h2
   |succ m=>exact⟨m,rfl⟩
  rw[hv];simp[zgr]))
structure zal(w:Wl)(c k u:Va)(s:yx):Prop where
 cols:zg5 w c s.cols
 key:zap w k s.key
 us:∃vs,Rd w 1 u s.uq.length vs∧zcp w 3 1 ics vs s.uq∧∀v∈vs,∀b∈zgr v,Lo w b
 lo:∀v∈[c,k,u],∀b∈zgr v,Lo w b
theorem zal.uq{w:Wl}{c k u:Va}{s:yx}(h:zal w c k u s):zdO w u s.uq:=let ⟨vs,h1,h2,_⟩:=h.us; ⟨vs,h1.ou,h2⟩
theorem zcp.chgL{α:Type}{f:α→List Va}{w w':Wl}{e k:Nat}{S:List Nat}(hc:zl S w w'):∀{vs:List Va} {ls:List (List α)},(∀v∈vs,∀b∈zgr v,b∉S)→zcp w e k f vs ls→zcp w' e k f vs ls
 |[],[],_,_=>trivial
 |v::_,_::_,hv,h=>⟨Rd.chgP h.1 hc (hv v (by simp)),zcp.chgL hc (fun u hu=>hv u (by simp[hu])) h.2⟩
theorem zal.chgN{w w':Wl}{c k u:Va}{s:yx}(h:zal w c k u s){S:List Nat}(hc:zl S w w')(hS:Ns w S):zal w' c k u s:=by
 have hn:∀v∈[c,k,u],∀b∈zgr v,b∉S:=fun v hv b hb=>hS.not (h.lo v hv b hb)
 obtain⟨vs,h1,h2,h3⟩:=h.us
 exact⟨Rd.chgP h.cols hc (hn c (by simp)),Rd.chgP h.key hc (hn k (by simp)),⟨vs,Rd.chgP h1 hc (hn u (by simp)),h2.chgL hc fun v hv b hb=>hS.not (h3 v hv b hb),fun v hv b hb=>(h3 v hv b hb).chg hc hS⟩,fun v hv b hb=>(h.lo v hv b hb).chg hc hS⟩
theorem zal.chg0{w w':Wl}{c k u:Va}{s:yx}(h:zal w c k u s)(hc:zl [] w w'):zal w' c k u s:=h.chgN hc fun _ hb=>by cases hb
theorem zal.chgB{w w':Wl}{c k u:Va}{s:yx}(h:zal w c k u s){b:Nat}{e:TypeId}{x:List Va}(hb:zK w b e x)(h3:zoi e=false)(hN:Lw.n≤b)(hc:zl [b] w w'):zal w' c k u s:=
 h.chgN hc (Ns.one hb h3 hN)
theorem zal.one{w:Wl}{c k u:Va}{s:yx}(h:zal w c k u s):∀x∈[c,k,u],x.oneCell'=true:=by
 intro x hx
 simp at hx
 rcases hx with rfl|rfl|rfl
 ·exact zO.one1 h.cols
 ·exact zO.one1 h.key
 exact h.uq.one1
theorem zfI{α:Type}{p:α→Bool}{l:List α}{j:Nat}{x:α}(hx:l[j]? = some x)(h:p x=true):l.any p=true:=List.any_eq_true.2 ⟨x,List.mem_of_getElem? hx,h⟩
theorem zew{α:Type}{p:α→Bool}{l:List α}{j:Nat}{x:α}(hx:l[j]? = some x)(h:p x=false)(ha:(l.take j).any p=false):(l.take (j+1)).any p=false:=by
 rw[List.take_add_one,hx,List.any_append,ha]
 simp[h]
theorem zve{α:Type}{f:α→List Va}(hf:∀x,(f x).length=4)(v:Va)(l:List α)(p:α→Bool)(g:Nat)(lb:List Va)(w:Wl)(hl:zO w 114 4 f v l)(hn:l.length≤1048576)(hg:zi TP g=true)
 (hp:∀x∈l,∀w1,zl [] w w1→zL TP g (Value.agg (f x).toArray::lb).toArray w1 fun r w2=>r=.bool (p x)∧zl [] w1 w2) :
 zL TP 332 #[v,.func (.func g) #[] lb.toArray] w fun r w'=>∃i:Int,r=Ii i∧decide (0≤i)=l.any p∧zl [] w w':=by
 obtain⟨pv,cv,hval,hle⟩:=zO.val hl
 refine A2 Tryz.func332 U U ?_
 refine Sr (Oa U (E2 0 1 U (zd (zd ?_))))
 subst hval
 refine za (Om U (On zbF U (Om U (E4 0 1 7 8 U (zu ?_)))))
 refine zX [0,1,7,8] (fun m F wx=>∃j:Nat,m=l.length-j∧j≤l.length∧F=[(0,.slice pv l.length cv),(1,.func (.func g) #[] lb.toArray),(7,Ii l.length),(8,Ii j)]∧zl [] w wx∧(l.take j).any p=false) (m:=l.length-0) ⟨0,rfl,Nat.zero_le _,rfl,zl.refl _ _,by simp⟩ ?_
 rintro m F wx⟨j,rfl,hj,rfl,hcx,hno⟩
 refine Sr (Og (zF U U) U (E5 0 1 7 8 9 U (zd ?_)))
 refine zH U (fun hT=>?_) (fun hF=>?_)
 ·refine zk ?_
  have hlt:j<l.length:=by have:=of_decide_eq_true hT;omega
  have hx:l[j]? = some l[j]:=by simp[hlt]
  generalize l[j]=x at hx
  obtain⟨b,off,cap,hv,hcell⟩:=zO.at hf (zO.chg0 hl hcx) hx
  cases hv
  refine zd (zu (Sr (Om U (Oa U (E5 0 1 5 7 8 U (Sr (Om U (Om U (Om U ?_)))))))))
  refine Og (zm zbF zaL U U _ U hlt) U ?_
  refine Og (zg zdy zaL U (hf _) hcell) U ?_
  refine Oc hg U U U (hp x (List.mem_of_getElem? hx) _ hcx) ?_
  rintro v16 w16⟨rfl,c16⟩
  refine E6 0 1 5 7 8 16 U ?_
  cases hpx:p x with
  |true=>
   refine zf U (Sr (Om U (Oa U (E1 4 U (zh ?_)))))
   repeat first|refine tr ?_|refine br ?_
   refine zx U U ?_
   exact⟨_,rfl,by rw[zfI hx hpx];simp,hcx.trans c16⟩
  |false=>
   refine zb U (z0 (zn (za ?_)))
   refine Og (zG U U (by omega)) U ?_
   refine Om U (N4 0 1 7 8 U ?_)
   exact⟨l.length-(j+1),by omega,j+1,rfl,by omega,rfl,hcx.trans c16,zew hx hpx hno⟩
 refine zI ?_
 repeat first|refine te ?_|refine bo rfl ?_
 refine zt _ ?_
 have he:l.length≤j:=by have:=of_decide_eq_false hF;omega
 refine Sr (Oa U (E1 4 U (zh ?_)))
 repeat first|refine tr ?_|refine br ?_
 refine zx U U ?_
 rw[Tl he]at hno
 exact⟨_,rfl,by rw[hno];rfl,hcx⟩
theorem zvU{α:Type}{f:α→List Va}(hf:∀x,(f x).length=4)(v:Va)(l:List α)(p:α→Bool)(g:Nat)(lb:List Va)(w:Wl)(hl:zO w 114 4 f v l)(hn:l.length≤1048576)(hg:zi TP g=true)
 (hp:∀x∈l,∀w1,zl [] w w1→zL TP g (Value.agg (f x).toArray::lb).toArray w1 fun r w2=>r=.bool (p x)∧zl [] w1 w2) :
 zL TP 299 #[v,.func (.func g) #[] lb.toArray] w fun r w'=>r=.bool (l.any p)∧zl [] w w':=by
 refine A2 Tryz.func299 U U ?_
 refine Sr (Oa U (E2 0 1 U (Sr (Om U (Om U ?_)))))
 refine Oc zyz U U U (zve hf v l p g lb _ hl hn hg hp) ?_
 rintro v7 w7⟨i,rfl,hi,c7⟩
 refine Og (yj U U) U (Oa U (E1 4 U (zh ?_)))
 refine zx U U ?_
 exact⟨by rw[←hi],c7⟩
theorem zvA{α:Type}{f:α→List Va}(hf:∀x,(f x).length=4)(v:Va)(l:List α)(p:α→Bool)(g:Nat)(lb:List Va)(w:Wl)(hl:zO w 111 4 f v l)(hn:l.length≤1048576)(hg:zi TP g=true)
 (hp:∀x∈l,∀w1,zl [] w w1→zL TP g (Value.agg (f x).toArray::lb).toArray w1 fun r w2=>r=.bool (p x)∧zl [] w1 w2) :
 zL TP 199 #[v,.func (.func g) #[] lb.toArray] w fun r w'=>∃i:Int,r=Ii i∧decide (0≤i)=l.any p∧zl [] w w':=by
 obtain⟨pv,cv,hval,hle⟩:=zO.val hl
 refine A2 Tryz.func199 U U ?_
 refine Sr (Oa U (E2 0 1 U (zd (zd ?_))))
 subst hval
 refine za (Om U (On zbn U (Om U (E4 0 1 7 8 U (zu ?_)))))
 refine zX [0,1,7,8] (fun m F wx=>∃j:Nat,m=l.length-j∧j≤l.length∧F=[(0,.slice pv l.length cv),(1,.func (.func g) #[] lb.toArray),(7,Ii l.length),(8,Ii j)]∧zl [] w wx∧(l.take j).any p=false) (m:=l.length-0) ⟨0,rfl,Nat.zero_le _,rfl,zl.refl _ _,by simp⟩ ?_
 rintro m F wx⟨j,rfl,hj,rfl,hcx,hno⟩
 refine Sr (Og (zF U U) U (E5 0 1 7 8 9 U (zd ?_)))
 refine zH U (fun hT=>?_) (fun hF=>?_)
 ·refine zk ?_
  have hlt:j<l.length:=by have:=of_decide_eq_true hT;omega
  have hx:l[j]? = some l[j]:=by simp[hlt]
  generalize l[j]=x at hx
  obtain⟨b,off,cap,hv,hcell⟩:=zO.at hf (zO.chg0 hl hcx) hx
  cases hv
  refine zd (zu (Sr (Om U (Oa U (E5 0 1 5 7 8 U (Sr (Om U (Om U (Om U ?_)))))))))
  refine Og (zm zbn yv U U _ U hlt) U ?_
  refine Og (zg zaX yv U (hf _) hcell) U ?_
  refine Oc hg U U U (hp x (List.mem_of_getElem? hx) _ hcx) ?_
  rintro v16 w16⟨rfl,c16⟩
  refine E6 0 1 5 7 8 16 U ?_
  cases hpx:p x with
  |true=>
   refine zf U (Sr (Om U (Oa U (E1 4 U (zh ?_)))))
   repeat first|refine tr ?_|refine br ?_
   refine zx U U ?_
   exact⟨_,rfl,by rw[zfI hx hpx];simp,hcx.trans c16⟩
  |false=>
   refine zb U (z0 (zn (za ?_)))
   refine Og (zG U U (by omega)) U ?_
   refine Om U (N4 0 1 7 8 U ?_)
   exact⟨l.length-(j+1),by omega,j+1,rfl,by omega,rfl,hcx.trans c16,zew hx hpx hno⟩
 refine zI ?_
 repeat first|refine te ?_|refine bo rfl ?_
 refine zt _ ?_
 have he:l.length≤j:=by have:=of_decide_eq_false hF;omega
 refine Sr (Oa U (E1 4 U (zh ?_)))
 repeat first|refine tr ?_|refine br ?_
 refine zx U U ?_
 rw[Tl he]at hno
 exact⟨_,rfl,by rw[hno];rfl,hcx⟩
theorem zrk{α:Type}{f:α→List Va}(hf:∀x,(f x).length=4)(v:Va)(l:List α)(p:α→Bool)(g:Nat)(lb:List Va)(w:Wl)(hl:zO w 111 4 f v l)(hn:l.length≤1048576)(hg:zi TP g=true)
 (hp:∀x∈l,∀w1,zl [] w w1→zL TP g (Value.agg (f x).toArray::lb).toArray w1 fun r w2=>r=.bool (p x)∧zl [] w1 w2) :
 zL TP 142 #[v,.func (.func g) #[] lb.toArray] w fun r w'=>r=.bool (l.any p)∧zl [] w w':=by
 refine A2 Tryz.func142 U U ?_
 refine Sr (Oa U (E2 0 1 U (Sr (Om U (Om U ?_)))))
 refine Oc zzv U U U (zvA hf v l p g lb _ hl hn hg hp) ?_
 rintro v7 w7⟨i,rfl,hi,c7⟩
 refine Og (yj U U) U (Oa U (E1 4 U (zh ?_)))
 refine zx U U ?_
 exact⟨by rw[←hi],c7⟩
theorem zvD(v:Va)(l:List Int)(p:Int→Bool)(g:Nat)(lb:List Va)(w:Wl)(hl:zap w v l)(hn:l.length≤1048576)(hg:zi TP g=true)
 (hp:∀x∈l,∀w1,zl [] w w1→zL TP g (Value.int .i64 x::lb).toArray w1 fun r w2=>r=.bool (p x)∧zl [] w1 w2) :
 zL TP 333 #[v,.func (.func g) #[] lb.toArray] w fun r w'=>∃i:Int,r=Ii i∧decide (0≤i)=l.any p∧zl [] w w':=by
 obtain⟨pv,cv,hval,hle⟩:=zO.val hl
 refine A2 Tryz.func333 U U ?_
 refine Sr (Oa U (E2 0 1 U (zd (zd ?_))))
 subst hval
 refine za (Om U (On zc1 U (Om U (E4 0 1 7 8 U (zu ?_)))))
 refine zX [0,1,7,8] (fun m F wx=>∃j:Nat,m=l.length-j∧j≤l.length∧F=[(0,.slice pv l.length cv),(1,.func (.func g) #[] lb.toArray),(7,Ii l.length),(8,Ii j)]∧zl [] w wx∧(l.take j).any p=false) (m:=l.length-0) ⟨0,rfl,Nat.zero_le _,rfl,zl.refl _ _,by simp⟩ ?_
 rintro m F wx⟨j,rfl,hj,rfl,hcx,hno⟩
 refine Sr (Og (zF U U) U (E5 0 1 7 8 9 U (zd ?_)))
 refine zH U (fun hT=>?_) (fun hF=>?_)
 ·refine zk ?_
  have hlt:j<l.length:=by have:=of_decide_eq_true hT;omega
  have hx:l[j]? = some l[j]:=by simp[hlt]
  generalize l[j]=x at hx
  obtain⟨b,off,cap,hv,hcell⟩:=zap.cell (zO.chg0 hl hcx) hx
  cases hv
  refine zd (zu (Sr (Om U (Oa U (E5 0 1 5 7 8 U (Sr (Om U (Om U (Om U ?_)))))))))
  refine Og (zm zc1 sz3 U U _ U hlt) U ?_
  refine Ol ag3 U hcell ?_
  refine Oc hg U U U (hp x (List.mem_of_getElem? hx) _ hcx) ?_
  rintro v16 w16⟨rfl,c16⟩
  refine E6 0 1 5 7 8 16 U ?_
  cases hpx:p x with
  |true=>
   refine zf U (Sr (Om U (Oa U (E1 4 U (zh ?_)))))
   repeat first|refine tr ?_|refine br ?_
   refine zx U U ?_
   exact⟨_,rfl,by rw[zfI hx hpx];simp,hcx.trans c16⟩
  |false=>
   refine zb U (z0 (zn (za ?_)))
   refine Og (zG U U (by omega)) U ?_
   refine Om U (N4 0 1 7 8 U ?_)
   exact⟨l.length-(j+1),by omega,j+1,rfl,by omega,rfl,hcx.trans c16,zew hx hpx hno⟩
 refine zI ?_
 repeat first|refine te ?_|refine bo rfl ?_
 refine zt _ ?_
 have he:l.length≤j:=by have:=of_decide_eq_false hF;omega
 refine Sr (Oa U (E1 4 U (zh ?_)))
 repeat first|refine tr ?_|refine br ?_
 refine zx U U ?_
 rw[Tl he]at hno
 exact⟨_,rfl,by rw[hno];rfl,hcx⟩
theorem zqy(v:Va)(l:List Int)(p:Int→Bool)(g:Nat)(lb:List Va)(w:Wl)(hl:zap w v l)(hn:l.length≤1048576)(hg:zi TP g=true)
 (hp:∀x∈l,∀w1,zl [] w w1→zL TP g (Value.int .i64 x::lb).toArray w1 fun r w2=>r=.bool (p x)∧zl [] w1 w2) :
 zL TP 302 #[v,.func (.func g) #[] lb.toArray] w fun r w'=>r=.bool (l.any p)∧zl [] w w':=by
 refine A2 Tryz.func302 U U ?_
 refine Sr (Oa U (E2 0 1 U (Sr (Om U (Om U ?_)))))
 refine Oc zxY U U U (zvD v l p g lb _ hl hn hg hp) ?_
 rintro v7 w7⟨i,rfl,hi,c7⟩
 refine Og (yj U U) U (Oa U (E1 4 U (zh ?_)))
 refine zx U U ?_
 exact⟨by rw[←hi],c7⟩
theorem zsx(v:Va)(l:List (List Int))(p:List Int→Bool)(g:Nat)(lb:List Va)(w:Wl)(hl:zdO w v l)(hn:l.length≤1048576)(hg:zi TP g=true)
 (hp:∀x∈l,∀u w1,zl [] w w1→zap w1 u x→zL TP g (u::lb).toArray w1 fun r w2=>r=.bool (p x)∧zl [] w1 w2) :
 zL TP 334 #[v,.func (.func g) #[] lb.toArray] w fun r w'=>∃i:Int,r=Ii i∧decide (0≤i)=l.any p∧zl [] w w':=by
 obtain⟨pv,cv,hval,hle⟩:=zc7.val hl
 refine A2 Tryz.func334 U U ?_
 refine Sr (Oa U (E2 0 1 U (zd (zd ?_))))
 subst hval
 refine za (Om U (On zcZ U (Om U (E4 0 1 7 8 U (zu ?_)))))
 refine zX [0,1,7,8] (fun m F wx=>∃j:Nat,m=l.length-j∧j≤l.length∧F=[(0,.slice pv l.length cv),(1,.func (.func g) #[] lb.toArray),(7,Ii l.length),(8,Ii j)]∧zl [] w wx∧(l.take j).any p=false) (m:=l.length-0) ⟨0,rfl,Nat.zero_le _,rfl,zl.refl _ _,by simp⟩ ?_
 rintro m F wx⟨j,rfl,hj,rfl,hcx,hno⟩
 refine Sr (Og (zF U U) U (E5 0 1 7 8 9 U (zd ?_)))
 refine zH U (fun hT=>?_) (fun hF=>?_)
 ·refine zk ?_
  have hlt:j<l.length:=by have:=of_decide_eq_true hT;omega
  have hx:l[j]? = some l[j]:=by simp[hlt]
  generalize l[j]=x at hx
  obtain⟨b,off,cap,u,hv,hcell,hu⟩:=zc7.at (hl.chg0 hcx) hx
  cases hv
  refine zd (zu (Sr (Om U (Oa U (E5 0 1 5 7 8 U (Sr (Om U (Om U (Om U ?_)))))))))
  refine Og (zm zcZ zmt U U _ U hlt) U ?_
  refine Ol zfh U hcell ?_
  refine Oc hg U U U (hp x (List.mem_of_getElem? hx) u _ hcx hu) ?_
  rintro v16 w16⟨rfl,c16⟩
  refine E6 0 1 5 7 8 16 U ?_
  cases hpx:p x with
  |true=>
   refine zf U (Sr (Om U (Oa U (E1 4 U (zh ?_)))))
   repeat first|refine tr ?_|refine br ?_
   refine zx U U ?_
   exact⟨_,rfl,by rw[zfI hx hpx];simp,hcx.trans c16⟩
  |false=>
   refine zb U (z0 (zn (za ?_)))
   refine Og (zG U U (by omega)) U ?_
   refine Om U (N4 0 1 7 8 U ?_)
   exact⟨l.length-(j+1),by omega,j+1,rfl,by omega,rfl,hcx.trans c16,zew hx hpx hno⟩
 refine zI ?_
 repeat first|refine te ?_|refine bo rfl ?_
 refine zt _ ?_
 have he:l.length≤j:=by have:=of_decide_eq_false hF;omega
 refine Sr (Oa U (E1 4 U (zh ?_)))
 repeat first|refine tr ?_|refine br ?_
 refine zx U U ?_
 rw[Tl he]at hno
 exact⟨_,rfl,by rw[hno];rfl,hcx⟩
theorem ztf(v:Va)(l:List (List Int))(p:List Int→Bool)(g:Nat)(lb:List Va)(w:Wl)(hl:zdO w v l)(hn:l.length≤1048576)(hg:zi TP g=true)
 (hp:∀x∈l,∀u w1,zl [] w w1→zap w1 u x→zL TP g (u::lb).toArray w1 fun r w2=>r=.bool (p x)∧zl [] w1 w2) :
 zL TP 303 #[v,.func (.func g) #[] lb.toArray] w fun r w'=>r=.bool (l.any p)∧zl [] w w':=by
 refine A2 Tryz.func303 U U ?_
 refine Sr (Oa U (E2 0 1 U (Sr (Om U (Om U ?_)))))
 refine Oc zwO U U U (zsx v l p g lb _ hl hn hg hp) ?_
 rintro v7 w7⟨i,rfl,hi,c7⟩
 refine Og (yj U U) U (Oa U (E1 4 U (zh ?_)))
 refine zx U U ?_
 exact⟨by rw[←hi],c7⟩
theorem zsq(v:Va)(l:List Int)(c:Int)(w:Wl)(hl:zap w v l)(hn:l.length≤1048576) :
 zL TP 352 #[v,Ii c] w fun r w'=>∃i:Int,r=Ii i∧decide (0≤i)=decide (c∈l)∧w'=w:=by
 obtain⟨pv,cv,hval,hle⟩:=zO.val hl
 refine A2 Tryz.func352 U U ?_
 refine Sr (Oa U (E2 0 1 U (zd (zd ?_))))
 subst hval
 refine za (Om U (On zc1 U (Om U (E4 0 1 7 8 U (zu ?_)))))
 refine zX [0,1,7,8] (fun m F wx=>wx=w∧∃j:Nat,m=l.length-j∧j≤l.length∧F=[(0,.slice pv l.length cv),(1,Ii c),(7,Ii l.length),(8,Ii j)]∧c∉l.take j) (m:=l.length-0) ⟨rfl,0,rfl,Nat.zero_le _,rfl,by simp⟩ ?_
 rintro m F wx⟨hwx,j,rfl,hj,rfl,hno⟩
 subst wx
 refine Sr (Og (zF U U) U (E5 0 1 7 8 9 U (zd ?_)))
 refine zH U (fun hT=>?_) (fun hF=>?_)
 ·refine zk ?_
  have hlt:j<l.length:=by have:=of_decide_eq_true hT;omega
  have hx:l[j]? = some l[j]:=by simp[hlt]
  generalize l[j]=x at hx
  obtain⟨b,off,cap,hv,hcell⟩:=zap.cell hl hx
  cases hv
  refine zd (zu (Sr (Om U (Oa U (E5 0 1 5 7 8 U (Sr (Om U (Om U (Om U ?_)))))))))
  refine Og (zm zc1 sz3 U U _ U hlt) U ?_
  refine Ol ag3 U hcell (Og (zA U U) U (E6 0 1 5 7 8 16 U ?_))
  refine zH U (fun hT=>?_) (fun hF=>?_)
  ·have he:c=x:=of_decide_eq_true hT
   refine Sr (Om U (Oa U (E1 4 U (zh ?_))))
   repeat first|refine tr ?_|refine br ?_
   refine zx U U ?_
   have hm:c∈l:=he▸List.mem_of_getElem? hx
   exact⟨_,rfl,by simp[hm],rfl⟩
  have he:c≠x:=of_decide_eq_false hF
  refine z0 (zn (za ?_))
  refine Og (zG U U (by omega)) U ?_
  refine Om U (N4 0 1 7 8 U ?_)
  refine⟨l.length-(j+1),by omega,rfl,j+1,rfl,by omega,rfl,?_⟩
  rw[List.take_add_one,hx]
  simp[hno,he]
 refine zI ?_
 repeat first|refine te ?_|refine bo rfl ?_
 refine zt _ ?_
 have he:l.length≤j:=by have:=of_decide_eq_false hF;omega
 refine Sr (Oa U (E1 4 U (zh ?_)))
 repeat first|refine tr ?_|refine br ?_
 refine zx U U ?_
 rw[Tl he]at hno
 exact⟨_,rfl,by simp[hno],rfl⟩
theorem zmr(v:Va)(l:List Int)(c:Int)(w:Wl)(hl:zap w v l)(hn:l.length≤1048576) :
 zL TP 330 #[v,Ii c] w fun r w'=>r=.bool (decide (c∈l))∧w'=w:=by
 refine A2 Tryz.func330 U U ?_
 refine Sr (Oa U (E2 0 1 U (Sr (Om U (Om U ?_)))))
 refine Oc zw5 U U U (zsq v l c _ hl hn) ?_
 rintro v7 w7⟨i,rfl,hi,rfl⟩
 refine Og (yj U U) U (Oa U (E1 4 U (zh ?_)))
 refine zx U U ?_
 exact⟨by rw[←hi],rfl⟩
def zk5(s k f:Nat):Va:=.agg #[.func (.func s) #[] #[],Ii k,.func (.func f) #[] #[]]
def zhm:List (Int×Va):=[(1,zk5 338 1 339),(2,zk5 338 2 340),(3,zk5 341 3 342),(4,zk5 343 4 344)]
theorem zh5(w:Wl):zL TP 320 #[] w fun r w'=>∃b,r=.map (some b)∧w.heap.size≤b∧zY (y6 .i64) w' b zhm∧zl [] w w':=by
 refine zL.of_W (args:=[]) Tryz.func320 U U U U ?_
 refine Sr (Oa U (zac [] (F':=[]) U (Sr ?_)))
 refine Oq (zbc (y6 .i64) U ?_)
 intro b1 w1 e1 n1 c1 k1
 refine Og (zC zoU zdf U (vs:=[_,_,_]) U (css:=[_,_,_]) ⟨U,U,U,trivial⟩ U U (cs:=[_,_,_]) U) U ?_
 refine Oq (yr (κ:=y6 .i64) zfY (zM yY) U U U k1 ?_)
 intro wA nA cA kA
 refine Og (zC zoU zdf U (vs:=[_,_,_]) U (css:=[_,_,_]) ⟨U,U,U,trivial⟩ U U (cs:=[_,_,_]) U) U ?_
 refine Oq (yr (κ:=y6 .i64) zfY (zM yY) U U U kA ?_)
 intro wB nB cB kB
 refine Og (zC zoU zdf U (vs:=[_,_,_]) U (css:=[_,_,_]) ⟨U,U,U,trivial⟩ U U (cs:=[_,_,_]) U) U ?_
 refine Oq (yr (κ:=y6 .i64) zfY (zM yY) U U U kB ?_)
 intro wC nC cC kC
 refine Og (zC zoU zdf U (vs:=[_,_,_]) U (css:=[_,_,_]) ⟨U,U,U,trivial⟩ U U (cs:=[_,_,_]) U) U ?_
 refine Oq (yr (κ:=y6 .i64) zfY (zM yY) U U U kC ?_)
 intro wD nD cD kD
 refine Om U (Oa U (E1 0 U (zh ?_)))
 refine zx U U ?_
 exact⟨b1,rfl,by omega,kD,c1.own ((((cA.transS cB).transS cC).transS cD)) (by intro x hx;simp at hx;omega)⟩
def zf2(c:Col):Bool:=decide (1≤c.t∧c.t≤4)
def zlF(c:Col):Bool:=if c.t=1∨c.t=2 then zcP c.s else if c.t=3 then decide (c.s=0) else if c.t=4 then decide (1≤c.s∧c.s≤200) else false
theorem zdR(c:Col):zas c=(zf2 c && zaF c.n && zlF c):=by
 unfold zas
 rw[show (if c.t=1∨c.t=2 then zcP c.s else if c.t=3 then decide (c.s=0) else if c.t=4 then decide (1≤c.s∧c.s≤200) else false)=zlF c from rfl]
 cases ht:zf2 c with
 |true=>simp
 |false=>
  simp only[zf2,decide_eq_false_iff_not]at ht
  have:zlF c=false:=by
   unfold zlF
   rw[if_neg (by omega),if_neg (by omega),if_neg (by omega)]
  simp[this]
theorem zfa{c:Col}(h:zf2 c=true):∃(s f:Nat) (k:Nat),zar zhm c.t=some (zk5 s k f)∧(k:Int)=c.t∧zi TP s=true∧zi TP f=true∧(∀w,zL TP s #[Ii c.s] w fun r w'=>r=.bool (zlF c)∧w'=w) ∧
 (zas c=true→∀(x:zT) w,x.Rng→zL TP f #[Ii c.s,x.v] w fun r w'=>r=.bool (!zb1 c x)∧zl [] w w'):=by
 obtain⟨n,t,z,nl⟩:=c
 simp only[zf2,decide_eq_true_eq]at h
 rcases (show t=1∨t=2∨t=3∨t=4 by omega) with rfl|rfl|rfl|rfl
 ·refine⟨_,_,1,U,U,zu7,zyF,fun w=>zoQ z w,fun hr x w hx=>zt9 z x w ?_ hx⟩
  rw[zdR]at hr;simp only[Bool.and_eq_true]at hr;exact hr.2
 ·refine⟨_,_,2,U,U,zu7,zxD,fun w=>zoQ z w,fun hr x w hx=>ztc z x w ?_ hx⟩
  rw[zdR]at hr;simp only[Bool.and_eq_true]at hr;exact hr.2
 ·exact⟨_,_,3,U,U,zyR,zxV,fun w=>ztB z w,fun hr x w hx=>zua z x w⟩
 exact⟨_,_,4,U,U,zxR,zyy,fun w=>zts z w,fun hr x w hx=>zsT z x w⟩
theorem zhC{c:Col}(h:zf2 c=false):zar zhm c.t=none:=by
 simp only[zf2,decide_eq_false_iff_not]at h
 have h1:¬ (1:Int)=c.t:=by omega
 have h2:¬ (2:Int)=c.t:=by omega
 have h3:¬ (3:Int)=c.t:=by omega
 have h4:¬ (4:Int)=c.t:=by omega
 simp[zhm,zar,h1,h2,h3,h4]
theorem zm5{c:Col}{g:Option Va}(hg:zar zhm c.t=g):∃va vb vc,g.getD (.agg #[.nilFunc,Ii 0,.nilFunc])=.agg #[va,vb,vc]∧va.oneCell'=true∧vb.oneCell'=true∧vc.oneCell'=true:=by
 cases hk:zf2 c with
 |false=>rw[zhC hk]at hg;subst hg;exact⟨_,_,_,rfl,rfl,rfl,rfl⟩
 |true=>obtain⟨s,f,k,h,_⟩:=zfa hk;rw[h]at hg;subst hg;exact⟨_,_,_,rfl,rfl,rfl,rfl⟩
theorem zhV(c:Col)(w:Wl):zL TP 298 #[c.v] w fun r w'=>r=.bool (zas c)∧zl [] w w':=by
 rw[zdR]
 refine A1 Tryz.func298 U U ?_
 refine Sr ?_
 refine Ob U U ?_
 intro b1 w1 e1 n1 c1 k1
 refine Oa U (E1 1 U ?_)
 obtain⟨g,hg⟩:∃g,zar zhm c.t=g:=⟨_,rfl⟩
 obtain⟨va,vb,vc,hv,hva,hvb,hvc⟩:=zm5 hg
 refine yt (fun F wA=>∃b3,F=[(1,Pt b1),(3,Pt b3),(4,.bool g.isSome)]∧zK wA b3 412 [va,vb,vc]∧zl [] w1 wA) ?_ ?_
 ·have hC:=(zl.drew [] w1)
  refine zh3 (fun wz=>zl [] w1 wz) (zbz.seq [1,2] (.two 0 (zbz.seq [] (.two 3 (zbz.seq [4,5,6,7,8,9] .done) 7 (zbz.seq [3,4,5,6,8,9] .done))) 7 (zbz.seq [0,3,4,5,6,8,9] .done))) mix (by kernel_rfl) hC ?_
  refine yS U U (gn U) (fun _=>ze zh2 U) U U ?_
  refine zkB U U (gn U) (fun wz hz=>zj zoV U ((k1.chg0 hz).cell' U)) U U ?_
  refine zhs ?_ ?_
  ·refine zaS U U (gn U) (zaf zn7 U U U U (zh5 _) ?_)
   rintro v6 w6⟨b6,rfl,h6,k6,c6⟩
   have hN6:=hC.size
   have hC:=hC.trans c6
   refine⟨.inl hC,?_⟩
   refine zhs ?_ ?_
   ·refine zaS U U (gn U) (St.vl (zcO (κ:=y6 .i64) zfY (zM yY) zdf U U k6 hg hv) U U ?_)
    refine⟨.inl hC,?_⟩
    refine yS U U (gn U) (fun _=>zaT U) U U ?_
    refine yS U U (gn U) (fun _=>zJ U U) U U ?_
    refine yS U U (gn U) (fun _=>zJ U U) U U ?_
    refine zaS U U (gn U) (zD zdf U U ?_)
    intro b3 w3 e3 n3 c3 k3
    have hN3:=hC.size
    have hC:=hC.trans c3
    have k6:=k6.chg0 c3
    refine⟨.inl hC,?_⟩
    refine zaS U U (gn U) (zv zjK U U U U k3 (by simp) (by intro u hu;simp at hu;rcases hu with rfl|rfl|rfl;exact hva;exact hvb;exact hvc) ?_)
    intro wA nA cA kA
    have hC:=hC.own cA (by intro y hy;simp at hy;omega)
    refine⟨.inl hC,?_⟩
    refine yS U U (gn U) (fun _=>yM U) U U ?_
    refine ze0 [1,3,4] (F':=[(1,_),(3,_),(4,_)]) U ?_
    exact⟨b3,U,kA,hC⟩
   refine zaS U U (gn U) (zD zdf U U ?_)
   intro b3 w3 e3 n3 c3 k3
   have hN3:=hC.size
   have hC:=hC.trans c3
   have k6:=k6.chg0 c3
   refine⟨.inl hC,?_⟩
   refine zaS U U (gn U) (St.vl (zcO (κ:=y6 .i64) zfY (zM yY) zdf U U k6 hg hv) U U ?_)
   refine⟨.inl hC,?_⟩
   refine yS U U (gn U) (fun _=>zaT U) U U ?_
   refine yS U U (gn U) (fun _=>zJ U U) U U ?_
   refine yS U U (gn U) (fun _=>zJ U U) U U ?_
   refine zaS U U (gn U) (zv zjK U U U U k3 (by simp) (by intro u hu;simp at hu;rcases hu with rfl|rfl|rfl;exact hva;exact hvb;exact hvc) ?_)
   intro wA nA cA kA
   have hC:=hC.own cA (by intro y hy;simp at hy;omega)
   refine⟨.inl hC,?_⟩
   refine yS U U (gn U) (fun _=>yM U) U U ?_
   refine ze0 [1,3,4] (F':=[(1,_),(3,_),(4,_)]) U ?_
   exact⟨b3,U,kA,hC⟩
  refine zaS U U (gn U) (zD zdf U U ?_)
  intro b3 w3 e3 n3 c3 k3
  have hN3:=hC.size
  have hC:=hC.trans c3
  refine⟨.inl hC,?_⟩
  refine zaS U U (gn U) (zaf zn7 U U U U (zh5 _) ?_)
  rintro v6 w6⟨b6,rfl,h6,k6,c6⟩
  have hN6:=hC.size
  have hC:=hC.trans c6
  have k3:=k3.chg0 c6
  refine⟨.inl hC,?_⟩
  refine zaS U U (gn U) (St.vl (zcO (κ:=y6 .i64) zfY (zM yY) zdf U U k6 hg hv) U U ?_)
  refine⟨.inl hC,?_⟩
  refine yS U U (gn U) (fun _=>zaT U) U U ?_
  refine yS U U (gn U) (fun _=>zJ U U) U U ?_
  refine yS U U (gn U) (fun _=>zJ U U) U U ?_
  refine zaS U U (gn U) (zv zjK U U U U k3 (by simp) (by intro u hu;simp at hu;rcases hu with rfl|rfl|rfl;exact hva;exact hvb;exact hvc) ?_)
  intro wA nA cA kA
  have hC:=hC.own cA (by intro y hy;simp at hy;omega)
  refine⟨.inl hC,?_⟩
  refine yS U U (gn U) (fun _=>yM U) U U ?_
  refine ze0 [1,3,4] (F':=[(1,_),(3,_),(4,_)]) U ?_
  exact⟨b3,U,kA,hC⟩
 rintro F wA⟨b3,rfl,kA,hcA⟩
 have hk1:=k1.chg0 hcA
 refine zd ?_
 cases hk:zf2 c with
 |false=>
  have hg':g=none:=hg.symm.trans (zhC hk)
  subst hg'
  refine za (Om U (Om U (Oz U U (Oz U U (Oz U U (Of U (Om U (Oz U U (Oz U U (Oz U U (Oz U U (Oz U U (Of U (Oa U (E1 2 U ?_)))))))))))))))
  refine zh ?_
  refine zx U U ?_
  exact⟨by simp,c1.trans hcA⟩
 |true=>
  obtain⟨s,f,k,hg',_,hbs,_,hs,_⟩:=zfa hk
  rw[hg']at hg
  subst hg
  cases hv
  cases hnm:zaF c.n with
  |false=>
   refine za (Om U (Om U (Oy U U (ze zcR U) (Oy U U (zj ag9 U (hk1.cell' U)) ?_))))
   refine Ow U U zuF U U U (zog c.n _) ?_
   rintro v16 w16⟨h16,c16⟩
   rw[hnm]at h16
   subst h16
   refine Ot U (Om U (Oz U U (Oz U U (Oz U U (Oz U U (Oz U U (Of U (Oa U (E1 2 U (zh ?_))))))))))
   refine zx U U ?_
   exact⟨by simp,(c1.trans hcA).trans c16⟩
  |true=>
   refine za (Om U (Om U (Oy U U (ze zcR U) (Oy U U (zj ag9 U (hk1.cell' U)) ?_))))
   refine Ow U U zuF U U U (zog c.n _) ?_
   rintro v16 w16⟨h16,c16⟩
   rw[hnm]at h16
   subst h16
   refine Ot U (Om U (Oy U U (ze zuc U) (Oy U U (zj zw1 U ((kA.chg0 c16).cell' U)) (Oy U U (ze zdM U) (Oy U U (zj ag3 U ((hk1.chg0 c16).cell' U)) ?_)))))
   refine Ow U U hbs U U U (hs _) ?_
   rintro v23 w23⟨rfl,rfl⟩
   refine Ot U (Oa U (E1 2 U (zh ?_)))
   refine zx U U ?_
   exact⟨by simp,(c1.trans hcA).trans c16⟩
theorem zmf{l:List Int}{n:Nat}(h:¬ (1≤l.length∧l.length≤4)):ze3 l n=false:=by simp only[ze3,df h,Bool.false_and]
theorem zks{l:List Int}{n j:Nat}{x:Int}(hx:l[j]? = some x)(h:¬ (0≤x∧x<n)∨x∈l.take j):ze3 l n=false:=by
 cases hs:ze3 l n with
 |false=>rfl
 |true=>
  obtain⟨_,h2,h3⟩:=zbr hs
  rcases h with h|h
  ·exact absurd (h2 x (List.mem_of_getElem? hx)) h
  exfalso
  obtain⟨i,hi⟩:=List.mem_iff_getElem?.1 h
  have hil:=(Gs hi).1
  rw[List.length_take]at hil
  rw[List.getElem?_take_of_lt (by omega)]at hi
  obtain⟨hi',ei⟩:=Gs hi
  obtain⟨hj',ej⟩:=Gs hx
  exact List.pairwise_iff_getElem.1 h3 i j hi' hj' (by omega) (ei.trans ej.symm)
theorem zm0{l:List Int}{x:Int}(h:l.Nodup)(hx:x∉l):(l++[x]).Nodup:=by
 unfold List.Nodup at *
 rw[List.pairwise_append]
 exact⟨h,List.pairwise_singleton _ _,fun a ha b hb=>by simp at hb;subst hb;rintro rfl;exact hx ha⟩
theorem zqq(c k u v:Va)(n:Nat)(l:List Int)(w:Wl)(hc:∃p d,c=.slice p n d)(ho:∀x∈[c,k,u],x.oneCell'=true)(hv:zap w v l)(hn:l.length≤1048576)(hn':n≤1048576) :
 zL TP 297 #[.agg #[c,k,u],v] w fun r w'=>r=.bool (ze3 l n)∧zl [] w w':=by
 obtain⟨pc,dc,rfl⟩:=hc
 obtain⟨pv,cv,rfl,hle⟩:=zO.val hv
 refine A2 Tryz.func297 U U ?_
 refine Sr ?_
 refine Ob U U ?_
 intro b2 w2 e2 n2 c2 k2
 refine Oa U (E2 1 2 U ?_)
 have hv2:=zO.chg0 hv c2
 refine zd (zd ?_)
 by_cases h1:1≤l.length
 ·by_cases h4:l.length≤4
  ·refine za (Om U (On zc1 U ?_))
   refine Og (vf (zF U U) (df (by omega))) U ?_
   refine Om U (Oj U U (Oy U U (z5 zc1 U) ?_))
   refine Oy U U (vf (ym U U) (df (by omega))) ?_
   refine Of U (E3 1 2 14 U (zb U (zk (zd (Sr (Om U (On zc1 U (Om U (E5 1 2 15 16 17 U (zu ?_))))))))))
   refine zX [1,2,15,16,17] (fun m F wx=>wx=w2∧∃j:Nat,m=l.length-j∧j≤l.length∧F=[(1,.slice pv l.length cv),(2,Pt b2),(15,.slice pv l.length cv),(16,Ii l.length),(17,Ii j)]∧(∀x∈l.take j,0≤x∧x<n)∧(l.take j).Nodup) (m:=l.length-0) ⟨rfl,0,rfl,Nat.zero_le _,rfl,by simp,by simp⟩ ?_
   rintro m F wx⟨hwx,j,rfl,hj,rfl,hall,hnd⟩
   subst wx
   refine Sr (Og (zF U U) U (E6 1 2 15 16 17 18 U (zd ?_)))
   refine zH U (fun hT=>?_) (fun hF=>?_)
   ·refine zk ?_
    have hlt:j<l.length:=by have:=of_decide_eq_true hT;omega
    have hx:l[j]? = some l[j]:=by simp[hlt]
    generalize l[j]=x at hx
    obtain⟨b,off,cap,hve,hcell⟩:=zap.cell hv2 hx
    cases hve
    refine zd (zu (Sr (Om U ?_)))
    refine Og (zm zc1 sz3 U U _ U hlt) U ?_
    refine Ol ag3 U hcell (Oa U (Oa U (E7 1 2 5 6 15 16 17 U (zd ?_))))
    by_cases h0:x<0
    ·refine za (Om U ?_)
     refine Og (vt (zF U U) (dt (by omega))) U ?_
     refine Om U (Oz U U (Oz U U (Oz U U (Oz U U (Oz U U (Oz U U (Ot U (Om U (Oz U U (Oz U U (Oz U U (Oz U U (Oz U U (Ot U (E6 1 2 15 16 17 38 U ?_)))))))))))))))
     refine zf U (Sr (Oa U (E1 4 U (zh ?_))))
     repeat first|refine tr ?_|refine br ?_
     refine zx U U ?_
     exact⟨by rw[zks hx (.inl (by omega))],c2⟩
    by_cases hxn:x<n
    ·refine za (Om U ?_)
     refine Og (vf (zF U U) (df (by omega))) U ?_
     refine Om U (Oj U U (Oy U U (ze y8 U) (Oy U U (ze yW U) (Oy U U (zj zcr U (k2.cell' U)) (Oy U U (z5 zbF U) ?_)))))
     refine Oy U U (vf (yj U U) (df (by omega))) ?_
     refine Of U (Om U (Oj U U (Oj U U ?_)))
     refine Oy U U (za8 zc1 sz3 U U _ U (by omega)) ?_
     refine Oj U U ?_
     refine Ow U U zyX U U U (zmr _ (l.take j) x w2 (zO.take zgE hv2 hj (by omega) (Nat.le_refl _)) (by rw[List.length_take];omega)) ?_
     rintro v37 w37⟨rfl,rfl⟩
     refine Of U (E6 1 2 15 16 17 38 U ?_)
     refine zH U (fun hM=>?_) (fun hM=>?_)
     ·have hm:x∈l.take j:=of_decide_eq_true hM
      refine Sr (Oa U (E1 4 U (zh ?_)))
      repeat first|refine tr ?_|refine br ?_
      refine zx U U ?_
      exact⟨by rw[zks hx (.inr hm)],c2⟩
     have hm:x∉l.take j:=of_decide_eq_false hM
     refine z0 (zn (za ?_))
     refine Og (zG U U (by omega)) U ?_
     refine Om U (N5 1 2 15 16 17 U ?_)
     refine⟨l.length-(j+1),by omega,rfl,j+1,rfl,by omega,rfl,?_,?_⟩
     ·intro y hy
      rw[List.take_add_one,hx]at hy
      rcases List.mem_append.1 hy with hy|hy
      ·exact hall y hy
      simp at hy;subst hy;omega
     rw[List.take_add_one,hx]
     exact zm0 hnd hm
    refine za (Om U ?_)
    refine Og (vf (zF U U) (df (by omega))) U ?_
    refine Om U (Oj U U (Oy U U (ze y8 U) (Oy U U (ze yW U) (Oy U U (zj zcr U (k2.cell' U)) (Oy U U (z5 zbF U) ?_)))))
    refine Oy U U (vt (yj U U) (dt (by omega))) ?_
    refine Of U (Om U (Oz U U (Oz U U (Oz U U (Oz U U (Oz U U (Ot U (E6 1 2 15 16 17 38 U (zf U (Sr (Oa U (E1 4 U (zh ?_)))))))))))))
    repeat first|refine tr ?_|refine br ?_
    refine zx U U ?_
    exact⟨by rw[zks hx (.inl (by omega))],c2⟩
   refine zI ?_
   repeat first|refine te ?_|refine bo rfl ?_
   refine zt _ ?_
   have he:l.length≤j:=by have:=of_decide_eq_false hF;omega
   refine Sr (Oa U (E1 4 U (zh ?_)))
   repeat first|refine tr ?_|refine br ?_
   refine zx U U ?_
   rw[Tl he]at hall hnd
   refine⟨?_,c2⟩
   congr 1
   simp only[ze3,Bool.and_eq_true,decide_eq_true_eq,List.all_eq_true,eq_comm (a:=true)]
   exact⟨⟨⟨h1,h4⟩,hall⟩,hnd⟩
  refine za (Om U (On zc1 U ?_))
  refine Og (vf (zF U U) (df (by omega))) U ?_
  refine Om U (Oj U U (Oy U U (z5 zc1 U) ?_))
  refine Oy U U (vt (ym U U) (dt (by omega))) ?_
  refine Of U (E3 1 2 14 U (zf U (Sr (Oa U (E1 4 U (zh ?_))))))
  repeat first|refine tr ?_|refine br ?_
  refine zx U U ?_
  exact⟨by rw[zmf (by omega)],c2⟩
 refine za (Om U (On zc1 U ?_))
 refine Og (vt (zF U U) (dt (by omega))) U ?_
 refine Om U (Oz U U (Oz U U (Oz U U (Ot U (E3 1 2 14 U (zf U (Sr (Oa U (E1 4 U (zh ?_))))))))))
 repeat first|refine tr ?_|refine br ?_
 refine zx U U ?_
 exact⟨by rw[zmf (by omega)],c2⟩
theorem zzr(o c:Col)(b:Nat)(w:Wl)(hb:zK w b 114 c.cs):zL TP 300 #[o.v,Pt b] w fun r w'=>r=.bool (decide (o.n=c.n))∧zl [] w w':=by
 refine A2 Tryz.func300 U U ?_
 refine Sr ?_
 refine Ob U U ?_
 intro b2 w2 e2 n2 c2 k2
 refine Oa U (E2 1 2 U (Sr (Od zcR U (Ol ag9 U (k2.cell' U) (Od zcR U (Ol ag9 U ((hb.chg0 c2).cell' U) (Og (zf8 U U) U (Oa U (E1 3 U (zh ?_))))))))))
 refine zx U U ?_
 exact⟨U,c2⟩
theorem zuJ(i:Int)(s:yx)(c k u:Va)(b:Nat)(w:Wl)(hb:zK w b 327 [c,k,u])(hc:zg5 w c s.cols)(hi:0≤i∧i<s.cols.length):zL TP 301 #[Ii i,Pt b] w fun r w'=>r=.bool (zgM s i).z∧zl [] w w':=by
 have hlt:i.toNat<s.cols.length:=by omega
 have hx:s.cols[i.toNat]? = some s.cols[i.toNat]:=by simp[hlt]
 unfold zgM
 rw[hx]
 dsimp only[Option.getD_some]
 generalize s.cols[i.toNat]=x at hx
 obtain⟨b',off,cap,rfl,hcell⟩:=zO.at zb9 hc hx
 refine A2 Tryz.func301 U U ?_
 refine Sr (Oa U (E2 0 1 U (zd ?_)))
 obtain⟨i',rfl⟩:∃i':Nat,i=(i':Int):=⟨i.toNat,by omega⟩
 refine za (Od y8 U (Od yW U (Ol zcr U (hb.cell' U) (Om U ?_))))
 refine Og (zm zbF zaL U U _ U (by omega)) U ?_
 refine Od zkr U ?_
 refine Ol ag4 U (hcell 3 _ U) ?_
 refine Oa U (E1 3 U (zh ?_))
 refine zx U U ?_
 exact⟨U,zl.refl _ _⟩
theorem zyB(v c k u:Va)(l:List Int)(n:Nat)(b:Nat)(w:Wl)(hb:zK w b 327 [c,k,u])(hc:∃p d,c=.slice p n d)(ho:∀x∈[c,k,u],x.oneCell'=true)(hv:zap w v l)(hn:l.length≤1048576)(hn':n≤1048576) :
 zL TP 304 #[v,Pt b] w fun r w'=>r=.bool (!ze3 l n)∧zl [] w w':=by
 refine A2 Tryz.func304 U U ?_
 refine Sr (Oa U (E2 0 1 U (Sr (Og (zg zrl zra U U (zB.of_blk0 hb)) U (Om U ?_)))))
 refine Oc zqE U U U (zqq c k u v n l _ hc ho hv hn hn') ?_
 rintro v6 w6⟨rfl,c6⟩
 refine Og (zE U) U (Oa U (E1 3 U (zh ?_)))
 refine zx U U ?_
 exact⟨U,c6⟩
theorem zjB:∀(l:List Col),(l.map (·.n)).Nodup↔∀j x,l[j]? = some x→(l.take j).any (fun o=>decide (o.n=x.n))=false:=by
 intro l
 constructor
 ·intro h j x hx
  rw[List.any_eq_false]
  intro o ho
  obtain⟨i,hi⟩:=List.mem_iff_getElem?.1 ho
  have hil:=(Gs hi).1
  rw[List.length_take]at hil
  rw[List.getElem?_take_of_lt (by omega)]at hi
  obtain⟨hi',ei⟩:=Gs hi
  obtain⟨hj',ej⟩:=Gs hx
  have:=List.pairwise_iff_getElem.1 h i j (by simpa using hi') (by simpa using hj') (by omega)
  simp only[List.getElem_map,ei,ej]at this
  simpa using this
 intro h
 unfold List.Nodup
 rw[List.pairwise_iff_getElem]
 intro i j hi hj hij
 rw[List.length_map]at hi hj
 simp only[List.getElem_map]
 have:=List.any_eq_false.1 (h j l[j] (by simp[hj])) l[i] (List.mem_iff_getElem?.2 ⟨i,by rw[List.getElem?_take_of_lt hij];simp[hi]⟩)
 simpa using this
theorem zlg(s:yx):zaq s=(decide (1≤s.cols.length) && decide (s.cols.length≤8) && decide (s.uq.length≤3) && ze3 s.key s.cols.length && (s.cols.all zas && decide ((s.cols.map (·.n)).Nodup)) && (!(s.key.any fun i=>(zgM s i).z)) && !(s.uq.any fun l => !ze3 l s.cols.length)):=by
 rw[Bool.eq_iff_iff]
 simp only[zaq,Bool.and_eq_true,decide_eq_true_eq,List.all_eq_true,Bool.not_eq_true',List.any_eq_false,Bool.not_eq_true,Bool.not_eq_false]
 constructor
 ·rintro ⟨⟨⟨⟨⟨⟨⟨h1,h2⟩,h3⟩,h4⟩,h5⟩,h6⟩,h7⟩,h8⟩
  exact⟨⟨⟨⟨⟨⟨h1,h2⟩,h3⟩,h4⟩,h5,h6⟩,h7⟩,h8⟩
 rintro⟨⟨⟨⟨⟨⟨h1,h2⟩,h3⟩,h4⟩,h5,h6⟩,h7⟩,h8⟩
 exact⟨⟨⟨⟨⟨⟨⟨h1,h2⟩,h3⟩,h4⟩,h5⟩,h6⟩,h7⟩,h8⟩
structure yx.Sm(s:yx):Prop where
 cols:s.cols.length≤1048576
 key:s.key.length≤1048576
 uq:s.uq.length≤1048576
 each:∀l∈s.uq,l.length≤1048576
set_option maxHeartbeats 1000000 in
theorem zlS(c k u:Va)(s:yx)(w:Wl)(hs:zal w c k u s)(hm:s.Sm):zL TP 209 #[.agg #[c,k,u]] w fun r w'=>r=.bool (zaq s)∧zl [] w w':=by
 obtain⟨m1,m2,m3,m4⟩:=hm
 have ho:=hs.one
 have hcv:∃p d,c=.slice p s.cols.length d:=by obtain⟨p,d,h,_⟩:=zO.val hs.cols;exact⟨p,d,h⟩
 obtain⟨pc,dc,rfl,hdc⟩:=zO.val hs.cols
 obtain⟨pk,dk,rfl,hdk⟩:=zO.val hs.key
 obtain⟨pu,du,rfl,hdu⟩:=zc7.val hs.uq
 rw[zlg]
 refine A1 Tryz.func209 U U ?_
 refine Sr ?_
 refine Ob U U ?_
 intro b1 w1 e1 n1 c1 k1
 refine Oa U (E1 1 U ?_)
 have hs1:=hs.chg0 c1
 refine zd (zd ?_)
 by_cases h1:1≤s.cols.length
 ·by_cases h8:s.cols.length≤8
  ·by_cases h3:s.uq.length≤3
   ·cases hset:ze3 s.key s.cols.length with
    |false=>
     refine za (Od y8 U (Od yW U (Ol zcr U (k1.cell' U) (On zbF U ?_))))
     refine Og (vf (zF U U) (df (by omega))) U ?_
     refine Om U (Oy U U (ze y8 U) (Oy U U (ze yW U) (Oy U U (zj zcr U (k1.cell' U)) (Oy U U (z5 zbF U) ?_))))
     refine Oy U U (vf (ym U U) (df (by omega))) ?_
     refine Of U (Om U (Oy U U (ze y8 U) (Oy U U (ze zdY U) (Oy U U (zj zhP U (k1.cell' U)) (Oy U U (z5 zcZ U) ?_)))))
     refine Oy U U (vf (ym U U) (df (by omega))) ?_
     refine Of U (Om U (Oy U U (zg zrl zra U U (zB.of_blk0 k1)) (Oy U U (ze y8 U) (Oy U U (ze zd7 U) (Oy U U (zj zfh U (k1.cell' U)) ?_)))))
     refine Ow U U zqE U U U (zqq _ _ _ _ s.cols.length s.key _ hcv ho hs1.key m2 m1) ?_
     rintro v30 w30⟨h30,c30⟩
     rw[hset]at h30
     subst h30
     refine Oy U U (zE U) (Of U (E2 1 32 U (zf U (Sr (Oa U (E1 2 U (zh ?_)))))))
     repeat first|refine tr ?_|refine br ?_
     refine zx U U ?_
     exact⟨by simp,c1.trans c30⟩
    |true=>
     refine za (Od y8 U (Od yW U (Ol zcr U (k1.cell' U) (On zbF U ?_))))
     refine Og (vf (zF U U) (df (by omega))) U ?_
     refine Om U (Oy U U (ze y8 U) (Oy U U (ze yW U) (Oy U U (zj zcr U (k1.cell' U)) (Oy U U (z5 zbF U) ?_))))
     refine Oy U U (vf (ym U U) (df (by omega))) ?_
     refine Of U (Om U (Oy U U (ze y8 U) (Oy U U (ze zdY U) (Oy U U (zj zhP U (k1.cell' U)) (Oy U U (z5 zcZ U) ?_)))))
     refine Oy U U (vf (ym U U) (df (by omega))) ?_
     refine Of U (Om U (Oy U U (zg zrl zra U U (zB.of_blk0 k1)) (Oy U U (ze y8 U) (Oy U U (ze zd7 U) (Oy U U (zj zfh U (k1.cell' U)) ?_)))))
     refine Ow U U zqE U U U (zqq _ _ _ _ s.cols.length s.key _ hcv ho hs1.key m2 m1) ?_
     rintro v30 w30⟨h30,c30⟩
     rw[hset]at h30
     subst h30
     refine Oy U U (zE U) (Of U (E2 1 32 U (zb U (zk (zd (zd ?_))))))
     have hk1:=k1.chg0 c30
     have hc30:zl [] w w30:=c1.trans c30
     refine za (Od y8 U (Od yW U (Ol zcr U (hk1.cell' U) (On zbF U (Om U (E4 1 35 36 37 U (zu ?_)))))))
     refine zX [1,35,36,37] (fun m F wx=>∃j:Nat,m=s.cols.length-j∧j≤s.cols.length∧F=[(1,Pt b1),(35,.slice pc s.cols.length dc),(36,Ii s.cols.length),(37,Ii j)]∧zl [] w30 wx∧(∀x∈s.cols.take j,zas x=true)∧(∀i x,i<j→s.cols[i]? = some x→(s.cols.take i).any (fun o=>decide (o.n=x.n))=false)) (m:=s.cols.length-0) ⟨0,rfl,Nat.zero_le _,rfl,zl.refl _ _,by simp,by intro i x h;omega⟩ ?_
     rintro m F wx⟨j,rfl,hj,rfl,hcx,hall,hnd⟩
     have hk1x:=hk1.chg0 hcx
     have hsx:=(hs.chg0 hc30).chg0 hcx
     refine Sr (Og (zF U U) U (E5 1 35 36 37 38 U (zd ?_)))
     refine zH U (fun hT=>?_) (fun hF=>?_)
     ·refine zk ?_
      have hlt:j<s.cols.length:=by have:=of_decide_eq_true hT;omega
      have hx:s.cols[j]? = some s.cols[j]:=by simp[hlt]
      generalize s.cols[j]=x at hx
      obtain⟨b,off,cap,hve,hcell⟩:=zO.at zb9 hsx.cols hx
      cases hve
      refine zd (zu (Sr (Om U ?_)))
      refine Og (zm zbF zaL U U _ U hlt) U ?_
      refine Og (zg zdy zaL U U hcell) U ?_
      refine Oq (zD zj2 U U ?_)
      intro b4 w4 e4 n4 c4 k4
      refine Oa U ?_
      refine Oq (zv zaL U U U U k4 (by simp[Col.cs]) (Col.one x) ?_)
      intro wA nA cA kA
      refine E6 1 3 4 35 36 37 U ?_
      have hcA:zl [] wx wA:=c4.own cA (by intro y hy;simp at hy;omega)
      refine zd ?_
      cases hrc:zas x with
      |false=>
       refine za (Og (zg zdy zaL U U (zB.of_blk0 kA)) U ?_)
       refine Oc zok U U U (zhV x _) ?_
       rintro v43 w43⟨h43,c43⟩
       rw[hrc]at h43
       subst h43
       refine Og (zE U) U (Om U (Oz U U (Oz U U (Oz U U (Oz U U (Oz U U (Oz U U (Oz U U (Ot U (E5 1 35 36 37 53 U (zf U (Sr (Oa U (E1 2 U ?_))))))))))))))
       refine zh ?_
       repeat first|refine tr ?_|refine br ?_
       refine zx U U ?_
       have:s.cols.all zas=false:=by
        cases ha:s.cols.all zas with
        |false=>rfl
        |true=>have:=List.all_eq_true.1 ha x (List.mem_of_getElem? hx);rw[hrc]at this;cases this
       exact⟨by simp[this],((hc30.trans hcx).trans hcA).trans c43⟩
      |true=>
       refine za (Og (zg zdy zaL U U (zB.of_blk0 kA)) U ?_)
       refine Oc zok U U U (zhV x _) ?_
       rintro v43 w43⟨h43,c43⟩
       rw[hrc]at h43
       subst h43
       have hcx43:=(hcx.trans hcA).trans c43
       have hk43:=hk1.chg0 hcx43
       have hs43:=(hs.chg0 hc30).chg0 hcx43
       have kA43:=kA.chg0 c43
       refine Og (zE U) U (Om U (Oy U U (ze y8 U) (Oy U U (ze yW U) (Oy U U (zj zcr U (hk43.cell' U)) (Oj U U ?_)))))
       refine Oy U U (za8 zbF zaL U U _ U (by omega)) ?_
       refine Oy U U (y9 U U) ?_
       refine Ow U U zy1 U U U (zvU zb9 _ (s.cols.take j) (fun o=>decide (o.n=x.n)) 300 [Pt b4] _ (zO.take zb9 hs43.cols hj (by omega) (Nat.le_refl _)) (by rw[List.length_take];omega) zxx (fun o _ w1 hw1=>zzr o x b4 w1 (kA43.chg0 hw1))) ?_
       rintro v52 w52⟨h52,c52⟩
       refine Of U (E5 1 35 36 37 53 U ?_)
       cases hany:(s.cols.take j).any (fun o=>decide (o.n=x.n)) with
       |true=>
        rw[hany]at h52
        subst h52
        refine zf U (Sr (Oa U (E1 2 U (zh ?_))))
        repeat first|refine tr ?_|refine br ?_
        refine zx U U ?_
        have:decide ((s.cols.map (·.n)).Nodup)=false:=df fun h=>by
         have:=(zjB _).1 h j x hx
         rw[hany]at this;cases this
        exact⟨by rw[this];simp,(hc30.trans hcx43).trans c52⟩
       |false=>
        rw[hany]at h52
        subst h52
        refine zb U (z0 (zn (za ?_)))
        refine Og (zG U U (by omega)) U ?_
        refine Om U (N4 1 35 36 37 U ?_)
        refine⟨s.cols.length-(j+1),by omega,j+1,rfl,by omega,rfl,hcx43.trans c52,?_,?_⟩
        ·intro y hy
         rw[List.take_add_one,hx]at hy
         rcases List.mem_append.1 hy with hy|hy
         ·exact hall y hy
         simp at hy;subst hy;exact hrc
        intro i y hi hy
        rcases Nat.lt_or_ge i j with hij|hij
        ·exact hnd i y hij hy
        have:i=j:=by omega
        subst this
        rw[hx]at hy
        cases hy
        exact hany
     refine zI ?_
     repeat first|refine te ?_|refine bo rfl ?_
     refine zt _ ?_
     have he:s.cols.length≤j:=by have:=of_decide_eq_false hF;omega
     have hcx':=hc30.trans hcx
     have hall':s.cols.all zas=true:=by
      rw[Tl he]at hall
      exact List.all_eq_true.2 hall
     have hnd':decide ((s.cols.map (·.n)).Nodup)=true:=dt ((zjB _).2 fun i x hx=>hnd i x (by have:=(Gs hx).1;omega) hx)
     refine Sr (Og (y9 U U) U (Oa U (E2 1 5 U (zd ?_))))
     have hkey:=(zbr hset).2.1
     cases hnull:s.key.any fun i=>(zgM s i).z with
     |true=>
      refine za (Od y8 U (Od zd7 U (Ol zfh U (hk1x.cell' U) (Om U ?_))))
      refine Oc zuU U U U (zqy _ s.key (fun i=>(zgM s i).z) 301 [Pt b1] _ hsx.key m2 zu5 (fun i hi w1 hw1=>zuJ i s _ _ _ b1 w1 (hk1x.chg0 hw1) (zO.chg0 hsx.cols hw1) (hkey i hi))) ?_
      rintro v60 w60⟨h60,c60⟩
      rw[hnull]at h60
      subst h60
      refine Og (zE U) U (Om U (Oz U U (Oz U U (Oz U U (Oz U U (Oz U U (Oz U U (Of U (Oa U (E1 2 U (zh ?_)))))))))))
      repeat first|refine tr ?_|refine br ?_
      refine zx U U ?_
      exact⟨by simp,hcx'.trans c60⟩
     |false=>
      refine za (Od y8 U (Od zd7 U (Ol zfh U (hk1x.cell' U) (Om U ?_))))
      refine Oc zuU U U U (zqy _ s.key (fun i=>(zgM s i).z) 301 [Pt b1] _ hsx.key m2 zu5 (fun i hi w1 hw1=>zuJ i s _ _ _ b1 w1 (hk1x.chg0 hw1) (zO.chg0 hsx.cols hw1) (hkey i hi))) ?_
      rintro v60 w60⟨h60,c60⟩
      rw[hnull]at h60
      subst h60
      refine Og (zE U) U (Om U (Oy U U (ze y8 U) (Oy U U (ze zdY U) (Oy U U (zj zhP U ((hk1x.chg0 c60).cell' U)) (Oy U U (y9 U U) ?_)))))
      refine Ow U U zx4 U U U (ztf _ s.uq (fun l => !ze3 l s.cols.length) 304 [Pt b1] _ (zc7.chg0 hsx.uq c60) m3 zxb (fun l hl v w1 hw1 hv=>zyB v _ _ _ l s.cols.length b1 w1 ((hk1x.chg0 c60).chg0 hw1) hcv ho hv (m4 l hl) m1)) ?_
      rintro v67 w67⟨rfl,c67⟩
      refine Oy U U (zE U) (Ot U (Oa U (E1 2 U (zh ?_))))
      repeat first|refine tr ?_|refine br ?_
      refine zx U U ?_
      exact⟨by simp[h1,h8,h3,hall',hnd'],(hcx'.trans c60).trans c67⟩
   refine za (Od y8 U (Od yW U (Ol zcr U (k1.cell' U) (On zbF U ?_))))
   refine Og (vf (zF U U) (df (by omega))) U ?_
   refine Om U (Oy U U (ze y8 U) (Oy U U (ze yW U) (Oy U U (zj zcr U (k1.cell' U)) (Oy U U (z5 zbF U) ?_))))
   refine Oy U U (vf (ym U U) (df (by omega))) ?_
   refine Of U (Om U (Oy U U (ze y8 U) (Oy U U (ze zdY U) (Oy U U (zj zhP U (k1.cell' U)) (Oy U U (z5 zcZ U) ?_)))))
   refine Oy U U (vt (ym U U) (dt (by omega))) ?_
   refine Of U (Om U (Oz U U (Oz U U (Oz U U (Oz U U (Oz U U (Oz U U (Ot U (E2 1 32 U (zf U (Sr (Oa U (E1 2 U (zh ?_))))))))))))))
   repeat first|refine tr ?_|refine br ?_
   refine zx U U ?_
   exact⟨by simp[h3],c1⟩
  refine za (Od y8 U (Od yW U (Ol zcr U (k1.cell' U) (On zbF U ?_))))
  refine Og (vf (zF U U) (df (by omega))) U ?_
  refine Om U (Oy U U (ze y8 U) (Oy U U (ze yW U) (Oy U U (zj zcr U (k1.cell' U)) (Oy U U (z5 zbF U) ?_))))
  refine Oy U U (vt (ym U U) (dt (by omega))) ?_
  refine Of U (Om U (Oz U U (Oz U U (Oz U U (Oz U U (Oz U U (Ot U (Om U (Oz U U (Oz U U (Oz U U (Oz U U (Oz U U (Oz U U (Ot U ?_)))))))))))))))
  refine E2 1 32 U (zf U (Sr (Oa U (E1 2 U (zh ?_)))))
  repeat first|refine tr ?_|refine br ?_
  refine zx U U ?_
  exact⟨by simp[h8],c1⟩
 refine za (Od y8 U (Od yW U (Ol zcr U (k1.cell' U) (On zbF U ?_))))
 refine Og (vt (zF U U) (dt (by omega))) U ?_
 refine Om U (Oz U U (Oz U U (Oz U U (Oz U U (Oz U U (Ot U (Om U (Oz U U (Oz U U (Oz U U (Oz U U (Oz U U (Ot U (Om U (Oz U U ?_)))))))))))))))
 refine Oz U U (Oz U U (Oz U U (Oz U U (Oz U U (Ot U (E2 1 32 U (zf U (Sr (Oa U (E1 2 U (zh ?_)))))))))))
 repeat first|refine tr ?_|refine br ?_
 refine zx U U ?_
 exact⟨by simp[h1],c1⟩
theorem zfF(c k u:Va)(s:yx)(w:Wl)(hs:zal w c k u s)(hm:s.Sm):zL TP 158 #[.agg #[c,k,u]] w fun r w'=>r=Ii (if zaq s then 0 else 2)∧zl [] w w':=by
 refine A1 Tryz.func158 U U ?_
 refine Sr ?_
 refine Ob U U ?_
 intro b1 w1 e1 n1 c1 k1
 refine Oa U (E1 1 U (zd (zd ?_)))
 cases hr:zaq s with
 |true=>
  refine za (Og (zg zbQ zbL U U (zB.of_blk0 k1)) U ?_)
  refine Og (zC zuA zuL U (vs:=[_]) U (css:=[_]) ⟨U,trivial⟩ U U (cs:=[_,_,_]) U) U ?_
  refine Oc zuS U U U (zlS c k u s _ (hs.chg0 c1) hm) ?_
  rintro v5 w5⟨h5,c5⟩
  rw[hr]at h5
  subst h5
  refine Og (zE U) U (E1 6 U (zb U (zk (Sr (Oa U (E1 2 U (zh ?_)))))))
  refine zx U U ?_
  exact⟨U,c1.trans c5⟩
 |false=>
  refine za (Og (zg zbQ zbL U U (zB.of_blk0 k1)) U ?_)
  refine Og (zC zuA zuL U (vs:=[_]) U (css:=[_]) ⟨U,trivial⟩ U U (cs:=[_,_,_]) U) U ?_
  refine Oc zuS U U U (zlS c k u s _ (hs.chg0 c1) hm) ?_
  rintro v5 w5⟨h5,c5⟩
  rw[hr]at h5
  subst h5
  refine Og (zE U) U (E1 6 U (zf U (Sr (Oa U (E1 2 U (zh ?_))))))
  repeat first|refine tr ?_|refine br ?_
  refine zx U U ?_
  exact⟨U,c1.trans c5⟩
def hnd(t:Nat):Va:=.pointer (some ⟨5,t,none⟩)
def rty(t:Nat):Va:=.iface 255 (.agg #[hnd t])
def EOk(w:Wl):Prop:=w.cell? ⟨0,0,none⟩=some (rty 87)
theorem EOk.chg{S:List Nat}{w w':Wl}(h:EOk w)(hc:zl S w w')(hs:0∉S):EOk w':=by
 have hlt:0<w.heap.size:=by
  rcases Nat.eq_zero_or_pos w.heap.size with h0|h1
  ·unfold EOk World.cell? at h
   simp[h0]at h
  exact h1
 have:=hc.block 0 hlt hs
 unfold EOk World.cell? at *
 rw[this]
 exact h
theorem EOk.chg0{w w':Wl}(h:EOk w)(hc:zl [] w w'):EOk w':=h.chg hc (by simp)
theorem EOk.ne{w:Wl}(h:EOk w){b:Nat}{e:TypeId}{c:List Va}(hb:zK w b e c)(hc:c[0]? ≠ some (rty 87)):0≠b:=by
 rintro rfl
 exact hc (by rw[←hb.cell];exact h)
def zcx(n:Int):Va:=.iface 28 (Ii n)
def za1(w:Wl)(v:Va)(n:Int):Prop:=
 v=zcx n∨(∃b c,v=.iface 408 (Pt b)∧zK w b 410 [.string c,zcx n])∨(∃k,v=.iface 169 (.agg #[.string k,zcx n]))∨∃k,v=.iface 199 (.agg #[.string k,zcx n])
theorem za1.chg{S:List Nat}{w w':Wl}{v:Va}{n:Int}(h:za1 w v n)(hc:zl S w w')(hs:∀b c,zK w b 410 c→b∉S):za1 w' v n:=by
 rcases h with h|⟨b,c,h,hb⟩|h
 ·exact .inl h
 ·exact .inr (.inl ⟨b,c,h,hb.chg hc (hs b _ hb)⟩)
 exact .inr (.inr h)
theorem za1.chg0{w w':Wl}{v:Va}{n:Int}(h:za1 w v n)(hc:zl [] w w'):za1 w' v n:=h.chg hc (by simp)
theorem za1.notNil{w:Wl}{v:Va}{n:Int}(h:za1 w v n):zgF v=some false:=by
 rcases h with rfl|⟨b,c,rfl,_⟩|⟨k,rfl⟩|⟨k,rfl⟩<;>rfl
theorem zll:ze5 TP 171=some Extern.ReflectliteType.typeOf:=by kernel_rfl
theorem zul:ze5 TP 103=some (fun args=>Extern.ReflectliteValue.unpack (args.getD 0 (.tuple #[]))):=by kernel_rfl
theorem zyT : ze5 TP 104 = some (Extern.ReflectliteValue.methodAny (Extern.ReflectliteValue.valueError "reflectlite.Value.Type" 0) (fun t _ _ _ => Extern.ReflectliteType.toType t)) := by kernel_rfl
theorem zzh : ze5 TP 105 = some (Extern.ReflectliteValue.method (Extern.ReflectliteValue.valueError "reflectlite.Value.IsNil" 0) Extern.ReflectliteValue.isNil) := by kernel_rfl
theorem zyV : ze5 TP 172 = some (Extern.ReflectliteValue.method (Extern.ReflectliteValue.valueError "reflectlite.Value.Elem" 0) Extern.ReflectliteValue.elem) := by kernel_rfl
theorem zy7:ze5 TP 173=some Extern.ReflectliteValue.set:=by kernel_rfl
theorem zuH:ze5 TP 381=some (Extern.ReflectliteType.abiMethod fun t=>do pure (.int .u8 (←Extern.Rtype.kind t))):=by kernel_rfl
theorem zxX:ze5 TP 395=some (Extern.ReflectliteType.method Extern.ReflectliteType.elem):=by kernel_rfl
theorem zyc : ze5 TP 396 = some (Extern.ReflectliteType.relation "Implements" Extern.ReflectliteType.implements_) := by kernel_rfl
theorem zoe : ze5 TP 393 = some (Extern.ReflectliteType.relation "AssignableTo" Extern.ReflectliteType.assignableTo) := by kernel_rfl
theorem zwZ : ze5 TP 394 = some (Extern.ReflectliteType.method fun t => do Extern.Rtype.noPackHeld "Comparable" t; pure (.bool (← typeInfo t).comparable)) := by kernel_rfl
theorem zmB(v:Va)(w:Wl):(Extern.ReflectliteType.typeOf #[.iface 28 v]).run TP w=.ok (rty 28) w:=by kernel_rfl
theorem zpf(v:Va)(w:Wl):(Extern.ReflectliteType.typeOf #[.iface 408 v]).run TP w=.ok (rty 408) w:=by kernel_rfl
theorem zpe(v:Va)(w:Wl):(Extern.ReflectliteType.typeOf #[.iface 169 v]).run TP w=.ok (rty 169) w:=by kernel_rfl
theorem zpk(v:Va)(w:Wl):(Extern.ReflectliteType.typeOf #[.iface 199 v]).run TP w=.ok (rty 199) w:=by kernel_rfl
theorem zxd (w : World) : ((Extern.ReflectliteType.method fun t => do Extern.Rtype.noPackHeld "Comparable" t; pure (.bool (← typeInfo t).comparable)) #[.agg #[hnd 28]]).run TP w = .ok (.bool true) w := by kernel_rfl
theorem zsh (h : Value) : Mth TP 255 (.agg #[h]) "Kind" 381 h := fun w => by kernel_rfl
theorem zwL (h : Value) : Mth TP 255 (.agg #[h]) "Elem" 395 (.agg #[h]) := fun w => by kernel_rfl
theorem zvt (h : Value) : Mth TP 255 (.agg #[h]) "Implements" 396 (.agg #[h]) := fun w => by kernel_rfl
theorem zoO (h : Value) : Mth TP 255 (.agg #[h]) "AssignableTo" 393 (.agg #[h]) := fun w => by kernel_rfl
theorem zyC (h : Value) : Mth TP 255 (.agg #[h]) "Comparable" 394 (.agg #[h]) := fun w => by kernel_rfl
theorem zsM(w:Wl):((Extern.ReflectliteType.abiMethod fun t=>do pure (.int .u8 (←Extern.Rtype.kind t))) #[hnd 140]).run TP w=.ok (.int .u8 22) w:=by kernel_rfl
theorem ztC(w:Wl):((Extern.ReflectliteType.abiMethod fun t=>do pure (.int .u8 (←Extern.Rtype.kind t))) #[hnd 28]).run TP w=.ok (.int .u8 2) w:=by kernel_rfl
theorem zt7(w:Wl):(Extern.ReflectliteType.method Extern.ReflectliteType.elem #[.agg #[hnd 140]]).run TP w=.ok (rty 28) w:=by kernel_rfl
theorem zvq (w : World) : (Extern.ReflectliteType.relation "Implements" Extern.ReflectliteType.implements_ #[.agg #[hnd 28], rty 87]).run TP w = .ok (.bool true) w := by kernel_rfl
theorem zxm (w : World) : (Extern.ReflectliteType.relation "AssignableTo" Extern.ReflectliteType.assignableTo #[.agg #[hnd 28], rty 28]).run TP w = .ok (.bool true) w := by kernel_rfl
theorem zvP (w : World) : (Extern.ReflectliteType.relation "AssignableTo" Extern.ReflectliteType.assignableTo #[.agg #[hnd 408], rty 28]).run TP w = .ok (.bool false) w := by kernel_rfl
theorem zvS (w : World) : (Extern.ReflectliteType.relation "AssignableTo" Extern.ReflectliteType.assignableTo #[.agg #[hnd 169], rty 28]).run TP w = .ok (.bool false) w := by kernel_rfl
theorem zvs (w : World) : (Extern.ReflectliteType.relation "AssignableTo" Extern.ReflectliteType.assignableTo #[.agg #[hnd 199], rty 28]).run TP w = .ok (.bool false) w := by kernel_rfl
def rv(t:Nat)(a:Addr)(f:Nat):Va:=.agg #[hnd t,.pointer (some a),.int .u64 f]
theorem zv4(t:Addr)(w:Wl):(Extern.ReflectliteValue.unpack (.iface 140 (.pointer (some t)))).run TP w=.ok (rv 140 ⟨w.heap.size,0,none⟩ 150) (w.alloc (.cells #[.pointer (some t)] 140)):=by kernel_rfl
theorem zwy(n:Int)(w:Wl):(Extern.ReflectliteValue.unpack (zcx n)).run TP w=.ok (rv 28 ⟨w.heap.size,0,none⟩ 130) (w.alloc (.cells #[Ii n] 28)):=by kernel_rfl
theorem zvo (a : Addr) (w : World) : (Extern.ReflectliteValue.methodAny (Extern.ReflectliteValue.valueError "reflectlite.Value.Type" 0) (fun t _ _ _ => Extern.ReflectliteType.toType t) #[rv 140 a 150]).run TP w = .ok (rty 140) w := by kernel_rfl
theorem zAo(v:Va){h1 h2}:(#[v]:Array Va).getLit (n:=1) 0 h1 h2=v:=rfl
theorem zAn(v x:Va){h1 h2}:(#[v,x]:Array Va).getLit (n:=2) 0 h1 h2=v:=rfl
theorem zv5(v x:Va){h1 h2}:(#[v,x]:Array Va).getLit (n:=2) 1 h1 h2=x:=rfl
theorem zlh(a:Addr)(w:Wl):(Extern.ReflectliteValue.parts (rv 140 a 150)).run TP w=.ok (some (140,a,150)) w:=by kernel_rfl
theorem zsB(a p:Addr)(w:Wl)(ha:w.cell? a=some (.pointer (some p))) :
 (Extern.ReflectliteValue.method (Extern.ReflectliteValue.valueError "reflectlite.Value.IsNil" 0) Extern.ReflectliteValue.isNil #[rv 140 a 150]).run TP w = .ok (.bool false) w := by
 have hv:=zlh a w
 generalize rv 140 a 150=v at hv ⊢
 conv=>lhs;arg 2;whnf
 simp only[zAo,Sem.run_bind',hv,Result.andThen]
 simp[Extern.ReflectliteValue.isNil,loadVar,isAgg,underlying,ha,Result.andThen]
theorem zqi(w:Wl):(Extern.Rtype.elem? 140).run TP w=.ok (some 28) w:=by kernel_rfl
theorem zz7(p:Addr)(w:Wl):(Extern.ReflectliteValue.mk 28 p Extern.ReflectliteValue.flagAddr).run TP w=.ok (rv 28 p 386) w:=by kernel_rfl
theorem zs0(a p:Addr)(w:Wl)(ha:w.cell? a=some (.pointer (some p))) :
 (Extern.ReflectliteValue.method (Extern.ReflectliteValue.valueError "reflectlite.Value.Elem" 0) Extern.ReflectliteValue.elem #[rv 140 a 150]).run TP w = .ok (rv 28 p 386) w := by
 have hv:=zlh a w
 generalize rv 140 a 150=v at hv ⊢
 conv=>lhs;arg 2;whnf
 simp only[zAo,Sem.run_bind',hv,Result.andThen]
 simp[Extern.ReflectliteValue.elem,loadVar,isAgg,underlying,ha,Result.andThen,zqi,zz7]
theorem zrX(a:Addr)(w:Wl):(Extern.ReflectliteValue.parts (rv 28 a 386)).run TP w=.ok (some (28,a,386)) w:=by kernel_rfl
theorem zrs(a:Addr)(w:Wl):(Extern.ReflectliteValue.parts (rv 28 a 130)).run TP w=.ok (some (28,a,130)) w:=by kernel_rfl
theorem zqd(w:Wl):(Extern.Rtype.directlyAssignable 28 28).run TP w=.ok true w:=by kernel_rfl
theorem zyv(ta b:Addr)(n:Int)(old:Va)(w:Wl)(hb:w.cell? b=some (Ii n))(ht:w.cell? ta=some old)(hf:w.frozen? ta=false) :
 (Extern.ReflectliteValue.set #[rv 28 ta 386,rv 28 b 130]).run TP w=.ok (.tuple #[]) (w.setCell ta (Ii n)):=by
 have h1:=zrX ta w
 have h2:=zrs b w
 generalize rv 28 ta 386=v at h1 ⊢
 generalize rv 28 b 130=x at h2 ⊢
 conv=>lhs;arg 2;whnf
 simp only[zAn,zv5,Sem.run_bind',Sem.run_bind,h1,h2,Result.andThen]
 simp[Extern.ReflectliteValue.flagAddr,loadVar,isAgg,underlying,hb,Result.andThen,zqd,storeVar,Value.cells,storeCells,Addr.add]
 rw[run_store TP w ta _ _ (by rfl)]
 simp[ht,hf]
theorem zK.setCell{w:Wl}{b:Nat}{e:TypeId}{x:Va}(h:zK w b e [x])(v:Va):zK (w.setCell ⟨b,0,none⟩ v) b e [v]∧zl [b] w (w.setCell ⟨b,0,none⟩ v):=by
 have hh:w.heap[b]? = some (.cells #[x] e (0,0)):=h
 refine⟨?_,rfl,rfl,rfl,by simp[World.setCell],fun k _ hn=>?_⟩
 ·unfold zK World.setCell
  simp only[Array.getElem?_modify,if_true,hh]
  rfl
 unfold World.setCell
 simp only[List.mem_singleton]at hn
 simp only[Array.getElem?_modify]
 rw[if_neg (fun e=>hn e.symm)]
theorem zr9(b:Nat)(c:By)(n:Int)(w:Wl)(hb:zK w b 410 [.string c,zcx n]):zL TP 404 #[Pt b] w fun r w'=>r=zcx n∧w'=w:=by
 refine A1 Tryz.func404 U U ?_
 refine Sr (Oa U (E1 0 U (Sr (Om U (Og (zp U) U (Od ztS U (Ol zwz U (hb.cell' U) (Oa U (E1 2 U (zh ?_))))))))))
 refine zx U U ?_
 exact⟨U,U⟩
theorem zqN(k:By)(n:Int)(w:Wl):zL TP 386 #[.agg #[.string k,zcx n]] w fun r w'=>r=zcx n∧zl [] w w':=by
 refine A1 Tryz.func386 U U ?_
 refine Sr ?_
 refine Ob U U ?_
 intro b1 w1 e1 n1 c1 k1
 refine Oa U (E1 1 U (Sr (Od ztN U (Ol zwz U (k1.cell' U) (Oa U (E1 2 U (zh ?_)))))))
 refine zx U U ?_
 exact⟨U,c1⟩
theorem zpZ(k:By)(n:Int)(w:Wl):zL TP 391 #[.agg #[.string k,zcx n]] w fun r w'=>r=zcx n∧zl [] w w':=by
 refine A1 Tryz.func391 U U ?_
 refine Sr ?_
 refine Ob U U ?_
 intro b1 w1 e1 n1 c1 k1
 refine Oa U (E1 1 U (Sr (Od ztF U (Ol zwz U (k1.cell' U) (Oa U (E1 2 U (zh ?_)))))))
 refine zx U U ?_
 exact⟨U,c1⟩
theorem zrB (v : Value) : Mth TP 408 v "Unwrap" 404 v := fun w => by kernel_rfl
theorem zqI (v : Value) : Mth TP 169 v "Unwrap" 386 v := fun w => by kernel_rfl
theorem zsf (v : Value) : Mth TP 199 v "Unwrap" 391 v := fun w => by kernel_rfl
theorem zAk(v:Va)(n:Int)(bt:Nat)(old:Va)(a:Addr)(w:Wl)(hv:za1 w v n)(ht:zK w bt 28 [old])(ha:w.cell? a=some (Pt bt))(hab:a.block≠bt) :
 zL TP 106 #[v,.iface 140 (Pt bt),rv 140 a 150,rty 28] w fun r w'=>r=.bool true∧zK w' bt 28 [Ii n]∧zl [bt] w w':=by
 refine A4 Tryz.func106 U U ?_
 refine Sr ?_
 refine Ob U U ?_
 intro b6 w6 e6 n6 c6 k6
 refine Oa U (E4 0 1 3 6 U ?_)
 have k6:zK w6 b6 189 [hnd 140,.pointer (some a),.int .u64 150]:=k6
 refine zu ?_
 refine zX [0,1,3,6] (fun m F wx=>∃u:Va,(za1 wx u n∧(m=0→u=zcx n))∧F=[(0,u),(1,.iface 140 (Pt bt)),(3,rty 28),(6,Pt b6)]∧zl [] w6 wx) (m:=1) ⟨v,⟨hv.chg0 c6,fun h=>by omega⟩,rfl,zl.refl _ _⟩ ?_
 rintro m F wx⟨u,⟨hu,hm⟩,rfl,hcx⟩
 have hk6:=k6.chg0 hcx
 have htx:=(ht.chg0 c6).chg0 hcx
 have hax:=hcx.cell (c6.cell ha)
 have hbt:=ht.lt
 refine zu (zd (zd ?_))
 rcases hu with rfl|hu
 ·refine za (Om U ?_)
  refine Oq (zcu (P:=TP) (n:=Tryz.f106.ntmps) zll U U (zmB _ _) U ?_)
  skip
  refine Om U ?_
  refine Oq (zbj (zoO _) zoe U U (zxm _) U ?_)
  skip
  refine E5 0 1 3 6 19 U (zf U (zd ?_))
  have hset:=zyv ⟨bt,0,none⟩ ⟨wx.heap.size,0,none⟩ n old (wx.alloc (.cells #[Ii n] 28)) ((zK.new wx 28 [Ii n]).cell' rfl) ((htx.chg0 (zl.alloc [] _ _)).cell' rfl) ((htx.chg0 (zl.alloc [] _ _)).free _ rfl)
  obtain⟨hb2,hc2⟩:=(htx.chg0 (zl.alloc [] wx (.cells #[Ii n] 28))).setCell (Ii n)
  have hE : (Extern.ReflectliteValue.method (Extern.ReflectliteValue.valueError "reflectlite.Value.Elem" 0) Extern.ReflectliteValue.elem ([Value.agg [hnd 140, .pointer (some a), .int .u64 150].toArray].toArray)).run TP wx = .ok (rv 28 ⟨bt, 0, none⟩ 386) wx := zs0 a ⟨bt, 0, none⟩ wx hax
  refine za (Og (zg zoE zl8 U U (zB.of_blk0 hk6)) U ?_)
  refine Oq (zcu (P:=TP) (n:=Tryz.f106.ntmps) zyV U U hE U ?_)
  skip
  refine Om U ?_
  refine Oq (zcu (P:=TP) (n:=Tryz.f106.ntmps) zul U U (zwy n wx) U ?_)
  skip
  refine Oq (zcu (P:=TP) (n:=Tryz.f106.ntmps) zy7 U U hset U ?_)
  skip
  refine zac [] (F':=[]) U (Sr (Oa U (E1 8 U (zh ?_))))
  repeat first|refine tr ?_|refine br ?_
  refine zx U U ?_
  exact⟨U,hb2,((((c6.trans hcx).trans (zl.alloc [] _ _)).any (S:=[bt])).transS hc2)⟩
 have hm1:m≠0:=fun h=>by
  have:=hm h
  subst this
  rcases hu with⟨b,c,h,_⟩|⟨k,h⟩|⟨k,h⟩<;>cases h
 rcases hu with⟨b,c,rfl,hb⟩|⟨k,rfl⟩|⟨k,rfl⟩
 ·refine za (Om U ?_)
  refine Oq (zcu (P:=TP) (n:=Tryz.f106.ntmps) zll U U (zpf _ _) U ?_)
  skip
  refine Om U ?_
  refine Oq (zbj (zoO _) zoe U U (zvP _) U ?_)
  skip
  refine E5 0 1 3 6 19 U (zb U (zk (zd (Sr (Om U (Og (zbk zlY zrg U) U (Om U (Oe U U (Oe U U (Oa U (Oa U (E6 0 1 3 6 9 10 U (Sr ?_)))))))))))))
  refine Om U (Om U (Oz U U (Oz U U (Oz U U (Of U (E5 0 1 3 6 35 U (zb U (zk (Sr (Om U (E4 1 3 6 36 U (zu (Sr ?_)))))))))))))
  refine Og (zbk zhp zi9 U) U (Oe U U (Oe U U (E6 1 3 6 36 38 39 U (zf U (Sr (Oa U (E4 1 3 6 11 U (Sr (Om U ?_)))))))))
  refine Oq (zdm (zrB _) zu0 U U U (zr9 b c n _ hb) ?_)
  rintro v41 w41⟨rfl,rfl⟩
  refine Oa U (E4 0 1 3 6 U (Sr (Om U (Og (zbg zbS U U) U (E5 0 1 3 6 43 U (zb U (z0 (zn (zn ?_)))))))))
  exact⟨0,by omega,_,⟨.inl U,fun _=>rfl⟩,rfl,hcx⟩
 ·refine za (Om U ?_)
  refine Oq (zcu (P:=TP) (n:=Tryz.f106.ntmps) zll U U (zpe _ _) U ?_)
  skip
  refine Om U ?_
  refine Oq (zbj (zoO _) zoe U U (zvS _) U ?_)
  skip
  refine E5 0 1 3 6 19 U (zb U (zk (zd (Sr (Om U (Og (zbk zl7 zrg U) U (Om U (Oe U U (Oe U U (Oa U (Oa U (E6 0 1 3 6 9 10 U (Sr ?_)))))))))))))
  refine Om U (Om U (Oz U U (Oz U U (Oz U U (Of U (E5 0 1 3 6 35 U (zb U (zk (Sr (Om U (E4 1 3 6 36 U (zu (Sr ?_)))))))))))))
  refine Og (zbk zhG zi9 U) U (Oe U U (Oe U U (E6 1 3 6 36 38 39 U (zf U (Sr (Oa U (E4 1 3 6 11 U (Sr (Om U ?_)))))))))
  refine Oq (zdm (zqI _) zuw U U U (zqN k n _) ?_)
  rintro v41 w41⟨rfl,c41⟩
  refine Oa U (E4 0 1 3 6 U (Sr (Om U (Og (zbg zbS U U) U (E5 0 1 3 6 43 U (zb U (z0 (zn (zn ?_)))))))))
  exact⟨0,by omega,_,⟨.inl U,fun _=>rfl⟩,rfl,hcx.trans c41⟩
 refine za (Om U ?_)
 refine Oq (zcu (P:=TP) (n:=Tryz.f106.ntmps) zll U U (zpk _ _) U ?_)
 skip
 refine Om U ?_
 refine Oq (zbj (zoO _) zoe U U (zvs _) U ?_)
 skip
 refine E5 0 1 3 6 19 U (zb U (zk (zd (Sr (Om U (Og (zbk zlQ zrg U) U (Om U (Oe U U (Oe U U (Oa U (Oa U (E6 0 1 3 6 9 10 U (Sr ?_)))))))))))))
 refine Om U (Om U (Oz U U (Oz U U (Oz U U (Of U (E5 0 1 3 6 35 U (zb U (zk (Sr (Om U (E4 1 3 6 36 U (zu (Sr ?_)))))))))))))
 refine Og (zbk zhI zi9 U) U (Oe U U (Oe U U (E6 1 3 6 36 38 39 U (zf U (Sr (Oa U (E4 1 3 6 11 U (Sr (Om U ?_)))))))))
 refine Oq (zdm (zsf _) zuf U U U (zpZ k n _) ?_)
 rintro v41 w41⟨rfl,c41⟩
 refine Oa U (E4 0 1 3 6 U (Sr (Om U (Og (zbg zbS U U) U (E5 0 1 3 6 43 U (zb U (z0 (zn (zn ?_)))))))))
 exact⟨0,by omega,_,⟨.inl U,fun _=>rfl⟩,rfl,hcx.trans c41⟩
end Go.Wk
