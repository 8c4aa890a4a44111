/- joined texts -/
import Derived.Test.YtkfpmjjcogigfaaGreatDoorF6
set_option linter.all false
namespace Go.Wk
open Go.Proofs
set_option maxRecDepth 10000
section
variable {α:Type} {f:α→By}
theorem zm4:∀{l m:List α},(l.Pairwise fun a b=>blt (f a) (f b)=true)→(m.Pairwise fun a b=>blt (f a) (f b)=true)→(∀x,x∈l↔x∈m)→l=m
 |[],[],_,_,_=>rfl
 |[],y::m,_,_,h=>by have:=(h y).2 (by simp);cases this
 |x::l,[],_,_,h=>by have:=(h x).1 (by simp);cases this
 |x::l,y::m,hl,hm,h=>by
  have hl':=List.pairwise_cons.1 hl
  have hm':=List.pairwise_cons.1 hm
  have hxy:x=y:=by
   rcases List.mem_cons.1 ((h x).1 (by simp)) with e|e
   ·exact e
   rcases List.mem_cons.1 ((h y).2 (by simp)) with e2|e2
   ·exact e2.symm
   have h1:=hm'.1 x e
   rw[zdo (hl'.1 y e2)]at h1
   cases h1
  subst hxy
  rw[zm4 hl'.2 hm'.2 fun z=>?_]
  constructor
  ·intro hz
   rcases List.mem_cons.1 ((h z).1 (by simp[hz])) with e|e
   ·subst e
    have:=hl'.1 z hz
    rw[zaD]at this;cases this
   exact e
  intro hz
  rcases List.mem_cons.1 ((h z).2 (by simp[hz])) with e|e
  ·subst e
   have:=hm'.1 z hz
   rw[zaD]at this;cases this
  exact e
theorem zou{l:List α}(h:l.Pairwise fun a b=>blt (f a) (f b)=true):(l.map f).Nodup:=by
 rw[List.Nodup,List.pairwise_map]
 exact h.imp fun h=>zh9 h
theorem zgP:∀{l:List α},(l.map f).Nodup→∀{a b:α},a∈l→b∈l→f a=f b→a=b
 |x::l,h,a,b,ha,hb,e=>by
  rw[List.map_cons,List.nodup_cons]at h
  rcases List.mem_cons.1 ha with h1|h1<;>rcases List.mem_cons.1 hb with h2|h2
  ·rw[h1,h2]
  ·exact absurd (List.mem_map.2 ⟨b,h2,by rw[←e,h1]⟩) h.1
  ·exact absurd (List.mem_map.2 ⟨a,h1,by rw[e,h2]⟩) h.1
  exact zgP h.2 h1 h2 e
end
structure Tb where
 n:By
 s:yL
 r:LV
deriving DecidableEq
abbrev Cat:=List Tb
def zeV(c:Cat):Prop:=c.Pairwise fun a b=>blt a.n b.n=true
def atC(c:Cat)(n:By):Option Tb:=c.find? fun t=>decide (t.n=n)
def zbS(c:Cat)(n:By):Cat:=c.filter fun t=>decide (t.n≠n)
def zrr(c:Cat)(t:Tb):Cat:=c.takeWhile (fun x=>blt x.n t.n)++t::c.dropWhile (fun x=>blt x.n t.n)
def zcq(c:Cat)(t:Tb):Cat:=zrr (zbS c t.n) t
structure za8(c:Cat):Prop where
 srt:zeV c
 tab:∀t∈c,yT t.s t.r
 le:c.length≤12
section
variable {c d:Cat} {n:By} {t u:Tb}
theorem zeV.uniq(h:zeV c)(ht:t∈c)(hu:u∈c)(e:t.n=u.n):t=u:=zgP (f:=Tb.n) (zou h) ht hu e
theorem zdF(h:atC c n=some t):t∈c∧t.n=n:=⟨List.mem_of_find?_eq_some h,by simpa using List.find?_some (p:=fun x:Tb=>decide (x.n=n)) h⟩
theorem zlX(h:atC c n=none):∀t∈c,t.n≠n:=fun t ht e=>by
 have:=List.find?_eq_none.1 h t ht
 simp[e]at this
theorem ztG(h:zeV c)(ht:t∈c):atC c t.n=some t:=by
 cases ha:atC c t.n with
 |none=>exact absurd rfl (zlX ha t ht)
 |some u=>
  obtain⟨h1,h2⟩:=zdF ha
  rw[h.uniq h1 ht h2]
theorem zgn:t∈zbS c n↔t∈c∧t.n≠n:=by simp[zbS]
theorem zrN:u∈zrr c t↔u=t∨u∈c:=by
 have e:=List.takeWhile_append_dropWhile (p:=fun x:Tb=>blt x.n t.n) (l:=c)
 unfold zrr
 constructor
 ·intro h
  rcases List.mem_append.1 h with h|h
  ·exact .inr (e▸List.mem_append_left _ h)
  rcases List.mem_cons.1 h with h|h
  ·exact .inl h
  exact .inr (e▸List.mem_append_right _ h)
 rintro (rfl|h)
 ·simp
 rw[←e]at h
 rcases List.mem_append.1 h with h|h
 ·exact List.mem_append_left _ h
 exact List.mem_append_right _ (List.mem_cons_of_mem _ h)
theorem zdn:u∈zcq c t↔u=t∨(u∈c∧u.n≠t.n):=by rw[zcq,zrN,zgn]
theorem zjL:(zrr c t).length=c.length+1:=by
 have:=congrArg List.length (List.takeWhile_append_dropWhile (p:=fun x:Tb=>blt x.n t.n) (l:=c))
 unfold zrr
 simp only[List.length_append,List.length_cons] at *
 omega
theorem zeV.less(h:zeV c)(n:By):zeV (zbS c n):=h.sublist List.filter_sublist
theorem zeV.with(h:zeV c)(t:Tb):zeV (zcq c t):=zlw Tb.n t _ (h.less t.n) fun a ha=>(zgn.1 ha).2
theorem zlo(h:zeV c)(ht:t∈c):(zbS c t.n).length+1=c.length:=by
 induction c with
 |nil=>cases ht
 |cons x c ih=>
  obtain⟨h1,h2⟩:=List.pairwise_cons.1 h
  have hfil:∀l:Cat,(∀y∈l,y.n≠t.n)→zbS l t.n=l:=fun l hl=>List.filter_eq_self.2 fun y hy=>by simpa using hl y hy
  rcases List.mem_cons.1 ht with rfl|ht
  ·have:zbS (t::c) t.n=zbS c t.n:=by simp[zbS]
   rw[this,hfil c fun y hy e=>by have:=h1 y hy;rw[e,zaD]at this;cases this]
   rfl
  have hx:x.n≠t.n:=zh9 (h1 t ht)
  have:zbS (x::c) t.n=x::zbS c t.n:=by simp[zbS,hx]
  rw[this,List.length_cons,List.length_cons,ih h2 ht]
theorem zjM(c:Cat)(n:By):(zbS c n).length≤c.length:=List.length_filter_le _ _
theorem za8.less(h:za8 c)(n:By):za8 (zbS c n):=⟨h.srt.less n,fun t ht=>h.tab t (zgn.1 ht).1,Nat.le_trans (zjM c n) h.le⟩
theorem za8.new(h:za8 c)(ht:yT t.s t.r)(hl:c.length<12):za8 (zcq c t):=
 ⟨h.srt.with t,fun u hu=>by
  rcases zdn.1 hu with rfl|⟨h1,_⟩
  ·exact ht
  ·exact h.tab u h1,by
  have:=zjM c t.n
  rw[zcq,zjL];omega⟩
theorem za8.set(h:za8 c)(hu:atC c t.n=some u)(ht:yT t.s t.r):za8 (zcq c t):=
 ⟨h.srt.with t,fun v hv=>by
  rcases zdn.1 hv with rfl|⟨h1,_⟩
  ·exact ht
  ·exact h.tab v h1,by
  obtain⟨h1,h2⟩:=zdF hu
  have:=zlo h.srt h1
  have:=h.le
  rw[h2] at *
  rw[zcq,zjL];omega⟩
theorem za8.nil:za8 []:=⟨List.Pairwise.nil,by simp,by simp⟩
theorem zeV.ext(h:zeV c)(k:zeV d)(e:∀x,x∈c↔x∈d):c=d:=zm4 (f:=Tb.n) h k e
theorem zq8(h:zeV c)(ht:t∈c):zcq c t=c:=by
 refine(h.with t).ext h fun x=>?_
 rw[zdn]
 constructor
 ·rintro (rfl|h)<;>simp_all
 intro hx
 by_cases e:x.n=t.n
 ·exact .inl (h.uniq hx ht e)
 exact .inr ⟨hx,e⟩
end
structure EvT where
 k:Int
 t:By
 s:yL
 o:List zX
 w:List zX
 m:List (By×By)
deriving DecidableEq
def zfL:yL:=⟨[],[],[]⟩
def zaF(x:EvT):EvT:=⟨x.k,if x.k=6 then e0 else x.t,if x.k=4 then x.s else zfL,if x.k=2∨x.k=3 then x.o else [],if x.k=1∨x.k=2 then x.w else [],if x.k=6 then x.m else []⟩
def zej(l:List zX):Bool:=decide (1≤l.length∧l.length≤8) && l.all fun x=>decide (zaY x=0)
def zc5(m:List (By×By)):Bool:=decide (1≤m.length∧m.length≤4) && m.all fun p=>yS p.1 && yS p.2
def zgY(x:EvT):Bool:=
 if x.k=1 then yS x.t && zej x.w else if x.k=2 then yS x.t && zej x.o && zej x.w else if x.k=3 then yS x.t && zej x.o
 else if x.k=4 then yS x.t && yF x.s else if x.k=5 then yS x.t else if x.k=6 then zc5 x.m else false
def z9(x:EvT):Bool:=decide (1≤x.k∧x.k≤6) && decide (x=zaF x) && zgY x && (!decide (x.k=2) || decide (x.o.length=x.w.length))
def zcA(c q:Cat)(m:List (By×By)):Cat:=m.foldl (fun q p=>match atC c p.1 with|some t=>zcq q ⟨p.2,t.s,t.r⟩|none=>q) q
def zaX(c:Cat)(m:List (By×By)):Cat:=c.filter fun t => !(m.any fun p=>decide (p.1=t.n))
def zfq(m:List (By×By)):Bool := !decide ((m.map Prod.fst).Nodup)
def zeL(c q:Cat):List (By×By)→Bool
 |[]=>false
 |p::m=>(atC q p.2).isSome || zeL c (zcA c q [p]) m
def zd9(c:Cat)(m:List (By×By)):Int:=
 if zfq m then 2 else if m.any (fun p=>(atC c p.1).isNone) then 5 else if zeL c (zaX c m) m then 220 else 0
def zh2(c:Cat)(m:List (By×By)):Cat:=zcA c (zaX c m) m
def zfb(t:Tb)(l:List zX):Bool:=decide (zaf t.s l=0) && decide (zc0 t.s t.r (yd t.s l)=some l)
def zcL(t:Tb)(x:EvT):Int:=if x.k=1 then zez t.s t.r x.w else if zfb t x.o=false then 230 else if x.k=3 then 0 else zdg t.s t.r (yd t.s x.o) x.w
def zb3(t:Tb)(x:EvT):LV:=if x.k=1 then insR t.s t.r x.w else if zfb t x.o=false then t.r else if x.k=3 then zbu t.s t.r (yd t.s x.o) else updR t.s t.r (yd t.s x.o) x.w
def doE(c:Cat)(x:EvT):Int:=
 if z9 x=false then 2 else if x.k=6 then zd9 c x.m else match atC c x.t with
  |none=>if x.k=4 then (if 12≤c.length then 3 else 0) else 5
  |some t=>if x.k=4 then 220 else if x.k=5 then 0 else zcL t x
def doC(c:Cat)(x:EvT):Cat:=
 if doE c x≠0 then c else if x.k=6 then zh2 c x.m else if x.k=4 then zcq c ⟨x.t,x.s,[]⟩ else if x.k=5 then zbS c x.t else match atC c x.t with
  |none=>c
  |some t=>zcq c ⟨t.n,t.s,zb3 t x⟩
def zit(c:Cat):List EvT→Nat→Nat×Int
 |[],_=>(0,0)
 |x::l,i=>if doE c x≠0 then (i,doE c x) else zit (doC c x) l (i+1)
def zea(c:Cat)(l:List EvT):Cat:=l.foldl doC c
def zoR(c:Cat)(l:List EvT):Cat:=if (zit c l 0).2=0 then zea c l else c
section
variable {c q d:Cat} {t u:Tb} {n:By} {x:EvT} {m:List (By×By)}
theorem zfu{x:EvT}(h:z9 x=true):(1≤x.k∧x.k≤6)∧x=zaF x∧zgY x=true∧(x.k=2→x.o.length=x.w.length):=by
 simp only[z9,Bool.and_eq_true,decide_eq_true_eq,Bool.or_eq_true,Bool.not_eq_true',decide_eq_false_iff_not]at h
 obtain⟨⟨⟨h1,h2⟩,h3⟩,h4⟩:=h
 exact⟨h1,h2,h3,fun hk=>h4.resolve_left (fun h=>h hk)⟩
theorem zjZ{x:EvT}(h1:1≤x.k∧x.k≤6)(h2:x=zaF x)(h3:zgY x=true)(h4:x.k=2→x.o.length=x.w.length):z9 x=true:=by
 simp only[z9,Bool.and_eq_true,decide_eq_true_eq,Bool.or_eq_true,Bool.not_eq_true',decide_eq_false_iff_not]
 refine⟨⟨⟨h1,h2⟩,h3⟩,?_⟩
 by_cases hk:x.k=2
 ·exact .inr (h4 hk)
 exact .inl hk
theorem zh6:t∈zaX c m↔t∈c∧t.n∉m.map Prod.fst:=by
 simp only[zaX,List.mem_filter,Bool.not_eq_true',List.any_eq_false,decide_eq_true_eq,List.mem_map,not_exists,not_and]
theorem zif{p:By×By}:zcA c q (p::m)=zcA c (zcA c q [p]) m:=rfl
theorem zkG{p:By×By}:zcA c q (m++[p])=zcA c (zcA c q m) [p]:=by simp[zcA]
theorem zni{p:By×By}(h:atC c p.1=some t):zcA c q [p]=zcq q ⟨p.2,t.s,t.r⟩:=by simp[zcA,h]
theorem zhN{l:List (By×By)}:zeL c q l=false↔∀i p,l[i]? = some p→atC (zcA c q (l.take i)) p.2=none:=by
 induction l generalizing q with
 |nil=>simp[zeL]
 |cons p l ih=>
  unfold zeL
  rw[Bool.or_eq_false_iff,ih]
  constructor
  ·rintro ⟨h1,h2⟩ i y hy
   cases i with
   |zero=>
    simp at hy
    subst hy
    simpa[zcA] using h1
   |succ i=>exact h2 i y (by simpa using hy)
  intro h
  refine⟨by simpa[zcA] using h 0 p U,fun i y hy=>h (i+1) y (by simpa using hy)⟩
theorem zqK{l:List (By×By)}{i:Nat}{p:By×By}(hp:l[i]? = some p)(h:atC (zcA c q (l.take i)) p.2≠none):zeL c q l=true:=by
 cases ht:zeL c q l with
 |true=>rfl
 |false=>exact absurd (zhN.1 ht i p hp) h
theorem zpS(h:za8 c)(m:List (By×By)):za8 (zaX c m):=⟨h.srt.sublist List.filter_sublist,fun t ht=>h.tab t (zh6.1 ht).1,Nat.le_trans (List.length_filter_le _ _) h.le⟩
theorem ztm(hq:zeV q):zeV (zcA c q m):=by
 induction m generalizing q with
 |nil=>exact hq
 |cons p m ih=>
  rw[zif]
  refine ih ?_
  unfold zcA
  simp only[List.foldl_cons,List.foldl_nil]
  split
  ·exact hq.with _
  exact hq
theorem zrD(h:∀t∈c,yT t.s t.r)(hq:∀t∈q,yT t.s t.r):∀t∈zcA c q m,yT t.s t.r:=by
 induction m generalizing q with
 |nil=>exact hq
 |cons p m ih=>
  rw[zif]
  refine ih ?_
  unfold zcA
  simp only[List.foldl_cons,List.foldl_nil]
  split
  ·rename_i t ht
   intro u hu
   rcases zdn.1 hu with rfl|⟨h1,_⟩
   ·exact h t (zdF ht).1
   exact hq u h1
  exact hq
theorem zmh:(zcA c q m).length≤q.length+m.length:=by
 induction m generalizing q with
 |nil=>simp[zcA]
 |cons p m ih=>
  rw[zif]
  have h1:=ih (q:=zcA c q [p])
  have h2:(zcA c q [p]).length≤q.length+1:=by
   unfold zcA
   simp only[List.foldl_cons,List.foldl_nil]
   split
   ·rename_i t _
    rw[zcq,zjL]
    have:=zjM q p.2
    show (zbS q p.2).length+1≤_
    omega
   omega
  rw[List.length_cons]
  omega
theorem zkR(h:zeV c):∀{m:List (By×By)},(m.map Prod.fst).Nodup→(∀p∈m,(atC c p.1).isSome=true)→(zaX c m).length+m.length=c.length
 |[],_,_=>by
  have:zaX c []=c:=List.filter_eq_self.2 fun y _=>by simp
  rw[this]
  simp
 |p::m,hn,ha=>by
  rw[List.map_cons,List.nodup_cons]at hn
  have ih:=zkR h hn.2 fun y hy=>ha y (List.mem_cons_of_mem _ hy)
  obtain⟨t,ht⟩:=Option.isSome_iff_exists.1 (ha p (by simp))
  obtain⟨h1,h2⟩:=zdF ht
  have e:zaX c (p::m)=zbS (zaX c m) t.n:=by
   unfold zaX zbS
   rw[List.filter_filter]
   refine List.filter_congr fun y _=>?_
   rw[h2]
   by_cases e:p.1=y.n
   ·simp[e]
   have e':y.n≠p.1:=fun h=>e h.symm
   simp[e,e']
  have:=zlo (c:=zaX c m) (h.sublist List.filter_sublist) (zh6.2 ⟨h1,by rw[h2];exact hn.1⟩:t∈zaX c m)
  rw[e,List.length_cons]
  omega
theorem zxP(h:za8 c)(he:zd9 c m=0):zfq m=false∧(∀p∈m,(atC c p.1).isSome=true)∧zeL c (zaX c m) m=false:=by
 unfold zd9 at he
 cases h1:zfq m with
 |true=>simp[h1]at he
 |false=>
  cases h2:m.any (fun p=>(atC c p.1).isNone) with
  |true=>simp[h1,h2]at he
  |false=>
   cases h3:zeL c (zaX c m) m with
   |true=>simp[h1,h2,h3]at he
   |false=>
    refine⟨U,fun p hp=>?_,U⟩
    have:=List.any_eq_false.1 h2 p hp
    cases ha:atC c p.1 with
    |none=>simp[ha]at this
    |some t=>rfl
theorem za8.ren(h:za8 c)(he:zd9 c m=0):za8 (zh2 c m):=by
 obtain⟨h1,h2,_⟩:=zxP h he
 have hn:(m.map Prod.fst).Nodup:=by simpa[zfq] using h1
 have hl:=zkR h.srt hn h2
 have h3:=zmh (c:=c) (q:=zaX c m) (m:=m)
 have:=h.le
 exact⟨ztm (zpS h m).srt,zrD h.tab (zpS h m).tab,by unfold zh2;omega⟩
theorem zuV(h:yT t.s t.r)(hg:∀y∈x.w,y.Rng):yT t.s (zb3 t x):=by
 unfold zb3
 split
 ·exact h.insR hg
 split
 ·exact h
 split
 ·exact h.less _
 exact h.updR hg
theorem zxq(h:z9 x=true)(hk:x.k=4):yS x.t=true∧yF x.s=true:=by
 have:=(zfu h).2.2.1
 simpa[zgY,hk] using this
theorem za8.do(h:za8 c)(hg:∀y∈x.w,y.Rng):za8 (doC c x):=by
 unfold doC
 by_cases he:doE c x=0
 ·rw[if_neg (by simp[he])]
  unfold doE at he
  cases hr:z9 x with
  |false=>simp[hr]at he
  |true=>
   rw[if_neg (by simp[hr])]at he
   by_cases h6:x.k=6
   ·rw[if_pos h6]at he ⊢
    exact h.ren he
   rw[if_neg h6]at he ⊢
   cases ha:atC c x.t with
   |none=>
    simp only[ha]at he
    by_cases h4:x.k=4
    ·rw[if_pos h4]at he ⊢
     split at he
     ·simp at he
     exact h.new (yT.nil (zxq hr h4).2) (by omega)
    rw[if_neg h4]at he
    simp at he
   |some t=>
    simp only[ha]at he
    by_cases h4:x.k=4
    ·rw[if_pos h4]at he
     simp at he
    rw[if_neg h4]at he ⊢
    split
    ·exact h.less _
    exact h.set (t:=⟨t.n,t.s,zb3 t x⟩) (u:=t) (by rw[←(zdF ha).2]at ha;exact ha) (zuV (h.tab t (zdF ha).1) hg)
 rw[if_pos he]
 exact h
end
section
variable {K:Type} [DecidableEq K]
def zkd:List (K×Va)→K→List (K×Va)
 |[],_=>[]
 |p::r,k=>if p.1=k then r else p::zkd r k
theorem ziL:∀{es:List (K×Va)} (k:K),(es.map (·.1)).Nodup→zkd es k=es.filter fun p=>decide (p.1≠k)
 |[],_,_=>rfl
 |p::r,k,h=>by
  rw[List.map_cons,List.nodup_cons]at h
  unfold zkd
  by_cases e:p.1=k
  ·have hr:r.filter (fun p=>decide (p.1≠k))=r:=List.filter_eq_self.2 fun y hy=>by
    have:y.1≠k:=fun he=>h.1 (List.mem_map.2 ⟨y,hy,he.trans e.symm⟩)
    simpa using this
   rw[if_pos e,List.filter_cons,if_neg (by simp[e]),hr]
  rw[if_neg e,List.filter_cons,if_pos (by simpa using e),ziL k h.2]
variable {κ:ziV K}
theorem zjS(k:K):∀(l:List MapEntry) (es:List (K×Va)) (i j:Nat) (u:Va),l.map rd=es.map (krd κ)→zdU es k i=some (j,u)→(l.eraseIdx (j-i)).map rd=(zkd es k).map (krd κ)
 |[],[],_,_,_,_,h=>by simp[zdU]at h
 |[],_::_,_,_,_,h,_=>by simp at h
 |_::_,[],_,_,_,h,_=>by simp at h
 |e::l,p::es,i,j,u,h,hm=>by
  simp only[List.map_cons,List.cons.injEq]at h
  obtain⟨h1,h2⟩:=h
  simp only[zdU]at hm
  by_cases he:p.1=k
  ·rw[if_pos he]at hm
   simp only[Option.some.injEq,Prod.mk.injEq]at hm
   obtain⟨rfl,_⟩:=hm
   rw[Nat.sub_self]
   simp only[zkd,if_pos he,List.eraseIdx_zero,List.tail_cons,h2]
  rw[if_neg he]at hm
  have hge:=zi9 k es (i+1) j u hm
  rw[show j-i=(j-(i+1))+1 by omega]
  simp only[zkd,if_neg he,List.eraseIdx_cons_succ,List.map_cons,h1,zjS k l es (i+1) j u h2 hm]
theorem zk7(k:K):∀(es:List (K×Va)) (i:Nat),zdU es k i=none→zkd es k=es
 |[],_,_=>rfl
 |p::r,i,h=>by
  simp only[zdU]at h
  split at h
  ·cases h
  rename_i he
  simp only[zkd,if_neg he,zk7 k r (i+1) h]
section
variable {P:Program} {n:Nat} {F:Fr} {w:Wl} {d:Tmp} {dst:Option Tmp} {ty t kt et:TypeId} {pos:String} {af:Array Edge} {gd:Option (Nat×Bool)} {K':Fr→Wl→Prop} {b:Nat} {es:List (K×Va)}
theorem zs3{ts:Array TypeId}(ht:ts[0]? = some t)(hm:zd6 P t=some (kt,et))(hk:P.underlying kt=some κ.kd)(h:yf κ w b es)(k:K) :
 ∃w',(Builtin.delete_ ts ty #[.map (some b),κ.kv k]).run P w=.ok (.tuple #[]) w'∧w'.heap.size=w.heap.size∧zk [b] w w'∧yf κ w' b (zkd es k):=by
 obtain⟨a,c,hb,hl,hs1,hs2⟩:=h
 have hlt:=(Array.getElem?_eq_some_iff.1 hb).1
 cases hx:zdU es k 0 with
 |none=>
  refine⟨w.putObj b (.map a c),?_,by simp[World.putObj],zk.put _ _ _,_,_,World.putObj_heap_same hlt,?_,hs1,hs2⟩
  ·simp[Builtin.delete_,ht,run_underlying (zdd hm),Go.MapKept.run_getObj_map hb,κ.chk P kt k _ w hk,zee hk k hl,hx,Go.MapKept.run_setObj_map _ hb,World.putObj]
  rw[zk7 k es 0 hx];exact hl
 |some q=>
  obtain⟨i,u⟩:=q
  have hdel:=zjS k a.toList es 0 i u hl hx
  refine⟨w.putObj b (.map (a.eraseIdxIfInBounds i) c),?_,by simp[World.putObj],zk.put _ _ _,_,_,World.putObj_heap_same hlt,?_,?_,?_⟩
  ·simp[Builtin.delete_,ht,run_underlying (zdd hm),Go.MapKept.run_getObj_map hb,κ.chk P kt k _ w hk,zee hk k hl,hx,Go.MapKept.run_setObj_map _ hb,World.putObj]
  ·simpa using hdel
  ·have e:(a.eraseIdxIfInBounds i).toList=a.toList.eraseIdx i:=by simp
   rw[e]
   exact hs1.sublist ((List.eraseIdx_sublist _ _).map _)
  intro e he
  have e1:(a.eraseIdxIfInBounds i).toList=a.toList.eraseIdx i:=by simp
  rw[e1]at he
  exact hs2 e (List.mem_of_mem_eraseIdx he)
theorem zpe(hm:zd6 P t=some (kt,et))(hk:P.underlying kt=some κ.kd){x y:Operand}{t2:TypeId}{k:K}(hx:ev F x=some (.map (some b)))(hy:ev F y=some (κ.kv k))(h:yf κ w b es)
 (hK:∀w',w'.heap.size=w.heap.size→zk [b] w w'→yf κ w' b (zkd es k)→K' F w'):St P n F ⟨none,.call { callee:=.builtin .delete,args := #[x,y],argTypes := #[t,t2] },ty,pos,af,gd⟩ w K':=by
 obtain⟨w',hr,h1,h2,h3⟩:=zs3 (P:=P) (ts := #[t,t2]) (ty:=ty) rfl hm hk h k
 refine St.vlNone (v:=.tuple #[]) (w':=w') ?_ U (hK w' h1 h2 h3)
 intro a ha
 simp[execOp,resolve,invoke,builtin,ha.eval hx,ha.eval hy,hr]
theorem zn0(hm:zd6 P t=some (kt,et)){x:Operand}(hx:ev F x=some (.map (some b)))(h:yf κ w b es) :
 Vl P n F ⟨dst,.call { callee:=.builtin .len,args := #[x],argTypes := #[t] },ty,pos,af,gd⟩ w (Ii (es.length:Nat)) w:=by
 intro a ha
 obtain⟨ar,c,hb,hl,_⟩:=h
 have hz:ar.size=es.length:=by
  have:=congrArg List.length hl
  simpa using this
 simp[execOp,resolve,invoke,builtin,Builtin.len_,ha.eval hx,run_underlying (zdd hm),Go.MapKept.run_getObj_map hb,goInt,hz]
theorem zve(hm:zd6 P t=some (kt,et)){x y:Operand}{u:TypeId}{q:Option Nat}(hx:ev F x=some (.map q))(hy:ev F y=some (.map none)) :
 Vl P n F ⟨dst,.binOp .eql t x y u,ty,pos,af,gd⟩ w (.bool q.isNone) w:=by
 intro a ha
 have h1:(Op.equal t (.map q) (.map none)).run P w=.ok q.isNone w:=zbg fun d=>by cases q<;>simp[Op.equalIn,run_underlying (zdd hm)]
 simp[execOp,ha.eval hx,ha.eval hy,eqGuard,binOp,h1]
def zy5(P:Program)(t:TypeId):Bool:=
 match P.underlying t with
 |some (.array m e)=>Nat.beq m 2 && ziv P e && (zab P e == some false) && (zal P e == some 1) && !P.eqGuardType P.depth t
 |_=>false
theorem zuK{x y:Operand}{t u:TypeId}{a b c e:By}(h:zy5 P t=true)(hx:ev F x=some (.agg #[.string a,.string b]))(hy:ev F y=some (.agg #[.string c,.string e])) :
 Vl P n F ⟨dst,.binOp .neq t x y u,ty,pos,af,gd⟩ w (.bool (!decide ((a,b)=(c,e)))) w:=by
 intro ac ha
 unfold zy5 at h
 split at h
 ·rename_i m el hu
  simp only[Bool.and_eq_true,Bool.not_eq_true',beq_iff_eq]at h
  obtain⟨⟨⟨⟨hm,hs⟩,hag⟩,hz⟩,hg⟩:=h
  obtain rfl:=Nat.eq_of_beq_eq_true hm
  have hse:=zaP hs
  have pt:∀(vs:Array Va) (i:Nat) (v:Va),vs[i]? = some v→(part el vs i).run P w=.ok v w:=by
   intro vs i v hv
   simp[part,zaH hag,hv]
  have p1:=pt #[.string a,.string b] 0 (.string a) rfl
  have p2:=pt #[.string c,.string e] 0 (.string c) rfl
  have p3:=pt #[.string a,.string b] 1 (.string b) rfl
  have p4:=pt #[.string c,.string e] 1 (.string e) rfl
  have key:∀d,(∀x y:By,(Op.equalIn d el (.string x) (.string y)).run P w=.ok (decide (x=y)) w)→(Op.equalIn (d+1) t (.agg #[.string a,.string b]) (.agg #[.string c,.string e])).run P w=.ok (decide (a=c) && decide (b=e)) w:=by
   intro d hd
   have q1:=hd a c
   have q2:=hd b e
   unfold Op.equalIn
   simp only[Sem.run_bind,run_underlying hu,Result.andThen_ok,zY hz]
   generalize decide (a=c)=r1 at *
   generalize decide (b=e)=r2 at *
   cases r1<;>cases r2<;>simp[Std.Legacy.Range.forIn_eq_forIn_range',Std.Legacy.Range.size,List.range',p1,p2,p3,p4,q1,q2]
  have e1:(Op.equalIn 10000 t (.agg #[.string a,.string b]) (.agg #[.string c,.string e])).run P w=.ok (decide (a=c) && decide (b=e)) w:=key 9999 fun x y=>by rw[run_equalIn_string (P:=P) w 9998 el x y hse,zfs]
  simp only[execOp,ha.eval hx,ha.eval hy,Sem.run_bind,run_eqGuard_agg w _ _ _ _ _ _ hg,Result.andThen_ok,run_neq_struct,e1]
  by_cases h1:a=c<;>by_cases h2:b=e<;>simp[h1,h2]
 simp at h
theorem zuJ{x:Operand}{xt:TypeId}{v:Va}(h:zkn P t=true)(hx:ev F x=some (.iface t v)):Vl P n F ⟨dst,.typeAssert x xt t false,ty,pos,af,gd⟩ w v w:=by
 intro a ha
 obtain⟨d,hd,hne⟩:=zl0 h
 cases d<;>simp[execOp,Instr.typeAssert,ha.eval hx,run_underlying hd]
 exact absurd U (hne _)
end
theorem zqP{P:Program}{w:Wl}{b t:Nat}{es:List (K×Va)}(h:yf κ w b es):∃w',(Extern.MapsClone.clone #[.iface t (.map (some b))]).run P w=.ok (.iface t (.map (some w.heap.size))) w'∧w'.heap.size=w.heap.size+1∧zk [] w w'∧yf κ w' w.heap.size es:=by
 obtain⟨a,c,hb,hl,hs⟩:=h
 refine⟨w.alloc (.map a c),?_,by simp,zk.alloc _ _ _,a,c,heap_alloc_new w _,hl,hs⟩
 conv=>lhs;arg 2;whnf
 simp[Sem.run,Sem.run_bind',Sem.bind,hb,run_newObj_alloc,Sem.run_bind]
end
class Lw where
 n:Nat
set_option linter.unusedSectionVars false
variable [Lw]
def fl{α:Type}(f:α→List Va)(l:List α):List Va:=l.flatMap f
section
variable {α:Type} {f:α→List Va} {k:Nat}
theorem zgB(x:α)(l:List α):fl f (x::l)=f x++fl f l:=rfl
theorem zih(l m:List α):fl f (l++m)=fl f l++fl f m:=by simp[fl]
theorem zj4(hf:∀x,(f x).length=k):∀l:List α,(fl f l).length=l.length*k
 |[]=>by simp[fl]
 |x::l=>by rw[zgB,List.length_append,hf,zj4 hf l,List.length_cons,Nat.add_mul];omega
theorem zlU(hf:∀x,(f x).length=k):∀(i:Nat) (l:List α),fl f (l.drop i)=(fl f l).drop (i*k)
 |0,l=>by simp
 |i+1,[]=>by simp[fl]
 |i+1,x::l=>by
  rw[List.drop_succ_cons,zlU hf i l,zgB,List.drop_append,hf,Nat.add_mul]
  have:(f x).drop (i*k+1*k)=[]:=List.drop_eq_nil_of_le (by rw[hf];omega)
  rw[this,List.nil_append]
  congr 1
  omega
theorem zpi(hf:∀x,(f x).length=k):∀(i:Nat) (l:List α),fl f (l.take i)=(fl f l).take (i*k)
 |0,l=>by simp[fl]
 |i+1,[]=>by simp[fl]
 |i+1,x::l=>by
  rw[List.take_succ_cons,zgB,zpi hf i l,zgB,List.take_append,hf,Nat.add_mul]
  have:(f x).take (i*k+1*k)=f x:=Tl (by rw[hf];omega)
  rw[this]
  congr 2
  omega
theorem zrR(hf:∀x,(f x).length=k){l:List α}{i:Nat}{x:α}(h:l[i]? = some x):((fl f l).drop (i*k)).take k=f x:=by
 rw[←zlU hf]
 obtain⟨hl,rfl⟩:=Gs h
 rw[List.drop_eq_getElem_cons hl,zgB]
 exact List.take_left' (hf _)
theorem zyv(h1:∀x,∀u∈f x,u.oneCell'=true)(l:List α):∀u∈fl f l,u.oneCell'=true:=by
 intro u hu
 obtain⟨x,_,hx⟩:=List.mem_flatMap.1 hu
 exact h1 x u hx
end
def yj{α:Type}(w:Wl)(e k:Nat)(f:α→List Va)(v:Va)(l:List α):Prop:=zA w e k v l.length (fl f l)
section
variable {α:Type} {f:α→List Va} {w w':Wl} {e k:Nat} {v:Va} {l:List α}
theorem yj.chg0(h:yj w e k f v l)(hc:zk [] w w'):yj w' e k f v l:=zA.chg0 h hc
theorem yj.chg{S:List Nat}(h:yj w e k f v l)(hc:zk S w w')(hb:∀b∈zu v,b∉S):yj w' e k f v l:=zA.chg h hc hb
theorem yj.nil(w:Wl)(e k:Nat)(f:α→List Va):yj w e k f (.slice none 0 0) []:=zA.nil w e k
theorem yj.val(h:yj w e k f v l):∃p c,v=.slice p l.length c∧l.length≤c:=zA.val h
theorem yj.at(hf:∀x,(f x).length=k)(h:yj w e k f v l){i:Nat}{x:α}(hi:l[i]? = some x):∃b off cap,v=.slice (some ⟨b,off,none⟩) l.length cap∧zx w b (off+i*k) (f x):=by
 have hl:=(Gs hi).1
 obtain⟨b,off,cap,hv,hc⟩:=zA.atk h hl
 rw[zrR hf hi]at hc
 exact⟨b,off,cap,hv,hc⟩
end
def zN{α:Type}(w:Wl)(_e k:Nat)(f:α→List Va)(v:Va)(l:List α):Prop:=Rd w k v l.length (fl f l)
def zqH:Va→Bool
 |.int .. | .string _ | .bool _=>true
 |_=>false
def Nl(w:Wl)(S:List Nat):Prop:=∀b∈S,∀c e fr,w.heap[b]? = some (.cells c e fr)→∀u∈c.toList,zqH u=false
theorem Nl.one{w:Wl}{b:Nat}{e:TypeId}{c:List Va}(hb:zO w b e c)(h:∀u∈c,zqH u=false):Nl w [b]:=fun x hx c' e' fr he=>by
 simp at hx;subst hx
 have:=Option.some.inj ((show w.heap[x]? = _ from hb).symm.trans he)
 cases this
 simpa using h
section
variable {α:Type} {f:α→List Va} {w w':Wl} {e k:Nat} {v:Va} {l:List α}
theorem yj.arr(h:yj w e k f v l):zN w e k f v l:=zA.toRd h
theorem zN.chg0(h:zN w e k f v l)(hc:zk [] w w'):zN w' e k f v l:=Rd.chg0 h hc
theorem zN.chg{S:List Nat}(h:zN w e k f v l)(hc:zk S w w')(hb:∀b∈zu v,b∉S):zN w' e k f v l:=Rd.chg h hc hb
theorem zN.chgC{S:List Nat}(h:zN w e k f v l)(hc:zk S w w')(hf:∀x,∀u∈f x,zqH u=true)(hS:Nl w S):zN w' e k f v l:=
 Rd.chgC h hc fun b hb c e fr he u hu hm=>by
  obtain⟨x,_,hx⟩:=List.mem_flatMap.1 hu
  have:=hf x u hx
  rw[hS b hb c e fr he u hm]at this;cases this
theorem zN.nil(w:Wl)(e k:Nat)(f:α→List Va):zN w e k f (.slice none 0 0) []:=Rd.nil w k
theorem zN.val(h:zN w e k f v l):∃p c,v=.slice p l.length c∧l.length≤c:=Rd.val h
theorem zN.max(h:zN w e k f v l):l.length≤maxLen:=Rd.max h
theorem zN.one1(h:zN w e k f v l):v.oneCell'=true:=Rd.one1 h
theorem zN.at(hf:∀x,(f x).length=k)(h:zN w e k f v l){i:Nat}{x:α}(hi:l[i]? = some x):∃b off cap,v=.slice (some ⟨b,off,none⟩) l.length cap∧zx w b (off+i*k) (f x):=by
 have hl:=(Gs hi).1
 obtain⟨b,off,cap,hv,hc⟩:=Rd.atk h hl
 rw[zrR hf hi]at hc
 exact⟨b,off,cap,hv,hc⟩
theorem zN.take(hf:∀x,(f x).length=k){p:Option Addr}{c n:Nat}(h:zN w e k f (.slice p l.length c) l)(hn:n≤l.length){m:Nat}(h1:n≤m)(h2:m≤c):zN w e k f (cut p 0 n m k) (l.take n):=by
 have:=Rd.cut h (l:=0) (h:=n) (m:=m) (by omega) h1 h2 hn
 unfold zN
 rw[zpi hf,List.length_take,Nat.min_eq_left hn]
 simpa using this
theorem zN.drop(hf:∀x,(f x).length=k){p:Option Addr}{c n:Nat}(h:zN w e k f (.slice p l.length c) l)(hn:n≤l.length)(hc:l.length≤c):zN w e k f (cut p n l.length c k) (l.drop n):=by
 have:=Rd.cut h (l:=n) (h:=l.length) (m:=c) hn hc (Nat.le_refl _) (Nat.le_refl _)
 unfold zN
 rw[zlU hf,List.length_drop]
 have e1:((fl f l).drop (n*k)).take ((l.length-n)*k)=(fl f l).drop (n*k):=Tl (by rw[List.length_drop,zj4 hf,Nat.sub_mul];omega)
 rw[e1]at this
 exact this
theorem zN.of_blk{b:Nat}{e':TypeId}(hf:∀x,(f x).length=k)(h1:∀x,∀u∈f x,u.oneCell'=true)(hb:zO w b e' (fl f l))(hn:l.length≤maxLen):zN w e k f (.slice (some ⟨b,0,none⟩) l.length l.length) l:=
 (zA.of_blk hb (zj4 hf l) hn (zyv h1 l)).toRd
end
theorem zbn(x:zX):x.cs.length=4:=rfl
theorem Col.one(c:Col):∀u∈c.cs,u.oneCell'=true:=by
 intro u hu;simp[Col.cs]at hu;rcases hu with rfl|rfl|rfl|rfl<;>rfl
theorem zaG(c:Col):c.cs.length=4:=rfl
def ics(i:Int):List Va:=[Ii i]
theorem zhz(i:Int):(ics i).length=1:=rfl
theorem zuq(i:Int):∀u∈ics i,u.oneCell'=true:=by intro u hu;simp[ics]at hu;subst hu;rfl
def yc(w:Wl)(v:Va)(l:List zX):Prop:=zN w 111 4 zX.cs v l
def ziu(w:Wl)(v:Va)(l:List Col):Prop:=zN w 114 4 Col.cs v l
def yw(w:Wl)(v:Va)(l:List Int):Prop:=zN w 3 1 ics v l
theorem yw.cell{w:Wl}{v:Va}{l:List Int}(h:yw w v l){i:Nat}{x:Int}(hi:l[i]? = some x):∃b off cap,v=.slice (some ⟨b,off,none⟩) l.length cap∧w.cell? ⟨b,off+i*1,none⟩=some (Ii x):=by
 obtain⟨b,off,cap,hv,hc⟩:=zN.at zhz h hi
 exact⟨b,off,cap,hv,hc 0 _ U⟩
def zcI{α:Type}(w:Wl)(e k:Nat)(f:α→List Va):List Va→List (List α)→Prop
 |[],[]=>True
 |v::vs,l::ls=>zN w e k f v l∧zcI w e k f vs ls
 |_,_=>False
section
variable {α:Type} {f:α→List Va} {w w':Wl} {e k:Nat}
theorem zcI.length:∀{vs:List Va} {ls:List (List α)},zcI w e k f vs ls→vs.length=ls.length
 |[],[],_=>rfl
 |_::_,_::_,h=>by simp[zcI.length h.2]
theorem zcI.at:∀{vs:List Va} {ls:List (List α)} {i:Nat} {l:List α},zcI w e k f vs ls→ls[i]? = some l→∃v,vs[i]? = some v∧zN w e k f v l
 |[],[],_,_,_,h=>by simp at h
 |v::vs,l::ls,0,l',h,hi=>by simp at hi;subst hi;exact⟨v,rfl,h.1⟩
 |v::vs,l::ls,i+1,l',h,hi=>by simpa using h.2.at (by simpa using hi)
theorem zcI.chg{S:List Nat}(hc:zk S w w'):∀{vs:List Va} {ls:List (List α)},(∀v∈vs,∀b∈zu v,b∉S)→zcI w e k f vs ls→zcI w' e k f vs ls
 |[],[],_,_=>trivial
 |v::vs,l::ls,hb,h=>⟨h.1.chg hc (hb v (by simp)),zcI.chg hc (fun u hu=>hb u (by simp[hu])) h.2⟩
theorem zcI.chg0{vs:List Va}{ls:List (List α)}(h:zcI w e k f vs ls)(hc:zk [] w w'):zcI w' e k f vs ls:=zcI.chg hc (by simp) h
end
def zbW(w:Wl)(v:Va)(l:List zX):Prop:=yj w 111 4 zX.cs v l
def yp{α:Type}(w:Wl)(e k:Nat)(f:α→List Va):List Va→List (List α)→Prop
 |[],[]=>True
 |v::vs,l::ls=>yj w e k f v l∧yp w e k f vs ls
 |_,_=>False
section
variable {α:Type} {f:α→List Va} {w w':Wl} {e k:Nat}
theorem yp.length:∀{vs:List Va} {ls:List (List α)},yp w e k f vs ls→vs.length=ls.length
 |[],[],_=>rfl
 |_::_,_::_,h=>by simp[yp.length h.2]
theorem yp.at:∀{vs:List Va} {ls:List (List α)} {i:Nat} {l:List α},yp w e k f vs ls→ls[i]? = some l→∃v,vs[i]? = some v∧yj w e k f v l
 |[],[],_,_,_,h=>by simp at h
 |v::vs,l::ls,0,l',h,hi=>by simp at hi;subst hi;exact⟨v,rfl,h.1⟩
 |v::vs,l::ls,i+1,l',h,hi=>by simpa using h.2.at (by simpa using hi)
theorem yp.append:∀{vs us:List Va} {ls ms:List (List α)},yp w e k f vs ls→yp w e k f us ms→yp w e k f (vs++us) (ls++ms)
 |[],_,[],_,_,h=>h
 |_::_,_,_::_,_,h,h'=>⟨h.1,h.2.append h'⟩
theorem yp.chg{S:List Nat}(hc:zk S w w'):∀{vs:List Va} {ls:List (List α)},(∀v∈vs,∀b∈zu v,b∉S)→yp w e k f vs ls→yp w' e k f vs ls
 |[],[],_,_=>trivial
 |v::vs,l::ls,hb,h=>⟨h.1.chg hc (hb v (by simp)),yp.chg hc (fun u hu=>hb u (by simp[hu])) h.2⟩
theorem yp.chg0{vs:List Va}{ls:List (List α)}(h:yp w e k f vs ls)(hc:zk [] w w'):yp w' e k f vs ls:=yp.chg hc (by simp) h
theorem yp.one:∀{vs:List Va} {ls:List (List α)},yp w e k f vs ls→∀u∈vs,u.oneCell'=true
 |[],[],_,u,hu=>by simp at hu
 |v::vs,l::ls,h,u,hu=>by
  rcases List.mem_cons.1 hu with rfl|hu
  ·exact zA.one1 h.1
  exact h.2.one u hu
theorem yp.apart{b:Nat}{e':TypeId}{c:List Va}(hb:zO w b e' c)(hne:Nat.beq e e'=false):∀{vs:List Va} {ls:List (List α)},yp w e k f vs ls→∀v∈vs,∀x∈zu v,x∉[b]
 |[],[],_,v,hv=>by simp at hv
 |v::vs,l::ls,h,u,hu=>by
  rcases List.mem_cons.1 hu with rfl|hu
  ·exact zA.apart h.1 hb hne
  exact h.2.apart hb hne u hu
theorem yp.apartSl{e' k' n:Nat}{v:Va}{xs:List Va}(hv:zA w e' k' v n xs)(hne:Nat.beq e e'=false):∀{vs:List Va} {ls:List (List α)},yp w e k f vs ls→∀u∈vs,∀x∈zu u,x∉zu v
 |[],[],_,u,hu=>by simp at hu
 |u::vs,l::ls,h,u',hu=>by
  rcases List.mem_cons.1 hu with rfl|hu
  ·exact zA.apartSl h.1 hv hne
  exact h.2.apartSl hv hne u' hu
end
def okT(E e:Nat):Bool:=Nat.beq E e || Nat.beq E 32
def Ou(w:Wl)(E:Nat)(v:Va)(len:Nat)(vs:List Va):Prop:=
 Rd w 1 v len vs∧(0<len→∃b off cap e c fr,v=.slice (some ⟨b,off,none⟩) len cap∧w.heap[b]? = some (.cells c e fr)∧okT E e=true)
section
variable {w w':Wl} {E len:Nat} {v:Va} {vs:List Va}
theorem zA.toOu(h:zA w E 1 v len vs):Ou w E v len vs:=by
 refine⟨h.toRd,fun hp=>?_⟩
 rcases h with⟨_,rfl,_⟩|⟨b,off,cap,c,rfl,h⟩
 ·omega
 exact⟨b,off,cap,E,_,_,rfl,h.blk,by simp[okT]⟩
def Nt(w:Wl)(E:Nat)(S:List Nat):Prop:=∀b∈S,∀c e fr,w.heap[b]? = some (.cells c e fr)→okT E e=false
theorem Ou.chgS{S:List Nat}(h:Ou w E v len vs)(hc:zk S w w')(hS:Nt w E S):Ou w' E v len vs:=by
 obtain⟨h1,h2⟩:=h
 rcases Nat.eq_zero_or_pos len with hz|hp
 ·subst hz
  obtain⟨p,cap,rfl,g2,g3,g4,g5,g6⟩:=h1
  exact⟨⟨p,cap,rfl,g2,g3,g4,g5,fun h=>absurd h (by omega)⟩,fun h=>absurd h (by omega)⟩
 obtain⟨b,off,cap,e,c,fr,rfl,hb,hk⟩:=h2 hp
 have hn:b∉S:=fun hm=>by
  have:=hS b hm _ _ _ hb
  rw[hk]at this;cases this
 refine⟨Rd.chg h1 hc (by intro x hx;simp[zu]at hx;subst hx;exact hn),fun _=>⟨b,off,cap,e,c,fr,rfl,?_,hk⟩⟩
 exact(hc.block b (Array.getElem?_eq_some_iff.1 hb).1 hn).trans hb
theorem Ou.chg0(h:Ou w E v len vs)(hc:zk [] w w'):Ou w' E v len vs:=h.chgS hc (fun _ hx=>by simp at hx)
end
def zca{α:Type}(w:Wl)(E e k:Nat)(f:α→List Va)(v:Va)(ls:List (List α)):Prop:=∃vs,Ou w E v ls.length vs∧zcI w e k f vs ls
section
variable {α:Type} {f:α→List Va} {w w':Wl} {E e k:Nat} {v:Va} {ls:List (List α)}
theorem zca.chg0(h:zca w E e k f v ls)(hc:zk [] w w'):zca w' E e k f v ls:=let ⟨vs,h1,h2⟩:=h; ⟨vs,h1.chg0 hc,h2.chg0 hc⟩
theorem zca.val(h:zca w E e k f v ls):∃p c,v=.slice p ls.length c∧ls.length≤c:=let ⟨_,h1,_⟩:=h; Rd.val h1.1
theorem zca.max(h:zca w E e k f v ls):ls.length≤maxLen:=let ⟨_,h1,_⟩:=h; Rd.max h1.1
theorem zca.at(h:zca w E e k f v ls){i:Nat}{l:List α}(hi:ls[i]? = some l):∃b off cap u,v=.slice (some ⟨b,off,none⟩) ls.length cap∧w.cell? ⟨b,off+i*1,none⟩=some u∧zN w e k f u l:=by
 obtain⟨vs,h1,h2⟩:=h
 obtain⟨u,hu,ha⟩:=h2.at hi
 obtain⟨b,off,cap,u',hv,hu',hc⟩:=Rd.at1 h1.1 (Gs hi).1
 rw[hu]at hu'
 cases hu'
 exact⟨b,off,cap,u,hv,hc,ha⟩
theorem zca.one1(h:zca w E e k f v ls):v.oneCell'=true:=let ⟨_,h1,_⟩:=h; Rd.one1 h1.1
end
def Low(w w':Wl):Prop:=∀b,b<w.heap.size→w'.heap[b]? = w.heap[b]?
theorem Rd.low{w w':Wl}{k:Nat}{v:Va}{len:Nat}{xs:List Va}(h:Rd w k v len xs)(hk:Low w w'):Rd w' k v len xs:=
 h.keep fun b off u j _ _ hc=>by
  have hlt:b<w.heap.size:=by
   rcases Nat.lt_or_ge b w.heap.size with h1|h1
   ·exact h1
   simp[World.cell?,Array.getElem?_eq_none h1]at hc
  unfold World.cell? at hc ⊢
  rw[hk b hlt];exact hc
theorem zN.low{α:Type}{f:α→List Va}{w w':Wl}{e k:Nat}{v:Va}{l:List α}(h:zN w e k f v l)(hk:Low w w'):zN w' e k f v l:=Rd.low h hk
theorem zcI.low{α:Type}{f:α→List Va}{w w':Wl}{e k:Nat}(hk:Low w w'):∀{vs:List Va} {ls:List (List α)},zcI w e k f vs ls→zcI w' e k f vs ls
 |[],[],_=>trivial
 |_::_,_::_,h=>⟨Rd.low h.1 hk,zcI.low hk h.2⟩
theorem zoE(x:zX):∀u∈x.cs,zqH u=true:=by intro u hu;simp[zX.cs]at hu;rcases hu with rfl|rfl|rfl|rfl<;>rfl
theorem zvd(x:Col):∀u∈x.cs,zqH u=true:=by intro u hu;simp[Col.cs]at hu;rcases hu with rfl|rfl|rfl|rfl<;>rfl
def zcc(w:Wl)(v:Va)(ls:List (List Int)):Prop:=zca w 32 3 1 ics v ls
def zqv(e:Nat):Bool := !Nat.beq e 178 && !Nat.beq e 83 && !Nat.beq e 48 && !Nat.beq e 39
def Lo(w:Wl)(b:Nat):Prop:=b<Lw.n∨∃c e fr,w.heap[b]? = some (.cells c e fr)∧zqv e=true
def Ns(w:Wl)(S:List Nat):Prop:=∀b∈S,Lw.n≤b∧∀c e fr,w.heap[b]? = some (.cells c e fr)→zqv e=false
theorem Ns.not{w:Wl}{S:List Nat}{b:Nat}(h:Ns w S)(hl:Lo w b):b∉S:=fun hm=>by
 obtain⟨h1,h2⟩:=h b hm
 rcases hl with h3|⟨c,e,fr,h3,h4⟩
 ·omega
 rw[h2 _ _ _ h3]at h4;cases h4
theorem Ns.one{w:Wl}{b:Nat}{e:TypeId}{c:List Va}(hb:zO w b e c)(h:zqv e=false)(hN:Lw.n≤b):Ns w [b]:=fun x hx=>by
 simp at hx;subst hx
 refine⟨hN,fun c' e' fr he=>?_⟩
 have:=Option.some.inj ((show w.heap[x]? = _ from hb).symm.trans he)
 cases this
 exact h
theorem Lo.chg{w w':Wl}{S:List Nat}{b:Nat}(h:Lo w b)(hc:zk S w w')(hS:Ns w S):Lo w' b:=by
 rcases h with h|⟨c,e,fr,h3,h4⟩
 ·exact .inl h
 exact .inr ⟨c,e,fr,(hc.block b (Array.getElem?_eq_some_iff.1 h3).1 (hS.not (.inr ⟨c,e,fr,h3,h4⟩))).trans h3,h4⟩
theorem Rd.ou{w:Wl}{v:Va}{n:Nat}{vs:List Va}(h:Rd w 1 v n vs):Ou w 32 v n vs:=by
 refine⟨h,fun hp=>?_⟩
 obtain⟨p,cap,rfl,h1,h2,h3,h4,h5⟩:=h
 obtain⟨b,off,rfl,hc⟩:=h5 hp
 have hv:vs[0]? = some (vs[0]'(by omega)):=by simp
 have h0:=hc 0 _ hv
 unfold World.cell? at h0
 cases ho:w.heap[b]? with
 |none=>simp[ho]at h0
 |some o=>
  cases o with
  |cells x y z=>exact⟨b,off,cap,y,x,z,rfl,ho,by simp[okT]⟩
  |_=>simp[ho]at h0
def zhj:Va→List Nat
 |.slice (some a) (_+1) _=>[a.block]
 |_=>[]
theorem zrI{v:Va}{b:Nat}(h:b∈zhj v):b∈zu v:=by
 unfold zhj at h
 split at h
 ·exact h
 cases h
theorem Rd.chgP{w w':Wl}{k:Nat}{v:Va}{len:Nat}{xs:List Va}{S:List Nat}(h:Rd w k v len xs)(hc:zk S w w')(hb:∀b∈zhj v,b∉S):Rd w' k v len xs:=
 h.keep fun b off u j hv hj hcell=>zdv hc hcell (hb b (by
  have h1:=h.len_xs
  have h2:=(Gs hj).1
  obtain⟨m,rfl⟩:∃m,len=m+1:=by
   cases len with
   |zero=>simp at h1;simp[h1]at h2
   |succ m=>exact⟨m,rfl⟩
  rw[hv];simp[zhj]))
structure zaa(w:Wl)(c k u:Va)(s:yL):Prop where
 cols:ziu w c s.cols
 key:yw w k s.key
 us:∃vs,Rd w 1 u s.uq.length vs∧zcI w 3 1 ics vs s.uq∧∀v∈vs,∀b∈zhj v,Lo w b
 lo:∀v∈[c,k,u],∀b∈zhj v,Lo w b
theorem zaa.uq{w:Wl}{c k u:Va}{s:yL}(h:zaa w c k u s):zcc w u s.uq:=let ⟨vs,h1,h2,_⟩:=h.us; ⟨vs,h1.ou,h2⟩
theorem zcI.chgL{α:Type}{f:α→List Va}{w w':Wl}{e k:Nat}{S:List Nat}(hc:zk S w w'):∀{vs:List Va} {ls:List (List α)},(∀v∈vs,∀b∈zhj v,b∉S)→zcI w e k f vs ls→zcI w' e k f vs ls
 |[],[],_,_=>trivial
 |v::_,_::_,hv,h=>⟨Rd.chgP h.1 hc (hv v (by simp)),zcI.chgL hc (fun u hu=>hv u (by simp[hu])) h.2⟩
theorem zaa.chgN{w w':Wl}{c k u:Va}{s:yL}(h:zaa w c k u s){S:List Nat}(hc:zk S w w')(hS:Ns w S):zaa w' c k u s:=by
 have hn:∀v∈[c,k,u],∀b∈zhj v,b∉S:=fun v hv b hb=>hS.not (h.lo v hv b hb)
 obtain⟨vs,h1,h2,h3⟩:=h.us
 exact⟨Rd.chgP h.cols hc (hn c (by simp)),Rd.chgP h.key hc (hn k (by simp)),⟨vs,Rd.chgP h1 hc (hn u (by simp)),h2.chgL hc fun v hv b hb=>hS.not (h3 v hv b hb),fun v hv b hb=>(h3 v hv b hb).chg hc hS⟩,fun v hv b hb=>(h.lo v hv b hb).chg hc hS⟩
theorem zaa.chg0{w w':Wl}{c k u:Va}{s:yL}(h:zaa w c k u s)(hc:zk [] w w'):zaa w' c k u s:=h.chgN hc fun _ hb=>by cases hb
theorem zaa.chgB{w w':Wl}{c k u:Va}{s:yL}(h:zaa w c k u s){b:Nat}{e:TypeId}{x:List Va}(hb:zO w b e x)(h3:zqv e=false)(hN:Lw.n≤b)(hc:zk [b] w w'):zaa w' c k u s:=
 h.chgN hc (Ns.one hb h3 hN)
theorem zaa.one{w:Wl}{c k u:Va}{s:yL}(h:zaa w c k u s):∀x∈[c,k,u],x.oneCell'=true:=by
 intro x hx
 simp at hx
 rcases hx with rfl|rfl|rfl
 ·exact zN.one1 h.cols
 ·exact zN.one1 h.key
 exact h.uq.one1
theorem zgy{α:Type}{p:α→Bool}{l:List α}{j:Nat}{x:α}(hx:l[j]? = some x)(h:p x=true):l.any p=true:=List.any_eq_true.2 ⟨x,List.mem_of_getElem? hx,h⟩
theorem zfa{α:Type}{p:α→Bool}{l:List α}{j:Nat}{x:α}(hx:l[j]? = some x)(h:p x=false)(ha:(l.take j).any p=false):(l.take (j+1)).any p=false:=by
 rw[List.take_add_one,hx,List.any_append,ha]
 simp[h]
theorem zyx{α:Type}{f:α→List Va}(hf:∀x,(f x).length=4)(v:Va)(l:List α)(p:α→Bool)(g:Nat)(lb:List Va)(w:Wl)(hl:zN w 114 4 f v l)(hn:l.length≤1048576)(hg:zn TP g=true)
 (hp:∀x∈l,∀w1,zk [] w w1→zT TP g (Value.agg (f x).toArray::lb).toArray w1 fun r w2=>r=.bool (p x)∧zk [] w1 w2) :
 zT TP 332 #[v,.func (.func g) #[] lb.toArray] w fun r w'=>∃i:Int,r=Ii i∧decide (0≤i)=l.any p∧zk [] w w':=by
 obtain⟨pv,cv,hval,hle⟩:=zN.val hl
 refine A2 Tryz.func332 U U ?_
 refine Sr (Oa U (E2 0 1 U (zf (zf ?_))))
 subst hval
 refine za (Om U (On zaJ U (Om U (E4 0 1 7 8 U (zp ?_)))))
 refine zR [0,1,7,8] (fun m F wx=>∃j:Nat,m=l.length-j∧j≤l.length∧F=[(0,.slice pv l.length cv),(1,.func (.func g) #[] lb.toArray),(7,Ii l.length),(8,Ii j)]∧zk [] w wx∧(l.take j).any p=false) (m:=l.length-0) ⟨0,rfl,Nat.zero_le _,rfl,zk.refl _ _,by simp⟩ ?_
 rintro m F wx⟨j,rfl,hj,rfl,hcx,hno⟩
 refine Sr (Og (zy U U) U (E5 0 1 7 8 9 U (zf ?_)))
 refine zP U (fun hT=>?_) (fun hF=>?_)
 ·refine zm ?_
  have hlt:j<l.length:=by have:=of_decide_eq_true hT;omega
  have hx:l[j]? = some l[j]:=by simp[hlt]
  generalize l[j]=x at hx
  obtain⟨b,off,cap,hv,hcell⟩:=zN.at hf (zN.chg0 hl hcx) hx
  cases hv
  refine zf (zp (Sr (Om U (Oa U (E5 0 1 5 7 8 U (Sr (Om U (Om U (Om U ?_)))))))))
  refine Og (zi zaJ y8 U U _ U hlt) U ?_
  refine Og (zh zcy y8 U (hf _) hcell) U ?_
  refine Oc hg U U U (hp x (List.mem_of_getElem? hx) _ hcx) ?_
  rintro v16 w16⟨rfl,c16⟩
  refine E6 0 1 5 7 8 16 U ?_
  cases hpx:p x with
  |true=>
   refine ze U (Sr (Om U (Oa U (E1 4 U (zj ?_)))))
   repeat first|refine tr ?_|refine br ?_
   refine zw U U ?_
   exact⟨_,rfl,by rw[zgy hx hpx];simp,hcx.trans c16⟩
  |false=>
   refine zb U (zU (zl (za ?_)))
   refine Og (zG U U (by omega)) U ?_
   refine Om U (N4 0 1 7 8 U ?_)
   exact⟨l.length-(j+1),by omega,j+1,rfl,by omega,rfl,hcx.trans c16,zfa hx hpx hno⟩
 refine zH ?_
 repeat first|refine te ?_|refine bo rfl ?_
 refine zq _ ?_
 have he:l.length≤j:=by have:=of_decide_eq_false hF;omega
 refine Sr (Oa U (E1 4 U (zj ?_)))
 repeat first|refine tr ?_|refine br ?_
 refine zw U U ?_
 rw[Tl he]at hno
 exact⟨_,rfl,by rw[hno];rfl,hcx⟩
theorem zx6{α:Type}{f:α→List Va}(hf:∀x,(f x).length=4)(v:Va)(l:List α)(p:α→Bool)(g:Nat)(lb:List Va)(w:Wl)(hl:zN w 114 4 f v l)(hn:l.length≤1048576)(hg:zn TP g=true)
 (hp:∀x∈l,∀w1,zk [] w w1→zT TP g (Value.agg (f x).toArray::lb).toArray w1 fun r w2=>r=.bool (p x)∧zk [] w1 w2) :
 zT TP 299 #[v,.func (.func g) #[] lb.toArray] w fun r w'=>r=.bool (l.any p)∧zk [] w w':=by
 refine A2 Tryz.func299 U U ?_
 refine Sr (Oa U (E2 0 1 U (Sr (Om U (Om U ?_)))))
 refine Oc zzi U U U (zyx hf v l p g lb _ hl hn hg hp) ?_
 rintro v7 w7⟨i,rfl,hi,c7⟩
 refine Og (ya U U) U (Oa U (E1 4 U (zj ?_)))
 refine zw U U ?_
 exact⟨by rw[←hi],c7⟩
theorem zxQ{α:Type}{f:α→List Va}(hf:∀x,(f x).length=4)(v:Va)(l:List α)(p:α→Bool)(g:Nat)(lb:List Va)(w:Wl)(hl:zN w 111 4 f v l)(hn:l.length≤1048576)(hg:zn TP g=true)
 (hp:∀x∈l,∀w1,zk [] w w1→zT TP g (Value.agg (f x).toArray::lb).toArray w1 fun r w2=>r=.bool (p x)∧zk [] w1 w2) :
 zT TP 199 #[v,.func (.func g) #[] lb.toArray] w fun r w'=>∃i:Int,r=Ii i∧decide (0≤i)=l.any p∧zk [] w w':=by
 obtain⟨pv,cv,hval,hle⟩:=zN.val hl
 refine A2 Tryz.func199 U U ?_
 refine Sr (Oa U (E2 0 1 U (zf (zf ?_))))
 subst hval
 refine za (Om U (On yA U (Om U (E4 0 1 7 8 U (zp ?_)))))
 refine zR [0,1,7,8] (fun m F wx=>∃j:Nat,m=l.length-j∧j≤l.length∧F=[(0,.slice pv l.length cv),(1,.func (.func g) #[] lb.toArray),(7,Ii l.length),(8,Ii j)]∧zk [] w wx∧(l.take j).any p=false) (m:=l.length-0) ⟨0,rfl,Nat.zero_le _,rfl,zk.refl _ _,by simp⟩ ?_
 rintro m F wx⟨j,rfl,hj,rfl,hcx,hno⟩
 refine Sr (Og (zy U U) U (E5 0 1 7 8 9 U (zf ?_)))
 refine zP U (fun hT=>?_) (fun hF=>?_)
 ·refine zm ?_
  have hlt:j<l.length:=by have:=of_decide_eq_true hT;omega
  have hx:l[j]? = some l[j]:=by simp[hlt]
  generalize l[j]=x at hx
  obtain⟨b,off,cap,hv,hcell⟩:=zN.at hf (zN.chg0 hl hcx) hx
  cases hv
  refine zf (zp (Sr (Om U (Oa U (E5 0 1 5 7 8 U (Sr (Om U (Om U (Om U ?_)))))))))
  refine Og (zi yA ym U U _ U hlt) U ?_
  refine Og (zh zaz ym U (hf _) hcell) U ?_
  refine Oc hg U U U (hp x (List.mem_of_getElem? hx) _ hcx) ?_
  rintro v16 w16⟨rfl,c16⟩
  refine E6 0 1 5 7 8 16 U ?_
  cases hpx:p x with
  |true=>
   refine ze U (Sr (Om U (Oa U (E1 4 U (zj ?_)))))
   repeat first|refine tr ?_|refine br ?_
   refine zw U U ?_
   exact⟨_,rfl,by rw[zgy hx hpx];simp,hcx.trans c16⟩
  |false=>
   refine zb U (zU (zl (za ?_)))
   refine Og (zG U U (by omega)) U ?_
   refine Om U (N4 0 1 7 8 U ?_)
   exact⟨l.length-(j+1),by omega,j+1,rfl,by omega,rfl,hcx.trans c16,zfa hx hpx hno⟩
 refine zH ?_
 repeat first|refine te ?_|refine bo rfl ?_
 refine zq _ ?_
 have he:l.length≤j:=by have:=of_decide_eq_false hF;omega
 refine Sr (Oa U (E1 4 U (zj ?_)))
 repeat first|refine tr ?_|refine br ?_
 refine zw U U ?_
 rw[Tl he]at hno
 exact⟨_,rfl,by rw[hno];rfl,hcx⟩
theorem zsx{α:Type}{f:α→List Va}(hf:∀x,(f x).length=4)(v:Va)(l:List α)(p:α→Bool)(g:Nat)(lb:List Va)(w:Wl)(hl:zN w 111 4 f v l)(hn:l.length≤1048576)(hg:zn TP g=true)
 (hp:∀x∈l,∀w1,zk [] w w1→zT TP g (Value.agg (f x).toArray::lb).toArray w1 fun r w2=>r=.bool (p x)∧zk [] w1 w2) :
 zT TP 142 #[v,.func (.func g) #[] lb.toArray] w fun r w'=>r=.bool (l.any p)∧zk [] w w':=by
 refine A2 Tryz.func142 U U ?_
 refine Sr (Oa U (E2 0 1 U (Sr (Om U (Om U ?_)))))
 refine Oc zAt U U U (zxQ hf v l p g lb _ hl hn hg hp) ?_
 rintro v7 w7⟨i,rfl,hi,c7⟩
 refine Og (ya U U) U (Oa U (E1 4 U (zj ?_)))
 refine zw U U ?_
 exact⟨by rw[←hi],c7⟩
theorem zyW(v:Va)(l:List Int)(p:Int→Bool)(g:Nat)(lb:List Va)(w:Wl)(hl:yw w v l)(hn:l.length≤1048576)(hg:zn TP g=true)
 (hp:∀x∈l,∀w1,zk [] w w1→zT TP g (Value.int .i64 x::lb).toArray w1 fun r w2=>r=.bool (p x)∧zk [] w1 w2) :
 zT TP 333 #[v,.func (.func g) #[] lb.toArray] w fun r w'=>∃i:Int,r=Ii i∧decide (0≤i)=l.any p∧zk [] w w':=by
 obtain⟨pv,cv,hval,hle⟩:=zN.val hl
 refine A2 Tryz.func333 U U ?_
 refine Sr (Oa U (E2 0 1 U (zf (zf ?_))))
 subst hval
 refine za (Om U (On zaA U (Om U (E4 0 1 7 8 U (zp ?_)))))
 refine zR [0,1,7,8] (fun m F wx=>∃j:Nat,m=l.length-j∧j≤l.length∧F=[(0,.slice pv l.length cv),(1,.func (.func g) #[] lb.toArray),(7,Ii l.length),(8,Ii j)]∧zk [] w wx∧(l.take j).any p=false) (m:=l.length-0) ⟨0,rfl,Nat.zero_le _,rfl,zk.refl _ _,by simp⟩ ?_
 rintro m F wx⟨j,rfl,hj,rfl,hcx,hno⟩
 refine Sr (Og (zy U U) U (E5 0 1 7 8 9 U (zf ?_)))
 refine zP U (fun hT=>?_) (fun hF=>?_)
 ·refine zm ?_
  have hlt:j<l.length:=by have:=of_decide_eq_true hT;omega
  have hx:l[j]? = some l[j]:=by simp[hlt]
  generalize l[j]=x at hx
  obtain⟨b,off,cap,hv,hcell⟩:=yw.cell (zN.chg0 hl hcx) hx
  cases hv
  refine zf (zp (Sr (Om U (Oa U (E5 0 1 5 7 8 U (Sr (Om U (Om U (Om U ?_)))))))))
  refine Og (zi zaA sz3 U U _ U hlt) U ?_
  refine Ol ag3 U hcell ?_
  refine Oc hg U U U (hp x (List.mem_of_getElem? hx) _ hcx) ?_
  rintro v16 w16⟨rfl,c16⟩
  refine E6 0 1 5 7 8 16 U ?_
  cases hpx:p x with
  |true=>
   refine ze U (Sr (Om U (Oa U (E1 4 U (zj ?_)))))
   repeat first|refine tr ?_|refine br ?_
   refine zw U U ?_
   exact⟨_,rfl,by rw[zgy hx hpx];simp,hcx.trans c16⟩
  |false=>
   refine zb U (zU (zl (za ?_)))
   refine Og (zG U U (by omega)) U ?_
   refine Om U (N4 0 1 7 8 U ?_)
   exact⟨l.length-(j+1),by omega,j+1,rfl,by omega,rfl,hcx.trans c16,zfa hx hpx hno⟩
 refine zH ?_
 repeat first|refine te ?_|refine bo rfl ?_
 refine zq _ ?_
 have he:l.length≤j:=by have:=of_decide_eq_false hF;omega
 refine Sr (Oa U (E1 4 U (zj ?_)))
 repeat first|refine tr ?_|refine br ?_
 refine zw U U ?_
 rw[Tl he]at hno
 exact⟨_,rfl,by rw[hno];rfl,hcx⟩
theorem ztE(v:Va)(l:List Int)(p:Int→Bool)(g:Nat)(lb:List Va)(w:Wl)(hl:yw w v l)(hn:l.length≤1048576)(hg:zn TP g=true)
 (hp:∀x∈l,∀w1,zk [] w w1→zT TP g (Value.int .i64 x::lb).toArray w1 fun r w2=>r=.bool (p x)∧zk [] w1 w2) :
 zT TP 302 #[v,.func (.func g) #[] lb.toArray] w fun r w'=>r=.bool (l.any p)∧zk [] w w':=by
 refine A2 Tryz.func302 U U ?_
 refine Sr (Oa U (E2 0 1 U (Sr (Om U (Om U ?_)))))
 refine Oc zCC U U U (zyW v l p g lb _ hl hn hg hp) ?_
 rintro v7 w7⟨i,rfl,hi,c7⟩
 refine Og (ya U U) U (Oa U (E1 4 U (zj ?_)))
 refine zw U U ?_
 exact⟨by rw[←hi],c7⟩
theorem zuy(v:Va)(l:List (List Int))(p:List Int→Bool)(g:Nat)(lb:List Va)(w:Wl)(hl:zcc w v l)(hn:l.length≤1048576)(hg:zn TP g=true)
 (hp:∀x∈l,∀u w1,zk [] w w1→yw w1 u x→zT TP g (u::lb).toArray w1 fun r w2=>r=.bool (p x)∧zk [] w1 w2) :
 zT TP 334 #[v,.func (.func g) #[] lb.toArray] w fun r w'=>∃i:Int,r=Ii i∧decide (0≤i)=l.any p∧zk [] w w':=by
 obtain⟨pv,cv,hval,hle⟩:=zca.val hl
 refine A2 Tryz.func334 U U ?_
 refine Sr (Oa U (E2 0 1 U (zf (zf ?_))))
 subst hval
 refine za (Om U (On za6 U (Om U (E4 0 1 7 8 U (zp ?_)))))
 refine zR [0,1,7,8] (fun m F wx=>∃j:Nat,m=l.length-j∧j≤l.length∧F=[(0,.slice pv l.length cv),(1,.func (.func g) #[] lb.toArray),(7,Ii l.length),(8,Ii j)]∧zk [] w wx∧(l.take j).any p=false) (m:=l.length-0) ⟨0,rfl,Nat.zero_le _,rfl,zk.refl _ _,by simp⟩ ?_
 rintro m F wx⟨j,rfl,hj,rfl,hcx,hno⟩
 refine Sr (Og (zy U U) U (E5 0 1 7 8 9 U (zf ?_)))
 refine zP U (fun hT=>?_) (fun hF=>?_)
 ·refine zm ?_
  have hlt:j<l.length:=by have:=of_decide_eq_true hT;omega
  have hx:l[j]? = some l[j]:=by simp[hlt]
  generalize l[j]=x at hx
  obtain⟨b,off,cap,u,hv,hcell,hu⟩:=zca.at (hl.chg0 hcx) hx
  cases hv
  refine zf (zp (Sr (Om U (Oa U (E5 0 1 5 7 8 U (Sr (Om U (Om U (Om U ?_)))))))))
  refine Og (zi za6 zg0 U U _ U hlt) U ?_
  refine Ol zb9 U hcell ?_
  refine Oc hg U U U (hp x (List.mem_of_getElem? hx) u _ hcx hu) ?_
  rintro v16 w16⟨rfl,c16⟩
  refine E6 0 1 5 7 8 16 U ?_
  cases hpx:p x with
  |true=>
   refine ze U (Sr (Om U (Oa U (E1 4 U (zj ?_)))))
   repeat first|refine tr ?_|refine br ?_
   refine zw U U ?_
   exact⟨_,rfl,by rw[zgy hx hpx];simp,hcx.trans c16⟩
  |false=>
   refine zb U (zU (zl (za ?_)))
   refine Og (zG U U (by omega)) U ?_
   refine Om U (N4 0 1 7 8 U ?_)
   exact⟨l.length-(j+1),by omega,j+1,rfl,by omega,rfl,hcx.trans c16,zfa hx hpx hno⟩
 refine zH ?_
 repeat first|refine te ?_|refine bo rfl ?_
 refine zq _ ?_
 have he:l.length≤j:=by have:=of_decide_eq_false hF;omega
 refine Sr (Oa U (E1 4 U (zj ?_)))
 repeat first|refine tr ?_|refine br ?_
 refine zw U U ?_
 rw[Tl he]at hno
 exact⟨_,rfl,by rw[hno];rfl,hcx⟩
theorem zuN(v:Va)(l:List (List Int))(p:List Int→Bool)(g:Nat)(lb:List Va)(w:Wl)(hl:zcc w v l)(hn:l.length≤1048576)(hg:zn TP g=true)
 (hp:∀x∈l,∀u w1,zk [] w w1→yw w1 u x→zT TP g (u::lb).toArray w1 fun r w2=>r=.bool (p x)∧zk [] w1 w2) :
 zT TP 303 #[v,.func (.func g) #[] lb.toArray] w fun r w'=>r=.bool (l.any p)∧zk [] w w':=by
 refine A2 Tryz.func303 U U ?_
 refine Sr (Oa U (E2 0 1 U (Sr (Om U (Om U ?_)))))
 refine Oc zCh U U U (zuy v l p g lb _ hl hn hg hp) ?_
 rintro v7 w7⟨i,rfl,hi,c7⟩
 refine Og (ya U U) U (Oa U (E1 4 U (zj ?_)))
 refine zw U U ?_
 exact⟨by rw[←hi],c7⟩
theorem zsH(v:Va)(l:List Int)(c:Int)(w:Wl)(hl:yw w v l)(hn:l.length≤1048576) :
 zT TP 352 #[v,Ii c] w fun r w'=>∃i:Int,r=Ii i∧decide (0≤i)=decide (c∈l)∧w'=w:=by
 obtain⟨pv,cv,hval,hle⟩:=zN.val hl
 refine A2 Tryz.func352 U U ?_
 refine Sr (Oa U (E2 0 1 U (zf (zf ?_))))
 subst hval
 refine za (Om U (On zaA U (Om U (E4 0 1 7 8 U (zp ?_)))))
 refine zR [0,1,7,8] (fun m F wx=>wx=w∧∃j:Nat,m=l.length-j∧j≤l.length∧F=[(0,.slice pv l.length cv),(1,Ii c),(7,Ii l.length),(8,Ii j)]∧c∉l.take j) (m:=l.length-0) ⟨rfl,0,rfl,Nat.zero_le _,rfl,by simp⟩ ?_
 rintro m F wx⟨hwx,j,rfl,hj,rfl,hno⟩
 subst wx
 refine Sr (Og (zy U U) U (E5 0 1 7 8 9 U (zf ?_)))
 refine zP U (fun hT=>?_) (fun hF=>?_)
 ·refine zm ?_
  have hlt:j<l.length:=by have:=of_decide_eq_true hT;omega
  have hx:l[j]? = some l[j]:=by simp[hlt]
  generalize l[j]=x at hx
  obtain⟨b,off,cap,hv,hcell⟩:=yw.cell hl hx
  cases hv
  refine zf (zp (Sr (Om U (Oa U (E5 0 1 5 7 8 U (Sr (Om U (Om U (Om U ?_)))))))))
  refine Og (zi zaA sz3 U U _ U hlt) U ?_
  refine Ol ag3 U hcell (Og (zv U U) U (E6 0 1 5 7 8 16 U ?_))
  refine zP U (fun hT=>?_) (fun hF=>?_)
  ·have he:c=x:=of_decide_eq_true hT
   refine Sr (Om U (Oa U (E1 4 U (zj ?_))))
   repeat first|refine tr ?_|refine br ?_
   refine zw U U ?_
   have hm:c∈l:=he▸List.mem_of_getElem? hx
   exact⟨_,rfl,by simp[hm],rfl⟩
  have he:c≠x:=of_decide_eq_false hF
  refine zU (zl (za ?_))
  refine Og (zG U U (by omega)) U ?_
  refine Om U (N4 0 1 7 8 U ?_)
  refine⟨l.length-(j+1),by omega,rfl,j+1,rfl,by omega,rfl,?_⟩
  rw[List.take_add_one,hx]
  simp[hno,he]
 refine zH ?_
 repeat first|refine te ?_|refine bo rfl ?_
 refine zq _ ?_
 have he:l.length≤j:=by have:=of_decide_eq_false hF;omega
 refine Sr (Oa U (E1 4 U (zj ?_)))
 repeat first|refine tr ?_|refine br ?_
 refine zw U U ?_
 rw[Tl he]at hno
 exact⟨_,rfl,by simp[hno],rfl⟩
theorem zl9(v:Va)(l:List Int)(c:Int)(w:Wl)(hl:yw w v l)(hn:l.length≤1048576) :
 zT TP 330 #[v,Ii c] w fun r w'=>r=.bool (decide (c∈l))∧w'=w:=by
 refine A2 Tryz.func330 U U ?_
 refine Sr (Oa U (E2 0 1 U (Sr (Om U (Om U ?_)))))
 refine Oc zBB U U U (zsH v l c _ hl hn) ?_
 rintro v7 w7⟨i,rfl,hi,rfl⟩
 refine Og (ya U U) U (Oa U (E1 4 U (zj ?_)))
 refine zw U U ?_
 exact⟨by rw[←hi],rfl⟩
def zmN(s k f:Nat):Va:=.agg #[.func (.func s) #[] #[],Ii k,.func (.func f) #[] #[]]
def zio:List (Int×Va):=[(1,zmN 338 1 339),(2,zmN 338 2 340),(3,zmN 341 3 342),(4,zmN 343 4 344)]
theorem zi6(w:Wl):zT TP 320 #[] w fun r w'=>∃b,r=.map (some b)∧w.heap.size≤b∧yf (zaK .i64) w' b zio∧zk [] w w':=by
 refine zT.of_W (args:=[]) Tryz.func320 U U U U ?_
 refine Sr (Oa U (yB [] (F':=[]) U (Sr ?_)))
 refine Oq (zbQ (zaK .i64) U ?_)
 intro b1 w1 e1 n1 c1 k1
 refine Og (zK zo6 zd4 U (vs:=[_,_,_]) U (css:=[_,_,_]) ⟨U,U,U,trivial⟩ U U (cs:=[_,_,_]) U) U ?_
 refine Oq (yQ (κ:=zaK .i64) zgG (z0 zaI) U U U k1 ?_)
 intro wA nA cA kA
 refine Og (zK zo6 zd4 U (vs:=[_,_,_]) U (css:=[_,_,_]) ⟨U,U,U,trivial⟩ U U (cs:=[_,_,_]) U) U ?_
 refine Oq (yQ (κ:=zaK .i64) zgG (z0 zaI) U U U kA ?_)
 intro wB nB cB kB
 refine Og (zK zo6 zd4 U (vs:=[_,_,_]) U (css:=[_,_,_]) ⟨U,U,U,trivial⟩ U U (cs:=[_,_,_]) U) U ?_
 refine Oq (yQ (κ:=zaK .i64) zgG (z0 zaI) U U U kB ?_)
 intro wC nC cC kC
 refine Og (zK zo6 zd4 U (vs:=[_,_,_]) U (css:=[_,_,_]) ⟨U,U,U,trivial⟩ U U (cs:=[_,_,_]) U) U ?_
 refine Oq (yQ (κ:=zaK .i64) zgG (z0 zaI) U U U kC ?_)
 intro wD nD cD kD
 refine Om U (Oa U (E1 0 U (zj ?_)))
 refine zw U U ?_
 exact⟨b1,rfl,by omega,kD,c1.own ((((cA.transS cB).transS cC).transS cD)) (by intro x hx;simp at hx;omega)⟩
def zgN(c:Col):Bool:=decide (1≤c.t∧c.t≤4)
def zmp(c:Col):Bool:=if c.t=1∨c.t=2 then zdx c.s else if c.t=3 then decide (c.s=0) else if c.t=4 then decide (1≤c.s∧c.s≤200) else false
theorem zeC(c:Col):yZ c=(zgN c && yS c.n && zmp c):=by
 unfold yZ
 rw[show (if c.t=1∨c.t=2 then zdx c.s else if c.t=3 then decide (c.s=0) else if c.t=4 then decide (1≤c.s∧c.s≤200) else false)=zmp c from rfl]
 cases ht:zgN c with
 |true=>simp
 |false=>
  simp only[zgN,decide_eq_false_iff_not]at ht
  have:zmp c=false:=by
   unfold zmp
   rw[if_neg (by omega),if_neg (by omega),if_neg (by omega)]
  simp[this]
theorem zfT{c:Col}(h:zgN c=true):∃(s f:Nat) (k:Nat),zbh zio c.t=some (zmN s k f)∧(k:Int)=c.t∧zn TP s=true∧zn TP f=true∧(∀w,zT TP s #[Ii c.s] w fun r w'=>r=.bool (zmp c)∧w'=w) ∧
 (yZ c=true→∀(x:zX) w,x.Rng→zT TP f #[Ii c.s,x.v] w fun r w'=>r=.bool (!zbL c x)∧zk [] w w'):=by
 obtain⟨n,t,z,nl⟩:=c
 simp only[zgN,decide_eq_true_eq]at h
 rcases (show t=1∨t=2∨t=3∨t=4 by omega) with rfl|rfl|rfl|rfl
 ·refine⟨_,_,1,U,U,zxo,zBT,fun w=>zqw z w,fun hr x w hx=>zv3 z x w ?_ hx⟩
  rw[zeC]at hr;simp only[Bool.and_eq_true]at hr;exact hr.2
 ·refine⟨_,_,2,U,U,zxo,zzu,fun w=>zqw z w,fun hr x w hx=>zus z x w ?_ hx⟩
  rw[zeC]at hr;simp only[Bool.and_eq_true]at hr;exact hr.2
 ·exact⟨_,_,3,U,U,zAO,zA5,fun w=>zur z w,fun hr x w hx=>zuC z x w⟩
 exact⟨_,_,4,U,U,zBJ,zBy,fun w=>zuF z w,fun hr x w hx=>zwg z x w⟩
theorem ziz{c:Col}(h:zgN c=false):zbh zio c.t=none:=by
 simp only[zgN,decide_eq_false_iff_not]at h
 have h1:¬ (1:Int)=c.t:=by omega
 have h2:¬ (2:Int)=c.t:=by omega
 have h3:¬ (3:Int)=c.t:=by omega
 have h4:¬ (4:Int)=c.t:=by omega
 simp[zio,zbh,h1,h2,h3,h4]
theorem zog{c:Col}{g:Option Va}(hg:zbh zio c.t=g):∃va vb vc,g.getD (.agg #[.nilFunc,Ii 0,.nilFunc])=.agg #[va,vb,vc]∧va.oneCell'=true∧vb.oneCell'=true∧vc.oneCell'=true:=by
 cases hk:zgN c with
 |false=>rw[ziz hk]at hg;subst hg;exact⟨_,_,_,rfl,rfl,rfl,rfl⟩
 |true=>obtain⟨s,f,k,h,_⟩:=zfT hk;rw[h]at hg;subst hg;exact⟨_,_,_,rfl,rfl,rfl,rfl⟩
theorem zi2(c:Col)(w:Wl):zT TP 298 #[c.v] w fun r w'=>r=.bool (yZ c)∧zk [] w w':=by
 rw[zeC]
 refine A1 Tryz.func298 U U ?_
 refine Sr ?_
 refine Ob U U ?_
 intro b1 w1 e1 n1 c1 k1
 refine Oa U (E1 1 U ?_)
 obtain⟨g,hg⟩:∃g,zbh zio c.t=g:=⟨_,rfl⟩
 obtain⟨va,vb,vc,hv,hva,hvb,hvc⟩:=zog hg
 refine zQ (fun F wA=>∃b3,F=[(1,Pt b1),(3,Pt b3),(4,.bool g.isSome)]∧zO wA b3 412 [va,vb,vc]∧zk [] w1 wA) ?_ ?_
 ·have hC:=(zk.drew [] w1)
  refine zfm (fun wz=>zk [] w1 wz) (zbj.seq [1,2] (.two 0 (zbj.seq [] (.two 3 (zbj.seq [4,5,6,7,8,9] .done) 7 (zbj.seq [3,4,5,6,8,9] .done))) 7 (zbj.seq [0,3,4,5,6,8,9] .done))) mix (by kernel_rfl) hC ?_
  refine z5 U U (gn U) (fun _=>zd zfd U) U U ?_
  refine zd1 U U (gn U) (fun wz hz=>zg zjG U ((k1.chg0 hz).cell' U)) U U ?_
  refine zfA ?_ ?_
  ·refine zag U U (gn U) (yP zpu U U U U (zi6 _) ?_)
   rintro v6 w6⟨b6,rfl,h6,k6,c6⟩
   have hN6:=hC.size
   have hC:=hC.trans c6
   refine⟨.inl hC,?_⟩
   refine zfA ?_ ?_
   ·refine zag U U (gn U) (St.vl (zdw (κ:=zaK .i64) zgG (z0 zaI) zd4 U U k6 hg hv) U U ?_)
    refine⟨.inl hC,?_⟩
    refine z5 U U (gn U) (fun _=>zao U) U U ?_
    refine z5 U U (gn U) (fun _=>zL U U) U U ?_
    refine z5 U U (gn U) (fun _=>zL U U) U U ?_
    refine zag U U (gn U) (zF zd4 U U ?_)
    intro b3 w3 e3 n3 c3 k3
    have hN3:=hC.size
    have hC:=hC.trans c3
    have k6:=k6.chg0 c3
    refine⟨.inl hC,?_⟩
    refine zag U U (gn U) (zt zkY U U U U k3 (by simp) (by intro u hu;simp at hu;rcases hu with rfl|rfl|rfl;exact hva;exact hvb;exact hvc) ?_)
    intro wA nA cA kA
    have hC:=hC.own cA (by intro y hy;simp at hy;omega)
    refine⟨.inl hC,?_⟩
    refine z5 U U (gn U) (fun _=>yg U) U U ?_
    refine zc6 [1,3,4] (F':=[(1,_),(3,_),(4,_)]) U ?_
    exact⟨b3,U,kA,hC⟩
   refine zag U U (gn U) (zF zd4 U U ?_)
   intro b3 w3 e3 n3 c3 k3
   have hN3:=hC.size
   have hC:=hC.trans c3
   have k6:=k6.chg0 c3
   refine⟨.inl hC,?_⟩
   refine zag U U (gn U) (St.vl (zdw (κ:=zaK .i64) zgG (z0 zaI) zd4 U U k6 hg hv) U U ?_)
   refine⟨.inl hC,?_⟩
   refine z5 U U (gn U) (fun _=>zao U) U U ?_
   refine z5 U U (gn U) (fun _=>zL U U) U U ?_
   refine z5 U U (gn U) (fun _=>zL U U) U U ?_
   refine zag U U (gn U) (zt zkY U U U U k3 (by simp) (by intro u hu;simp at hu;rcases hu with rfl|rfl|rfl;exact hva;exact hvb;exact hvc) ?_)
   intro wA nA cA kA
   have hC:=hC.own cA (by intro y hy;simp at hy;omega)
   refine⟨.inl hC,?_⟩
   refine z5 U U (gn U) (fun _=>yg U) U U ?_
   refine zc6 [1,3,4] (F':=[(1,_),(3,_),(4,_)]) U ?_
   exact⟨b3,U,kA,hC⟩
  refine zag U U (gn U) (zF zd4 U U ?_)
  intro b3 w3 e3 n3 c3 k3
  have hN3:=hC.size
  have hC:=hC.trans c3
  refine⟨.inl hC,?_⟩
  refine zag U U (gn U) (yP zpu U U U U (zi6 _) ?_)
  rintro v6 w6⟨b6,rfl,h6,k6,c6⟩
  have hN6:=hC.size
  have hC:=hC.trans c6
  have k3:=k3.chg0 c6
  refine⟨.inl hC,?_⟩
  refine zag U U (gn U) (St.vl (zdw (κ:=zaK .i64) zgG (z0 zaI) zd4 U U k6 hg hv) U U ?_)
  refine⟨.inl hC,?_⟩
  refine z5 U U (gn U) (fun _=>zao U) U U ?_
  refine z5 U U (gn U) (fun _=>zL U U) U U ?_
  refine z5 U U (gn U) (fun _=>zL U U) U U ?_
  refine zag U U (gn U) (zt zkY U U U U k3 (by simp) (by intro u hu;simp at hu;rcases hu with rfl|rfl|rfl;exact hva;exact hvb;exact hvc) ?_)
  intro wA nA cA kA
  have hC:=hC.own cA (by intro y hy;simp at hy;omega)
  refine⟨.inl hC,?_⟩
  refine z5 U U (gn U) (fun _=>yg U) U U ?_
  refine zc6 [1,3,4] (F':=[(1,_),(3,_),(4,_)]) U ?_
  exact⟨b3,U,kA,hC⟩
 rintro F wA⟨b3,rfl,kA,hcA⟩
 have hk1:=k1.chg0 hcA
 refine zf ?_
 cases hk:zgN c with
 |false=>
  have hg':g=none:=hg.symm.trans (ziz hk)
  subst hg'
  refine za (Om U (Om U (Oz U U (Oz U U (Oz U U (Of U (Om U (Oz U U (Oz U U (Oz U U (Oz U U (Oz U U (Of U (Oa U (E1 2 U ?_)))))))))))))))
  refine zj ?_
  refine zw U U ?_
  exact⟨by simp,c1.trans hcA⟩
 |true=>
  obtain⟨s,f,k,hg',_,hbs,_,hs,_⟩:=zfT hk
  rw[hg']at hg
  subst hg
  cases hv
  cases hnm:yS c.n with
  |false=>
   refine za (Om U (Om U (Oy U U (zd zbJ U) (Oy U U (zg yH U (hk1.cell' U)) ?_))))
   refine Ow U U zwC U U U (zpz c.n _) ?_
   rintro v16 w16⟨h16,c16⟩
   rw[hnm]at h16
   subst h16
   refine Ot U (Om U (Oz U U (Oz U U (Oz U U (Oz U U (Oz U U (Of U (Oa U (E1 2 U (zj ?_))))))))))
   refine zw U U ?_
   exact⟨by simp,(c1.trans hcA).trans c16⟩
  |true=>
   refine za (Om U (Om U (Oy U U (zd zbJ U) (Oy U U (zg yH U (hk1.cell' U)) ?_))))
   refine Ow U U zwC U U U (zpz c.n _) ?_
   rintro v16 w16⟨h16,c16⟩
   rw[hnm]at h16
   subst h16
   refine Ot U (Om U (Oy U U (zd zux U) (Oy U U (zg zzG U ((kA.chg0 c16).cell' U)) (Oy U U (zd zbE U) (Oy U U (zg ag3 U ((hk1.chg0 c16).cell' U)) ?_)))))
   refine Ow U U hbs U U U (hs _) ?_
   rintro v23 w23⟨rfl,rfl⟩
   refine Ot U (Oa U (E1 2 U (zj ?_)))
   refine zw U U ?_
   exact⟨by simp,(c1.trans hcA).trans c16⟩
theorem zjJ{l:List Int}{n:Nat}(h:¬ (1≤l.length∧l.length≤4)):zd0 l n=false:=by simp only[zd0,df h,Bool.false_and]
theorem zhF{l:List Int}{n j:Nat}{x:Int}(hx:l[j]? = some x)(h:¬ (0≤x∧x<n)∨x∈l.take j):zd0 l n=false:=by
 cases hs:zd0 l n with
 |false=>rfl
 |true=>
  obtain⟨_,h2,h3⟩:=zbe hs
  rcases h with h|h
  ·exact absurd (h2 x (List.mem_of_getElem? hx)) h
  exfalso
  obtain⟨i,hi⟩:=List.mem_iff_getElem?.1 h
  have hil:=(Gs hi).1
  rw[List.length_take]at hil
  rw[List.getElem?_take_of_lt (by omega)]at hi
  obtain⟨hi',ei⟩:=Gs hi
  obtain⟨hj',ej⟩:=Gs hx
  exact List.pairwise_iff_getElem.1 h3 i j hi' hj' (by omega) (ei.trans ej.symm)
theorem zoi{l:List Int}{x:Int}(h:l.Nodup)(hx:x∉l):(l++[x]).Nodup:=by
 unfold List.Nodup at *
 rw[List.pairwise_append]
 exact⟨h,List.pairwise_singleton _ _,fun a ha b hb=>by simp at hb;subst hb;rintro rfl;exact hx ha⟩
theorem zty(c k u v:Va)(n:Nat)(l:List Int)(w:Wl)(hc:∃p d,c=.slice p n d)(ho:∀x∈[c,k,u],x.oneCell'=true)(hv:yw w v l)(hn:l.length≤1048576)(hn':n≤1048576) :
 zT TP 297 #[.agg #[c,k,u],v] w fun r w'=>r=.bool (zd0 l n)∧zk [] w w':=by
 obtain⟨pc,dc,rfl⟩:=hc
 obtain⟨pv,cv,rfl,hle⟩:=zN.val hv
 refine A2 Tryz.func297 U U ?_
 refine Sr ?_
 refine Ob U U ?_
 intro b2 w2 e2 n2 c2 k2
 refine Oa U (E2 1 2 U ?_)
 have hv2:=zN.chg0 hv c2
 refine zf (zf ?_)
 by_cases h1:1≤l.length
 ·by_cases h4:l.length≤4
  ·refine za (Om U (On zaA U ?_))
   refine Og (vf (zy U U) (df (by omega))) U ?_
   refine Om U (Oj U U (Oy U U (zV zaA U) ?_))
   refine Oy U U (vf (zS U U) (df (by omega))) ?_
   refine Of U (E3 1 2 14 U (zb U (zm (zf (Sr (Om U (On zaA U (Om U (E5 1 2 15 16 17 U (zp ?_))))))))))
   refine zR [1,2,15,16,17] (fun m F wx=>wx=w2∧∃j:Nat,m=l.length-j∧j≤l.length∧F=[(1,.slice pv l.length cv),(2,Pt b2),(15,.slice pv l.length cv),(16,Ii l.length),(17,Ii j)]∧(∀x∈l.take j,0≤x∧x<n)∧(l.take j).Nodup) (m:=l.length-0) ⟨rfl,0,rfl,Nat.zero_le _,rfl,by simp,by simp⟩ ?_
   rintro m F wx⟨hwx,j,rfl,hj,rfl,hall,hnd⟩
   subst wx
   refine Sr (Og (zy U U) U (E6 1 2 15 16 17 18 U (zf ?_)))
   refine zP U (fun hT=>?_) (fun hF=>?_)
   ·refine zm ?_
    have hlt:j<l.length:=by have:=of_decide_eq_true hT;omega
    have hx:l[j]? = some l[j]:=by simp[hlt]
    generalize l[j]=x at hx
    obtain⟨b,off,cap,hve,hcell⟩:=yw.cell hv2 hx
    cases hve
    refine zf (zp (Sr (Om U ?_)))
    refine Og (zi zaA sz3 U U _ U hlt) U ?_
    refine Ol ag3 U hcell (Oa U (Oa U (E7 1 2 5 6 15 16 17 U (zf ?_))))
    by_cases h0:x<0
    ·refine za (Om U ?_)
     refine Og (vt (zy U U) (dt (by omega))) U ?_
     refine Om U (Oz U U (Oz U U (Oz U U (Oz U U (Oz U U (Oz U U (Ot U (Om U (Oz U U (Oz U U (Oz U U (Oz U U (Oz U U (Ot U (E6 1 2 15 16 17 38 U ?_)))))))))))))))
     refine ze U (Sr (Oa U (E1 4 U (zj ?_))))
     repeat first|refine tr ?_|refine br ?_
     refine zw U U ?_
     exact⟨by rw[zhF hx (.inl (by omega))],c2⟩
    by_cases hxn:x<n
    ·refine za (Om U ?_)
     refine Og (vf (zy U U) (df (by omega))) U ?_
     refine Om U (Oj U U (Oy U U (zd zaO U) (Oy U U (zd yn U) (Oy U U (zg za2 U (k2.cell' U)) (Oy U U (zV zaJ U) ?_)))))
     refine Oy U U (vf (ya U U) (df (by omega))) ?_
     refine Of U (Om U (Oj U U (Oj U U ?_)))
     refine Oy U U (zbk zaA sz3 U U _ U (by omega)) ?_
     refine Oj U U ?_
     refine Ow U U zCq U U U (zl9 _ (l.take j) x w2 (zN.take zhz hv2 hj (by omega) (Nat.le_refl _)) (by rw[List.length_take];omega)) ?_
     rintro v37 w37⟨rfl,rfl⟩
     refine Of U (E6 1 2 15 16 17 38 U ?_)
     refine zP U (fun hM=>?_) (fun hM=>?_)
     ·have hm:x∈l.take j:=of_decide_eq_true hM
      refine Sr (Oa U (E1 4 U (zj ?_)))
      repeat first|refine tr ?_|refine br ?_
      refine zw U U ?_
      exact⟨by rw[zhF hx (.inr hm)],c2⟩
     have hm:x∉l.take j:=of_decide_eq_false hM
     refine zU (zl (za ?_))
     refine Og (zG U U (by omega)) U ?_
     refine Om U (N5 1 2 15 16 17 U ?_)
     refine⟨l.length-(j+1),by omega,rfl,j+1,rfl,by omega,rfl,?_,?_⟩
     ·intro y hy
      rw[List.take_add_one,hx]at hy
      rcases List.mem_append.1 hy with hy|hy
      ·exact hall y hy
      simp at hy;subst hy;omega
     rw[List.take_add_one,hx]
     exact zoi hnd hm
    refine za (Om U ?_)
    refine Og (vf (zy U U) (df (by omega))) U ?_
    refine Om U (Oj U U (Oy U U (zd zaO U) (Oy U U (zd yn U) (Oy U U (zg za2 U (k2.cell' U)) (Oy U U (zV zaJ U) ?_)))))
    refine Oy U U (vt (ya U U) (dt (by omega))) ?_
    refine Of U (Om U (Oz U U (Oz U U (Oz U U (Oz U U (Oz U U (Ot U (E6 1 2 15 16 17 38 U (ze U (Sr (Oa U (E1 4 U (zj ?_)))))))))))))
    repeat first|refine tr ?_|refine br ?_
    refine zw U U ?_
    exact⟨by rw[zhF hx (.inl (by omega))],c2⟩
   refine zH ?_
   repeat first|refine te ?_|refine bo rfl ?_
   refine zq _ ?_
   have he:l.length≤j:=by have:=of_decide_eq_false hF;omega
   refine Sr (Oa U (E1 4 U (zj ?_)))
   repeat first|refine tr ?_|refine br ?_
   refine zw U U ?_
   rw[Tl he]at hall hnd
   refine⟨?_,c2⟩
   congr 1
   simp only[zd0,Bool.and_eq_true,decide_eq_true_eq,List.all_eq_true,eq_comm (a:=true)]
   exact⟨⟨⟨h1,h4⟩,hall⟩,hnd⟩
  refine za (Om U (On zaA U ?_))
  refine Og (vf (zy U U) (df (by omega))) U ?_
  refine Om U (Oj U U (Oy U U (zV zaA U) ?_))
  refine Oy U U (vt (zS U U) (dt (by omega))) ?_
  refine Of U (E3 1 2 14 U (ze U (Sr (Oa U (E1 4 U (zj ?_))))))
  repeat first|refine tr ?_|refine br ?_
  refine zw U U ?_
  exact⟨by rw[zjJ (by omega)],c2⟩
 refine za (Om U (On zaA U ?_))
 refine Og (vt (zy U U) (dt (by omega))) U ?_
 refine Om U (Oz U U (Oz U U (Oz U U (Ot U (E3 1 2 14 U (ze U (Sr (Oa U (E1 4 U (zj ?_))))))))))
 repeat first|refine tr ?_|refine br ?_
 refine zw U U ?_
 exact⟨by rw[zjJ (by omega)],c2⟩
theorem zCa(o c:Col)(b:Nat)(w:Wl)(hb:zO w b 114 c.cs):zT TP 300 #[o.v,Pt b] w fun r w'=>r=.bool (decide (o.n=c.n))∧zk [] w w':=by
 refine A2 Tryz.func300 U U ?_
 refine Sr ?_
 refine Ob U U ?_
 intro b2 w2 e2 n2 c2 k2
 refine Oa U (E2 1 2 U (Sr (Od zbJ U (Ol yH U (k2.cell' U) (Od zbJ U (Ol yH U ((hb.chg0 c2).cell' U) (Og (zaL U U) U (Oa U (E1 3 U (zj ?_))))))))))
 refine zw U U ?_
 exact⟨U,c2⟩
theorem zwG(i:Int)(s:yL)(c k u:Va)(b:Nat)(w:Wl)(hb:zO w b 327 [c,k,u])(hc:ziu w c s.cols)(hi:0≤i∧i<s.cols.length):zT TP 301 #[Ii i,Pt b] w fun r w'=>r=.bool (ze8 s i).z∧zk [] w w':=by
 have hlt:i.toNat<s.cols.length:=by omega
 have hx:s.cols[i.toNat]? = some s.cols[i.toNat]:=by simp[hlt]
 unfold ze8
 rw[hx]
 dsimp only[Option.getD_some]
 generalize s.cols[i.toNat]=x at hx
 obtain⟨b',off,cap,rfl,hcell⟩:=zN.at zaG hc hx
 refine A2 Tryz.func301 U U ?_
 refine Sr (Oa U (E2 0 1 U (zf ?_)))
 obtain⟨i',rfl⟩:∃i':Nat,i=(i':Int):=⟨i.toNat,by omega⟩
 refine za (Od zaO U (Od yn U (Ol za2 U (hb.cell' U) (Om U ?_))))
 refine Og (zi zaJ y8 U U _ U (by omega)) U ?_
 refine Od zfn U ?_
 refine Ol ag4 U (hcell 3 _ U) ?_
 refine Oa U (E1 3 U (zj ?_))
 refine zw U U ?_
 exact⟨U,zk.refl _ _⟩
theorem zAS(v c k u:Va)(l:List Int)(n:Nat)(b:Nat)(w:Wl)(hb:zO w b 327 [c,k,u])(hc:∃p d,c=.slice p n d)(ho:∀x∈[c,k,u],x.oneCell'=true)(hv:yw w v l)(hn:l.length≤1048576)(hn':n≤1048576) :
 zT TP 304 #[v,Pt b] w fun r w'=>r=.bool (!zd0 l n)∧zk [] w w':=by
 refine A2 Tryz.func304 U U ?_
 refine Sr (Oa U (E2 0 1 U (Sr (Og (zh ztW ztY U U (zx.of_blk0 hb)) U (Om U ?_)))))
 refine Oc zte U U U (zty c k u v n l _ hc ho hv hn hn') ?_
 rintro v6 w6⟨rfl,c6⟩
 refine Og (zC U) U (Oa U (E1 3 U (zj ?_)))
 refine zw U U ?_
 exact⟨U,c6⟩
theorem zk8:∀(l:List Col),(l.map (·.n)).Nodup↔∀j x,l[j]? = some x→(l.take j).any (fun o=>decide (o.n=x.n))=false:=by
 intro l
 constructor
 ·intro h j x hx
  rw[List.any_eq_false]
  intro o ho
  obtain⟨i,hi⟩:=List.mem_iff_getElem?.1 ho
  have hil:=(Gs hi).1
  rw[List.length_take]at hil
  rw[List.getElem?_take_of_lt (by omega)]at hi
  obtain⟨hi',ei⟩:=Gs hi
  obtain⟨hj',ej⟩:=Gs hx
  have:=List.pairwise_iff_getElem.1 h i j (by simpa using hi') (by simpa using hj') (by omega)
  simp only[List.getElem_map,ei,ej]at this
  simpa using this
 intro h
 unfold List.Nodup
 rw[List.pairwise_iff_getElem]
 intro i j hi hj hij
 rw[List.length_map]at hi hj
 simp only[List.getElem_map]
 have:=List.any_eq_false.1 (h j l[j] (by simp[hj])) l[i] (List.mem_iff_getElem?.2 ⟨i,by rw[List.getElem?_take_of_lt hij];simp[hi]⟩)
 simpa using this
theorem zma(s:yL):yF s=(decide (1≤s.cols.length) && decide (s.cols.length≤8) && decide (s.uq.length≤3) && zd0 s.key s.cols.length && (s.cols.all yZ && decide ((s.cols.map (·.n)).Nodup)) && (!(s.key.any fun i=>(ze8 s i).z)) && !(s.uq.any fun l => !zd0 l s.cols.length)):=by
 rw[Bool.eq_iff_iff]
 simp only[yF,Bool.and_eq_true,decide_eq_true_eq,List.all_eq_true,Bool.not_eq_true',List.any_eq_false,Bool.not_eq_true,Bool.not_eq_false]
 constructor
 ·rintro ⟨⟨⟨⟨⟨⟨⟨h1,h2⟩,h3⟩,h4⟩,h5⟩,h6⟩,h7⟩,h8⟩
  exact⟨⟨⟨⟨⟨⟨h1,h2⟩,h3⟩,h4⟩,h5,h6⟩,h7⟩,h8⟩
 rintro⟨⟨⟨⟨⟨⟨h1,h2⟩,h3⟩,h4⟩,h5,h6⟩,h7⟩,h8⟩
 exact⟨⟨⟨⟨⟨⟨⟨h1,h2⟩,h3⟩,h4⟩,h5⟩,h6⟩,h7⟩,h8⟩
structure yL.Sm(s:yL):Prop where
 cols:s.cols.length≤1048576
 key:s.key.length≤1048576
 uq:s.uq.length≤1048576
 each:∀l∈s.uq,l.length≤1048576
set_option maxHeartbeats 1000000 in
theorem zm2(c k u:Va)(s:yL)(w:Wl)(hs:zaa w c k u s)(hm:s.Sm):zT TP 209 #[.agg #[c,k,u]] w fun r w'=>r=.bool (yF s)∧zk [] w w':=by
 obtain⟨m1,m2,m3,m4⟩:=hm
 have ho:=hs.one
 have hcv:∃p d,c=.slice p s.cols.length d:=by obtain⟨p,d,h,_⟩:=zN.val hs.cols;exact⟨p,d,h⟩
 obtain⟨pc,dc,rfl,hdc⟩:=zN.val hs.cols
 obtain⟨pk,dk,rfl,hdk⟩:=zN.val hs.key
 obtain⟨pu,du,rfl,hdu⟩:=zca.val hs.uq
 rw[zma]
 refine A1 Tryz.func209 U U ?_
 refine Sr ?_
 refine Ob U U ?_
 intro b1 w1 e1 n1 c1 k1
 refine Oa U (E1 1 U ?_)
 have hs1:=hs.chg0 c1
 refine zf (zf ?_)
 by_cases h1:1≤s.cols.length
 ·by_cases h8:s.cols.length≤8
  ·by_cases h3:s.uq.length≤3
   ·cases hset:zd0 s.key s.cols.length with
    |false=>
     refine za (Od zaO U (Od yn U (Ol za2 U (k1.cell' U) (On zaJ U ?_))))
     refine Og (vf (zy U U) (df (by omega))) U ?_
     refine Om U (Oy U U (zd zaO U) (Oy U U (zd yn U) (Oy U U (zg za2 U (k1.cell' U)) (Oy U U (zV zaJ U) ?_))))
     refine Oy U U (vf (zS U U) (df (by omega))) ?_
     refine Of U (Om U (Oy U U (zd zaO U) (Oy U U (zd zaq U) (Oy U U (zg zcD U (k1.cell' U)) (Oy U U (zV za6 U) ?_)))))
     refine Oy U U (vf (zS U U) (df (by omega))) ?_
     refine Of U (Om U (Oy U U (zh ztW ztY U U (zx.of_blk0 k1)) (Oy U U (zd zaO U) (Oy U U (zd zbi U) (Oy U U (zg zb9 U (k1.cell' U)) ?_)))))
     refine Ow U U zte U U U (zty _ _ _ _ s.cols.length s.key _ hcv ho hs1.key m2 m1) ?_
     rintro v30 w30⟨h30,c30⟩
     rw[hset]at h30
     subst h30
     refine Oy U U (zC U) (Of U (E2 1 32 U (ze U (Sr (Oa U (E1 2 U (zj ?_)))))))
     repeat first|refine tr ?_|refine br ?_
     refine zw U U ?_
     exact⟨by simp,c1.trans c30⟩
    |true=>
     refine za (Od zaO U (Od yn U (Ol za2 U (k1.cell' U) (On zaJ U ?_))))
     refine Og (vf (zy U U) (df (by omega))) U ?_
     refine Om U (Oy U U (zd zaO U) (Oy U U (zd yn U) (Oy U U (zg za2 U (k1.cell' U)) (Oy U U (zV zaJ U) ?_))))
     refine Oy U U (vf (zS U U) (df (by omega))) ?_
     refine Of U (Om U (Oy U U (zd zaO U) (Oy U U (zd zaq U) (Oy U U (zg zcD U (k1.cell' U)) (Oy U U (zV za6 U) ?_)))))
     refine Oy U U (vf (zS U U) (df (by omega))) ?_
     refine Of U (Om U (Oy U U (zh ztW ztY U U (zx.of_blk0 k1)) (Oy U U (zd zaO U) (Oy U U (zd zbi U) (Oy U U (zg zb9 U (k1.cell' U)) ?_)))))
     refine Ow U U zte U U U (zty _ _ _ _ s.cols.length s.key _ hcv ho hs1.key m2 m1) ?_
     rintro v30 w30⟨h30,c30⟩
     rw[hset]at h30
     subst h30
     refine Oy U U (zC U) (Of U (E2 1 32 U (zb U (zm (zf (zf ?_))))))
     have hk1:=k1.chg0 c30
     have hc30:zk [] w w30:=c1.trans c30
     refine za (Od zaO U (Od yn U (Ol za2 U (hk1.cell' U) (On zaJ U (Om U (E4 1 35 36 37 U (zp ?_)))))))
     refine zR [1,35,36,37] (fun m F wx=>∃j:Nat,m=s.cols.length-j∧j≤s.cols.length∧F=[(1,Pt b1),(35,.slice pc s.cols.length dc),(36,Ii s.cols.length),(37,Ii j)]∧zk [] w30 wx∧(∀x∈s.cols.take j,yZ x=true)∧(∀i x,i<j→s.cols[i]? = some x→(s.cols.take i).any (fun o=>decide (o.n=x.n))=false)) (m:=s.cols.length-0) ⟨0,rfl,Nat.zero_le _,rfl,zk.refl _ _,by simp,by intro i x h;omega⟩ ?_
     rintro m F wx⟨j,rfl,hj,rfl,hcx,hall,hnd⟩
     have hk1x:=hk1.chg0 hcx
     have hsx:=(hs.chg0 hc30).chg0 hcx
     refine Sr (Og (zy U U) U (E5 1 35 36 37 38 U (zf ?_)))
     refine zP U (fun hT=>?_) (fun hF=>?_)
     ·refine zm ?_
      have hlt:j<s.cols.length:=by have:=of_decide_eq_true hT;omega
      have hx:s.cols[j]? = some s.cols[j]:=by simp[hlt]
      generalize s.cols[j]=x at hx
      obtain⟨b,off,cap,hve,hcell⟩:=zN.at zaG hsx.cols hx
      cases hve
      refine zf (zp (Sr (Om U ?_)))
      refine Og (zi zaJ y8 U U _ U hlt) U ?_
      refine Og (zh zcy y8 U U hcell) U ?_
      refine Oq (zF zln U U ?_)
      intro b4 w4 e4 n4 c4 k4
      refine Oa U ?_
      refine Oq (zt y8 U U U U k4 (by simp[Col.cs]) (Col.one x) ?_)
      intro wA nA cA kA
      refine E6 1 3 4 35 36 37 U ?_
      have hcA:zk [] wx wA:=c4.own cA (by intro y hy;simp at hy;omega)
      refine zf ?_
      cases hrc:yZ x with
      |false=>
       refine za (Og (zh zcy y8 U U (zx.of_blk0 kA)) U ?_)
       refine Oc zpI U U U (zi2 x _) ?_
       rintro v43 w43⟨h43,c43⟩
       rw[hrc]at h43
       subst h43
       refine Og (zC U) U (Om U (Oz U U (Oz U U (Oz U U (Oz U U (Oz U U (Oz U U (Oz U U (Ot U (E5 1 35 36 37 53 U (ze U (Sr (Oa U (E1 2 U ?_))))))))))))))
       refine zj ?_
       repeat first|refine tr ?_|refine br ?_
       refine zw U U ?_
       have:s.cols.all yZ=false:=by
        cases ha:s.cols.all yZ with
        |false=>rfl
        |true=>have:=List.all_eq_true.1 ha x (List.mem_of_getElem? hx);rw[hrc]at this;cases this
       exact⟨by simp[this],((hc30.trans hcx).trans hcA).trans c43⟩
      |true=>
       refine za (Og (zh zcy y8 U U (zx.of_blk0 kA)) U ?_)
       refine Oc zpI U U U (zi2 x _) ?_
       rintro v43 w43⟨h43,c43⟩
       rw[hrc]at h43
       subst h43
       have hcx43:=(hcx.trans hcA).trans c43
       have hk43:=hk1.chg0 hcx43
       have hs43:=(hs.chg0 hc30).chg0 hcx43
       have kA43:=kA.chg0 c43
       refine Og (zC U) U (Om U (Oy U U (zd zaO U) (Oy U U (zd yn U) (Oy U U (zg za2 U (hk43.cell' U)) (Oj U U ?_)))))
       refine Oy U U (zbk zaJ y8 U U _ U (by omega)) ?_
       refine Oy U U (zai U U) ?_
       refine Ow U U zzL U U U (zx6 zaG _ (s.cols.take j) (fun o=>decide (o.n=x.n)) 300 [Pt b4] _ (zN.take zaG hs43.cols hj (by omega) (Nat.le_refl _)) (by rw[List.length_take];omega) zA2 (fun o _ w1 hw1=>zCa o x b4 w1 (kA43.chg0 hw1))) ?_
       rintro v52 w52⟨h52,c52⟩
       refine Of U (E5 1 35 36 37 53 U ?_)
       cases hany:(s.cols.take j).any (fun o=>decide (o.n=x.n)) with
       |true=>
        rw[hany]at h52
        subst h52
        refine ze U (Sr (Oa U (E1 2 U (zj ?_))))
        repeat first|refine tr ?_|refine br ?_
        refine zw U U ?_
        have:decide ((s.cols.map (·.n)).Nodup)=false:=df fun h=>by
         have:=(zk8 _).1 h j x hx
         rw[hany]at this;cases this
        exact⟨by rw[this];simp,(hc30.trans hcx43).trans c52⟩
       |false=>
        rw[hany]at h52
        subst h52
        refine zb U (zU (zl (za ?_)))
        refine Og (zG U U (by omega)) U ?_
        refine Om U (N4 1 35 36 37 U ?_)
        refine⟨s.cols.length-(j+1),by omega,j+1,rfl,by omega,rfl,hcx43.trans c52,?_,?_⟩
        ·intro y hy
         rw[List.take_add_one,hx]at hy
         rcases List.mem_append.1 hy with hy|hy
         ·exact hall y hy
         simp at hy;subst hy;exact hrc
        intro i y hi hy
        rcases Nat.lt_or_ge i j with hij|hij
        ·exact hnd i y hij hy
        have:i=j:=by omega
        subst this
        rw[hx]at hy
        cases hy
        exact hany
     refine zH ?_
     repeat first|refine te ?_|refine bo rfl ?_
     refine zq _ ?_
     have he:s.cols.length≤j:=by have:=of_decide_eq_false hF;omega
     have hcx':=hc30.trans hcx
     have hall':s.cols.all yZ=true:=by
      rw[Tl he]at hall
      exact List.all_eq_true.2 hall
     have hnd':decide ((s.cols.map (·.n)).Nodup)=true:=dt ((zk8 _).2 fun i x hx=>hnd i x (by have:=(Gs hx).1;omega) hx)
     refine Sr (Og (zai U U) U (Oa U (E2 1 5 U (zf ?_))))
     have hkey:=(zbe hset).2.1
     cases hnull:s.key.any fun i=>(ze8 s i).z with
     |true=>
      refine za (Od zaO U (Od zbi U (Ol zb9 U (hk1x.cell' U) (Om U ?_))))
      refine Oc zwl U U U (ztE _ s.key (fun i=>(ze8 s i).z) 301 [Pt b1] _ hsx.key m2 zwT (fun i hi w1 hw1=>zwG i s _ _ _ b1 w1 (hk1x.chg0 hw1) (zN.chg0 hsx.cols hw1) (hkey i hi))) ?_
      rintro v60 w60⟨h60,c60⟩
      rw[hnull]at h60
      subst h60
      refine Og (zC U) U (Om U (Oz U U (Oz U U (Oz U U (Oz U U (Oz U U (Oz U U (Of U (Oa U (E1 2 U (zj ?_)))))))))))
      repeat first|refine tr ?_|refine br ?_
      refine zw U U ?_
      exact⟨by simp,hcx'.trans c60⟩
     |false=>
      refine za (Od zaO U (Od zbi U (Ol zb9 U (hk1x.cell' U) (Om U ?_))))
      refine Oc zwl U U U (ztE _ s.key (fun i=>(ze8 s i).z) 301 [Pt b1] _ hsx.key m2 zwT (fun i hi w1 hw1=>zwG i s _ _ _ b1 w1 (hk1x.chg0 hw1) (zN.chg0 hsx.cols hw1) (hkey i hi))) ?_
      rintro v60 w60⟨h60,c60⟩
      rw[hnull]at h60
      subst h60
      refine Og (zC U) U (Om U (Oy U U (zd zaO U) (Oy U U (zd zaq U) (Oy U U (zg zcD U ((hk1x.chg0 c60).cell' U)) (Oy U U (zai U U) ?_)))))
      refine Ow U U zAv U U U (zuN _ s.uq (fun l => !zd0 l s.cols.length) 304 [Pt b1] _ (zca.chg0 hsx.uq c60) m3 zBr (fun l hl v w1 hw1 hv=>zAS v _ _ _ l s.cols.length b1 w1 ((hk1x.chg0 c60).chg0 hw1) hcv ho hv (m4 l hl) m1)) ?_
      rintro v67 w67⟨rfl,c67⟩
      refine Oy U U (zC U) (Ot U (Oa U (E1 2 U (zj ?_))))
      repeat first|refine tr ?_|refine br ?_
      refine zw U U ?_
      exact⟨by simp[h1,h8,h3,hall',hnd'],(hcx'.trans c60).trans c67⟩
   refine za (Od zaO U (Od yn U (Ol za2 U (k1.cell' U) (On zaJ U ?_))))
   refine Og (vf (zy U U) (df (by omega))) U ?_
   refine Om U (Oy U U (zd zaO U) (Oy U U (zd yn U) (Oy U U (zg za2 U (k1.cell' U)) (Oy U U (zV zaJ U) ?_))))
   refine Oy U U (vf (zS U U) (df (by omega))) ?_
   refine Of U (Om U (Oy U U (zd zaO U) (Oy U U (zd zaq U) (Oy U U (zg zcD U (k1.cell' U)) (Oy U U (zV za6 U) ?_)))))
   refine Oy U U (vt (zS U U) (dt (by omega))) ?_
   refine Of U (Om U (Oz U U (Oz U U (Oz U U (Oz U U (Oz U U (Oz U U (Ot U (E2 1 32 U (ze U (Sr (Oa U (E1 2 U (zj ?_))))))))))))))
   repeat first|refine tr ?_|refine br ?_
   refine zw U U ?_
   exact⟨by simp[h3],c1⟩
  refine za (Od zaO U (Od yn U (Ol za2 U (k1.cell' U) (On zaJ U ?_))))
  refine Og (vf (zy U U) (df (by omega))) U ?_
  refine Om U (Oy U U (zd zaO U) (Oy U U (zd yn U) (Oy U U (zg za2 U (k1.cell' U)) (Oy U U (zV zaJ U) ?_))))
  refine Oy U U (vt (zS U U) (dt (by omega))) ?_
  refine Of U (Om U (Oz U U (Oz U U (Oz U U (Oz U U (Oz U U (Ot U (Om U (Oz U U (Oz U U (Oz U U (Oz U U (Oz U U (Oz U U (Ot U ?_)))))))))))))))
  refine E2 1 32 U (ze U (Sr (Oa U (E1 2 U (zj ?_)))))
  repeat first|refine tr ?_|refine br ?_
  refine zw U U ?_
  exact⟨by simp[h8],c1⟩
 refine za (Od zaO U (Od yn U (Ol za2 U (k1.cell' U) (On zaJ U ?_))))
 refine Og (vt (zy U U) (dt (by omega))) U ?_
 refine Om U (Oz U U (Oz U U (Oz U U (Oz U U (Oz U U (Ot U (Om U (Oz U U (Oz U U (Oz U U (Oz U U (Oz U U (Ot U (Om U (Oz U U ?_)))))))))))))))
 refine Oz U U (Oz U U (Oz U U (Oz U U (Oz U U (Ot U (E2 1 32 U (ze U (Sr (Oa U (E1 2 U (zj ?_)))))))))))
 repeat first|refine tr ?_|refine br ?_
 refine zw U U ?_
 exact⟨by simp[h1],c1⟩
theorem zgk(c k u:Va)(s:yL)(w:Wl)(hs:zaa w c k u s)(hm:s.Sm):zT TP 158 #[.agg #[c,k,u]] w fun r w'=>r=Ii (if yF s then 0 else 2)∧zk [] w w':=by
 refine A1 Tryz.func158 U U ?_
 refine Sr ?_
 refine Ob U U ?_
 intro b1 w1 e1 n1 c1 k1
 refine Oa U (E1 1 U (zf (zf ?_)))
 cases hr:yF s with
 |true=>
  refine za (Og (zh zbw zbo U U (zx.of_blk0 k1)) U ?_)
  refine Og (zK zxi zwq U (vs:=[_]) U (css:=[_]) ⟨U,trivial⟩ U U (cs:=[_,_,_]) U) U ?_
  refine Oc zw6 U U U (zm2 c k u s _ (hs.chg0 c1) hm) ?_
  rintro v5 w5⟨h5,c5⟩
  rw[hr]at h5
  subst h5
  refine Og (zC U) U (E1 6 U (zb U (zm (Sr (Oa U (E1 2 U (zj ?_)))))))
  refine zw U U ?_
  exact⟨U,c1.trans c5⟩
 |false=>
  refine za (Og (zh zbw zbo U U (zx.of_blk0 k1)) U ?_)
  refine Og (zK zxi zwq U (vs:=[_]) U (css:=[_]) ⟨U,trivial⟩ U U (cs:=[_,_,_]) U) U ?_
  refine Oc zw6 U U U (zm2 c k u s _ (hs.chg0 c1) hm) ?_
  rintro v5 w5⟨h5,c5⟩
  rw[hr]at h5
  subst h5
  refine Og (zC U) U (E1 6 U (ze U (Sr (Oa U (E1 2 U (zj ?_))))))
  repeat first|refine tr ?_|refine br ?_
  refine zw U U ?_
  exact⟨U,c1.trans c5⟩
def hnd(t:Nat):Va:=.pointer (some ⟨5,t,none⟩)
def rty(t:Nat):Va:=.iface 255 (.agg #[hnd t])
def EOk(w:Wl):Prop:=w.cell? ⟨0,0,none⟩=some (rty 87)
theorem EOk.chg{S:List Nat}{w w':Wl}(h:EOk w)(hc:zk S w w')(hs:0∉S):EOk w':=by
 have hlt:0<w.heap.size:=by
  rcases Nat.eq_zero_or_pos w.heap.size with h0|h1
  ·unfold EOk World.cell? at h
   simp[h0]at h
  exact h1
 have:=hc.block 0 hlt hs
 unfold EOk World.cell? at *
 rw[this]
 exact h
theorem EOk.chg0{w w':Wl}(h:EOk w)(hc:zk [] w w'):EOk w':=h.chg hc (by simp)
theorem EOk.ne{w:Wl}(h:EOk w){b:Nat}{e:TypeId}{c:List Va}(hb:zO w b e c)(hc:c[0]? ≠ some (rty 87)):0≠b:=by
 rintro rfl
 exact hc (by rw[←hb.cell];exact h)
def zc9(n:Int):Va:=.iface 28 (Ii n)
def zbH(w:Wl)(v:Va)(n:Int):Prop:=
 v=zc9 n∨(∃b c,v=.iface 408 (Pt b)∧zO w b 410 [.string c,zc9 n])∨(∃k,v=.iface 169 (.agg #[.string k,zc9 n]))∨∃k,v=.iface 199 (.agg #[.string k,zc9 n])
theorem zbH.chg{S:List Nat}{w w':Wl}{v:Va}{n:Int}(h:zbH w v n)(hc:zk S w w')(hs:∀b c,zO w b 410 c→b∉S):zbH w' v n:=by
 rcases h with h|⟨b,c,h,hb⟩|h
 ·exact .inl h
 ·exact .inr (.inl ⟨b,c,h,hb.chg hc (hs b _ hb)⟩)
 exact .inr (.inr h)
theorem zbH.chg0{w w':Wl}{v:Va}{n:Int}(h:zbH w v n)(hc:zk [] w w'):zbH w' v n:=h.chg hc (by simp)
theorem zbH.notNil{w:Wl}{v:Va}{n:Int}(h:zbH w v n):zhh v=some false:=by
 rcases h with rfl|⟨b,c,rfl,_⟩|⟨k,rfl⟩|⟨k,rfl⟩<;>rfl
theorem zmY:zfJ TP 171=some Extern.ReflectliteType.typeOf:=by kernel_rfl
theorem zw9:zfJ TP 103=some (fun args=>Extern.ReflectliteValue.unpack (args.getD 0 (.tuple #[]))):=by kernel_rfl
theorem zCm : zfJ TP 104 = some (Extern.ReflectliteValue.methodAny (Extern.ReflectliteValue.valueError "reflectlite.Value.Type" 0) (fun t _ _ _ => Extern.ReflectliteType.toType t)) := by kernel_rfl
theorem zBj : zfJ TP 105 = some (Extern.ReflectliteValue.method (Extern.ReflectliteValue.valueError "reflectlite.Value.IsNil" 0) Extern.ReflectliteValue.isNil) := by kernel_rfl
theorem zAy : zfJ TP 172 = some (Extern.ReflectliteValue.method (Extern.ReflectliteValue.valueError "reflectlite.Value.Elem" 0) Extern.ReflectliteValue.elem) := by kernel_rfl
theorem zBn:zfJ TP 173=some Extern.ReflectliteValue.set:=by kernel_rfl
theorem zwJ:zfJ TP 381=some (Extern.ReflectliteType.abiMethod fun t=>do pure (.int .u8 (←Extern.Rtype.kind t))):=by kernel_rfl
theorem zCr:zfJ TP 395=some (Extern.ReflectliteType.method Extern.ReflectliteType.elem):=by kernel_rfl
theorem zCy : zfJ TP 396 = some (Extern.ReflectliteType.relation "Implements" Extern.ReflectliteType.implements_) := by kernel_rfl
theorem zpN : zfJ TP 393 = some (Extern.ReflectliteType.relation "AssignableTo" Extern.ReflectliteType.assignableTo) := by kernel_rfl
theorem zA4 : zfJ TP 394 = some (Extern.ReflectliteType.method fun t => do Extern.Rtype.noPackHeld "Comparable" t; pure (.bool (← typeInfo t).comparable)) := by kernel_rfl
theorem zmW(v:Va)(w:Wl):(Extern.ReflectliteType.typeOf #[.iface 28 v]).run TP w=.ok (rty 28) w:=by kernel_rfl
theorem zra(v:Va)(w:Wl):(Extern.ReflectliteType.typeOf #[.iface 408 v]).run TP w=.ok (rty 408) w:=by kernel_rfl
theorem zrg(v:Va)(w:Wl):(Extern.ReflectliteType.typeOf #[.iface 169 v]).run TP w=.ok (rty 169) w:=by kernel_rfl
theorem zqT(v:Va)(w:Wl):(Extern.ReflectliteType.typeOf #[.iface 199 v]).run TP w=.ok (rty 199) w:=by kernel_rfl
theorem zzB (w : World) : ((Extern.ReflectliteType.method fun t => do Extern.Rtype.noPackHeld "Comparable" t; pure (.bool (← typeInfo t).comparable)) #[.agg #[hnd 28]]).run TP w = .ok (.bool true) w := by kernel_rfl
theorem zsp (h : Value) : Mth TP 255 (.agg #[h]) "Kind" 381 h := fun w => by kernel_rfl
theorem zyw (h : Value) : Mth TP 255 (.agg #[h]) "Elem" 395 (.agg #[h]) := fun w => by kernel_rfl
theorem zx4 (h : Value) : Mth TP 255 (.agg #[h]) "Implements" 396 (.agg #[h]) := fun w => by kernel_rfl
theorem zpA (h : Value) : Mth TP 255 (.agg #[h]) "AssignableTo" 393 (.agg #[h]) := fun w => by kernel_rfl
theorem zAf (h : Value) : Mth TP 255 (.agg #[h]) "Comparable" 394 (.agg #[h]) := fun w => by kernel_rfl
theorem zuz(w:Wl):((Extern.ReflectliteType.abiMethod fun t=>do pure (.int .u8 (←Extern.Rtype.kind t))) #[hnd 140]).run TP w=.ok (.int .u8 22) w:=by kernel_rfl
theorem zvS(w:Wl):((Extern.ReflectliteType.abiMethod fun t=>do pure (.int .u8 (←Extern.Rtype.kind t))) #[hnd 28]).run TP w=.ok (.int .u8 2) w:=by kernel_rfl
theorem zuM(w:Wl):(Extern.ReflectliteType.method Extern.ReflectliteType.elem #[.agg #[hnd 140]]).run TP w=.ok (rty 28) w:=by kernel_rfl
theorem zy3 (w : World) : (Extern.ReflectliteType.relation "Implements" Extern.ReflectliteType.implements_ #[.agg #[hnd 28], rty 87]).run TP w = .ok (.bool true) w := by kernel_rfl
theorem zAZ (w : World) : (Extern.ReflectliteType.relation "AssignableTo" Extern.ReflectliteType.assignableTo #[.agg #[hnd 28], rty 28]).run TP w = .ok (.bool true) w := by kernel_rfl
theorem zyl (w : World) : (Extern.ReflectliteType.relation "AssignableTo" Extern.ReflectliteType.assignableTo #[.agg #[hnd 408], rty 28]).run TP w = .ok (.bool false) w := by kernel_rfl
theorem zyn (w : World) : (Extern.ReflectliteType.relation "AssignableTo" Extern.ReflectliteType.assignableTo #[.agg #[hnd 169], rty 28]).run TP w = .ok (.bool false) w := by kernel_rfl
theorem zxV (w : World) : (Extern.ReflectliteType.relation "AssignableTo" Extern.ReflectliteType.assignableTo #[.agg #[hnd 199], rty 28]).run TP w = .ok (.bool false) w := by kernel_rfl
def rv(t:Nat)(a:Addr)(f:Nat):Va:=.agg #[hnd t,.pointer (some a),.int .u64 f]
theorem zxO(t:Addr)(w:Wl):(Extern.ReflectliteValue.unpack (.iface 140 (.pointer (some t)))).run TP w=.ok (rv 140 ⟨w.heap.size,0,none⟩ 150) (w.alloc (.cells #[.pointer (some t)] 140)):=by kernel_rfl
theorem zyz(n:Int)(w:Wl):(Extern.ReflectliteValue.unpack (zc9 n)).run TP w=.ok (rv 28 ⟨w.heap.size,0,none⟩ 130) (w.alloc (.cells #[Ii n] 28)):=by kernel_rfl
theorem zyY (a : Addr) (w : World) : (Extern.ReflectliteValue.methodAny (Extern.ReflectliteValue.valueError "reflectlite.Value.Type" 0) (fun t _ _ _ => Extern.ReflectliteType.toType t) #[rv 140 a 150]).run TP w = .ok (rty 140) w := by kernel_rfl
theorem zDt(v:Va){h1 h2}:(#[v]:Array Va).getLit (n:=1) 0 h1 h2=v:=rfl
theorem zx5(v x:Va){h1 h2}:(#[v,x]:Array Va).getLit (n:=2) 0 h1 h2=v:=rfl
theorem zDs(v x:Va){h1 h2}:(#[v,x]:Array Va).getLit (n:=2) 1 h1 h2=x:=rfl
theorem zl2(a:Addr)(w:Wl):(Extern.ReflectliteValue.parts (rv 140 a 150)).run TP w=.ok (some (140,a,150)) w:=by kernel_rfl
theorem zvU(a p:Addr)(w:Wl)(ha:w.cell? a=some (.pointer (some p))) :
 (Extern.ReflectliteValue.method (Extern.ReflectliteValue.valueError "reflectlite.Value.IsNil" 0) Extern.ReflectliteValue.isNil #[rv 140 a 150]).run TP w = .ok (.bool false) w := by
 have hv:=zl2 a w
 generalize rv 140 a 150=v at hv ⊢
 conv=>lhs;arg 2;whnf
 simp only[zDt,Sem.run_bind',hv,Result.andThen]
 simp[Extern.ReflectliteValue.isNil,loadVar,isAgg,underlying,ha,Result.andThen]
theorem ztL(w:Wl):(Extern.Rtype.elem? 140).run TP w=.ok (some 28) w:=by kernel_rfl
theorem zDq(p:Addr)(w:Wl):(Extern.ReflectliteValue.mk 28 p Extern.ReflectliteValue.flagAddr).run TP w=.ok (rv 28 p 386) w:=by kernel_rfl
theorem zu1(a p:Addr)(w:Wl)(ha:w.cell? a=some (.pointer (some p))) :
 (Extern.ReflectliteValue.method (Extern.ReflectliteValue.valueError "reflectlite.Value.Elem" 0) Extern.ReflectliteValue.elem #[rv 140 a 150]).run TP w = .ok (rv 28 p 386) w := by
 have hv:=zl2 a w
 generalize rv 140 a 150=v at hv ⊢
 conv=>lhs;arg 2;whnf
 simp only[zDt,Sem.run_bind',hv,Result.andThen]
 simp[Extern.ReflectliteValue.elem,loadVar,isAgg,underlying,ha,Result.andThen,ztL,zDq]
theorem zsm(a:Addr)(w:Wl):(Extern.ReflectliteValue.parts (rv 28 a 386)).run TP w=.ok (some (28,a,386)) w:=by kernel_rfl
theorem zsZ(a:Addr)(w:Wl):(Extern.ReflectliteValue.parts (rv 28 a 130)).run TP w=.ok (some (28,a,130)) w:=by kernel_rfl
theorem ztl(w:Wl):(Extern.Rtype.directlyAssignable 28 28).run TP w=.ok true w:=by kernel_rfl
theorem zBm(ta b:Addr)(n:Int)(old:Va)(w:Wl)(hb:w.cell? b=some (Ii n))(ht:w.cell? ta=some old)(hf:w.frozen? ta=false) :
 (Extern.ReflectliteValue.set #[rv 28 ta 386,rv 28 b 130]).run TP w=.ok (.tuple #[]) (w.setCell ta (Ii n)):=by
 have h1:=zsm ta w
 have h2:=zsZ b w
 generalize rv 28 ta 386=v at h1 ⊢
 generalize rv 28 b 130=x at h2 ⊢
 conv=>lhs;arg 2;whnf
 simp only[zx5,zDs,Sem.run_bind',Sem.run_bind,h1,h2,Result.andThen]
 simp[Extern.ReflectliteValue.flagAddr,loadVar,isAgg,underlying,hb,Result.andThen,ztl,storeVar,Value.cells,storeCells,Addr.add]
 rw[run_store TP w ta _ _ (by rfl)]
 simp[ht,hf]
theorem zO.setCell{w:Wl}{b:Nat}{e:TypeId}{x:Va}(h:zO w b e [x])(v:Va):zO (w.setCell ⟨b,0,none⟩ v) b e [v]∧zk [b] w (w.setCell ⟨b,0,none⟩ v):=by
 have hh:w.heap[b]? = some (.cells #[x] e (0,0)):=h
 refine⟨?_,rfl,rfl,rfl,by simp[World.setCell],fun k _ hn=>?_⟩
 ·unfold zO World.setCell
  simp only[Array.getElem?_modify,if_true,hh]
  rfl
 unfold World.setCell
 simp only[List.mem_singleton]at hn
 simp only[Array.getElem?_modify]
 rw[if_neg (fun e=>hn e.symm)]
theorem zsF(b:Nat)(c:By)(n:Int)(w:Wl)(hb:zO w b 410 [.string c,zc9 n]):zT TP 404 #[Pt b] w fun r w'=>r=zc9 n∧w'=w:=by
 refine A1 Tryz.func404 U U ?_
 refine Sr (Oa U (E1 0 U (Sr (Om U (Og (zB U) U (Od zvh U (Ol zyG U (hb.cell' U) (Oa U (E1 2 U (zj ?_))))))))))
 refine zw U U ?_
 exact⟨U,U⟩
theorem zsc(k:By)(n:Int)(w:Wl):zT TP 386 #[.agg #[.string k,zc9 n]] w fun r w'=>r=zc9 n∧zk [] w w':=by
 refine A1 Tryz.func386 U U ?_
 refine Sr ?_
 refine Ob U U ?_
 intro b1 w1 e1 n1 c1 k1
 refine Oa U (E1 1 U (Sr (Od zvK U (Ol zyG U (k1.cell' U) (Oa U (E1 2 U (zj ?_)))))))
 refine zw U U ?_
 exact⟨U,c1⟩
theorem zt2(k:By)(n:Int)(w:Wl):zT TP 391 #[.agg #[.string k,zc9 n]] w fun r w'=>r=zc9 n∧zk [] w w':=by
 refine A1 Tryz.func391 U U ?_
 refine Sr ?_
 refine Ob U U ?_
 intro b1 w1 e1 n1 c1 k1
 refine Oa U (E1 1 U (Sr (Od zwa U (Ol zyG U (k1.cell' U) (Oa U (E1 2 U (zj ?_)))))))
 refine zw U U ?_
 exact⟨U,c1⟩
theorem zs1 (v : Value) : Mth TP 408 v "Unwrap" 404 v := fun w => by kernel_rfl
theorem ztR (v : Value) : Mth TP 169 v "Unwrap" 386 v := fun w => by kernel_rfl
theorem ztd (v : Value) : Mth TP 199 v "Unwrap" 391 v := fun w => by kernel_rfl
theorem zDh(v:Va)(n:Int)(bt:Nat)(old:Va)(a:Addr)(w:Wl)(hv:zbH w v n)(ht:zO w bt 28 [old])(ha:w.cell? a=some (Pt bt))(hab:a.block≠bt) :
 zT TP 106 #[v,.iface 140 (Pt bt),rv 140 a 150,rty 28] w fun r w'=>r=.bool true∧zO w' bt 28 [Ii n]∧zk [bt] w w':=by
 refine A4 Tryz.func106 U U ?_
 refine Sr ?_
 refine Ob U U ?_
 intro b6 w6 e6 n6 c6 k6
 refine Oa U (E4 0 1 3 6 U ?_)
 have k6:zO w6 b6 189 [hnd 140,.pointer (some a),.int .u64 150]:=k6
 refine zp ?_
 refine zR [0,1,3,6] (fun m F wx=>∃u:Va,(zbH wx u n∧(m=0→u=zc9 n))∧F=[(0,u),(1,.iface 140 (Pt bt)),(3,rty 28),(6,Pt b6)]∧zk [] w6 wx) (m:=1) ⟨v,⟨hv.chg0 c6,fun h=>by omega⟩,rfl,zk.refl _ _⟩ ?_
 rintro m F wx⟨u,⟨hu,hm⟩,rfl,hcx⟩
 have hk6:=k6.chg0 hcx
 have htx:=(ht.chg0 c6).chg0 hcx
 have hax:=hcx.cell (c6.cell ha)
 have hbt:=ht.lt
 refine zp (zf (zf ?_))
 rcases hu with rfl|hu
 ·refine za (Om U ?_)
  refine Oq (zc1 (P:=TP) (n:=Tryz.f106.ntmps) zmY U U (zmW _ _) U ?_)
  skip
  refine Om U ?_
  refine Oq (zbU (zpA _) zpN U U (zAZ _) U ?_)
  skip
  refine E5 0 1 3 6 19 U (ze U (zf ?_))
  have hset:=zBm ⟨bt,0,none⟩ ⟨wx.heap.size,0,none⟩ n old (wx.alloc (.cells #[Ii n] 28)) ((zO.new wx 28 [Ii n]).cell' rfl) ((htx.chg0 (zk.alloc [] _ _)).cell' rfl) ((htx.chg0 (zk.alloc [] _ _)).free _ rfl)
  obtain⟨hb2,hc2⟩:=(htx.chg0 (zk.alloc [] wx (.cells #[Ii n] 28))).setCell (Ii n)
  have hE : (Extern.ReflectliteValue.method (Extern.ReflectliteValue.valueError "reflectlite.Value.Elem" 0) Extern.ReflectliteValue.elem ([Value.agg [hnd 140, .pointer (some a), .int .u64 150].toArray].toArray)).run TP wx = .ok (rv 28 ⟨bt, 0, none⟩ 386) wx := zu1 a ⟨bt, 0, none⟩ wx hax
  refine za (Og (zh zpM zmV U U (zx.of_blk0 hk6)) U ?_)
  refine Oq (zc1 (P:=TP) (n:=Tryz.f106.ntmps) zAy U U hE U ?_)
  skip
  refine Om U ?_
  refine Oq (zc1 (P:=TP) (n:=Tryz.f106.ntmps) zw9 U U (zyz n wx) U ?_)
  skip
  refine Oq (zc1 (P:=TP) (n:=Tryz.f106.ntmps) zBn U U hset U ?_)
  skip
  refine yB [] (F':=[]) U (Sr (Oa U (E1 8 U (zj ?_))))
  repeat first|refine tr ?_|refine br ?_
  refine zw U U ?_
  exact⟨U,hb2,((((c6.trans hcx).trans (zk.alloc [] _ _)).any (S:=[bt])).transS hc2)⟩
 have hm1:m≠0:=fun h=>by
  have:=hm h
  subst this
  rcases hu with⟨b,c,h,_⟩|⟨k,h⟩|⟨k,h⟩<;>cases h
 rcases hu with⟨b,c,rfl,hb⟩|⟨k,rfl⟩|⟨k,rfl⟩
 ·refine za (Om U ?_)
  refine Oq (zc1 (P:=TP) (n:=Tryz.f106.ntmps) zmY U U (zra _ _) U ?_)
  skip
  refine Om U ?_
  refine Oq (zbU (zpA _) zpN U U (zyl _) U ?_)
  skip
  refine E5 0 1 3 6 19 U (zb U (zm (zf (Sr (Om U (Og (zb1 zn1 zs9 U) U (Om U (Oe U U (Oe U U (Oa U (Oa U (E6 0 1 3 6 9 10 U (Sr ?_)))))))))))))
  refine Om U (Om U (Oz U U (Oz U U (Oz U U (Of U (E5 0 1 3 6 35 U (zb U (zm (Sr (Om U (E4 1 3 6 36 U (zp (Sr ?_)))))))))))))
  refine Og (zb1 ziA zjW U) U (Oe U U (Oe U U (E6 1 3 6 36 38 39 U (ze U (Sr (Oa U (E4 1 3 6 11 U (Sr (Om U ?_)))))))))
  refine Oq (zeb (zs1 _) zw1 U U U (zsF b c n _ hb) ?_)
  rintro v41 w41⟨rfl,rfl⟩
  refine Oa U (E4 0 1 3 6 U (Sr (Om U (Og (zbV zcu U U) U (E5 0 1 3 6 43 U (zb U (zU (zl (zl ?_)))))))))
  exact⟨0,by omega,_,⟨.inl U,fun _=>rfl⟩,rfl,hcx⟩
 ·refine za (Om U ?_)
  refine Oq (zc1 (P:=TP) (n:=Tryz.f106.ntmps) zmY U U (zrg _ _) U ?_)
  skip
  refine Om U ?_
  refine Oq (zbU (zpA _) zpN U U (zyn _) U ?_)
  skip
  refine E5 0 1 3 6 19 U (zb U (zm (zf (Sr (Om U (Og (zb1 zmH zs9 U) U (Om U (Oe U U (Oe U U (Oa U (Oa U (E6 0 1 3 6 9 10 U (Sr ?_)))))))))))))
  refine Om U (Om U (Oz U U (Oz U U (Oz U U (Of U (E5 0 1 3 6 35 U (zb U (zm (Sr (Om U (E4 1 3 6 36 U (zp (Sr ?_)))))))))))))
  refine Og (zb1 ziH zjW U) U (Oe U U (Oe U U (E6 1 3 6 36 38 39 U (ze U (Sr (Oa U (E4 1 3 6 11 U (Sr (Om U ?_)))))))))
  refine Oq (zeb (ztR _) zxk U U U (zsc k n _) ?_)
  rintro v41 w41⟨rfl,c41⟩
  refine Oa U (E4 0 1 3 6 U (Sr (Om U (Og (zbV zcu U U) U (E5 0 1 3 6 43 U (zb U (zU (zl (zl ?_)))))))))
  exact⟨0,by omega,_,⟨.inl U,fun _=>rfl⟩,rfl,hcx.trans c41⟩
 refine za (Om U ?_)
 refine Oq (zc1 (P:=TP) (n:=Tryz.f106.ntmps) zmY U U (zqT _ _) U ?_)
 skip
 refine Om U ?_
 refine Oq (zbU (zpA _) zpN U U (zxV _) U ?_)
 skip
 refine E5 0 1 3 6 19 U (zb U (zm (zf (Sr (Om U (Og (zb1 znL zs9 U) U (Om U (Oe U U (Oe U U (Oa U (Oa U (E6 0 1 3 6 9 10 U (Sr ?_)))))))))))))
 refine Om U (Om U (Oz U U (Oz U U (Oz U U (Of U (E5 0 1 3 6 35 U (zb U (zm (Sr (Om U (E4 1 3 6 36 U (zp (Sr ?_)))))))))))))
 refine Og (zb1 ziN zjW U) U (Oe U U (Oe U U (E6 1 3 6 36 38 39 U (ze U (Sr (Oa U (E4 1 3 6 11 U (Sr (Om U ?_)))))))))
 refine Oq (zeb (ztd _) zxg U U U (zt2 k n _) ?_)
 rintro v41 w41⟨rfl,c41⟩
 refine Oa U (E4 0 1 3 6 U (Sr (Om U (Og (zbV zcu U U) U (E5 0 1 3 6 43 U (zb U (zU (zl (zl ?_)))))))))
 exact⟨0,by omega,_,⟨.inl U,fun _=>rfl⟩,rfl,hcx.trans c41⟩
end Go.Wk
