/- joined texts -/
import Derived.Test.YtkfpmjjcogigfaaGreatDoorL6
set_option linter.all false
namespace Go.Wk
open Go.Proofs
set_option maxRecDepth 10000
section
variable {α:Type} {f:α→By}
theorem znB:∀{l m:List α},(l.Pairwise fun a b=>blt (f a) (f b)=true)→(m.Pairwise fun a b=>blt (f a) (f b)=true)→(∀x,x∈l↔x∈m)→l=m
 |[],[],_,_,_=>rfl
 |[],y::m,_,_,h=>by have:=(h y).2 (by simp);cases this
 |x::l,[],_,_,h=>by have:=(h x).1 (by simp);cases this
 |x::l,y::m,hl,hm,h=>by
  have hl':=List.pairwise_cons.1 hl
  have hm':=List.pairwise_cons.1 hm
  have hxy:x=y:=by
   rcases Mc ((h x).1 (by simp)) with e|e
   ·exact e
   rcases Mc ((h y).2 (by simp)) with e2|e2
   ·exact e2.symm
   have h1:=hm'.1 x e
   rw[zdy (hl'.1 y e2)]at h1
   cases h1
  subst hxy
  rw[znB hl'.2 hm'.2 fun z=>?_]
  constructor
  ·intro hz
   rcases Mc ((h z).1 (by simp[hz])) with e|e
   ·subst e
    have:=hl'.1 z hz
    rw[zaz]at this;cases this
   exact e
  intro hz
  rcases Mc ((h z).2 (by simp[hz])) with e|e
  ·subst e
   have:=hm'.1 z hz
   rw[zaz]at this;cases this
  exact e
theorem zoO{l:List α}(h:l.Pairwise fun a b=>blt (f a) (f b)=true):(l.map f).Nodup:=by
 rw[List.Nodup,List.pairwise_map]
 exact h.imp fun h=>ziw h
theorem zg7:∀{l:List α},(l.map f).Nodup→∀{a b:α},a∈l→b∈l→f a=f b→a=b
 |x::l,h,a,b,ha,hb,e=>by
  rw[List.map_cons,List.nodup_cons]at h
  rcases Mc ha with h1|h1<;>rcases Mc hb with h2|h2
  ·rw[h1,h2]
  ·exact absurd (List.mem_map.2 ⟨b,h2,by rw[←e,h1]⟩) h.1
  ·exact absurd (List.mem_map.2 ⟨a,h1,by rw[e,h2]⟩) h.1
  exact zg7 h.2 h1 h2 e
end
structure Tb where
 n:By
 s:yK
 r:LV
deriving DecidableEq
abbrev Cat:=List Tb
def ze8(c:Cat):Prop:=c.Pairwise fun a b=>blt a.n b.n=true
def atC(c:Cat)(n:By):Option Tb:=c.find? fun t=>decide (t.n=n)
def zb4(c:Cat)(n:By):Cat:=c.filter fun t=>decide (t.n≠n)
def zrd(c:Cat)(t:Tb):Cat:=c.takeWhile (fun x=>blt x.n t.n)++t::c.dropWhile (fun x=>blt x.n t.n)
def zcy(c:Cat)(t:Tb):Cat:=zrd (zb4 c t.n) t
structure za0(c:Cat):Prop where
 srt:ze8 c
 tab:∀t∈c,yW t.s t.r
 le:c.length≤12
section
variable {c d:Cat} {n:By} {t u:Tb}
theorem ze8.uniq(h:ze8 c)(ht:t∈c)(hu:u∈c)(e:t.n=u.n):t=u:=zg7 (f:=Tb.n) (zoO h) ht hu e
theorem zdQ(h:atC c n=some t):t∈c∧t.n=n:=⟨List.mem_of_find?_eq_some h,by simpa using List.find?_some (p:=fun x:Tb=>decide (x.n=n)) h⟩
theorem zlI(h:atC c n=none):∀t∈c,t.n≠n:=fun t ht e=>by
 have:=List.find?_eq_none.1 h t ht
 simp[e]at this
theorem ztk(h:ze8 c)(ht:t∈c):atC c t.n=some t:=by
 cases ha:atC c t.n with
 |none=>exact absurd rfl (zlI ha t ht)
 |some u=>
  obtain⟨h1,h2⟩:=zdQ ha
  rw[h.uniq h1 ht h2]
theorem zgz:t∈zb4 c n↔t∈c∧t.n≠n:=by simp[zb4]
theorem zt2:u∈zrd c t↔u=t∨u∈c:=by
 have e:=List.takeWhile_append_dropWhile (p:=fun x:Tb=>blt x.n t.n) (l:=c)
 unfold zrd
 constructor
 ·intro h
  rcases List.mem_append.1 h with h|h
  ·exact .inr (e▸List.mem_append_left _ h)
  rcases Mc h with h|h
  ·exact .inl h
  exact .inr (e▸List.mem_append_right _ h)
 rintro (rfl|h)
 ·simp
 rw[←e]at h
 rcases List.mem_append.1 h with h|h
 ·exact List.mem_append_left _ h
 exact List.mem_append_right _ (List.mem_cons_of_mem _ h)
theorem zdw:u∈zcy c t↔u=t∨(u∈c∧u.n≠t.n):=by rw[zcy,zt2,zgz]
theorem zjH:(zrd c t).length=c.length+1:=by
 have:=congrArg List.length (List.takeWhile_append_dropWhile (p:=fun x:Tb=>blt x.n t.n) (l:=c))
 unfold zrd
 simp only[Sa,List.length_cons] at *
 omega
theorem ze8.less(h:ze8 c)(n:By):ze8 (zb4 c n):=h.sublist List.filter_sublist
theorem ze8.with(h:ze8 c)(t:Tb):ze8 (zcy c t):=zlK Tb.n t _ (h.less t.n) fun a ha=>(zgz.1 ha).2
theorem zln(h:ze8 c)(ht:t∈c):(zb4 c t.n).length+1=c.length:=by
 induction c with
 |nil=>cases ht
 |cons x c ih=>
  obtain⟨h1,h2⟩:=List.pairwise_cons.1 h
  have hfil:∀l:Cat,(∀y∈l,y.n≠t.n)→zb4 l t.n=l:=fun l hl=>List.filter_eq_self.2 fun y hy=>by simpa using hl y hy
  rcases Mc ht with rfl|ht
  ·have:zb4 (t::c) t.n=zb4 c t.n:=by simp[zb4]
   rw[this,hfil c fun y hy e=>by have:=h1 y hy;rw[e,zaz]at this;cases this]
   rfl
  have hx:x.n≠t.n:=ziw (h1 t ht)
  have:zb4 (x::c) t.n=x::zb4 c t.n:=by simp[zb4,hx]
  rw[this,List.length_cons,List.length_cons,ih h2 ht]
theorem zj0(c:Cat)(n:By):(zb4 c n).length≤c.length:=List.length_filter_le _ _
theorem za0.less(h:za0 c)(n:By):za0 (zb4 c n):=⟨h.srt.less n,fun t ht=>h.tab t (zgz.1 ht).1,Nat.le_trans (zj0 c n) h.le⟩
theorem za0.new(h:za0 c)(ht:yW t.s t.r)(hl:c.length<12):za0 (zcy c t):=
 ⟨h.srt.with t,fun u hu=>by
  rcases zdw.1 hu with rfl|⟨h1,_⟩
  ·exact ht
  ·exact h.tab u h1,by
  have:=zj0 c t.n
  rw[zcy,zjH];omega⟩
theorem za0.set(h:za0 c)(hu:atC c t.n=some u)(ht:yW t.s t.r):za0 (zcy c t):=
 ⟨h.srt.with t,fun v hv=>by
  rcases zdw.1 hv with rfl|⟨h1,_⟩
  ·exact ht
  ·exact h.tab v h1,by
  obtain⟨h1,h2⟩:=zdQ hu
  have:=zln h.srt h1
  have:=h.le
  rw[h2] at *
  rw[zcy,zjH];omega⟩
theorem za0.nil:za0 []:=⟨List.Pairwise.nil,by simp,by simp⟩
theorem ze8.ext(h:ze8 c)(k:ze8 d)(e:∀x,x∈c↔x∈d):c=d:=znB (f:=Tb.n) h k e
theorem zrh(h:ze8 c)(ht:t∈c):zcy c t=c:=by
 refine(h.with t).ext h fun x=>?_
 rw[zdw]
 constructor
 ·rintro (rfl|h)<;>simp_all
 intro hx
 by_cases e:x.n=t.n
 ·exact .inl (h.uniq hx ht e)
 exact .inr ⟨hx,e⟩
end
structure EvT where
 k:Int
 t:By
 s:yK
 o:List zX
 w:List zX
 m:List (By×By)
deriving DecidableEq
def zfW:yK:=⟨[],[],[]⟩
def zaI(x:EvT):EvT:=⟨x.k,if x.k=6 then e0 else x.t,if x.k=4 then x.s else zfW,if x.k=2∨x.k=3 then x.o else [],if x.k=1∨x.k=2 then x.w else [],if x.k=6 then x.m else []⟩
def zex(l:List zX):Bool:=decide (1≤l.length∧l.length≤8)&&l.all fun x=>decide (za2 x=0)
def zdk(m:List (By×By)):Bool:=decide (1≤m.length∧m.length≤4)&&m.all fun p=>yT p.1&&yT p.2
def zgZ(x:EvT):Bool:=
 if x.k=1 then yT x.t&&zex x.w else if x.k=2 then yT x.t&&zex x.o&&zex x.w else if x.k=3 then yT x.t&&zex x.o
 else if x.k=4 then yT x.t&&yJ x.s else if x.k=5 then yT x.t else if x.k=6 then zdk x.m else false
def z6(x:EvT):Bool:=decide (1≤x.k∧x.k≤6)&&decide (x=zaI x)&&zgZ x&&(!decide (x.k=2)||decide (x.o.length=x.w.length))
def zcK(c q:Cat)(m:List (By×By)):Cat:=m.foldl (fun q p=>match atC c p.1 with|some t=>zcy q ⟨p.2,t.s,t.r⟩|none=>q) q
def za1(c:Cat)(m:List (By×By)):Cat:=c.filter fun t => !(m.any fun p=>decide (p.1=t.n))
def zfC(m:List (By×By)):Bool := !decide ((m.map Prod.fst).Nodup)
def zeY(c q:Cat):List (By×By)→Bool
 |[]=>false
 |p::m=>(atC q p.2).isSome||zeY c (zcK c q [p]) m
def zeh(c:Cat)(m:List (By×By)):Int:=
 if zfC m then 2 else if m.any (fun p=>(atC c p.1).isNone) then 5 else if zeY c (za1 c m) m then 220 else 0
def zh0(c:Cat)(m:List (By×By)):Cat:=zcK c (za1 c m) m
def zft(t:Tb)(l:List zX):Bool:=decide (zaf t.s l=0)&&decide (zc7 t.s t.r (z9 t.s l)=some l)
def zcR(t:Tb)(x:EvT):Int:=if x.k=1 then zeJ t.s t.r x.w else if zft t x.o=false then 230 else if x.k=3 then 0 else zdn t.s t.r (z9 t.s x.o) x.w
def zcd(t:Tb)(x:EvT):LV:=if x.k=1 then insR t.s t.r x.w else if zft t x.o=false then t.r else if x.k=3 then zby t.s t.r (z9 t.s x.o) else updR t.s t.r (z9 t.s x.o) x.w
def doE(c:Cat)(x:EvT):Int:=
 if z6 x=false then 2 else if x.k=6 then zeh c x.m else match atC c x.t with
  |none=>if x.k=4 then (if 12≤c.length then 3 else 0) else 5
  |some t=>if x.k=4 then 220 else if x.k=5 then 0 else zcR t x
def doC(c:Cat)(x:EvT):Cat:=
 if doE c x≠0 then c else if x.k=6 then zh0 c x.m else if x.k=4 then zcy c ⟨x.t,x.s,[]⟩ else if x.k=5 then zb4 c x.t else match atC c x.t with
  |none=>c
  |some t=>zcy c ⟨t.n,t.s,zcd t x⟩
def zh3(c:Cat):List EvT→Nat→Nat×Int
 |[],_=>(0,0)
 |x::l,i=>if doE c x≠0 then (i,doE c x) else zh3 (doC c x) l (i+1)
def zee(c:Cat)(l:List EvT):Cat:=l.foldl doC c
def zoP(c:Cat)(l:List EvT):Cat:=if (zh3 c l 0).2=0 then zee c l else c
section
variable {c q d:Cat} {t u:Tb} {n:By} {x:EvT} {m:List (By×By)}
theorem zfE{x:EvT}(h:z6 x=true):(1≤x.k∧x.k≤6)∧x=zaI x∧zgZ x=true∧(x.k=2→x.o.length=x.w.length):=by
 simp only[z6,Bool.and_eq_true,decide_eq_true_eq,Bool.or_eq_true,Bool.not_eq_true',decide_eq_false_iff_not]at h
 obtain⟨⟨⟨h1,h2⟩,h3⟩,h4⟩:=h
 exact⟨h1,h2,h3,fun hk=>h4.resolve_left (fun h=>h hk)⟩
theorem zjS{x:EvT}(h1:1≤x.k∧x.k≤6)(h2:x=zaI x)(h3:zgZ x=true)(h4:x.k=2→x.o.length=x.w.length):z6 x=true:=by
 simp only[z6,Bool.and_eq_true,decide_eq_true_eq,Bool.or_eq_true,Bool.not_eq_true',decide_eq_false_iff_not]
 refine⟨⟨⟨h1,h2⟩,h3⟩,?_⟩
 by_cases hk:x.k=2
 ·exact .inr (h4 hk)
 exact .inl hk
theorem zig:t∈za1 c m↔t∈c∧t.n∉m.map Prod.fst:=by
 simp only[za1,List.mem_filter,Bool.not_eq_true',List.any_eq_false,decide_eq_true_eq,List.mem_map,not_exists,not_and]
theorem zit{p:By×By}:zcK c q (p::m)=zcK c (zcK c q [p]) m:=rfl
theorem zk3{p:By×By}:zcK c q (m++[p])=zcK c (zcK c q m) [p]:=by simp[zcK]
theorem zmX{p:By×By}(h:atC c p.1=some t):zcK c q [p]=zcy q ⟨p.2,t.s,t.r⟩:=by simp[zcK,h]
theorem zhR{l:List (By×By)}:zeY c q l=false↔∀i p,l[i]?=some p→atC (zcK c q (l.take i)) p.2=none:=by
 induction l generalizing q with
 |nil=>simp[zeY]
 |cons p l ih=>
  unfold zeY
  rw[Bool.or_eq_false_iff,ih]
  constructor
  ·rintro ⟨h1,h2⟩ i y hy
   cases i with
   |zero=>
    simp at hy
    subst hy
    simpa[zcK] using h1
   |succ i=>exact h2 i y (by simpa using hy)
  intro h
  refine⟨by simpa[zcK] using h 0 p U,fun i y hy=>h (i+1) y (by simpa using hy)⟩
theorem zra{l:List (By×By)}{i:Nat}{p:By×By}(hp:l[i]?=some p)(h:atC (zcK c q (l.take i)) p.2≠none):zeY c q l=true:=by
 cases ht:zeY c q l with
 |true=>rfl
 |false=>exact absurd (zhR.1 ht i p hp) h
theorem zqu(h:za0 c)(m:List (By×By)):za0 (za1 c m):=⟨h.srt.sublist List.filter_sublist,fun t ht=>h.tab t (zig.1 ht).1,Nat.le_trans (List.length_filter_le _ _) h.le⟩
theorem zuh(hq:ze8 q):ze8 (zcK c q m):=by
 induction m generalizing q with
 |nil=>exact hq
 |cons p m ih=>
  rw[zit]
  refine ih ?_
  unfold zcK
  simp only[List.foldl_cons,List.foldl_nil]
  split
  ·exact hq.with _
  exact hq
theorem zsl(h:∀t∈c,yW t.s t.r)(hq:∀t∈q,yW t.s t.r):∀t∈zcK c q m,yW t.s t.r:=by
 induction m generalizing q with
 |nil=>exact hq
 |cons p m ih=>
  rw[zit]
  refine ih ?_
  unfold zcK
  simp only[List.foldl_cons,List.foldl_nil]
  split
  ·rename_i t ht
   intro u hu
   rcases zdw.1 hu with rfl|⟨h1,_⟩
   ·exact h t (zdQ ht).1
   exact hq u h1
  exact hq
theorem zmC:(zcK c q m).length≤q.length+m.length:=by
 induction m generalizing q with
 |nil=>simp[zcK]
 |cons p m ih=>
  rw[zit]
  have h1:=ih (q:=zcK c q [p])
  have h2:(zcK c q [p]).length≤q.length+1:=by
   unfold zcK
   simp only[List.foldl_cons,List.foldl_nil]
   split
   ·rename_i t _
    rw[zcy,zjH]
    have:=zj0 q p.2
    show (zb4 q p.2).length+1≤_
    omega
   omega
  rw[List.length_cons]
  omega
theorem zlt(h:ze8 c):∀{m:List (By×By)},(m.map Prod.fst).Nodup→(∀p∈m,(atC c p.1).isSome=true)→(za1 c m).length+m.length=c.length
 |[],_,_=>by
  have:za1 c []=c:=List.filter_eq_self.2 fun y _=>by simp
  rw[this]
  simp
 |p::m,hn,ha=>by
  rw[List.map_cons,List.nodup_cons]at hn
  have ih:=zlt h hn.2 fun y hy=>ha y (List.mem_cons_of_mem _ hy)
  obtain⟨t,ht⟩:=Option.isSome_iff_exists.1 (ha p (by simp))
  obtain⟨h1,h2⟩:=zdQ ht
  have e:za1 c (p::m)=zb4 (za1 c m) t.n:=by
   unfold za1 zb4
   rw[List.filter_filter]
   refine List.filter_congr fun y _=>?_
   rw[h2]
   by_cases e:p.1=y.n
   ·simp[e]
   have e':y.n≠p.1:=fun h=>e h.symm
   simp[e,e']
  have:=zln (c:=za1 c m) (h.sublist List.filter_sublist) (zig.2 ⟨h1,by rw[h2];exact hn.1⟩:t∈za1 c m)
  rw[e,List.length_cons]
  omega
theorem zyE(h:za0 c)(he:zeh c m=0):zfC m=false∧(∀p∈m,(atC c p.1).isSome=true)∧zeY c (za1 c m) m=false:=by
 unfold zeh at he
 cases h1:zfC m with
 |true=>simp[h1]at he
 |false=>
  cases h2:m.any (fun p=>(atC c p.1).isNone) with
  |true=>simp[h1,h2]at he
  |false=>
   cases h3:zeY c (za1 c m) m with
   |true=>simp[h1,h2,h3]at he
   |false=>
    refine⟨U,fun p hp=>?_,U⟩
    have:=List.any_eq_false.1 h2 p hp
    cases ha:atC c p.1 with
    |none=>simp[ha]at this
    |some t=>rfl
theorem za0.ren(h:za0 c)(he:zeh c m=0):za0 (zh0 c m):=by
 obtain⟨h1,h2,_⟩:=zyE h he
 have hn:(m.map Prod.fst).Nodup:=by simpa[zfC] using h1
 have hl:=zlt h.srt hn h2
 have h3:=zmC (c:=c) (q:=za1 c m) (m:=m)
 have:=h.le
 exact⟨zuh (zqu h m).srt,zsl h.tab (zqu h m).tab,by unfold zh0;omega⟩
theorem zv0(h:yW t.s t.r)(hg:∀y∈x.w,y.Rng):yW t.s (zcd t x):=by
 unfold zcd
 split
 ·exact h.insR hg
 split
 ·exact h
 split
 ·exact h.less _
 exact h.updR hg
theorem zwV(h:z6 x=true)(hk:x.k=4):yT x.t=true∧yJ x.s=true:=by
 have:=(zfE h).2.2.1
 simpa[zgZ,hk] using this
theorem za0.do(h:za0 c)(hg:∀y∈x.w,y.Rng):za0 (doC c x):=by
 unfold doC
 by_cases he:doE c x=0
 ·rw[if_neg (by simp[he])]
  unfold doE at he
  cases hr:z6 x with
  |false=>simp[hr]at he
  |true=>
   rw[if_neg (by simp[hr])]at he
   by_cases h6:x.k=6
   ·rw[if_pos h6]at he ⊢
    exact h.ren he
   rw[if_neg h6]at he ⊢
   cases ha:atC c x.t with
   |none=>
    simp only[ha]at he
    by_cases h4:x.k=4
    ·rw[if_pos h4]at he ⊢
     split at he
     ·simp at he
     exact h.new (yW.nil (zwV hr h4).2) (by omega)
    rw[if_neg h4]at he
    simp at he
   |some t=>
    simp only[ha]at he
    by_cases h4:x.k=4
    ·rw[if_pos h4]at he
     simp at he
    rw[if_neg h4]at he ⊢
    split
    ·exact h.less _
    exact h.set (t:=⟨t.n,t.s,zcd t x⟩) (u:=t) (by rw[←(zdQ ha).2]at ha;exact ha) (zv0 (h.tab t (zdQ ha).1) hg)
 rw[if_pos he]
 exact h
end
section
variable {K:Type} [DecidableEq K]
def zku:List (K×Va)→K→List (K×Va)
 |[],_=>[]
 |p::r,k=>if p.1=k then r else p::zku r k
theorem ziG:∀{es:List (K×Va)} (k:K),(es.map (·.1)).Nodup→zku es k=es.filter fun p=>decide (p.1≠k)
 |[],_,_=>rfl
 |p::r,k,h=>by
  rw[List.map_cons,List.nodup_cons]at h
  unfold zku
  by_cases e:p.1=k
  ·have hr:r.filter (fun p=>decide (p.1≠k))=r:=List.filter_eq_self.2 fun y hy=>by
    have:y.1≠k:=fun he=>h.1 (List.mem_map.2 ⟨y,hy,he.trans e.symm⟩)
    simpa using this
   rw[if_pos e,List.filter_cons,if_neg (by simp[e]),hr]
  rw[if_neg e,List.filter_cons,if_pos (by simpa using e),ziG k h.2]
variable {κ:ziY K}
theorem zjD(k:K):∀(l:List MapEntry) (es:List (K×Va)) (i j:Nat) (u:Va),l.map rd=es.map (krd κ)→zeb es k i=some (j,u)→(l.eraseIdx (j-i)).map rd=(zku es k).map (krd κ)
 |[],[],_,_,_,_,h=>by simp[zeb]at h
 |[],_::_,_,_,_,h,_=>by simp at h
 |_::_,[],_,_,_,h,_=>by simp at h
 |e::l,p::es,i,j,u,h,hm=>by
  simp only[List.map_cons,List.cons.injEq]at h
  obtain⟨h1,h2⟩:=h
  simp only[zeb]at hm
  by_cases he:p.1=k
  ·rw[if_pos he]at hm
   simp only[Option.some.injEq,Prod.mk.injEq]at hm
   obtain⟨rfl,_⟩:=hm
   rw[Nat.sub_self]
   simp only[zku,if_pos he,List.eraseIdx_zero,List.tail_cons,h2]
  rw[if_neg he]at hm
  have hge:=zjf k es (i+1) j u hm
  rw[show j-i=(j-(i+1))+1 by omega]
  simp only[zku,if_neg he,List.eraseIdx_cons_succ,List.map_cons,h1,zjD k l es (i+1) j u h2 hm]
theorem zlD(k:K):∀(es:List (K×Va)) (i:Nat),zeb es k i=none→zku es k=es
 |[],_,_=>rfl
 |p::r,i,h=>by
  simp only[zeb]at h
  split at h
  ·cases h
  rename_i he
  simp only[zku,if_neg he,zlD k r (i+1) h]
section
variable {P:Program} {n:Nat} {F:Fr} {w:Wl} {d:Tmp} {dst:Option Tmp} {ty t kt et:TypeId} {pos:String} {af:Array Edge} {gd:Option (Nat×Bool)} {K':Fr→Wl→Prop} {b:Nat} {es:List (K×Va)}
theorem ztb{ts:Array TypeId}(ht:ts[0]?=some t)(hm:zei P t=some (kt,et))(hk:P.underlying kt=some κ.kd)(h:yf κ w b es)(k:K) :
 ∃w',(Builtin.delete_ ts ty #[.map (some b),κ.kv k]).run P w=.ok (.tuple #[]) w'∧w'.heap.size=w.heap.size∧zk [b] w w'∧yf κ w' b (zku es k):=by
 obtain⟨a,c,hb,hl,hs1,hs2⟩:=h
 have hlt:=(Ga hb).1
 cases hx:zeb es k 0 with
 |none=>
  refine⟨w.putObj b (.map a c),?_,by simp[World.putObj],zk.put _ _ _,_,_,World.putObj_heap_same hlt,?_,hs1,hs2⟩
  ·simp[Builtin.delete_,ht,run_underlying (zdj hm),Go.MapKept.run_getObj_map hb,κ.chk P kt k _ w hk,zel hk k hl,hx,Go.MapKept.run_setObj_map _ hb,World.putObj]
  rw[zlD k es 0 hx];exact hl
 |some q=>
  obtain⟨i,u⟩:=q
  have hdel:=zjD k a.toList es 0 i u hl hx
  refine⟨w.putObj b (.map (a.eraseIdxIfInBounds i) c),?_,by simp[World.putObj],zk.put _ _ _,_,_,World.putObj_heap_same hlt,?_,?_,?_⟩
  ·simp[Builtin.delete_,ht,run_underlying (zdj hm),Go.MapKept.run_getObj_map hb,κ.chk P kt k _ w hk,zel hk k hl,hx,Go.MapKept.run_setObj_map _ hb,World.putObj]
  ·simpa using hdel
  ·have e:(a.eraseIdxIfInBounds i).toList=a.toList.eraseIdx i:=by simp
   rw[e]
   exact hs1.sublist ((List.eraseIdx_sublist _ _).map _)
  intro e he
  have e1:(a.eraseIdxIfInBounds i).toList=a.toList.eraseIdx i:=by simp
  rw[e1]at he
  exact hs2 e (List.mem_of_mem_eraseIdx he)
theorem zpI(hm:zei P t=some (kt,et))(hk:P.underlying kt=some κ.kd){x y:Operand}{t2:TypeId}{k:K}(hx:ev F x=some (.map (some b)))(hy:ev F y=some (κ.kv k))(h:yf κ w b es)
 (hK:∀w',w'.heap.size=w.heap.size→zk [b] w w'→yf κ w' b (zku es k)→K' F w'):St P n F ⟨none,.call { callee:=.builtin .delete,args := #[x,y],argTypes := #[t,t2] },ty,pos,af,gd⟩ w K':=by
 obtain⟨w',hr,h1,h2,h3⟩:=ztb (P:=P) (ts := #[t,t2]) (ty:=ty) rfl hm hk h k
 refine St.vlNone (v:=.tuple #[]) (w':=w') ?_ U (hK w' h1 h2 h3)
 intro a ha
 simp[execOp,resolve,invoke,builtin,ha.eval hx,ha.eval hy,hr]
theorem zfe(hm:zei P t=some (kt,et)){x:Operand}(hx:ev F x=some (.map (some b)))(h:yf κ w b es) :
 Vl P n F ⟨dst,.call { callee:=.builtin .len,args := #[x],argTypes := #[t] },ty,pos,af,gd⟩ w (Ii (es.length:Nat)) w:=by
 intro a ha
 obtain⟨ar,c,hb,hl,_⟩:=h
 have hz:ar.size=es.length:=by
  have:=congrArg List.length hl
  simpa using this
 simp[execOp,resolve,invoke,builtin,Builtin.len_,ha.eval hx,run_underlying (zdj hm),Go.MapKept.run_getObj_map hb,goInt,hz]
theorem zvR(hm:zei P t=some (kt,et)){x y:Operand}{u:TypeId}{q:Option Nat}(hx:ev F x=some (.map q))(hy:ev F y=some (.map none)) :
 Vl P n F ⟨dst,.binOp .eql t x y u,ty,pos,af,gd⟩ w (.bool q.isNone) w:=by
 intro a ha
 have h1:(Op.equal t (.map q) (.map none)).run P w=.ok q.isNone w:=zbm fun d=>by cases q<;>simp[Op.equalIn,run_underlying (zdj hm)]
 simp[execOp,ha.eval hx,ha.eval hy,eqGuard,binOp,h1]
def zyL(P:Program)(t:TypeId):Bool:=
 match P.underlying t with
 |some (.array m e)=>Nat.beq m 2&&zin P e&&(zag P e==some false)&&(zao P e==some 1) && !P.eqGuardType P.depth t
 |_=>false
theorem zuK{x y:Operand}{t u:TypeId}{a b c e:By}(h:zyL P t=true)(hx:ev F x=some (.agg #[.string a,.string b]))(hy:ev F y=some (.agg #[.string c,.string e])) :
 Vl P n F ⟨dst,.binOp .neq t x y u,ty,pos,af,gd⟩ w (.bool (!decide ((a,b)=(c,e)))) w:=by
 intro ac ha
 unfold zyL at h
 split at h
 ·rename_i m el hu
  simp only[Bool.and_eq_true,Bool.not_eq_true',beq_iff_eq]at h
  obtain⟨⟨⟨⟨hm,hs⟩,hag⟩,hz⟩,hg⟩:=h
  obtain rfl:=Nat.eq_of_beq_eq_true hm
  have hse:=zap hs
  have pt:∀(vs:Array Va) (i:Nat) (v:Va),vs[i]?=some v→(part el vs i).run P w=.ok v w:=by
   intro vs i v hv
   simp[part,zaM hag,hv]
  have p1:=pt #[.string a,.string b] 0 (.string a) rfl
  have p2:=pt #[.string c,.string e] 0 (.string c) rfl
  have p3:=pt #[.string a,.string b] 1 (.string b) rfl
  have p4:=pt #[.string c,.string e] 1 (.string e) rfl
  have key:∀d,(∀x y:By,(Op.equalIn d el (.string x) (.string y)).run P w=.ok (decide (x=y)) w)→(Op.equalIn (d+1) t (.agg #[.string a,.string b]) (.agg #[.string c,.string e])).run P w=.ok (decide (a=c)&&decide (b=e)) w:=by
   intro d hd
   have q1:=hd a c
   have q2:=hd b e
   unfold Op.equalIn
   simp only[Sem.run_bind,run_underlying hu,Result.andThen_ok,zY hz]
   generalize decide (a=c)=r1 at *
   generalize decide (b=e)=r2 at *
   cases r1<;>cases r2<;>simp[Std.Legacy.Range.forIn_eq_forIn_range',Std.Legacy.Range.size,List.range',p1,p2,p3,p4,q1,q2]
  have e1:(Op.equalIn 10000 t (.agg #[.string a,.string b]) (.agg #[.string c,.string e])).run P w=.ok (decide (a=c)&&decide (b=e)) w:=key 9999 fun x y=>by rw[run_equalIn_string (P:=P) w 9998 el x y hse,zfM]
  simp only[execOp,ha.eval hx,ha.eval hy,Sem.run_bind,run_eqGuard_agg w _ _ _ _ _ _ hg,Result.andThen_ok,run_neq_struct,e1]
  by_cases h1:a=c<;>by_cases h2:b=e<;>simp[h1,h2]
 simp at h
theorem zwo{x:Operand}{xt:TypeId}{v:Va}(h:zkF P t=true)(hx:ev F x=some (.iface t v)):Vl P n F ⟨dst,.typeAssert x xt t false,ty,pos,af,gd⟩ w v w:=by
 intro a ha
 obtain⟨d,hd,hne⟩:=znQ h
 cases d<;>simp[execOp,Instr.typeAssert,ha.eval hx,run_underlying hd]
 exact absurd U (hne _)
end
theorem zrx{P:Program}{w:Wl}{b t:Nat}{es:List (K×Va)}(h:yf κ w b es):∃w',(Extern.MapsClone.clone #[.iface t (.map (some b))]).run P w=.ok (.iface t (.map (some w.heap.size))) w'∧w'.heap.size=w.heap.size+1∧zk [] w w'∧yf κ w' w.heap.size es:=by
 obtain⟨a,c,hb,hl,hs⟩:=h
 refine⟨w.alloc (.map a c),?_,by simp,zk.alloc _ _ _,a,c,heap_alloc_new w _,hl,hs⟩
 conv=>lhs;arg 2;whnf
 simp[Sem.run,Sem.run_bind',Sem.bind,hb,run_newObj_alloc,Sem.run_bind]
end
class Lw where
 n:Nat
set_option linter.unusedSectionVars false
variable [Lw]
def fl{α:Type}(f:α→LA)(l:List α):LA:=l.flatMap f
section
variable {α:Type} {f:α→LA} {k:Nat}
theorem zgD(x:α)(l:List α):fl f (x::l)=f x++fl f l:=rfl
theorem zik(l m:List α):fl f (l++m)=fl f l++fl f m:=by simp[fl]
theorem zj3(hf:∀x,(f x).length=k):∀l:List α,(fl f l).length=l.length*k
 |[]=>by simp[fl]
 |x::l=>by rw[zgD,Sa,hf,zj3 hf l,List.length_cons,Nat.add_mul];omega
theorem zl9(hf:∀x,(f x).length=k):∀(i:Nat) (l:List α),fl f (l.drop i)=(fl f l).drop (i*k)
 |0,l=>by simp
 |i+1,[]=>by simp[fl]
 |i+1,x::l=>by
  rw[List.drop_succ_cons,zl9 hf i l,zgD,List.drop_append,hf,Nat.add_mul]
  have:(f x).drop (i*k+1*k)=[]:=List.drop_eq_nil_of_le (by rw[hf];omega)
  rw[this,List.nil_append]
  congr 1
  omega
theorem zqa(hf:∀x,(f x).length=k):∀(i:Nat) (l:List α),fl f (l.take i)=(fl f l).take (i*k)
 |0,l=>by simp[fl]
 |i+1,[]=>by simp[fl]
 |i+1,x::l=>by
  rw[List.take_succ_cons,zgD,zqa hf i l,zgD,List.take_append,hf,Nat.add_mul]
  have:(f x).take (i*k+1*k)=f x:=Tl (by rw[hf];omega)
  rw[this]
  congr 2
  omega
theorem zsQ(hf:∀x,(f x).length=k){l:List α}{i:Nat}{x:α}(h:l[i]?=some x):((fl f l).drop (i*k)).take k=f x:=by
 rw[←zl9 hf]
 obtain⟨hl,rfl⟩:=Gs h
 rw[List.drop_eq_getElem_cons hl,zgD]
 exact List.take_left' (hf _)
theorem zyk(h1:∀x,∀u∈f x,u.oneCell'=true)(l:List α):∀u∈fl f l,u.oneCell'=true:=by
 intro u hu
 obtain⟨x,_,hx⟩:=List.mem_flatMap.1 hu
 exact h1 x u hx
end
def yl{α:Type}(w:Wl)(e k:Nat)(f:α→LA)(v:Va)(l:List α):Prop:=zB w e k v l.length (fl f l)
section
variable {α:Type} {f:α→LA} {w w':Wl} {e k:Nat} {v:Va} {l:List α}
theorem yl.chg0(h:yl w e k f v l)(hc:zk [] w w'):yl w' e k f v l:=zB.chg0 h hc
theorem yl.chg{S:List Nat}(h:yl w e k f v l)(hc:zk S w w')(hb:∀b∈zu v,b∉S):yl w' e k f v l:=zB.chg h hc hb
theorem yl.nil(w:Wl)(e k:Nat)(f:α→LA):yl w e k f (.slice none 0 0) []:=zB.nil w e k
theorem yl.val(h:yl w e k f v l):∃p c,v=.slice p l.length c∧l.length≤c:=zB.val h
theorem yl.at(hf:∀x,(f x).length=k)(h:yl w e k f v l){i:Nat}{x:α}(hi:l[i]?=some x):∃b off cap,v=.slice (some ⟨b,off,none⟩) l.length cap∧zv w b (off+i*k) (f x):=by
 have hl:=(Gs hi).1
 obtain⟨b,off,cap,hv,hc⟩:=zB.atk h hl
 rw[zsQ hf hi]at hc
 exact⟨b,off,cap,hv,hc⟩
end
def zN{α:Type}(w:Wl)(_e k:Nat)(f:α→LA)(v:Va)(l:List α):Prop:=Rd w k v l.length (fl f l)
def zq7:Va→Bool
 |.int .. | .string _ | .bool _=>true
 |_=>false
def Nl(w:Wl)(S:List Nat):Prop:=∀b∈S,∀c e fr,w.heap[b]?=some (.cells c e fr)→∀u∈c.toList,zq7 u=false
theorem Nl.one{w:Wl}{b:Nat}{e:TypeId}{c:LA}(hb:zO w b e c)(h:∀u∈c,zq7 u=false):Nl w [b]:=fun x hx c' e' fr he=>by
 simp at hx;subst hx
 have:=Option.some.inj ((show w.heap[x]?=_ from hb).symm.trans he)
 cases this
 simpa using h
section
variable {α:Type} {f:α→LA} {w w':Wl} {e k:Nat} {v:Va} {l:List α}
theorem yl.arr(h:yl w e k f v l):zN w e k f v l:=zB.toRd h
theorem zN.chg0(h:zN w e k f v l)(hc:zk [] w w'):zN w' e k f v l:=Rd.chg0 h hc
theorem zN.chg{S:List Nat}(h:zN w e k f v l)(hc:zk S w w')(hb:∀b∈zu v,b∉S):zN w' e k f v l:=Rd.chg h hc hb
theorem zN.chgC{S:List Nat}(h:zN w e k f v l)(hc:zk S w w')(hf:∀x,∀u∈f x,zq7 u=true)(hS:Nl w S):zN w' e k f v l:=
 Rd.chgC h hc fun b hb c e fr he u hu hm=>by
  obtain⟨x,_,hx⟩:=List.mem_flatMap.1 hu
  have:=hf x u hx
  rw[hS b hb c e fr he u hm]at this;cases this
theorem zN.nil(w:Wl)(e k:Nat)(f:α→LA):zN w e k f (.slice none 0 0) []:=Rd.nil w k
theorem zN.val(h:zN w e k f v l):∃p c,v=.slice p l.length c∧l.length≤c:=Rd.val h
theorem zN.max(h:zN w e k f v l):l.length≤maxLen:=Rd.max h
theorem zN.one1(h:zN w e k f v l):v.oneCell'=true:=Rd.one1 h
theorem zN.at(hf:∀x,(f x).length=k)(h:zN w e k f v l){i:Nat}{x:α}(hi:l[i]?=some x):∃b off cap,v=.slice (some ⟨b,off,none⟩) l.length cap∧zv w b (off+i*k) (f x):=by
 have hl:=(Gs hi).1
 obtain⟨b,off,cap,hv,hc⟩:=Rd.atk h hl
 rw[zsQ hf hi]at hc
 exact⟨b,off,cap,hv,hc⟩
theorem zN.take(hf:∀x,(f x).length=k){p:Option Addr}{c n:Nat}(h:zN w e k f (.slice p l.length c) l)(hn:n≤l.length){m:Nat}(h1:n≤m)(h2:m≤c):zN w e k f (cut p 0 n m k) (l.take n):=by
 have:=Rd.cut h (l:=0) (h:=n) (m:=m) (by omega) h1 h2 hn
 unfold zN
 rw[zqa hf,List.length_take,Nat.min_eq_left hn]
 simpa using this
theorem zN.drop(hf:∀x,(f x).length=k){p:Option Addr}{c n:Nat}(h:zN w e k f (.slice p l.length c) l)(hn:n≤l.length)(hc:l.length≤c):zN w e k f (cut p n l.length c k) (l.drop n):=by
 have:=Rd.cut h (l:=n) (h:=l.length) (m:=c) hn hc (Nat.le_refl _) (Nat.le_refl _)
 unfold zN
 rw[zl9 hf,List.length_drop]
 have e1:((fl f l).drop (n*k)).take ((l.length-n)*k)=(fl f l).drop (n*k):=Tl (by rw[List.length_drop,zj3 hf,Nat.sub_mul];omega)
 rw[e1]at this
 exact this
theorem zN.of_blk{b:Nat}{e':TypeId}(hf:∀x,(f x).length=k)(h1:∀x,∀u∈f x,u.oneCell'=true)(hb:zO w b e' (fl f l))(hn:l.length≤maxLen):zN w e k f (.slice (some ⟨b,0,none⟩) l.length l.length) l:=
 (zB.of_blk hb (zj3 hf l) hn (zyk h1 l)).toRd
end
theorem zbr(x:zX):x.cs.length=4:=rfl
theorem Col.one(c:Col):∀u∈c.cs,u.oneCell'=true:=by
 intro u hu;simp[Col.cs]at hu;rcases hu with rfl|rfl|rfl|rfl<;>rfl
theorem zaE(c:Col):c.cs.length=4:=rfl
def ics(i:Int):LA:=[Ii i]
theorem zhT(i:Int):(ics i).length=1:=rfl
theorem zvC(i:Int):∀u∈ics i,u.oneCell'=true:=by intro u hu;simp[ics]at hu;subst hu;rfl
def ya(w:Wl)(v:Va)(l:List zX):Prop:=zN w 111 4 zX.cs v l
def zim(w:Wl)(v:Va)(l:List Col):Prop:=zN w 114 4 Col.cs v l
def yA(w:Wl)(v:Va)(l:List Int):Prop:=zN w 3 1 ics v l
theorem yA.cell{w:Wl}{v:Va}{l:List Int}(h:yA w v l){i:Nat}{x:Int}(hi:l[i]?=some x):∃b off cap,v=.slice (some ⟨b,off,none⟩) l.length cap∧w.cell? ⟨b,off+i*1,none⟩=some (Ii x):=by
 obtain⟨b,off,cap,hv,hc⟩:=zN.at zhT h hi
 exact⟨b,off,cap,hv,hc 0 _ U⟩
def zcM{α:Type}(w:Wl)(e k:Nat)(f:α→LA):LA→List (List α)→Prop
 |[],[]=>True
 |v::vs,l::ls=>zN w e k f v l∧zcM w e k f vs ls
 |_,_=>False
section
variable {α:Type} {f:α→LA} {w w':Wl} {e k:Nat}
theorem zcM.length:∀{vs:LA} {ls:List (List α)},zcM w e k f vs ls→vs.length=ls.length
 |[],[],_=>rfl
 |_::_,_::_,h=>by simp[zcM.length h.2]
theorem zcM.at:∀{vs:LA} {ls:List (List α)} {i:Nat} {l:List α},zcM w e k f vs ls→ls[i]?=some l→∃v,vs[i]?=some v∧zN w e k f v l
 |[],[],_,_,_,h=>by simp at h
 |v::vs,l::ls,0,l',h,hi=>by simp at hi;subst hi;exact⟨v,rfl,h.1⟩
 |v::vs,l::ls,i+1,l',h,hi=>by simpa using h.2.at (by simpa using hi)
theorem zcM.chg{S:List Nat}(hc:zk S w w'):∀{vs:LA} {ls:List (List α)},(∀v∈vs,∀b∈zu v,b∉S)→zcM w e k f vs ls→zcM w' e k f vs ls
 |[],[],_,_=>trivial
 |v::vs,l::ls,hb,h=>⟨h.1.chg hc (hb v (by simp)),zcM.chg hc (fun u hu=>hb u (by simp[hu])) h.2⟩
theorem zcM.chg0{vs:LA}{ls:List (List α)}(h:zcM w e k f vs ls)(hc:zk [] w w'):zcM w' e k f vs ls:=zcM.chg hc (by simp) h
end
def zcc(w:Wl)(v:Va)(l:List zX):Prop:=yl w 111 4 zX.cs v l
def yn{α:Type}(w:Wl)(e k:Nat)(f:α→LA):LA→List (List α)→Prop
 |[],[]=>True
 |v::vs,l::ls=>yl w e k f v l∧yn w e k f vs ls
 |_,_=>False
section
variable {α:Type} {f:α→LA} {w w':Wl} {e k:Nat}
theorem yn.length:∀{vs:LA} {ls:List (List α)},yn w e k f vs ls→vs.length=ls.length
 |[],[],_=>rfl
 |_::_,_::_,h=>by simp[yn.length h.2]
theorem yn.arr:∀{vs:LA} {ls:List (List α)},yn w e k f vs ls→zcM w e k f vs ls
 |[],[],_=>trivial
 |_::_,_::_,h=>⟨yl.arr h.1,yn.arr h.2⟩
theorem yn.at:∀{vs:LA} {ls:List (List α)} {i:Nat} {l:List α},yn w e k f vs ls→ls[i]?=some l→∃v,vs[i]?=some v∧yl w e k f v l
 |[],[],_,_,_,h=>by simp at h
 |v::vs,l::ls,0,l',h,hi=>by simp at hi;subst hi;exact⟨v,rfl,h.1⟩
 |v::vs,l::ls,i+1,l',h,hi=>by simpa using h.2.at (by simpa using hi)
theorem yn.append:∀{vs us:LA} {ls ms:List (List α)},yn w e k f vs ls→yn w e k f us ms→yn w e k f (vs++us) (ls++ms)
 |[],_,[],_,_,h=>h
 |_::_,_,_::_,_,h,h'=>⟨h.1,h.2.append h'⟩
theorem yn.chg{S:List Nat}(hc:zk S w w'):∀{vs:LA} {ls:List (List α)},(∀v∈vs,∀b∈zu v,b∉S)→yn w e k f vs ls→yn w' e k f vs ls
 |[],[],_,_=>trivial
 |v::vs,l::ls,hb,h=>⟨h.1.chg hc (hb v (by simp)),yn.chg hc (fun u hu=>hb u (by simp[hu])) h.2⟩
theorem yn.chg0{vs:LA}{ls:List (List α)}(h:yn w e k f vs ls)(hc:zk [] w w'):yn w' e k f vs ls:=yn.chg hc (by simp) h
theorem yn.one:∀{vs:LA} {ls:List (List α)},yn w e k f vs ls→∀u∈vs,u.oneCell'=true
 |[],[],_,u,hu=>by simp at hu
 |v::vs,l::ls,h,u,hu=>by
  rcases Mc hu with rfl|hu
  ·exact zB.one1 h.1
  exact h.2.one u hu
theorem yn.apart{b:Nat}{e':TypeId}{c:LA}(hb:zO w b e' c)(hne:Nat.beq e e'=false):∀{vs:LA} {ls:List (List α)},yn w e k f vs ls→∀v∈vs,∀x∈zu v,x∉[b]
 |[],[],_,v,hv=>by simp at hv
 |v::vs,l::ls,h,u,hu=>by
  rcases Mc hu with rfl|hu
  ·exact zB.apart h.1 hb hne
  exact h.2.apart hb hne u hu
theorem yn.apartSl{e' k' n:Nat}{v:Va}{xs:LA}(hv:zB w e' k' v n xs)(hne:Nat.beq e e'=false):∀{vs:LA} {ls:List (List α)},yn w e k f vs ls→∀u∈vs,∀x∈zu u,x∉zu v
 |[],[],_,u,hu=>by simp at hu
 |u::vs,l::ls,h,u',hu=>by
  rcases Mc hu with rfl|hu
  ·exact zB.apartSl h.1 hv hne
  exact h.2.apartSl hv hne u' hu
end
def okT(E e:Nat):Bool:=Nat.beq E e||Nat.beq E 32
def Ou(w:Wl)(E:Nat)(v:Va)(len:Nat)(vs:LA):Prop:=
 Rd w 1 v len vs∧(0<len→∃b off cap e c fr,v=.slice (some ⟨b,off,none⟩) len cap∧w.heap[b]?=some (.cells c e fr)∧okT E e=true)
section
variable {w w':Wl} {E len:Nat} {v:Va} {vs:LA}
theorem zB.toOu(h:zB w E 1 v len vs):Ou w E v len vs:=by
 refine⟨h.toRd,fun hp=>?_⟩
 rcases h with⟨_,rfl,_⟩|⟨b,off,cap,c,rfl,h⟩
 ·omega
 exact⟨b,off,cap,E,_,_,rfl,h.blk,by simp[okT]⟩
def Nt(w:Wl)(E:Nat)(S:List Nat):Prop:=∀b∈S,∀c e fr,w.heap[b]?=some (.cells c e fr)→okT E e=false
theorem Ou.chgS{S:List Nat}(h:Ou w E v len vs)(hc:zk S w w')(hS:Nt w E S):Ou w' E v len vs:=by
 obtain⟨h1,h2⟩:=h
 rcases Nat.eq_zero_or_pos len with hz|hp
 ·subst hz
  obtain⟨p,cap,rfl,g2,g3,g4,g5,g6⟩:=h1
  exact⟨⟨p,cap,rfl,g2,g3,g4,g5,fun h=>absurd h (by omega)⟩,fun h=>absurd h (by omega)⟩
 obtain⟨b,off,cap,e,c,fr,rfl,hb,hk⟩:=h2 hp
 have hn:b∉S:=fun hm=>by
  have:=hS b hm _ _ _ hb
  rw[hk]at this;cases this
 refine⟨Rd.chg h1 hc (by intro x hx;simp[zu]at hx;subst hx;exact hn),fun _=>⟨b,off,cap,e,c,fr,rfl,?_,hk⟩⟩
 exact(hc.block b (Ga hb).1 hn).trans hb
theorem Ou.chg0(h:Ou w E v len vs)(hc:zk [] w w'):Ou w' E v len vs:=h.chgS hc (fun _ hx=>by simp at hx)
end
def zbT{α:Type}(w:Wl)(E e k:Nat)(f:α→LA)(v:Va)(ls:List (List α)):Prop:=∃vs,Ou w E v ls.length vs∧zcM w e k f vs ls
section
variable {α:Type} {f:α→LA} {w w':Wl} {E e k:Nat} {v:Va} {ls:List (List α)}
theorem zbT.chg0(h:zbT w E e k f v ls)(hc:zk [] w w'):zbT w' E e k f v ls:=let ⟨vs,h1,h2⟩:=h; ⟨vs,h1.chg0 hc,h2.chg0 hc⟩
theorem zbT.val(h:zbT w E e k f v ls):∃p c,v=.slice p ls.length c∧ls.length≤c:=let ⟨_,h1,_⟩:=h; Rd.val h1.1
theorem zbT.max(h:zbT w E e k f v ls):ls.length≤maxLen:=let ⟨_,h1,_⟩:=h; Rd.max h1.1
theorem zbT.at(h:zbT w E e k f v ls){i:Nat}{l:List α}(hi:ls[i]?=some l):∃b off cap u,v=.slice (some ⟨b,off,none⟩) ls.length cap∧w.cell? ⟨b,off+i*1,none⟩=some u∧zN w e k f u l:=by
 obtain⟨vs,h1,h2⟩:=h
 obtain⟨u,hu,ha⟩:=h2.at hi
 obtain⟨b,off,cap,u',hv,hu',hc⟩:=Rd.at1 h1.1 (Gs hi).1
 rw[hu]at hu'
 cases hu'
 exact⟨b,off,cap,u,hv,hc,ha⟩
theorem zbT.one1(h:zbT w E e k f v ls):v.oneCell'=true:=let ⟨_,h1,_⟩:=h; Rd.one1 h1.1
end
def Low(w w':Wl):Prop:=∀b,b<w.heap.size→w'.heap[b]?=w.heap[b]?
theorem Rd.low{w w':Wl}{k:Nat}{v:Va}{len:Nat}{xs:LA}(h:Rd w k v len xs)(hk:Low w w'):Rd w' k v len xs:=
 h.keep fun b off u j _ _ hc=>by
  have hlt:b<w.heap.size:=by
   rcases Lg b w.heap.size with h1|h1
   ·exact h1
   simp[World.cell?,Array.getElem?_eq_none h1]at hc
  unfold World.cell? at hc ⊢
  rw[hk b hlt];exact hc
theorem zN.low{α:Type}{f:α→LA}{w w':Wl}{e k:Nat}{v:Va}{l:List α}(h:zN w e k f v l)(hk:Low w w'):zN w' e k f v l:=Rd.low h hk
theorem zcM.low{α:Type}{f:α→LA}{w w':Wl}{e k:Nat}(hk:Low w w'):∀{vs:LA} {ls:List (List α)},zcM w e k f vs ls→zcM w' e k f vs ls
 |[],[],_=>trivial
 |_::_,_::_,h=>⟨Rd.low h.1 hk,zcM.low hk h.2⟩
theorem zoj(x:zX):∀u∈x.cs,zq7 u=true:=by intro u hu;simp[zX.cs]at hu;rcases hu with rfl|rfl|rfl|rfl<;>rfl
theorem zvj(x:Col):∀u∈x.cs,zq7 u=true:=by intro u hu;simp[Col.cs]at hu;rcases hu with rfl|rfl|rfl|rfl<;>rfl
def zcm(w:Wl)(v:Va)(ls:List (List Int)):Prop:=zbT w 32 3 1 ics v ls
def zos(w:Wl)(v:Va)(ls:LV):Prop:=zbT w 36 111 4 zX.cs v ls
def zp2(e:Nat):Bool := !Nat.beq e 178 && !Nat.beq e 83 && !Nat.beq e 48 && !Nat.beq e 39
def Lo(w:Wl)(b:Nat):Prop:=b<Lw.n∨∃c e fr,w.heap[b]?=some (.cells c e fr)∧zp2 e=true
def Ns(w:Wl)(S:List Nat):Prop:=∀b∈S,Lw.n≤b∧∀c e fr,w.heap[b]?=some (.cells c e fr)→zp2 e=false
theorem Ns.not{w:Wl}{S:List Nat}{b:Nat}(h:Ns w S)(hl:Lo w b):b∉S:=fun hm=>by
 obtain⟨h1,h2⟩:=h b hm
 rcases hl with h3|⟨c,e,fr,h3,h4⟩
 ·omega
 rw[h2 _ _ _ h3]at h4;cases h4
theorem Ns.one{w:Wl}{b:Nat}{e:TypeId}{c:LA}(hb:zO w b e c)(h:zp2 e=false)(hN:Lw.n≤b):Ns w [b]:=fun x hx=>by
 simp at hx;subst hx
 refine⟨hN,fun c' e' fr he=>?_⟩
 have:=Option.some.inj ((show w.heap[x]?=_ from hb).symm.trans he)
 cases this
 exact h
theorem Lo.chg{w w':Wl}{S:List Nat}{b:Nat}(h:Lo w b)(hc:zk S w w')(hS:Ns w S):Lo w' b:=by
 rcases h with h|⟨c,e,fr,h3,h4⟩
 ·exact .inl h
 exact .inr ⟨c,e,fr,(hc.block b (Ga h3).1 (hS.not (.inr ⟨c,e,fr,h3,h4⟩))).trans h3,h4⟩
theorem Rd.ou{w:Wl}{v:Va}{n:Nat}{vs:LA}(h:Rd w 1 v n vs):Ou w 32 v n vs:=by
 refine⟨h,fun hp=>?_⟩
 obtain⟨p,cap,rfl,h1,h2,h3,h4,h5⟩:=h
 obtain⟨b,off,rfl,hc⟩:=h5 hp
 have hv:vs[0]?=some (vs[0]'(by omega)):=by simp
 have h0:=hc 0 _ hv
 unfold World.cell? at h0
 cases ho:w.heap[b]? with
 |none=>simp[ho]at h0
 |some o=>
  cases o with
  |cells x y z=>exact⟨b,off,cap,y,x,z,rfl,ho,by simp[okT]⟩
  |_=>simp[ho]at h0
def zhg:Va→List Nat
 |.slice (some a) (_+1) _=>[a.block]
 |_=>[]
theorem ztc{v:Va}{b:Nat}(h:b∈zhg v):b∈zu v:=by
 unfold zhg at h
 split at h
 ·exact h
 cases h
theorem Rd.chgP{w w':Wl}{k:Nat}{v:Va}{len:Nat}{xs:LA}{S:List Nat}(h:Rd w k v len xs)(hc:zk S w w')(hb:∀b∈zhg v,b∉S):Rd w' k v len xs:=
 h.keep fun b off u j hv hj hcell=>zdL hc hcell (hb b (by
  have h1:=h.len_xs
  have h2:=(Gs hj).1
  obtain⟨m,rfl⟩:∃m,len=m+1:=by
   cases len with
   |zero=>simp at h1;simp[h1]at h2
   |succ m=>exact⟨m,rfl⟩
  rw[hv];simp[zhg]))
structure zai(w:Wl)(c k u:Va)(s:yK):Prop where
 cols:zim w c s.cols
 key:yA w k s.key
 us:∃vs,Rd w 1 u s.uq.length vs∧zcM w 3 1 ics vs s.uq∧∀v∈vs,∀b∈zhg v,Lo w b
 lo:∀v∈[c,k,u],∀b∈zhg v,Lo w b
theorem zai.uq{w:Wl}{c k u:Va}{s:yK}(h:zai w c k u s):zcm w u s.uq:=let ⟨vs,h1,h2,_⟩:=h.us; ⟨vs,h1.ou,h2⟩
theorem zcM.chgL{α:Type}{f:α→LA}{w w':Wl}{e k:Nat}{S:List Nat}(hc:zk S w w'):∀{vs:LA} {ls:List (List α)},(∀v∈vs,∀b∈zhg v,b∉S)→zcM w e k f vs ls→zcM w' e k f vs ls
 |[],[],_,_=>trivial
 |v::_,_::_,hv,h=>⟨Rd.chgP h.1 hc (hv v (by simp)),zcM.chgL hc (fun u hu=>hv u (by simp[hu])) h.2⟩
theorem zai.chgN{w w':Wl}{c k u:Va}{s:yK}(h:zai w c k u s){S:List Nat}(hc:zk S w w')(hS:Ns w S):zai w' c k u s:=by
 have hn:∀v∈[c,k,u],∀b∈zhg v,b∉S:=fun v hv b hb=>hS.not (h.lo v hv b hb)
 obtain⟨vs,h1,h2,h3⟩:=h.us
 exact⟨Rd.chgP h.cols hc (hn c (by simp)),Rd.chgP h.key hc (hn k (by simp)),⟨vs,Rd.chgP h1 hc (hn u (by simp)),h2.chgL hc fun v hv b hb=>hS.not (h3 v hv b hb),fun v hv b hb=>(h3 v hv b hb).chg hc hS⟩,fun v hv b hb=>(h.lo v hv b hb).chg hc hS⟩
theorem zai.chg0{w w':Wl}{c k u:Va}{s:yK}(h:zai w c k u s)(hc:zk [] w w'):zai w' c k u s:=h.chgN hc fun _ hb=>by cases hb
theorem zai.chgB{w w':Wl}{c k u:Va}{s:yK}(h:zai w c k u s){b:Nat}{e:TypeId}{x:LA}(hb:zO w b e x)(h3:zp2 e=false)(hN:Lw.n≤b)(hc:zk [b] w w'):zai w' c k u s:=
 h.chgN hc (Ns.one hb h3 hN)
theorem zai.one{w:Wl}{c k u:Va}{s:yK}(h:zai w c k u s):∀x∈[c,k,u],x.oneCell'=true:=by
 intro x hx
 simp at hx
 rcases hx with rfl|rfl|rfl
 ·exact zN.one1 h.cols
 ·exact zN.one1 h.key
 exact h.uq.one1
theorem zgw{α:Type}{p:α→Bool}{l:List α}{j:Nat}{x:α}(hx:l[j]?=some x)(h:p x=true):l.any p=true:=List.any_eq_true.2 ⟨x,Mg hx,h⟩
theorem zfr{α:Type}{p:α→Bool}{l:List α}{j:Nat}{x:α}(hx:l[j]?=some x)(h:p x=false)(ha:(l.take j).any p=false):(l.take (j+1)).any p=false:=by
 rw[List.take_add_one,hx,List.any_append,ha]
 simp[h]
theorem zx0{α:Type}{f:α→LA}(hf:∀x,(f x).length=4)(v:Va)(l:List α)(p:α→Bool)(g:Nat)(lb:LA)(w:Wl)(hl:zN w 114 4 f v l)(hn:l.length≤1048576)(hg:zn TP g=true)
 (hp:∀x∈l,∀w1,zk [] w w1→zS TP g (Value.agg (f x).toArray::lb).toArray w1 fun r w2=>r=.bool (p x)∧zk [] w1 w2) :
 zS TP 332 #[v,.func (.func g) #[] lb.toArray] w fun r w'=>∃i:Int,r=Ii i∧decide (0≤i)=l.any p∧zk [] w w':=by
 obtain⟨pv,cv,hval,hle⟩:=zN.val hl
 refine A2 Tryz.func332 U U ?_
 refine Sr (Oa U (E2 0 1 U (zf (zf ?_))))
 subst hval
 refine za (Om U (On zaO U (Om U (E4 0 1 7 8 U (zp ?_)))))
 refine zQ [0,1,7,8] (fun m F wx=>∃j:Nat,m=l.length-j∧j≤l.length∧F=[(0,.slice pv l.length cv),(1,.func (.func g) #[] lb.toArray),(7,Ii l.length),(8,Ii j)]∧zk [] w wx∧(l.take j).any p=false) (m:=l.length-0) ⟨0,rfl,Zl _,rfl,zk.refl _ _,by simp⟩ ?_
 rintro m F wx⟨j,rfl,hj,rfl,hcx,hno⟩
 refine Sr (Og (zz U U) U (E5 0 1 7 8 9 U (zf ?_)))
 refine zP U (fun hT=>?_) (fun hF=>?_)
 ·refine zm ?_
  have hlt:j<l.length:=by have:=of_decide_eq_true hT;omega
  have hx:l[j]?=some l[j]:=by simp[hlt]
  generalize l[j]=x at hx
  obtain⟨b,off,cap,hv,hcell⟩:=zN.at hf (zN.chg0 hl hcx) hx
  cases hv
  refine zf (zp (Sr (Om U (Oa U (E5 0 1 5 7 8 U (Sr (Om U (Om U (Om U ?_)))))))))
  refine Og (zi zaO zad U U _ U hlt) U ?_
  refine Og (zh zcI zad U (hf _) hcell) U ?_
  refine Oc hg U U U (hp x (Mg hx) _ hcx) ?_
  rintro v16 w16⟨rfl,c16⟩
  refine E6 0 1 5 7 8 16 U ?_
  cases hpx:p x with
  |true=>
   refine ze U (Sr (Om U (Oa U (E1 4 U (zj ?_)))))
   repeat first|refine tr ?_|refine br ?_
   refine zw U U ?_
   exact⟨_,rfl,by rw[zgw hx hpx];simp,hcx.trans c16⟩
  |false=>
   refine zb U (zT (zl (za ?_)))
   refine Og (zG U U (by omega)) U ?_
   refine Om U (N4 0 1 7 8 U ?_)
   exact⟨l.length-(j+1),by omega,j+1,rfl,by omega,rfl,hcx.trans c16,zfr hx hpx hno⟩
 refine zI ?_
 repeat first|refine te ?_|refine bo rfl ?_
 refine zq _ ?_
 have he:l.length≤j:=by have:=of_decide_eq_false hF;omega
 refine Sr (Oa U (E1 4 U (zj ?_)))
 repeat first|refine tr ?_|refine br ?_
 refine zw U U ?_
 rw[Tl he]at hno
 exact⟨_,rfl,by rw[hno];rfl,hcx⟩
theorem zxV{α:Type}{f:α→LA}(hf:∀x,(f x).length=4)(v:Va)(l:List α)(p:α→Bool)(g:Nat)(lb:LA)(w:Wl)(hl:zN w 114 4 f v l)(hn:l.length≤1048576)(hg:zn TP g=true)
 (hp:∀x∈l,∀w1,zk [] w w1→zS TP g (Value.agg (f x).toArray::lb).toArray w1 fun r w2=>r=.bool (p x)∧zk [] w1 w2) :
 zS TP 299 #[v,.func (.func g) #[] lb.toArray] w fun r w'=>r=.bool (l.any p)∧zk [] w w':=by
 refine A2 Tryz.func299 U U ?_
 refine Sr (Oa U (E2 0 1 U (Sr (Om U (Om U ?_)))))
 refine Oc zAO U U U (zx0 hf v l p g lb _ hl hn hg hp) ?_
 rintro v7 w7⟨i,rfl,hi,c7⟩
 refine Og (yc U U) U (Oa U (E1 4 U (zj ?_)))
 refine zw U U ?_
 exact⟨by rw[←hi],c7⟩
theorem zyZ{α:Type}{f:α→LA}(hf:∀x,(f x).length=4)(v:Va)(l:List α)(p:α→Bool)(g:Nat)(lb:LA)(w:Wl)(hl:zN w 111 4 f v l)(hn:l.length≤1048576)(hg:zn TP g=true)
 (hp:∀x∈l,∀w1,zk [] w w1→zS TP g (Value.agg (f x).toArray::lb).toArray w1 fun r w2=>r=.bool (p x)∧zk [] w1 w2) :
 zS TP 199 #[v,.func (.func g) #[] lb.toArray] w fun r w'=>∃i:Int,r=Ii i∧decide (0≤i)=l.any p∧zk [] w w':=by
 obtain⟨pv,cv,hval,hle⟩:=zN.val hl
 refine A2 Tryz.func199 U U ?_
 refine Sr (Oa U (E2 0 1 U (zf (zf ?_))))
 subst hval
 refine za (Om U (On yE U (Om U (E4 0 1 7 8 U (zp ?_)))))
 refine zQ [0,1,7,8] (fun m F wx=>∃j:Nat,m=l.length-j∧j≤l.length∧F=[(0,.slice pv l.length cv),(1,.func (.func g) #[] lb.toArray),(7,Ii l.length),(8,Ii j)]∧zk [] w wx∧(l.take j).any p=false) (m:=l.length-0) ⟨0,rfl,Zl _,rfl,zk.refl _ _,by simp⟩ ?_
 rintro m F wx⟨j,rfl,hj,rfl,hcx,hno⟩
 refine Sr (Og (zz U U) U (E5 0 1 7 8 9 U (zf ?_)))
 refine zP U (fun hT=>?_) (fun hF=>?_)
 ·refine zm ?_
  have hlt:j<l.length:=by have:=of_decide_eq_true hT;omega
  have hx:l[j]?=some l[j]:=by simp[hlt]
  generalize l[j]=x at hx
  obtain⟨b,off,cap,hv,hcell⟩:=zN.at hf (zN.chg0 hl hcx) hx
  cases hv
  refine zf (zp (Sr (Om U (Oa U (E5 0 1 5 7 8 U (Sr (Om U (Om U (Om U ?_)))))))))
  refine Og (zi yE ym U U _ U hlt) U ?_
  refine Og (zh zaJ ym U (hf _) hcell) U ?_
  refine Oc hg U U U (hp x (Mg hx) _ hcx) ?_
  rintro v16 w16⟨rfl,c16⟩
  refine E6 0 1 5 7 8 16 U ?_
  cases hpx:p x with
  |true=>
   refine ze U (Sr (Om U (Oa U (E1 4 U (zj ?_)))))
   repeat first|refine tr ?_|refine br ?_
   refine zw U U ?_
   exact⟨_,rfl,by rw[zgw hx hpx];simp,hcx.trans c16⟩
  |false=>
   refine zb U (zT (zl (za ?_)))
   refine Og (zG U U (by omega)) U ?_
   refine Om U (N4 0 1 7 8 U ?_)
   exact⟨l.length-(j+1),by omega,j+1,rfl,by omega,rfl,hcx.trans c16,zfr hx hpx hno⟩
 refine zI ?_
 repeat first|refine te ?_|refine bo rfl ?_
 refine zq _ ?_
 have he:l.length≤j:=by have:=of_decide_eq_false hF;omega
 refine Sr (Oa U (E1 4 U (zj ?_)))
 repeat first|refine tr ?_|refine br ?_
 refine zw U U ?_
 rw[Tl he]at hno
 exact⟨_,rfl,by rw[hno];rfl,hcx⟩
theorem zuH{α:Type}{f:α→LA}(hf:∀x,(f x).length=4)(v:Va)(l:List α)(p:α→Bool)(g:Nat)(lb:LA)(w:Wl)(hl:zN w 111 4 f v l)(hn:l.length≤1048576)(hg:zn TP g=true)
 (hp:∀x∈l,∀w1,zk [] w w1→zS TP g (Value.agg (f x).toArray::lb).toArray w1 fun r w2=>r=.bool (p x)∧zk [] w1 w2) :
 zS TP 142 #[v,.func (.func g) #[] lb.toArray] w fun r w'=>r=.bool (l.any p)∧zk [] w w':=by
 refine A2 Tryz.func142 U U ?_
 refine Sr (Oa U (E2 0 1 U (Sr (Om U (Om U ?_)))))
 refine Oc zC2 U U U (zyZ hf v l p g lb _ hl hn hg hp) ?_
 rintro v7 w7⟨i,rfl,hi,c7⟩
 refine Og (yc U U) U (Oa U (E1 4 U (zj ?_)))
 refine zw U U ?_
 exact⟨by rw[←hi],c7⟩
theorem zy2(v:Va)(l:List Int)(p:Int→Bool)(g:Nat)(lb:LA)(w:Wl)(hl:yA w v l)(hn:l.length≤1048576)(hg:zn TP g=true)
 (hp:∀x∈l,∀w1,zk [] w w1→zS TP g (Value.int .i64 x::lb).toArray w1 fun r w2=>r=.bool (p x)∧zk [] w1 w2) :
 zS TP 333 #[v,.func (.func g) #[] lb.toArray] w fun r w'=>∃i:Int,r=Ii i∧decide (0≤i)=l.any p∧zk [] w w':=by
 obtain⟨pv,cv,hval,hle⟩:=zN.val hl
 refine A2 Tryz.func333 U U ?_
 refine Sr (Oa U (E2 0 1 U (zf (zf ?_))))
 subst hval
 refine za (Om U (On zaH U (Om U (E4 0 1 7 8 U (zp ?_)))))
 refine zQ [0,1,7,8] (fun m F wx=>∃j:Nat,m=l.length-j∧j≤l.length∧F=[(0,.slice pv l.length cv),(1,.func (.func g) #[] lb.toArray),(7,Ii l.length),(8,Ii j)]∧zk [] w wx∧(l.take j).any p=false) (m:=l.length-0) ⟨0,rfl,Zl _,rfl,zk.refl _ _,by simp⟩ ?_
 rintro m F wx⟨j,rfl,hj,rfl,hcx,hno⟩
 refine Sr (Og (zz U U) U (E5 0 1 7 8 9 U (zf ?_)))
 refine zP U (fun hT=>?_) (fun hF=>?_)
 ·refine zm ?_
  have hlt:j<l.length:=by have:=of_decide_eq_true hT;omega
  have hx:l[j]?=some l[j]:=by simp[hlt]
  generalize l[j]=x at hx
  obtain⟨b,off,cap,hv,hcell⟩:=yA.cell (zN.chg0 hl hcx) hx
  cases hv
  refine zf (zp (Sr (Om U (Oa U (E5 0 1 5 7 8 U (Sr (Om U (Om U (Om U ?_)))))))))
  refine Og (zi zaH sz3 U U _ U hlt) U ?_
  refine Ol ag3 U hcell ?_
  refine Oc hg U U U (hp x (Mg hx) _ hcx) ?_
  rintro v16 w16⟨rfl,c16⟩
  refine E6 0 1 5 7 8 16 U ?_
  cases hpx:p x with
  |true=>
   refine ze U (Sr (Om U (Oa U (E1 4 U (zj ?_)))))
   repeat first|refine tr ?_|refine br ?_
   refine zw U U ?_
   exact⟨_,rfl,by rw[zgw hx hpx];simp,hcx.trans c16⟩
  |false=>
   refine zb U (zT (zl (za ?_)))
   refine Og (zG U U (by omega)) U ?_
   refine Om U (N4 0 1 7 8 U ?_)
   exact⟨l.length-(j+1),by omega,j+1,rfl,by omega,rfl,hcx.trans c16,zfr hx hpx hno⟩
 refine zI ?_
 repeat first|refine te ?_|refine bo rfl ?_
 refine zq _ ?_
 have he:l.length≤j:=by have:=of_decide_eq_false hF;omega
 refine Sr (Oa U (E1 4 U (zj ?_)))
 repeat first|refine tr ?_|refine br ?_
 refine zw U U ?_
 rw[Tl he]at hno
 exact⟨_,rfl,by rw[hno];rfl,hcx⟩
theorem zs2(v:Va)(l:List Int)(p:Int→Bool)(g:Nat)(lb:LA)(w:Wl)(hl:yA w v l)(hn:l.length≤1048576)(hg:zn TP g=true)
 (hp:∀x∈l,∀w1,zk [] w w1→zS TP g (Value.int .i64 x::lb).toArray w1 fun r w2=>r=.bool (p x)∧zk [] w1 w2) :
 zS TP 302 #[v,.func (.func g) #[] lb.toArray] w fun r w'=>r=.bool (l.any p)∧zk [] w w':=by
 refine A2 Tryz.func302 U U ?_
 refine Sr (Oa U (E2 0 1 U (Sr (Om U (Om U ?_)))))
 refine Oc zBz U U U (zy2 v l p g lb _ hl hn hg hp) ?_
 rintro v7 w7⟨i,rfl,hi,c7⟩
 refine Og (yc U U) U (Oa U (E1 4 U (zj ?_)))
 refine zw U U ?_
 exact⟨by rw[←hi],c7⟩
theorem zvr(v:Va)(l:List (List Int))(p:List Int→Bool)(g:Nat)(lb:LA)(w:Wl)(hl:zcm w v l)(hn:l.length≤1048576)(hg:zn TP g=true)
 (hp:∀x∈l,∀u w1,zk [] w w1→yA w1 u x→zS TP g (u::lb).toArray w1 fun r w2=>r=.bool (p x)∧zk [] w1 w2) :
 zS TP 334 #[v,.func (.func g) #[] lb.toArray] w fun r w'=>∃i:Int,r=Ii i∧decide (0≤i)=l.any p∧zk [] w w':=by
 obtain⟨pv,cv,hval,hle⟩:=zbT.val hl
 refine A2 Tryz.func334 U U ?_
 refine Sr (Oa U (E2 0 1 U (zf (zf ?_))))
 subst hval
 refine za (Om U (On zbd U (Om U (E4 0 1 7 8 U (zp ?_)))))
 refine zQ [0,1,7,8] (fun m F wx=>∃j:Nat,m=l.length-j∧j≤l.length∧F=[(0,.slice pv l.length cv),(1,.func (.func g) #[] lb.toArray),(7,Ii l.length),(8,Ii j)]∧zk [] w wx∧(l.take j).any p=false) (m:=l.length-0) ⟨0,rfl,Zl _,rfl,zk.refl _ _,by simp⟩ ?_
 rintro m F wx⟨j,rfl,hj,rfl,hcx,hno⟩
 refine Sr (Og (zz U U) U (E5 0 1 7 8 9 U (zf ?_)))
 refine zP U (fun hT=>?_) (fun hF=>?_)
 ·refine zm ?_
  have hlt:j<l.length:=by have:=of_decide_eq_true hT;omega
  have hx:l[j]?=some l[j]:=by simp[hlt]
  generalize l[j]=x at hx
  obtain⟨b,off,cap,u,hv,hcell,hu⟩:=zbT.at (hl.chg0 hcx) hx
  cases hv
  refine zf (zp (Sr (Om U (Oa U (E5 0 1 5 7 8 U (Sr (Om U (Om U (Om U ?_)))))))))
  refine Og (zi zbd zg6 U U _ U hlt) U ?_
  refine Ol zci U hcell ?_
  refine Oc hg U U U (hp x (Mg hx) u _ hcx hu) ?_
  rintro v16 w16⟨rfl,c16⟩
  refine E6 0 1 5 7 8 16 U ?_
  cases hpx:p x with
  |true=>
   refine ze U (Sr (Om U (Oa U (E1 4 U (zj ?_)))))
   repeat first|refine tr ?_|refine br ?_
   refine zw U U ?_
   exact⟨_,rfl,by rw[zgw hx hpx];simp,hcx.trans c16⟩
  |false=>
   refine zb U (zT (zl (za ?_)))
   refine Og (zG U U (by omega)) U ?_
   refine Om U (N4 0 1 7 8 U ?_)
   exact⟨l.length-(j+1),by omega,j+1,rfl,by omega,rfl,hcx.trans c16,zfr hx hpx hno⟩
 refine zI ?_
 repeat first|refine te ?_|refine bo rfl ?_
 refine zq _ ?_
 have he:l.length≤j:=by have:=of_decide_eq_false hF;omega
 refine Sr (Oa U (E1 4 U (zj ?_)))
 repeat first|refine tr ?_|refine br ?_
 refine zw U U ?_
 rw[Tl he]at hno
 exact⟨_,rfl,by rw[hno];rfl,hcx⟩
theorem zvv(v:Va)(l:List (List Int))(p:List Int→Bool)(g:Nat)(lb:LA)(w:Wl)(hl:zcm w v l)(hn:l.length≤1048576)(hg:zn TP g=true)
 (hp:∀x∈l,∀u w1,zk [] w w1→yA w1 u x→zS TP g (u::lb).toArray w1 fun r w2=>r=.bool (p x)∧zk [] w1 w2) :
 zS TP 303 #[v,.func (.func g) #[] lb.toArray] w fun r w'=>r=.bool (l.any p)∧zk [] w w':=by
 refine A2 Tryz.func303 U U ?_
 refine Sr (Oa U (E2 0 1 U (Sr (Om U (Om U ?_)))))
 refine Oc zAX U U U (zvr v l p g lb _ hl hn hg hp) ?_
 rintro v7 w7⟨i,rfl,hi,c7⟩
 refine Og (yc U U) U (Oa U (E1 4 U (zj ?_)))
 refine zw U U ?_
 exact⟨by rw[←hi],c7⟩
theorem ztX(v:Va)(l:List Int)(c:Int)(w:Wl)(hl:yA w v l)(hn:l.length≤1048576) :
 zS TP 352 #[v,Ii c] w fun r w'=>∃i:Int,r=Ii i∧decide (0≤i)=decide (c∈l)∧w'=w:=by
 obtain⟨pv,cv,hval,hle⟩:=zN.val hl
 refine A2 Tryz.func352 U U ?_
 refine Sr (Oa U (E2 0 1 U (zf (zf ?_))))
 subst hval
 refine za (Om U (On zaH U (Om U (E4 0 1 7 8 U (zp ?_)))))
 refine zQ [0,1,7,8] (fun m F wx=>wx=w∧∃j:Nat,m=l.length-j∧j≤l.length∧F=[(0,.slice pv l.length cv),(1,Ii c),(7,Ii l.length),(8,Ii j)]∧c∉l.take j) (m:=l.length-0) ⟨rfl,0,rfl,Zl _,rfl,by simp⟩ ?_
 rintro m F wx⟨hwx,j,rfl,hj,rfl,hno⟩
 subst wx
 refine Sr (Og (zz U U) U (E5 0 1 7 8 9 U (zf ?_)))
 refine zP U (fun hT=>?_) (fun hF=>?_)
 ·refine zm ?_
  have hlt:j<l.length:=by have:=of_decide_eq_true hT;omega
  have hx:l[j]?=some l[j]:=by simp[hlt]
  generalize l[j]=x at hx
  obtain⟨b,off,cap,hv,hcell⟩:=yA.cell hl hx
  cases hv
  refine zf (zp (Sr (Om U (Oa U (E5 0 1 5 7 8 U (Sr (Om U (Om U (Om U ?_)))))))))
  refine Og (zi zaH sz3 U U _ U hlt) U ?_
  refine Ol ag3 U hcell (Og (zy U U) U (E6 0 1 5 7 8 16 U ?_))
  refine zP U (fun hT=>?_) (fun hF=>?_)
  ·have he:c=x:=of_decide_eq_true hT
   refine Sr (Om U (Oa U (E1 4 U (zj ?_))))
   repeat first|refine tr ?_|refine br ?_
   refine zw U U ?_
   have hm:c∈l:=he▸Mg hx
   exact⟨_,rfl,by simp[hm],rfl⟩
  have he:c≠x:=of_decide_eq_false hF
  refine zT (zl (za ?_))
  refine Og (zG U U (by omega)) U ?_
  refine Om U (N4 0 1 7 8 U ?_)
  refine⟨l.length-(j+1),by omega,rfl,j+1,rfl,by omega,rfl,?_⟩
  rw[List.take_add_one,hx]
  simp[hno,he]
 refine zI ?_
 repeat first|refine te ?_|refine bo rfl ?_
 refine zq _ ?_
 have he:l.length≤j:=by have:=of_decide_eq_false hF;omega
 refine Sr (Oa U (E1 4 U (zj ?_)))
 repeat first|refine tr ?_|refine br ?_
 refine zw U U ?_
 rw[Tl he]at hno
 exact⟨_,rfl,by simp[hno],rfl⟩
theorem znH(v:Va)(l:List Int)(c:Int)(w:Wl)(hl:yA w v l)(hn:l.length≤1048576) :
 zS TP 330 #[v,Ii c] w fun r w'=>r=.bool (decide (c∈l))∧w'=w:=by
 refine A2 Tryz.func330 U U ?_
 refine Sr (Oa U (E2 0 1 U (Sr (Om U (Om U ?_)))))
 refine Oc zAV U U U (ztX v l c _ hl hn) ?_
 rintro v7 w7⟨i,rfl,hi,rfl⟩
 refine Og (yc U U) U (Oa U (E1 4 U (zj ?_)))
 refine zw U U ?_
 exact⟨by rw[←hi],rfl⟩
def znD(s k f:Nat):Va:=.agg #[.func (.func s) #[] #[],Ii k,.func (.func f) #[] #[]]
def zh8:List (Int×Va):=[(1,znD 338 1 339),(2,znD 338 2 340),(3,znD 341 3 342),(4,znD 343 4 344)]
theorem zjm(w:Wl):zS TP 320 #[] w fun r w'=>∃b,r=.map (some b)∧w.heap.size≤b∧yf (zaP .i64) w' b zh8∧zk [] w w':=by
 refine zS.of_W (args:=[]) Tryz.func320 U U U U ?_
 refine Sr (Oa U (yO [] (F':=[]) U (Sr ?_)))
 refine Oq (zb5 (zaP .i64) U ?_)
 intro b1 w1 e1 n1 c1 k1
 refine Og (zL zp0 zec U (vs:=[_,_,_]) U (css:=[_,_,_]) ⟨U,U,U,Tt⟩ U U (cs:=[_,_,_]) U) U ?_
 refine Oq (yQ (κ:=zaP .i64) zgT (z0 zaN) U U U k1 ?_)
 intro wA nA cA kA
 refine Og (zL zp0 zec U (vs:=[_,_,_]) U (css:=[_,_,_]) ⟨U,U,U,Tt⟩ U U (cs:=[_,_,_]) U) U ?_
 refine Oq (yQ (κ:=zaP .i64) zgT (z0 zaN) U U U kA ?_)
 intro wB nB cB kB
 refine Og (zL zp0 zec U (vs:=[_,_,_]) U (css:=[_,_,_]) ⟨U,U,U,Tt⟩ U U (cs:=[_,_,_]) U) U ?_
 refine Oq (yQ (κ:=zaP .i64) zgT (z0 zaN) U U U kB ?_)
 intro wC nC cC kC
 refine Og (zL zp0 zec U (vs:=[_,_,_]) U (css:=[_,_,_]) ⟨U,U,U,Tt⟩ U U (cs:=[_,_,_]) U) U ?_
 refine Oq (yQ (κ:=zaP .i64) zgT (z0 zaN) U U U kC ?_)
 intro wD nD cD kD
 refine Om U (Oa U (E1 0 U (zj ?_)))
 refine zw U U ?_
 exact⟨b1,rfl,by omega,kD,c1.own ((((cA.transS cB).transS cC).transS cD)) (by intro x hx;simp at hx;omega)⟩
def zgR(c:Col):Bool:=decide (1≤c.t∧c.t≤4)
def zmT(c:Col):Bool:=if c.t=1∨c.t=2 then zdE c.s else if c.t=3 then decide (c.s=0) else if c.t=4 then decide (1≤c.s∧c.s≤200) else false
theorem zeO(c:Col):y9 c=(zgR c&&yT c.n&&zmT c):=by
 unfold y9
 rw[show (if c.t=1∨c.t=2 then zdE c.s else if c.t=3 then decide (c.s=0) else if c.t=4 then decide (1≤c.s∧c.s≤200) else false)=zmT c from rfl]
 cases ht:zgR c with
 |true=>simp
 |false=>
  simp only[zgR,decide_eq_false_iff_not]at ht
  have:zmT c=false:=by
   unfold zmT
   rw[if_neg (by omega),if_neg (by omega),if_neg (by omega)]
  simp[this]
theorem zf4{c:Col}(h:zgR c=true):∃(s f:Nat) (k:Nat),zbb zh8 c.t=some (znD s k f)∧(k:Int)=c.t∧zn TP s=true∧zn TP f=true∧(∀w,zS TP s #[Ii c.s] w fun r w'=>r=.bool (zmT c)∧w'=w) ∧
 (y9 c=true→∀(x:zX) w,x.Rng→zS TP f #[Ii c.s,x.v] w fun r w'=>r=.bool (!zbQ c x)∧zk [] w w'):=by
 obtain⟨n,t,z,nl⟩:=c
 simp only[zgR,decide_eq_true_eq]at h
 rcases (show t=1∨t=2∨t=3∨t=4 by omega) with rfl|rfl|rfl|rfl
 ·refine⟨_,_,1,U,U,zxm,zzT,fun w=>zp9 z w,fun hr x w hx=>zvb z x w ?_ hx⟩
  rw[zeO]at hr;simp only[Bool.and_eq_true]at hr;exact hr.2
 ·refine⟨_,_,2,U,U,zxm,zz0,fun w=>zp9 z w,fun hr x w hx=>zvZ z x w ?_ hx⟩
  rw[zeO]at hr;simp only[Bool.and_eq_true]at hr;exact hr.2
 ·exact⟨_,_,3,U,U,zCf,zAR,fun w=>zvB z w,fun hr x w hx=>zuW z x w⟩
 exact⟨_,_,4,U,U,zBs,zAa,fun w=>zvc z w,fun hr x w hx=>zvf z x w⟩
theorem ziV{c:Col}(h:zgR c=false):zbb zh8 c.t=none:=by
 simp only[zgR,decide_eq_false_iff_not]at h
 have h1:¬ (1:Int)=c.t:=by omega
 have h2:¬ (2:Int)=c.t:=by omega
 have h3:¬ (3:Int)=c.t:=by omega
 have h4:¬ (4:Int)=c.t:=by omega
 simp[zh8,zbb,h1,h2,h3,h4]
theorem zon{c:Col}{g:Option Va}(hg:zbb zh8 c.t=g):∃va vb vc,g.getD (.agg #[.nilFunc,Ii 0,.nilFunc])=.agg #[va,vb,vc]∧va.oneCell'=true∧vb.oneCell'=true∧vc.oneCell'=true:=by
 cases hk:zgR c with
 |false=>rw[ziV hk]at hg;subst hg;exact⟨_,_,_,rfl,rfl,rfl,rfl⟩
 |true=>obtain⟨s,f,k,h,_⟩:=zf4 hk;rw[h]at hg;subst hg;exact⟨_,_,_,rfl,rfl,rfl,rfl⟩
theorem zi7(c:Col)(w:Wl):zS TP 298 #[c.v] w fun r w'=>r=.bool (y9 c)∧zk [] w w':=by
 rw[zeO]
 refine A1 Tryz.func298 U U ?_
 refine Sr ?_
 refine Ob U U ?_
 intro b1 w1 e1 n1 c1 k1
 refine Oa U (E1 1 U ?_)
 obtain⟨g,hg⟩:∃g,zbb zh8 c.t=g:=⟨_,rfl⟩
 obtain⟨va,vb,vc,hv,hva,hvb,hvc⟩:=zon hg
 refine zR (fun F wA=>∃b3,F=[(1,Pt b1),(3,Pt b3),(4,.bool g.isSome)]∧zO wA b3 412 [va,vb,vc]∧zk [] w1 wA) ?_ ?_
 ·have hC:=(zk.drew [] w1)
  refine zgC (fun wz=>zk [] w1 wz) (zbK.seq [1,2] (.two 0 (zbK.seq [] (.two 3 (zbK.seq [4,5,6,7,8,9] .done) 7 (zbK.seq [3,4,5,6,8,9] .done))) 7 (zbK.seq [0,3,4,5,6,8,9] .done))) mix (by kernel_rfl) hC ?_
  refine ye U U (gn U) (fun _=>zd zfI U) U U ?_
  refine ze0 U U (gn U) (fun wz hz=>zg zjK U ((k1.chg0 hz).cell' U)) U U ?_
  refine zge ?_ ?_
  ·refine zaC U U (gn U) (yX zpU U U U U (zjm _) ?_)
   rintro v6 w6⟨b6,rfl,h6,k6,c6⟩
   have hN6:=hC.size
   have hC:=hC.trans c6
   refine⟨.inl hC,?_⟩
   refine zge ?_ ?_
   ·refine zaC U U (gn U) (St.vl (zdK (κ:=zaP .i64) zgT (z0 zaN) zec U U k6 hg hv) U U ?_)
    refine⟨.inl hC,?_⟩
    refine ye U U (gn U) (fun _=>zav U) U U ?_
    refine ye U U (gn U) (fun _=>zM U U) U U ?_
    refine ye U U (gn U) (fun _=>zM U U) U U ?_
    refine zaC U U (gn U) (zF zec U U ?_)
    intro b3 w3 e3 n3 c3 k3
    have hN3:=hC.size
    have hC:=hC.trans c3
    have k6:=k6.chg0 c3
    refine⟨.inl hC,?_⟩
    refine zaC U U (gn U) (zt zkO U U U U k3 (by simp) (by intro u hu;simp at hu;rcases hu with rfl|rfl|rfl;exact hva;exact hvb;exact hvc) ?_)
    intro wA nA cA kA
    have hC:=hC.own cA (by intro y hy;simp at hy;omega)
    refine⟨.inl hC,?_⟩
    refine ye U U (gn U) (fun _=>yg U) U U ?_
    refine zd2 [1,3,4] (F':=[(1,_),(3,_),(4,_)]) U ?_
    exact⟨b3,U,kA,hC⟩
   refine zaC U U (gn U) (zF zec U U ?_)
   intro b3 w3 e3 n3 c3 k3
   have hN3:=hC.size
   have hC:=hC.trans c3
   have k6:=k6.chg0 c3
   refine⟨.inl hC,?_⟩
   refine zaC U U (gn U) (St.vl (zdK (κ:=zaP .i64) zgT (z0 zaN) zec U U k6 hg hv) U U ?_)
   refine⟨.inl hC,?_⟩
   refine ye U U (gn U) (fun _=>zav U) U U ?_
   refine ye U U (gn U) (fun _=>zM U U) U U ?_
   refine ye U U (gn U) (fun _=>zM U U) U U ?_
   refine zaC U U (gn U) (zt zkO U U U U k3 (by simp) (by intro u hu;simp at hu;rcases hu with rfl|rfl|rfl;exact hva;exact hvb;exact hvc) ?_)
   intro wA nA cA kA
   have hC:=hC.own cA (by intro y hy;simp at hy;omega)
   refine⟨.inl hC,?_⟩
   refine ye U U (gn U) (fun _=>yg U) U U ?_
   refine zd2 [1,3,4] (F':=[(1,_),(3,_),(4,_)]) U ?_
   exact⟨b3,U,kA,hC⟩
  refine zaC U U (gn U) (zF zec U U ?_)
  intro b3 w3 e3 n3 c3 k3
  have hN3:=hC.size
  have hC:=hC.trans c3
  refine⟨.inl hC,?_⟩
  refine zaC U U (gn U) (yX zpU U U U U (zjm _) ?_)
  rintro v6 w6⟨b6,rfl,h6,k6,c6⟩
  have hN6:=hC.size
  have hC:=hC.trans c6
  have k3:=k3.chg0 c6
  refine⟨.inl hC,?_⟩
  refine zaC U U (gn U) (St.vl (zdK (κ:=zaP .i64) zgT (z0 zaN) zec U U k6 hg hv) U U ?_)
  refine⟨.inl hC,?_⟩
  refine ye U U (gn U) (fun _=>zav U) U U ?_
  refine ye U U (gn U) (fun _=>zM U U) U U ?_
  refine ye U U (gn U) (fun _=>zM U U) U U ?_
  refine zaC U U (gn U) (zt zkO U U U U k3 (by simp) (by intro u hu;simp at hu;rcases hu with rfl|rfl|rfl;exact hva;exact hvb;exact hvc) ?_)
  intro wA nA cA kA
  have hC:=hC.own cA (by intro y hy;simp at hy;omega)
  refine⟨.inl hC,?_⟩
  refine ye U U (gn U) (fun _=>yg U) U U ?_
  refine zd2 [1,3,4] (F':=[(1,_),(3,_),(4,_)]) U ?_
  exact⟨b3,U,kA,hC⟩
 rintro F wA⟨b3,rfl,kA,hcA⟩
 have hk1:=k1.chg0 hcA
 refine zf ?_
 cases hk:zgR c with
 |false=>
  have hg':g=none:=hg.symm.trans (ziV hk)
  subst hg'
  refine za (Om U (Om U (Ok U (Ok U (Ok U (Of U (Om U (Ok U (Ok U (Ok U (Ok U (Ok U (Of U (Oa U (E1 2 U (zj ?_))))))))))))))))
  refine zw U U ?_
  exact⟨by simp,c1.trans hcA⟩
 |true=>
  obtain⟨s,f,k,hg',_,hbs,_,hs,_⟩:=zf4 hk
  rw[hg']at hg
  subst hg
  cases hv
  cases hnm:yT c.n with
  |false=>
   refine za (Om U (Om U (Oi U (zd zbU U) (Oi U (zg yI U (hk1.cell' U)) ?_))))
   refine Ow U U zxH U U U (zpD c.n _) ?_
   rintro v16 w16⟨h16,c16⟩
   rw[hnm]at h16
   subst h16
   refine Ot U (Om U (Ok U (Ok U (Ok U (Ok U (Ok U (Of U (Oa U (E1 2 U (zj ?_))))))))))
   refine zw U U ?_
   exact⟨by simp,(c1.trans hcA).trans c16⟩
  |true=>
   refine za (Om U (Om U (Oi U (zd zbU U) (Oi U (zg yI U (hk1.cell' U)) ?_))))
   refine Ow U U zxH U U U (zpD c.n _) ?_
   rintro v16 w16⟨h16,c16⟩
   rw[hnm]at h16
   subst h16
   refine Ot U (Om U (Oi U (zd zvk U) (Oi U (zg zBq U ((kA.chg0 c16).cell' U)) (Oi U (zd zbG U) (Oi U (zg ag3 U ((hk1.chg0 c16).cell' U)) ?_)))))
   refine Ow U U hbs U U U (hs _) ?_
   rintro v23 w23⟨rfl,rfl⟩
   refine Ot U (Oa U (E1 2 U (zj ?_)))
   refine zw U U ?_
   exact⟨by simp,(c1.trans hcA).trans c16⟩
theorem zkp{l:List Int}{n:Nat}(h:¬ (1≤l.length∧l.length≤4)):zd3 l n=false:=by simp only[zd3,df h,Bool.false_and]
theorem zhd{l:List Int}{n j:Nat}{x:Int}(hx:l[j]?=some x)(h:¬ (0≤x∧x<n)∨x∈l.take j):zd3 l n=false:=by
 cases hs:zd3 l n with
 |false=>rfl
 |true=>
  obtain⟨_,h2,h3⟩:=zbl hs
  rcases h with h|h
  ·exact absurd (h2 x (Mg hx)) h
  exfalso
  obtain⟨i,hi⟩:=List.mem_iff_getElem?.1 h
  have hil:=(Gs hi).1
  rw[List.length_take]at hil
  rw[List.getElem?_take_of_lt (by omega)]at hi
  obtain⟨hi',ei⟩:=Gs hi
  obtain⟨hj',ej⟩:=Gs hx
  exact List.pairwise_iff_getElem.1 h3 i j hi' hj' (by omega) (ei.trans ej.symm)
theorem zor{l:List Int}{x:Int}(h:l.Nodup)(hx:x∉l):(l++[x]).Nodup:=by
 unfold List.Nodup at *
 rw[List.pairwise_append]
 exact⟨h,List.pairwise_singleton _ _,fun a ha b hb=>by simp at hb;subst hb;rintro rfl;exact hx ha⟩
theorem zsz(c k u v:Va)(n:Nat)(l:List Int)(w:Wl)(hc:∃p d,c=.slice p n d)(ho:∀x∈[c,k,u],x.oneCell'=true)(hv:yA w v l)(hn:l.length≤1048576)(hn':n≤1048576) :
 zS TP 297 #[.agg #[c,k,u],v] w fun r w'=>r=.bool (zd3 l n)∧zk [] w w':=by
 obtain⟨pc,dc,rfl⟩:=hc
 obtain⟨pv,cv,rfl,hle⟩:=zN.val hv
 refine A2 Tryz.func297 U U ?_
 refine Sr ?_
 refine Ob U U ?_
 intro b2 w2 e2 n2 c2 k2
 refine Oa U (E2 1 2 U ?_)
 have hv2:=zN.chg0 hv c2
 refine zf (zf ?_)
 by_cases h1:1≤l.length
 ·by_cases h4:l.length≤4
  ·refine za (Om U (On zaH U ?_))
   refine Og (vf (zz U U) (df (by omega))) U ?_
   refine Om U (Ov U (Oi U (zV zaH U) ?_))
   refine Oi U (vf (zU U U) (df (by omega))) ?_
   refine Of U (E3 1 2 14 U (zb U (zm (zf (Sr (Om U (On zaH U (Om U (E5 1 2 15 16 17 U (zp ?_))))))))))
   refine zQ [1,2,15,16,17] (fun m F wx=>wx=w2∧∃j:Nat,m=l.length-j∧j≤l.length∧F=[(1,.slice pv l.length cv),(2,Pt b2),(15,.slice pv l.length cv),(16,Ii l.length),(17,Ii j)]∧(∀x∈l.take j,0≤x∧x<n)∧(l.take j).Nodup) (m:=l.length-0) ⟨rfl,0,rfl,Zl _,rfl,by simp,by simp⟩ ?_
   rintro m F wx⟨hwx,j,rfl,hj,rfl,hall,hnd⟩
   subst wx
   refine Sr (Og (zz U U) U (E6 1 2 15 16 17 18 U (zf ?_)))
   refine zP U (fun hT=>?_) (fun hF=>?_)
   ·refine zm ?_
    have hlt:j<l.length:=by have:=of_decide_eq_true hT;omega
    have hx:l[j]?=some l[j]:=by simp[hlt]
    generalize l[j]=x at hx
    obtain⟨b,off,cap,hve,hcell⟩:=yA.cell hv2 hx
    cases hve
    refine zf (zp (Sr (Om U ?_)))
    refine Og (zi zaH sz3 U U _ U hlt) U ?_
    refine Ol ag3 U hcell (Oa U (Oa U (E7 1 2 5 6 15 16 17 U (zf ?_))))
    by_cases h0:x<0
    ·refine za (Om U ?_)
     refine Og (vt (zz U U) (dt (by omega))) U ?_
     refine Om U ?_
     iterate 6 refine Ok U ?_
     refine Ot U (Om U (Ok U (Ok U (Ok U (Ok U (Ok U (Ot U (E6 1 2 15 16 17 38 U (ze U (Sr (Oa U (E1 4 U (zj ?_)))))))))))))
     repeat first|refine tr ?_|refine br ?_
     refine zw U U ?_
     exact⟨by rw[zhd hx (.inl (by omega))],c2⟩
    by_cases hxn:x<n
    ·refine za (Om U ?_)
     refine Og (vf (zz U U) (df (by omega))) U ?_
     refine Om U (Ov U (Oi U (zd zaU U) (Oi U (zd yp U) (Oi U (zg za9 U (k2.cell' U)) (Oi U (zV zaO U) ?_)))))
     refine Oi U (vf (yc U U) (df (by omega))) ?_
     refine Of U (Om U (Ov U (Ov U ?_)))
     refine Oi U (zbq zaH sz3 U U _ U (by omega)) ?_
     refine Ov U ?_
     refine Ow U U zAP U U U (znH _ (l.take j) x w2 (zN.take zhT hv2 hj (by omega) (Nat.le_refl _)) (by rw[List.length_take];omega)) ?_
     rintro v37 w37⟨rfl,rfl⟩
     refine Of U (E6 1 2 15 16 17 38 U ?_)
     refine zP U (fun hM=>?_) (fun hM=>?_)
     ·have hm:x∈l.take j:=of_decide_eq_true hM
      refine Sr (Oa U (E1 4 U (zj ?_)))
      repeat first|refine tr ?_|refine br ?_
      refine zw U U ?_
      exact⟨by rw[zhd hx (.inr hm)],c2⟩
     have hm:x∉l.take j:=of_decide_eq_false hM
     refine zT (zl (za ?_))
     refine Og (zG U U (by omega)) U ?_
     refine Om U (N5 1 2 15 16 17 U ?_)
     refine⟨l.length-(j+1),by omega,rfl,j+1,rfl,by omega,rfl,?_,?_⟩
     ·intro y hy
      rw[List.take_add_one,hx]at hy
      rcases List.mem_append.1 hy with hy|hy
      ·exact hall y hy
      simp at hy;subst hy;omega
     rw[List.take_add_one,hx]
     exact zor hnd hm
    refine za (Om U ?_)
    refine Og (vf (zz U U) (df (by omega))) U ?_
    refine Om U (Ov U (Oi U (zd zaU U) (Oi U (zd yp U) (Oi U (zg za9 U (k2.cell' U)) (Oi U (zV zaO U) ?_)))))
    refine Oi U (vt (yc U U) (dt (by omega))) ?_
    refine Of U (Om U (Ok U (Ok U (Ok U (Ok U (Ok U (Ot U (E6 1 2 15 16 17 38 U (ze U (Sr (Oa U (E1 4 U (zj ?_)))))))))))))
    repeat first|refine tr ?_|refine br ?_
    refine zw U U ?_
    exact⟨by rw[zhd hx (.inl (by omega))],c2⟩
   refine zI ?_
   repeat first|refine te ?_|refine bo rfl ?_
   refine zq _ ?_
   have he:l.length≤j:=by have:=of_decide_eq_false hF;omega
   refine Sr (Oa U (E1 4 U (zj ?_)))
   repeat first|refine tr ?_|refine br ?_
   refine zw U U ?_
   rw[Tl he]at hall hnd
   refine⟨?_,c2⟩
   congr 1
   simp only[zd3,Bool.and_eq_true,decide_eq_true_eq,List.all_eq_true,eq_comm (a:=true)]
   exact⟨⟨⟨h1,h4⟩,hall⟩,hnd⟩
  refine za (Om U (On zaH U ?_))
  refine Og (vf (zz U U) (df (by omega))) U ?_
  refine Om U (Ov U (Oi U (zV zaH U) ?_))
  refine Oi U (vt (zU U U) (dt (by omega))) ?_
  refine Of U (E3 1 2 14 U (ze U (Sr (Oa U (E1 4 U (zj ?_))))))
  repeat first|refine tr ?_|refine br ?_
  refine zw U U ?_
  exact⟨by rw[zkp (by omega)],c2⟩
 refine za (Om U (On zaH U ?_))
 refine Og (vt (zz U U) (dt (by omega))) U ?_
 refine Om U (Ok U (Ok U (Ok U (Ot U (E3 1 2 14 U (ze U (Sr (Oa U (E1 4 U (zj ?_))))))))))
 repeat first|refine tr ?_|refine br ?_
 refine zw U U ?_
 exact⟨by rw[zkp (by omega)],c2⟩
theorem zBm(o c:Col)(b:Nat)(w:Wl)(hb:zO w b 114 c.cs):zS TP 300 #[o.v,Pt b] w fun r w'=>r=.bool (decide (o.n=c.n))∧zk [] w w':=by
 refine A2 Tryz.func300 U U ?_
 refine Sr ?_
 refine Ob U U ?_
 intro b2 w2 e2 n2 c2 k2
 refine Oa U (E2 1 2 U (Sr (Od zbU U (Ol yI U (k2.cell' U) (Od zbU U (Ol yI U ((hb.chg0 c2).cell' U) (Og (zaQ U U) U (Oa U (E1 3 U (zj ?_))))))))))
 refine zw U U ?_
 exact⟨U,c2⟩
theorem zxi(i:Int)(s:yK)(c k u:Va)(b:Nat)(w:Wl)(hb:zO w b 327 [c,k,u])(hc:zim w c s.cols)(hi:0≤i∧i<s.cols.length):zS TP 301 #[Ii i,Pt b] w fun r w'=>r=.bool (zfi s i).z∧zk [] w w':=by
 have hlt:i.toNat<s.cols.length:=by omega
 have hx:s.cols[i.toNat]?=some s.cols[i.toNat]:=by simp[hlt]
 unfold zfi
 rw[hx]
 dsimp only[Option.getD_some]
 generalize s.cols[i.toNat]=x at hx
 obtain⟨b',off,cap,rfl,hcell⟩:=zN.at zaE hc hx
 refine A2 Tryz.func301 U U ?_
 refine Sr (Oa U (E2 0 1 U (zf ?_)))
 obtain⟨i',rfl⟩:∃i':Nat,i=(i':Int):=⟨i.toNat,by omega⟩
 refine za (Od zaU U (Od yp U (Ol za9 U (hb.cell' U) (Om U ?_))))
 refine Og (zi zaO zad U U _ U (by omega)) U ?_
 refine Od zfB U ?_
 refine Ol ag4 U (hcell 3 _ U) ?_
 refine Oa U (E1 3 U (zj ?_))
 refine zw U U ?_
 exact⟨U,zk.refl _ _⟩
theorem zzO(v c k u:Va)(l:List Int)(n:Nat)(b:Nat)(w:Wl)(hb:zO w b 327 [c,k,u])(hc:∃p d,c=.slice p n d)(ho:∀x∈[c,k,u],x.oneCell'=true)(hv:yA w v l)(hn:l.length≤1048576)(hn':n≤1048576) :
 zS TP 304 #[v,Pt b] w fun r w'=>r=.bool (!zd3 l n)∧zk [] w w':=by
 refine A2 Tryz.func304 U U ?_
 refine Sr (Oa U (E2 0 1 U (Sr (Og (zh zsA ztz U U (zv.of_blk0 hb)) U (Om U ?_)))))
 refine Oc ztN U U U (zsz c k u v n l _ hc ho hv hn hn') ?_
 rintro v6 w6⟨rfl,c6⟩
 refine Og (zC U) U (Oa U (E1 3 U (zj ?_)))
 refine zw U U ?_
 exact⟨U,c6⟩
theorem zlp:∀(l:List Col),(l.map (·.n)).Nodup↔∀j x,l[j]?=some x→(l.take j).any (fun o=>decide (o.n=x.n))=false:=by
 intro l
 constructor
 ·intro h j x hx
  rw[List.any_eq_false]
  intro o ho
  obtain⟨i,hi⟩:=List.mem_iff_getElem?.1 ho
  have hil:=(Gs hi).1
  rw[List.length_take]at hil
  rw[List.getElem?_take_of_lt (by omega)]at hi
  obtain⟨hi',ei⟩:=Gs hi
  obtain⟨hj',ej⟩:=Gs hx
  have:=List.pairwise_iff_getElem.1 h i j (by simpa using hi') (by simpa using hj') (by omega)
  simp only[List.getElem_map,ei,ej]at this
  simpa using this
 intro h
 unfold List.Nodup
 rw[List.pairwise_iff_getElem]
 intro i j hi hj hij
 rw[List.length_map]at hi hj
 simp only[List.getElem_map]
 have:=List.any_eq_false.1 (h j l[j] (by simp[hj])) l[i] (List.mem_iff_getElem?.2 ⟨i,by rw[List.getElem?_take_of_lt hij];simp[hi]⟩)
 simpa using this
theorem zmS(s:yK):yJ s=(decide (1≤s.cols.length)&&decide (s.cols.length≤8)&&decide (s.uq.length≤3)&&zd3 s.key s.cols.length&&(s.cols.all y9&&decide ((s.cols.map (·.n)).Nodup))&&(!(s.key.any fun i=>(zfi s i).z)) && !(s.uq.any fun l => !zd3 l s.cols.length)):=by
 rw[Bool.eq_iff_iff]
 simp only[yJ,Bool.and_eq_true,decide_eq_true_eq,List.all_eq_true,Bool.not_eq_true',List.any_eq_false,Bool.not_eq_true,Bool.not_eq_false]
 constructor
 ·rintro ⟨⟨⟨⟨⟨⟨⟨h1,h2⟩,h3⟩,h4⟩,h5⟩,h6⟩,h7⟩,h8⟩
  exact⟨⟨⟨⟨⟨⟨h1,h2⟩,h3⟩,h4⟩,h5,h6⟩,h7⟩,h8⟩
 rintro⟨⟨⟨⟨⟨⟨h1,h2⟩,h3⟩,h4⟩,h5,h6⟩,h7⟩,h8⟩
 exact⟨⟨⟨⟨⟨⟨⟨h1,h2⟩,h3⟩,h4⟩,h5⟩,h6⟩,h7⟩,h8⟩
structure yK.Sm(s:yK):Prop where
 cols:s.cols.length≤1048576
 key:s.key.length≤1048576
 uq:s.uq.length≤1048576
 each:∀l∈s.uq,l.length≤1048576
set_option maxHeartbeats 1000000 in
theorem zmR(c k u:Va)(s:yK)(w:Wl)(hs:zai w c k u s)(hm:s.Sm):zS TP 209 #[.agg #[c,k,u]] w fun r w'=>r=.bool (yJ s)∧zk [] w w':=by
 obtain⟨m1,m2,m3,m4⟩:=hm
 have ho:=hs.one
 have hcv:∃p d,c=.slice p s.cols.length d:=by obtain⟨p,d,h,_⟩:=zN.val hs.cols;exact⟨p,d,h⟩
 obtain⟨pc,dc,rfl,hdc⟩:=zN.val hs.cols
 obtain⟨pk,dk,rfl,hdk⟩:=zN.val hs.key
 obtain⟨pu,du,rfl,hdu⟩:=zbT.val hs.uq
 rw[zmS]
 refine A1 Tryz.func209 U U ?_
 refine Sr ?_
 refine Ob U U ?_
 intro b1 w1 e1 n1 c1 k1
 refine Oa U (E1 1 U ?_)
 have hs1:=hs.chg0 c1
 refine zf (zf ?_)
 by_cases h1:1≤s.cols.length
 ·by_cases h8:s.cols.length≤8
  ·by_cases h3:s.uq.length≤3
   ·cases hset:zd3 s.key s.cols.length with
    |false=>
     refine za (Od zaU U (Od yp U (Ol za9 U (k1.cell' U) (On zaO U ?_))))
     refine Og (vf (zz U U) (df (by omega))) U ?_
     refine Om U (Oi U (zd zaU U) (Oi U (zd yp U) (Oi U (zg za9 U (k1.cell' U)) (Oi U (zV zaO U) ?_))))
     refine Oi U (vf (zU U U) (df (by omega))) ?_
     refine Of U (Om U (Oi U (zd zaU U) (Oi U (zd zay U) (Oi U (zg zcL U (k1.cell' U)) (Oi U (zV zbd U) ?_)))))
     refine Oi U (vf (zU U U) (df (by omega))) ?_
     refine Of U (Om U (Oi U (zh zsA ztz U U (zv.of_blk0 k1)) (Oi U (zd zaU U) (Oi U (zd zbp U) (Oi U (zg zci U (k1.cell' U)) ?_)))))
     refine Ow U U ztN U U U (zsz _ _ _ _ s.cols.length s.key _ hcv ho hs1.key m2 m1) ?_
     rintro v30 w30⟨h30,c30⟩
     rw[hset]at h30
     subst h30
     refine Oi U (zC U) (Of U (E2 1 32 U (ze U (Sr (Oa U (E1 2 U (zj ?_)))))))
     repeat first|refine tr ?_|refine br ?_
     refine zw U U ?_
     exact⟨by simp,c1.trans c30⟩
    |true=>
     refine za (Od zaU U (Od yp U (Ol za9 U (k1.cell' U) (On zaO U ?_))))
     refine Og (vf (zz U U) (df (by omega))) U ?_
     refine Om U (Oi U (zd zaU U) (Oi U (zd yp U) (Oi U (zg za9 U (k1.cell' U)) (Oi U (zV zaO U) ?_))))
     refine Oi U (vf (zU U U) (df (by omega))) ?_
     refine Of U (Om U (Oi U (zd zaU U) (Oi U (zd zay U) (Oi U (zg zcL U (k1.cell' U)) (Oi U (zV zbd U) ?_)))))
     refine Oi U (vf (zU U U) (df (by omega))) ?_
     refine Of U (Om U (Oi U (zh zsA ztz U U (zv.of_blk0 k1)) (Oi U (zd zaU U) (Oi U (zd zbp U) (Oi U (zg zci U (k1.cell' U)) ?_)))))
     refine Ow U U ztN U U U (zsz _ _ _ _ s.cols.length s.key _ hcv ho hs1.key m2 m1) ?_
     rintro v30 w30⟨h30,c30⟩
     rw[hset]at h30
     subst h30
     refine Oi U (zC U) (Of U (E2 1 32 U (zb U (zm (zf (zf ?_))))))
     have hk1:=k1.chg0 c30
     have hc30:zk [] w w30:=c1.trans c30
     refine za (Od zaU U (Od yp U (Ol za9 U (hk1.cell' U) (On zaO U (Om U (E4 1 35 36 37 U (zp ?_)))))))
     refine zQ [1,35,36,37] (fun m F wx=>∃j:Nat,m=s.cols.length-j∧j≤s.cols.length∧F=[(1,Pt b1),(35,.slice pc s.cols.length dc),(36,Ii s.cols.length),(37,Ii j)]∧zk [] w30 wx∧(∀x∈s.cols.take j,y9 x=true)∧(∀i x,i<j→s.cols[i]?=some x→(s.cols.take i).any (fun o=>decide (o.n=x.n))=false)) (m:=s.cols.length-0) ⟨0,rfl,Zl _,rfl,zk.refl _ _,by simp,by intro i x h;omega⟩ ?_
     rintro m F wx⟨j,rfl,hj,rfl,hcx,hall,hnd⟩
     have hk1x:=hk1.chg0 hcx
     have hsx:=(hs.chg0 hc30).chg0 hcx
     refine Sr (Og (zz U U) U (E5 1 35 36 37 38 U (zf ?_)))
     refine zP U (fun hT=>?_) (fun hF=>?_)
     ·refine zm ?_
      have hlt:j<s.cols.length:=by have:=of_decide_eq_true hT;omega
      have hx:s.cols[j]?=some s.cols[j]:=by simp[hlt]
      generalize s.cols[j]=x at hx
      obtain⟨b,off,cap,hve,hcell⟩:=zN.at zaE hsx.cols hx
      cases hve
      refine zf (zp (Sr (Om U ?_)))
      refine Og (zi zaO zad U U _ U hlt) U ?_
      refine Og (zh zcI zad U U hcell) U ?_
      refine Oq (zF zk0 U U ?_)
      intro b4 w4 e4 n4 c4 k4
      refine Oa U ?_
      refine Oq (zt zad U U U U k4 (by simp[Col.cs]) (Col.one x) ?_)
      intro wA nA cA kA
      refine E6 1 3 4 35 36 37 U ?_
      have hcA:zk [] wx wA:=c4.own cA (by intro y hy;simp at hy;omega)
      refine zf ?_
      cases hrc:y9 x with
      |false=>
       refine za (Og (zh zcI zad U U (zv.of_blk0 kA)) U ?_)
       refine Oc zpA U U U (zi7 x _) ?_
       rintro v43 w43⟨h43,c43⟩
       rw[hrc]at h43
       subst h43
       refine Og (zC U) U (Om U ?_)
       iterate 7 refine Ok U ?_
       refine Ot U (E5 1 35 36 37 53 U (ze U (Sr (Oa U (E1 2 U (zj ?_))))))
       repeat first|refine tr ?_|refine br ?_
       refine zw U U ?_
       have:s.cols.all y9=false:=by
        cases ha:s.cols.all y9 with
        |false=>rfl
        |true=>have:=List.all_eq_true.1 ha x (Mg hx);rw[hrc]at this;cases this
       exact⟨by simp[this],((hc30.trans hcx).trans hcA).trans c43⟩
      |true=>
       refine za (Og (zh zcI zad U U (zv.of_blk0 kA)) U ?_)
       refine Oc zpA U U U (zi7 x _) ?_
       rintro v43 w43⟨h43,c43⟩
       rw[hrc]at h43
       subst h43
       have hcx43:=(hcx.trans hcA).trans c43
       have hk43:=hk1.chg0 hcx43
       have hs43:=(hs.chg0 hc30).chg0 hcx43
       have kA43:=kA.chg0 c43
       refine Og (zC U) U (Om U (Oi U (zd zaU U) (Oi U (zd yp U) (Oi U (zg za9 U (hk43.cell' U)) (Ov U ?_)))))
       refine Oi U (zbq zaO zad U U _ U (by omega)) ?_
       refine Oi U (zau U U) ?_
       refine Ow U U zA7 U U U (zxV zaE _ (s.cols.take j) (fun o=>decide (o.n=x.n)) 300 [Pt b4] _ (zN.take zaE hs43.cols hj (by omega) (Nat.le_refl _)) (by rw[List.length_take];omega) zzH (fun o _ w1 hw1=>zBm o x b4 w1 (kA43.chg0 hw1))) ?_
       rintro v52 w52⟨h52,c52⟩
       refine Of U (E5 1 35 36 37 53 U ?_)
       cases hany:(s.cols.take j).any (fun o=>decide (o.n=x.n)) with
       |true=>
        rw[hany]at h52
        subst h52
        refine ze U (Sr (Oa U (E1 2 U (zj ?_))))
        repeat first|refine tr ?_|refine br ?_
        refine zw U U ?_
        have:decide ((s.cols.map (·.n)).Nodup)=false:=df fun h=>by
         have:=(zlp _).1 h j x hx
         rw[hany]at this;cases this
        exact⟨by rw[this];simp,(hc30.trans hcx43).trans c52⟩
       |false=>
        rw[hany]at h52
        subst h52
        refine zb U (zT (zl (za ?_)))
        refine Og (zG U U (by omega)) U ?_
        refine Om U (N4 1 35 36 37 U ?_)
        refine⟨s.cols.length-(j+1),by omega,j+1,rfl,by omega,rfl,hcx43.trans c52,?_,?_⟩
        ·intro y hy
         rw[List.take_add_one,hx]at hy
         rcases List.mem_append.1 hy with hy|hy
         ·exact hall y hy
         simp at hy;subst hy;exact hrc
        intro i y hi hy
        rcases Lg i j with hij|hij
        ·exact hnd i y hij hy
        have:i=j:=by omega
        subst this
        rw[hx]at hy
        cases hy
        exact hany
     refine zI ?_
     repeat first|refine te ?_|refine bo rfl ?_
     refine zq _ ?_
     have he:s.cols.length≤j:=by have:=of_decide_eq_false hF;omega
     have hcx':=hc30.trans hcx
     have hall':s.cols.all y9=true:=by
      rw[Tl he]at hall
      exact List.all_eq_true.2 hall
     have hnd':decide ((s.cols.map (·.n)).Nodup)=true:=dt ((zlp _).2 fun i x hx=>hnd i x (by have:=(Gs hx).1;omega) hx)
     refine Sr (Og (zau U U) U (Oa U (E2 1 5 U (zf ?_))))
     have hkey:=(zbl hset).2.1
     cases hnull:s.key.any fun i=>(zfi s i).z with
     |true=>
      refine za (Od zaU U (Od zbp U (Ol zci U (hk1x.cell' U) (Om U ?_))))
      refine Oc zxy U U U (zs2 _ s.key (fun i=>(zfi s i).z) 301 [Pt b1] _ hsx.key m2 zw7 (fun i hi w1 hw1=>zxi i s _ _ _ b1 w1 (hk1x.chg0 hw1) (zN.chg0 hsx.cols hw1) (hkey i hi))) ?_
      rintro v60 w60⟨h60,c60⟩
      rw[hnull]at h60
      subst h60
      refine Og (zC U) U (Om U ?_)
      iterate 6 refine Ok U ?_
      refine Of U (Oa U (E1 2 U (zj ?_)))
      repeat first|refine tr ?_|refine br ?_
      refine zw U U ?_
      exact⟨by simp,hcx'.trans c60⟩
     |false=>
      refine za (Od zaU U (Od zbp U (Ol zci U (hk1x.cell' U) (Om U ?_))))
      refine Oc zxy U U U (zs2 _ s.key (fun i=>(zfi s i).z) 301 [Pt b1] _ hsx.key m2 zw7 (fun i hi w1 hw1=>zxi i s _ _ _ b1 w1 (hk1x.chg0 hw1) (zN.chg0 hsx.cols hw1) (hkey i hi))) ?_
      rintro v60 w60⟨h60,c60⟩
      rw[hnull]at h60
      subst h60
      refine Og (zC U) U (Om U (Oi U (zd zaU U) (Oi U (zd zay U) (Oi U (zg zcL U ((hk1x.chg0 c60).cell' U)) (Oi U (zau U U) ?_)))))
      refine Ow U U zC0 U U U (zvv _ s.uq (fun l => !zd3 l s.cols.length) 304 [Pt b1] _ (zbT.chg0 hsx.uq c60) m3 zAS (fun l hl v w1 hw1 hv=>zzO v _ _ _ l s.cols.length b1 w1 ((hk1x.chg0 c60).chg0 hw1) hcv ho hv (m4 l hl) m1)) ?_
      rintro v67 w67⟨rfl,c67⟩
      refine Oi U (zC U) (Ot U (Oa U (E1 2 U (zj ?_))))
      repeat first|refine tr ?_|refine br ?_
      refine zw U U ?_
      exact⟨by simp[h1,h8,h3,hall',hnd'],(hcx'.trans c60).trans c67⟩
   refine za (Od zaU U (Od yp U (Ol za9 U (k1.cell' U) (On zaO U ?_))))
   refine Og (vf (zz U U) (df (by omega))) U ?_
   refine Om U (Oi U (zd zaU U) (Oi U (zd yp U) (Oi U (zg za9 U (k1.cell' U)) (Oi U (zV zaO U) ?_))))
   refine Oi U (vf (zU U U) (df (by omega))) ?_
   refine Of U (Om U (Oi U (zd zaU U) (Oi U (zd zay U) (Oi U (zg zcL U (k1.cell' U)) (Oi U (zV zbd U) ?_)))))
   refine Oi U (vt (zU U U) (dt (by omega))) ?_
   refine Of U (Om U ?_)
   iterate 6 refine Ok U ?_
   refine Ot U (E2 1 32 U (ze U (Sr (Oa U (E1 2 U (zj ?_))))))
   repeat first|refine tr ?_|refine br ?_
   refine zw U U ?_
   exact⟨by simp[h3],c1⟩
  refine za (Od zaU U (Od yp U (Ol za9 U (k1.cell' U) (On zaO U ?_))))
  refine Og (vf (zz U U) (df (by omega))) U ?_
  refine Om U (Oi U (zd zaU U) (Oi U (zd yp U) (Oi U (zg za9 U (k1.cell' U)) (Oi U (zV zaO U) ?_))))
  refine Oi U (vt (zU U U) (dt (by omega))) ?_
  refine Of U (Om U (Ok U (Ok U (Ok U (Ok U (Ok U (Ot U (Om U ?_))))))))
  iterate 6 refine Ok U ?_
  refine Ot U (E2 1 32 U (ze U (Sr (Oa U (E1 2 U (zj ?_))))))
  repeat first|refine tr ?_|refine br ?_
  refine zw U U ?_
  exact⟨by simp[h8],c1⟩
 refine za (Od zaU U (Od yp U (Ol za9 U (k1.cell' U) (On zaO U ?_))))
 refine Og (vt (zz U U) (dt (by omega))) U ?_
 refine Om U (Ok U (Ok U (Ok U (Ok U (Ok U (Ot U (Om U (Ok U (Ok U (Ok U (Ok U (Ok U (Ot U (Om U ?_))))))))))))))
 iterate 6 refine Ok U ?_
 refine Ot U (E2 1 32 U (ze U (Sr (Oa U (E1 2 U (zj ?_))))))
 repeat first|refine tr ?_|refine br ?_
 refine zw U U ?_
 exact⟨by simp[h1],c1⟩
theorem zgB(c k u:Va)(s:yK)(w:Wl)(hs:zai w c k u s)(hm:s.Sm):zS TP 158 #[.agg #[c,k,u]] w fun r w'=>r=Ii (if yJ s then 0 else 2)∧zk [] w w':=by
 refine A1 Tryz.func158 U U ?_
 refine Sr ?_
 refine Ob U U ?_
 intro b1 w1 e1 n1 c1 k1
 refine Oa U (E1 1 U (zf (zf ?_)))
 cases hr:yJ s with
 |true=>
  refine za (Og (zh zaX zaS U U (zv.of_blk0 k1)) U ?_)
  refine Og (zL zw1 zxA U (vs:=[_]) U (css:=[_]) ⟨U,Tt⟩ U U (cs:=[_,_,_]) U) U ?_
  refine Oc zxQ U U U (zmR c k u s _ (hs.chg0 c1) hm) ?_
  rintro v5 w5⟨h5,c5⟩
  rw[hr]at h5
  subst h5
  refine Og (zC U) U (E1 6 U (zb U (zm (Sr (Oa U (E1 2 U (zj ?_)))))))
  refine zw U U ?_
  exact⟨U,c1.trans c5⟩
 |false=>
  refine za (Og (zh zaX zaS U U (zv.of_blk0 k1)) U ?_)
  refine Og (zL zw1 zxA U (vs:=[_]) U (css:=[_]) ⟨U,Tt⟩ U U (cs:=[_,_,_]) U) U ?_
  refine Oc zxQ U U U (zmR c k u s _ (hs.chg0 c1) hm) ?_
  rintro v5 w5⟨h5,c5⟩
  rw[hr]at h5
  subst h5
  refine Og (zC U) U (E1 6 U (ze U (Sr (Oa U (E1 2 U (zj ?_))))))
  repeat first|refine tr ?_|refine br ?_
  refine zw U U ?_
  exact⟨U,c1.trans c5⟩
def hnd(t:Nat):Va:=.pointer (some ⟨5,t,none⟩)
def rty(t:Nat):Va:=.iface 255 (.agg #[hnd t])
def EOk(w:Wl):Prop:=w.cell? ⟨0,0,none⟩=some (rty 87)
theorem EOk.chg{S:List Nat}{w w':Wl}(h:EOk w)(hc:zk S w w')(hs:0∉S):EOk w':=by
 have hlt:0<w.heap.size:=by
  rcases Nat.eq_zero_or_pos w.heap.size with h0|h1
  ·unfold EOk World.cell? at h
   simp[h0]at h
  exact h1
 have:=hc.block 0 hlt hs
 unfold EOk World.cell? at *
 rw[this]
 exact h
theorem EOk.chg0{w w':Wl}(h:EOk w)(hc:zk [] w w'):EOk w':=h.chg hc (by simp)
theorem EOk.ne{w:Wl}(h:EOk w){b:Nat}{e:TypeId}{c:LA}(hb:zO w b e c)(hc:c[0]?≠some (rty 87)):0≠b:=by
 rintro rfl
 exact hc (by rw[←hb.cell];exact h)
def zde(n:Int):Va:=.iface 28 (Ii n)
def zbR(w:Wl)(v:Va)(n:Int):Prop:=
 v=zde n∨(∃b c,v=.iface 408 (Pt b)∧zO w b 410 [.string c,zde n])∨(∃k,v=.iface 169 (.agg #[.string k,zde n]))∨∃k,v=.iface 199 (.agg #[.string k,zde n])
theorem zbR.chg{S:List Nat}{w w':Wl}{v:Va}{n:Int}(h:zbR w v n)(hc:zk S w w')(hs:∀b c,zO w b 410 c→b∉S):zbR w' v n:=by
 rcases h with h|⟨b,c,h,hb⟩|h
 ·exact .inl h
 ·exact .inr (.inl ⟨b,c,h,hb.chg hc (hs b _ hb)⟩)
 exact .inr (.inr h)
theorem zbR.chg0{w w':Wl}{v:Va}{n:Int}(h:zbR w v n)(hc:zk [] w w'):zbR w' v n:=h.chg hc (by simp)
theorem zbR.notNil{w:Wl}{v:Va}{n:Int}(h:zbR w v n):zha v=some false:=by
 rcases h with rfl|⟨b,c,rfl,_⟩|⟨k,rfl⟩|⟨k,rfl⟩<;>rfl
def zmj:zfZ TP 171=some Extern.ReflectliteType.typeOf:=by kernel_rfl
def zxr:zfZ TP 103=some (fun args=>Extern.ReflectliteValue.unpack (args.getD 0 (.tuple #[]))):=by kernel_rfl
theorem zAH : zfZ TP 104 = some (Extern.ReflectliteValue.methodAny (Extern.ReflectliteValue.valueError "reflectlite.Value.Type" 0) (fun t _ _ _ => Extern.ReflectliteType.toType t)) := by kernel_rfl
theorem zCj : zfZ TP 105 = some (Extern.ReflectliteValue.method (Extern.ReflectliteValue.valueError "reflectlite.Value.IsNil" 0) Extern.ReflectliteValue.isNil) := by kernel_rfl
theorem zCC : zfZ TP 172 = some (Extern.ReflectliteValue.method (Extern.ReflectliteValue.valueError "reflectlite.Value.Elem" 0) Extern.ReflectliteValue.elem) := by kernel_rfl
def zCq:zfZ TP 173=some Extern.ReflectliteValue.set:=by kernel_rfl
def zw0:zfZ TP 381=some (Extern.ReflectliteType.abiMethod fun t=>do pure (.int .u8 (←Extern.Rtype.kind t))):=by kernel_rfl
def zCS:zfZ TP 395=some (Extern.ReflectliteType.method Extern.ReflectliteType.elem):=by kernel_rfl
theorem zBQ : zfZ TP 396 = some (Extern.ReflectliteType.relation "Implements" Extern.ReflectliteType.implements_) := by kernel_rfl
theorem zqj : zfZ TP 393 = some (Extern.ReflectliteType.relation "AssignableTo" Extern.ReflectliteType.assignableTo) := by kernel_rfl
theorem zCH : zfZ TP 394 = some (Extern.ReflectliteType.method fun t => do Extern.Rtype.noPackHeld "Comparable" t; pure (.bool (← typeInfo t).comparable)) := by kernel_rfl
def zml(v:Va)(w:Wl):(Extern.ReflectliteType.typeOf #[.iface 28 v]).run TP w=.ok (rty 28) w:=by kernel_rfl
def zqW(v:Va)(w:Wl):(Extern.ReflectliteType.typeOf #[.iface 408 v]).run TP w=.ok (rty 408) w:=by kernel_rfl
def zrC(v:Va)(w:Wl):(Extern.ReflectliteType.typeOf #[.iface 169 v]).run TP w=.ok (rty 169) w:=by kernel_rfl
def zqP(v:Va)(w:Wl):(Extern.ReflectliteType.typeOf #[.iface 199 v]).run TP w=.ok (rty 199) w:=by kernel_rfl
theorem zBP (w : World) : ((Extern.ReflectliteType.method fun t => do Extern.Rtype.noPackHeld "Comparable" t; pure (.bool (← typeInfo t).comparable)) #[.agg #[hnd 28]]).run TP w = .ok (.bool true) w := by kernel_rfl
theorem ztZ (h : Value) : Mth TP 255 (.agg #[h]) "Kind" 381 h := fun w => by kernel_rfl
theorem zx5 (h : Value) : Mth TP 255 (.agg #[h]) "Elem" 395 (.agg #[h]) := fun w => by kernel_rfl
theorem zyY (h : Value) : Mth TP 255 (.agg #[h]) "Implements" 396 (.agg #[h]) := fun w => by kernel_rfl
theorem zpl (h : Value) : Mth TP 255 (.agg #[h]) "AssignableTo" 393 (.agg #[h]) := fun w => by kernel_rfl
theorem zzP (h : Value) : Mth TP 255 (.agg #[h]) "Comparable" 394 (.agg #[h]) := fun w => by kernel_rfl
def zvo(w:Wl):((Extern.ReflectliteType.abiMethod fun t=>do pure (.int .u8 (←Extern.Rtype.kind t))) #[hnd 140]).run TP w=.ok (.int .u8 22) w:=by kernel_rfl
def zvh(w:Wl):((Extern.ReflectliteType.abiMethod fun t=>do pure (.int .u8 (←Extern.Rtype.kind t))) #[hnd 28]).run TP w=.ok (.int .u8 2) w:=by kernel_rfl
def zuY(w:Wl):(Extern.ReflectliteType.method Extern.ReflectliteType.elem #[.agg #[hnd 140]]).run TP w=.ok (rty 28) w:=by kernel_rfl
theorem zyA (w : World) : (Extern.ReflectliteType.relation "Implements" Extern.ReflectliteType.implements_ #[.agg #[hnd 28], rty 87]).run TP w = .ok (.bool true) w := by kernel_rfl
theorem zCb (w : World) : (Extern.ReflectliteType.relation "AssignableTo" Extern.ReflectliteType.assignableTo #[.agg #[hnd 28], rty 28]).run TP w = .ok (.bool true) w := by kernel_rfl
theorem zyI (w : World) : (Extern.ReflectliteType.relation "AssignableTo" Extern.ReflectliteType.assignableTo #[.agg #[hnd 408], rty 28]).run TP w = .ok (.bool false) w := by kernel_rfl
theorem zxY (w : World) : (Extern.ReflectliteType.relation "AssignableTo" Extern.ReflectliteType.assignableTo #[.agg #[hnd 169], rty 28]).run TP w = .ok (.bool false) w := by kernel_rfl
theorem zyi (w : World) : (Extern.ReflectliteType.relation "AssignableTo" Extern.ReflectliteType.assignableTo #[.agg #[hnd 199], rty 28]).run TP w = .ok (.bool false) w := by kernel_rfl
def rv(t:Nat)(a:Addr)(f:Nat):Va:=.agg #[hnd t,.pointer (some a),.int .u64 f]
def zzt(t:Addr)(w:Wl):(Extern.ReflectliteValue.unpack (.iface 140 (.pointer (some t)))).run TP w=.ok (rv 140 ⟨w.heap.size,0,none⟩ 150) (w.alloc (.cells #[.pointer (some t)] 140)):=by kernel_rfl
def zzo(n:Int)(w:Wl):(Extern.ReflectliteValue.unpack (zde n)).run TP w=.ok (rv 28 ⟨w.heap.size,0,none⟩ 130) (w.alloc (.cells #[Ii n] 28)):=by kernel_rfl
theorem zy8 (a : Addr) (w : World) : (Extern.ReflectliteValue.methodAny (Extern.ReflectliteValue.valueError "reflectlite.Value.Type" 0) (fun t _ _ _ => Extern.ReflectliteType.toType t) #[rv 140 a 150]).run TP w = .ok (rty 140) w := by kernel_rfl
theorem zDW(v:Va){h1 h2}:(#[v]:Array Va).getLit (n:=1) 0 h1 h2=v:=rfl
theorem zyv(v x:Va){h1 h2}:(#[v,x]:Array Va).getLit (n:=2) 0 h1 h2=v:=rfl
theorem zDV(v x:Va){h1 h2}:(#[v,x]:Array Va).getLit (n:=2) 1 h1 h2=x:=rfl
def znT(a:Addr)(w:Wl):(Extern.ReflectliteValue.parts (rv 140 a 150)).run TP w=.ok (some (140,a,150)) w:=by kernel_rfl
theorem zvt(a p:Addr)(w:Wl)(ha:w.cell? a=some (.pointer (some p))) :
 (Extern.ReflectliteValue.method (Extern.ReflectliteValue.valueError "reflectlite.Value.IsNil" 0) Extern.ReflectliteValue.isNil #[rv 140 a 150]).run TP w = .ok (.bool false) w := by
 have hv:=znT a w
 generalize rv 140 a 150=v at hv ⊢
 conv=>lhs;arg 2;whnf
 simp only[zDW,Sem.run_bind',hv,Result.andThen]
 simp[Extern.ReflectliteValue.isNil,loadVar,isAgg,underlying,ha,Result.andThen]
def ztx(w:Wl):(Extern.Rtype.elem? 140).run TP w=.ok (some 28) w:=by kernel_rfl
def zC9(p:Addr)(w:Wl):(Extern.ReflectliteValue.mk 28 p Extern.ReflectliteValue.flagAddr).run TP w=.ok (rv 28 p 386) w:=by kernel_rfl
theorem zve(a p:Addr)(w:Wl)(ha:w.cell? a=some (.pointer (some p))) :
 (Extern.ReflectliteValue.method (Extern.ReflectliteValue.valueError "reflectlite.Value.Elem" 0) Extern.ReflectliteValue.elem #[rv 140 a 150]).run TP w = .ok (rv 28 p 386) w := by
 have hv:=znT a w
 generalize rv 140 a 150=v at hv ⊢
 conv=>lhs;arg 2;whnf
 simp only[zDW,Sem.run_bind',hv,Result.andThen]
 simp[Extern.ReflectliteValue.elem,loadVar,isAgg,underlying,ha,Result.andThen,ztx,zC9]
def zsH(a:Addr)(w:Wl):(Extern.ReflectliteValue.parts (rv 28 a 386)).run TP w=.ok (some (28,a,386)) w:=by kernel_rfl
def ztW(a:Addr)(w:Wl):(Extern.ReflectliteValue.parts (rv 28 a 130)).run TP w=.ok (some (28,a,130)) w:=by kernel_rfl
def zsc(w:Wl):(Extern.Rtype.directlyAssignable 28 28).run TP w=.ok true w:=by kernel_rfl
theorem zAE(ta b:Addr)(n:Int)(old:Va)(w:Wl)(hb:w.cell? b=some (Ii n))(ht:w.cell? ta=some old)(hf:w.frozen? ta=false) :
 (Extern.ReflectliteValue.set #[rv 28 ta 386,rv 28 b 130]).run TP w=.ok (.tuple #[]) (w.setCell ta (Ii n)):=by
 have h1:=zsH ta w
 have h2:=ztW b w
 generalize rv 28 ta 386=v at h1 ⊢
 generalize rv 28 b 130=x at h2 ⊢
 conv=>lhs;arg 2;whnf
 simp only[zyv,zDV,Sem.run_bind',Sem.run_bind,h1,h2,Result.andThen]
 simp[Extern.ReflectliteValue.flagAddr,loadVar,isAgg,underlying,hb,Result.andThen,zsc,storeVar,Value.cells,storeCells,Addr.add]
 rw[run_store TP w ta _ _ (by rfl)]
 simp[ht,hf]
theorem zO.setCell{w:Wl}{b:Nat}{e:TypeId}{x:Va}(h:zO w b e [x])(v:Va):zO (w.setCell ⟨b,0,none⟩ v) b e [v]∧zk [b] w (w.setCell ⟨b,0,none⟩ v):=by
 have hh:w.heap[b]?=some (.cells #[x] e (0,0)):=h
 refine⟨?_,rfl,rfl,rfl,by simp[World.setCell],fun k _ hn=>?_⟩
 ·unfold zO World.setCell
  simp only[Array.getElem?_modify,if_true,hh]
  rfl
 unfold World.setCell
 simp only[List.mem_singleton]at hn
 simp only[Array.getElem?_modify]
 rw[if_neg (fun e=>hn e.symm)]
theorem zt7(b:Nat)(c:By)(n:Int)(w:Wl)(hb:zO w b 410 [.string c,zde n]):zS TP 404 #[Pt b] w fun r w'=>r=zde n∧w'=w:=by
 refine A1 Tryz.func404 U U ?_
 refine Sr (Oa U (E1 0 U (Sr (Om U (Og (zx U) U (Od zva U (Ol zyj U (hb.cell' U) (Oa U (E1 2 U (zj ?_))))))))))
 refine zw U U ?_
 exact⟨U,U⟩
theorem zuz(k:By)(n:Int)(w:Wl):zS TP 386 #[.agg #[.string k,zde n]] w fun r w'=>r=zde n∧zk [] w w':=by
 refine A1 Tryz.func386 U U ?_
 refine Sr ?_
 refine Ob U U ?_
 intro b1 w1 e1 n1 c1 k1
 refine Oa U (E1 1 U (Sr (Od zuJ U (Ol zyj U (k1.cell' U) (Oa U (E1 2 U (zj ?_)))))))
 refine zw U U ?_
 exact⟨U,c1⟩
theorem zsf(k:By)(n:Int)(w:Wl):zS TP 391 #[.agg #[.string k,zde n]] w fun r w'=>r=zde n∧zk [] w w':=by
 refine A1 Tryz.func391 U U ?_
 refine Sr ?_
 refine Ob U U ?_
 intro b1 w1 e1 n1 c1 k1
 refine Oa U (E1 1 U (Sr (Od zwl U (Ol zyj U (k1.cell' U) (Oa U (E1 2 U (zj ?_)))))))
 refine zw U U ?_
 exact⟨U,c1⟩
theorem zuu (v : Value) : Mth TP 408 v "Unwrap" 404 v := fun w => by kernel_rfl
theorem zrQ (v : Value) : Mth TP 169 v "Unwrap" 386 v := fun w => by kernel_rfl
theorem zsm (v : Value) : Mth TP 199 v "Unwrap" 391 v := fun w => by kernel_rfl
theorem zDN(v:Va)(n:Int)(bt:Nat)(old:Va)(a:Addr)(w:Wl)(hv:zbR w v n)(ht:zO w bt 28 [old])(ha:w.cell? a=some (Pt bt))(hab:a.block≠bt) :
 zS TP 106 #[v,.iface 140 (Pt bt),rv 140 a 150,rty 28] w fun r w'=>r=.bool true∧zO w' bt 28 [Ii n]∧zk [bt] w w':=by
 refine A4 Tryz.func106 U U ?_
 refine Sr ?_
 refine Ob U U ?_
 intro b6 w6 e6 n6 c6 k6
 refine Oa U (E4 0 1 3 6 U ?_)
 have k6:zO w6 b6 189 [hnd 140,.pointer (some a),.int .u64 150]:=k6
 refine zp ?_
 refine zQ [0,1,3,6] (fun m F wx=>∃u:Va,(zbR wx u n∧(m=0→u=zde n))∧F=[(0,u),(1,.iface 140 (Pt bt)),(3,rty 28),(6,Pt b6)]∧zk [] w6 wx) (m:=1) ⟨v,⟨hv.chg0 c6,fun h=>by omega⟩,rfl,zk.refl _ _⟩ ?_
 rintro m F wx⟨u,⟨hu,hm⟩,rfl,hcx⟩
 have hk6:=k6.chg0 hcx
 have htx:=(ht.chg0 c6).chg0 hcx
 have hax:=hcx.cell (c6.cell ha)
 have hbt:=ht.lt
 refine zp (zf (zf ?_))
 rcases hu with rfl|hu
 ·refine za (Om U ?_)
  refine Oq (zdi (P:=TP) (n:=Tryz.f106.ntmps) zmj U U (zml _ _) U ?_)
  skip
  refine Om U ?_
  refine Oq (zb8 (zpl _) zqj U U (zCb _) U ?_)
  skip
  refine E5 0 1 3 6 19 U (ze U (zf ?_))
  have hset:=zAE ⟨bt,0,none⟩ ⟨wx.heap.size,0,none⟩ n old (wx.alloc (.cells #[Ii n] 28)) ((zO.new wx 28 [Ii n]).cell' rfl) ((htx.chg0 (zk.alloc [] _ _)).cell' rfl) ((htx.chg0 (zk.alloc [] _ _)).free _ rfl)
  obtain⟨hb2,hc2⟩:=(htx.chg0 (zk.alloc [] wx (.cells #[Ii n] 28))).setCell (Ii n)
  have hE : (Extern.ReflectliteValue.method (Extern.ReflectliteValue.valueError "reflectlite.Value.Elem" 0) Extern.ReflectliteValue.elem ([Value.agg [hnd 140, .pointer (some a), .int .u64 150].toArray].toArray)).run TP wx = .ok (rv 28 ⟨bt, 0, none⟩ 386) wx := zve a ⟨bt, 0, none⟩ wx hax
  refine za (Og (zh zqm znO U U (zv.of_blk0 hk6)) U ?_)
  refine Oq (zdi (P:=TP) (n:=Tryz.f106.ntmps) zCC U U hE U ?_)
  skip
  refine Om U ?_
  refine Oq (zdi (P:=TP) (n:=Tryz.f106.ntmps) zxr U U (zzo n wx) U ?_)
  skip
  refine Oq (zdi (P:=TP) (n:=Tryz.f106.ntmps) zCq U U hset U ?_)
  skip
  refine yO [] (F':=[]) U (Sr (Oa U (E1 8 U (zj ?_))))
  repeat first|refine tr ?_|refine br ?_
  refine zw U U ?_
  exact⟨U,hb2,((((c6.trans hcx).trans (zk.alloc [] _ _)).any (S:=[bt])).transS hc2)⟩
 have hm1:m≠0:=fun h=>by
  have:=hm h
  subst this
  rcases hu with⟨b,c,h,_⟩|⟨k,h⟩|⟨k,h⟩<;>cases h
 rcases hu with⟨b,c,rfl,hb⟩|⟨k,rfl⟩|⟨k,rfl⟩
 ·refine za (Om U ?_)
  refine Oq (zdi (P:=TP) (n:=Tryz.f106.ntmps) zmj U U (zqW _ _) U ?_)
  skip
  refine Om U ?_
  refine Oq (zb8 (zpl _) zqj U U (zyI _) U ?_)
  skip
  refine E5 0 1 3 6 19 U (zb U (zm (zf (Sr (Om U (Og (zb9 zny ztL U) U (Om U (Oe U U (Oe U U (Oa U (Oa U (E6 0 1 3 6 9 10 U (Sr (Om U (Om U (Ok U (Ok U (Ok U (Of U (E5 0 1 3 6 35 U (zb U (zm (Sr (Om U (E4 1 3 6 36 U (zp (Sr (Og (zb9 ziS zkw U) U (Oe U U (Oe U U (E6 1 3 6 36 38 39 U (ze U (Sr (Oa U ?_))))))))))))))))))))))))))))))))))
  refine E4 1 3 6 11 U (Sr (Om U ?_))
  refine Oq (zen (zuu _) zxk U U U (zt7 b c n _ hb) ?_)
  rintro v41 w41⟨rfl,rfl⟩
  refine Oa U (E4 0 1 3 6 U (Sr (Om U (Og (zcb zcE U U) U (E5 0 1 3 6 43 U (zb U (zT (zl (zl ?_)))))))))
  exact⟨0,by omega,_,⟨.inl U,fun _=>rfl⟩,rfl,hcx⟩
 ·refine za (Om U ?_)
  refine Oq (zdi (P:=TP) (n:=Tryz.f106.ntmps) zmj U U (zrC _ _) U ?_)
  skip
  refine Om U ?_
  refine Oq (zb8 (zpl _) zqj U U (zxY _) U ?_)
  skip
  refine E5 0 1 3 6 19 U (zb U (zm (zf (Sr (Om U (Og (zb9 znk ztL U) U (Om U (Oe U U (Oe U U (Oa U (Oa U (E6 0 1 3 6 9 10 U (Sr (Om U (Om U (Ok U (Ok U (Ok U (Of U (E5 0 1 3 6 35 U (zb U (zm (Sr (Om U (E4 1 3 6 36 U (zp (Sr (Og (zb9 ziM zkw U) U (Oe U U (Oe U U (E6 1 3 6 36 38 39 U (ze U (Sr (Oa U ?_))))))))))))))))))))))))))))))))))
  refine E4 1 3 6 11 U (Sr (Om U ?_))
  refine Oq (zen (zrQ _) zwI U U U (zuz k n _) ?_)
  rintro v41 w41⟨rfl,c41⟩
  refine Oa U (E4 0 1 3 6 U (Sr (Om U (Og (zcb zcE U U) U (E5 0 1 3 6 43 U (zb U (zT (zl (zl ?_)))))))))
  exact⟨0,by omega,_,⟨.inl U,fun _=>rfl⟩,rfl,hcx.trans c41⟩
 refine za (Om U ?_)
 refine Oq (zdi (P:=TP) (n:=Tryz.f106.ntmps) zmj U U (zqP _ _) U ?_)
 skip
 refine Om U ?_
 refine Oq (zb8 (zpl _) zqj U U (zyi _) U ?_)
 skip
 refine E5 0 1 3 6 19 U (zb U (zm (zf (Sr (Om U (Og (zb9 zmH ztL U) U (Om U (Oe U U (Oe U U (Oa U (Oa U (E6 0 1 3 6 9 10 U (Sr (Om U (Om U (Ok U (Ok U (Ok U (Of U (E5 0 1 3 6 35 U (zb U (zm (Sr (Om U (E4 1 3 6 36 U (zp (Sr (Og (zb9 ziH zkw U) U (Oe U U (Oe U U (E6 1 3 6 36 38 39 U (ze U (Sr (Oa U ?_))))))))))))))))))))))))))))))))))
 refine E4 1 3 6 11 U (Sr (Om U ?_))
 refine Oq (zen (zsm _) zxM U U U (zsf k n _) ?_)
 rintro v41 w41⟨rfl,c41⟩
 refine Oa U (E4 0 1 3 6 U (Sr (Om U (Og (zcb zcE U U) U (E5 0 1 3 6 43 U (zb U (zT (zl (zl ?_)))))))))
 exact⟨0,by omega,_,⟨.inl U,fun _=>rfl⟩,rfl,hcx.trans c41⟩
end Go.Wk
