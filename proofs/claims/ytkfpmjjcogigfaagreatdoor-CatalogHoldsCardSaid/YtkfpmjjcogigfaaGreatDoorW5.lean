/- joined texts -/
import Derived.Test.YtkfpmjjcogigfaaGreatDoorW4
set_option linter.all false
namespace Go.Wk
open Go.Proofs
set_option maxRecDepth 10000
structure WfP(ls:LE):Prop where
 ne:∀l∈ls,l≠[]
 le:∀l∈ls,l.length≤8
 srt:Srt ls.flatten
theorem WfP.each{ls:LE}(h:WfP ls):∀l∈ls,Srt l:=(List.pairwise_flatten.1 h.srt).1
theorem zeL{l:List Ent}(h:l≠[]):∃x∈l,yo l=x.1:=by
 cases l with
 |nil=>exact absurd rfl h
 |cons x l=>exact⟨x,by simp,rfl⟩
theorem WfP.firsts{ls:LE}(h:WfP ls):zjc ls:=by
 refine List.Pairwise.imp_of_mem ?_ (List.pairwise_flatten.1 h.srt).2
 intro a b ha hb hab
 obtain⟨x,hx,e1⟩:=zeL (h.ne a ha)
 obtain⟨y,hy,e2⟩:=zeL (h.ne b hb)
 rw[e1,e2]
 exact hab x hx y hy
def zco(ls:LE)(key:By):Option By:=
 match ls[yl ls key-1]? with
 |some l=>if zdw l key then (l[lbN l key]?).map (·.2) else none
 |none=>none
def ze6(l:List Ent)(key val:By):List Ent:=if zdw l key then l.set (lbN l key) (key,val) else l.take (lbN l key)++[(key,val)]++l.drop (lbN l key)
def zcM(l:List Ent):LE:=if 8<l.length then [l.take 4,l.drop 4] else [l]
def zfV(ls:LE)(key val:By):LE:=
 match ls[yl ls key-1]? with
 |some l=>ls.take (yl ls key-1)++zcM (ze6 l key val)++ls.drop (yl ls key-1+1)
 |none=>[[(key,val)]]
theorem zeG{l:List Ent}{key:By}(h:zdw l key=true):∃v,l[lbN l key]? = some (key,v):=by
 unfold zdw zb8 at h
 rw[List.getElem?_map]at h
 cases hx:l[lbN l key]? with
 |none=>simp[hx]at h
 |some x=>simp[hx]at h;exact⟨x.2,by rw[←h]⟩
theorem zvO(l:List Ent)(key:By):lbN l key≤l.length:=(List.takeWhile_prefix _).length_le
theorem zl5{es:List Ent}{i:Nat}{x:Ent}(hi:i<es.length):flat (es.set i x)=flat (es.take i)++(.string x.1 :: .string x.2::flat (es.drop (i+1))):=by
 rw[List.set_eq_take_append_cons_drop,if_pos hi,zcY,zdl]
theorem yd.setVal{w:Wl}{b off cap:Nat}{c:List Va}{es:List Ent}{i:Nat}{k v x:By}(hs:zd8 w 215 2 b off es.length cap c (flat es))(hi:es[i]? = some (k,v)){w':Wl}(hb:zK w' b 215 (yF c (off+i*2+1) [.string x])) :
 yd w' (.slice (some ⟨b,off,none⟩) es.length cap) (es.set i (k,x)):=by
 have hil:i<es.length:=(Gs hi).1
 have hfit:=hs.fit
 have hle:=hs.le
 have hlen:off+i*2+1+[Value.string x].length≤c.length:=by simp;omega
 have hfl:=hs.xs
 have hfe:flat es=flat (es.take i)++(.string k :: .string v::flat (es.drop (i+1))):=by
  have:es.set i (k,v)=es:=by
   rw[List.getElem?_eq_some_iff]at hi
   obtain⟨_,h⟩:=hi
   rw[←h];exact List.set_getElem_self hil
  have h:=zl5 (x:=(k,v)) hil
  rw[this]at h
  exact h
 have hti:(flat (es.take i)).length=i*2:=by rw[zfn,List.length_take];omega
 have hdi:(flat (es.drop (i+1))).length=(es.length-(i+1))*2:=by rw[zfn,List.length_drop]
 -- the block,in parts
 have hc:c=(c.take off++flat (es.take i)++[.string k])++([.string v]++(flat (es.drop (i+1))++c.drop (off+es.length*2))):=by
  have e1:c.drop off=flat es++c.drop (off+es.length*2):=by
   rw[hfl,←List.drop_drop];exact(List.take_append_drop _ _).symm
  have e2:=List.take_append_drop off c
  rw[e1,hfe]at e2
  refine e2.symm.trans ?_
  simp
 have hA:(c.take off++flat (es.take i)++[Value.string k]).length=off+i*2+1:=by simp only[List.length_append,List.length_take,hti,List.length_singleton];omega
 have hl:yF c (off+i*2+1) [.string x]=(c.take off++flat (es.take i)++[.string k])++([.string x]++(flat (es.drop (i+1))++c.drop (off+es.length*2))):=by
  conv=>lhs;rw[hc,←hA]
  rw[zdA]
  simp
 refine .inr ⟨b,off,cap,_,by rw[List.length_set],⟨hb,by rw[List.length_set];exact hle,hs.max,by rw[zbC hlen];exact hfit,?_,?_⟩⟩
 ·rw[hl,zl5 hil,List.length_set]
  have:(c.take off).length=off:=by rw[List.length_take];omega
  have e0:(c.take off++flat (es.take i)++[Value.string k])++([Value.string x]++(flat (es.drop (i+1))++c.drop (off+es.length*2)))=c.take off++((flat (es.take i)++(.string k :: .string x::flat (es.drop (i+1))))++c.drop (off+es.length*2)):=by simp
  rw[e0,List.drop_left' this,List.take_left' (by simp only[List.length_append,List.length_cons,hti,hdi];omega)]
 intro u hu
 simp only[yF,List.mem_append]at hu
 rcases hu with (hu|hu)|hu
 ·exact hs.one u (List.mem_of_mem_take hu)
 ·simp at hu;subst hu;rfl
 exact hs.one u (List.mem_of_mem_drop hu)
theorem f10(p:Nat)(ls:LE)(key val:By)(w:Wl)(hp:Pg w p ls)(hw:WfP ls)(hn:ls.length≤65536)(hk:key.size≤2000) :
 zL TP 140 #[Pt p,.string key,.string val] w fun r w'=>r=.tuple #[.string ((zco ls key).getD ⟨#[]⟩),.bool (zco ls key).isSome,Ii 0]∧Pg w' p (zfV ls key val)∧zl [p] w w':=by
 obtain⟨v,hb,hpg⟩:=id hp
 obtain⟨vs,hsl,hal⟩:=id hpg
 obtain⟨pv,cv,rfl,hlc⟩:=hsl.val
 refine A3 Tryz.func140 U U ?_
 refine Sr (Oa U (Oa U (Oa U (E3 0 1 2 U (zd (zu (Sr (Om U (Og (zan zjA U U) U (Oa U (E4 0 1 2 16 U (zb U (zd ?_)))))))))))))
 refine za (Om U (Og (zax st9 U) U (Og (ym U U) U (Oa U (E4 0 1 2 19 U ?_)))))
 refine zH U (fun hT=>?_) (fun hF=>?_)
 ·exfalso
  have:=of_decide_eq_true hT
  omega
 refine Sr (Om U (Og (zp U) U (Od yH U (Ol zbp U (hb.cell' U) (On zau U (Og (zA U U) U (Oa U (E4 0 1 2 23 U ?_))))))))
 refine zH U (fun hT=>?_) (fun hF=>?_)
 ·have hls:ls=[]:=List.eq_nil_of_length_eq_zero (by have:=of_decide_eq_true hT;omega)
  subst hls
  refine Sr (Om U (Om U (Om U ?_)))
  refine Og (zC zut zlZ U (vs:=[_,_]) U (css:=[_,_]) ⟨U,U,trivial⟩ U U (cs:=[_,_]) U) U ?_
  refine Oq (zz zhv U (vs:=[_]) U (css:=[_]) ⟨U,trivial⟩ U U (cs:=[_,_]) U U ?_)
  intro b34 w34 e34 n34 c34 k34
  refine Oq (zz zk1 U (vs:=[_]) U (css:=[_]) ⟨U,trivial⟩ U U (cs:=[_]) U U ?_)
  intro b35 w35 e35 n35 c35 k35
  refine Og (zp U) U (Od yH U ?_)
  refine Oq (zv zia U U U U (hb.chg0 (c34.trans c35)) (by simp) (by intro u hu;simp at hu;subst hu;rfl) ?_)
  intro wX nX cX kX
  refine zac [] (F':=[]) U (Sr (Oa U (Oa U (Oa U (E3 6 7 8 U (zh ?_))))))
  refine zpc (zba ?_)
  refine zgh U U U U ?_
  have hl:yd w35 (.slice (some ⟨b34,0,none⟩) 1 1) [(key,val)]:=(zw.of_blk (n:=1) (k34.chg0 c35) rfl (by simp[maxLen]) (zmp [(key,val)]):zw w35 215 2 _ 1 (flat [(key,val)]))
  have hpp:ya w35 (.slice (some ⟨b35,0,none⟩) 1 1) [[(key,val)]]:=ya.one k35 hl
  refine⟨U,⟨_,kX,hpp.chg1 (hb.chg0 (c34.trans c35)) U U cX⟩,((c34.trans c35).any (S:=[p])).transS cX⟩
 refine z0 (zn ?_)
 have hls:ls≠[]:=by rintro rfl;simp at hF
 have hat:=zh4 (key:=key) hls
 have hget:ls[yl ls key-1]? = some ls[yl ls key-1]:=by simp[hat]
 have hmem:ls[yl ls key-1]∈ls:=List.getElem_mem hat
 have hspot:spot ls key=(yl ls key-1,lbN ls[yl ls key-1] key,zdw ls[yl ls key-1] key):=by unfold spot;rw[hget]
 have hgp:zco ls key=if zdw ls[yl ls key-1] key then (ls[yl ls key-1][lbN ls[yl ls key-1] key]?).map (·.2) else none:=by unfold zco;rw[hget]
 have hpp:zfV ls key val=ls.take (yl ls key-1)++zcM (ze6 ls[yl ls key-1] key val)++ls.drop (yl ls key-1+1):=by unfold zfV;rw[hget]
 have hl8:=hw.le _ hmem
 rw[hgp,hpp]
 have f24':=f24 (.slice pv ls.length cv) ls key w hpg hw.ne (by omega) hw.firsts hw.each (fun l hl=>by have:=hw.le l hl;omega)
 rw[hspot]at f24'
 generalize hl:ls[yl ls key-1]=l at *
 generalize ha:yl ls key-1=a at *
 clear hspot hgp hpp
 have hlb:=zvO l key
 refine Sr (Om U (Og (zp U) U (Od yH U (Ol zbp U (hb.cell' U) (Om U ?_)))))
 refine Oc zqA U U U f24' ?_
 rintro v44 w44⟨rfl,c44⟩
 refine Om U (Oe U U (Oe U U (Oe U U (Oa U (Oa U (Oa U (E6 0 1 2 9 10 11 U ?_)))))))
 obtain⟨bb,off,cap,u,hv,hcell,hlu⟩:=(hpg.chg0 c44).at hget
 simp only[Value.slice.injEq]at hv
 obtain⟨rfl,_,rfl⟩:=hv
 refine Sr (Om U (Og (zp U) U (Od yH U (Ol zbp U ((hb.chg0 c44).cell' U) (Om U ?_)))))
 refine Og (zm zau zbd U U _ U hat) U ?_
 refine Ol zdD U hcell ?_
 refine Oc zuD U U U (f25 _ _ _ _ hlu (by omega)) ?_
 rintro v55 w55⟨i55,n55,c55⟩
 obtain⟨p55,q55,rfl,hq55⟩:=i55.val
 refine Oa U (E7 0 1 2 9 10 11 12 U ?_)
 have hc55:zl [] w w55:=c44.trans c55
 refine Sr (Om U (Og (y9 U U) U (Oa U (E7 1 2 9 10 11 12 13 U (zd (Sr (Om U (E7 1 2 9 10 12 13 58 U ?_))))))))
 refine zH U (fun hT=>?_) (fun hF=>?_)
 ·obtain⟨old,hold⟩:=zeG hT
  have hil:=(Gs hold).1
  obtain⟨bl,ol,cl,rfl,hsl55⟩:∃b off c,p55=some ⟨b,off,none⟩∧zd8 w55 215 2 b off l.length q55 c (flat l):=by
   rcases i55 with⟨_,h1,_⟩|⟨b,off,cap,c,he,hs⟩
   ·omega
   simp only[Value.slice.injEq]at he
   obtain⟨rfl,_,rfl⟩:=he
   exact⟨b,off,c,U,hs⟩
  have hnew:w44.heap.size≤bl:=n55 bl (by simp[zq])
  obtain⟨_,_,_,hv2,hcl2⟩:=yd.at' i55 hold
  simp only[Value.slice.injEq,Option.some.injEq,Addr.mk.injEq,and_true]at hv2
  obtain⟨⟨rfl,rfl⟩,_⟩:=hv2
  have hfit:=hsl55.fit
  have hle55:=hsl55.le
  refine Sr (Om U (Om U ?_))
  refine Og (zm yc yL U U _ U hil) U ?_
  refine Od zgO U ?_
  refine Ol ag9 U (hcl2 1 _ U) ?_
  refine Oa U (E6 2 9 10 12 13 14 U (Sr (Om U (Om U (Om U ?_)))))
  refine Og (zm yc yL U U _ U hil) U ?_
  refine Od zgO U ?_
  refine Oq (zv sz9 U U U U hsl55.blk (by simp;omega) (by intro u hu;simp at hu;subst hu;rfl) ?_)
  intro w68 n68 c68 k68
  refine E4 9 12 13 14 U ?_
  have hset:=yd.setVal hsl55 hold k68
  have hc68:zl [] w w68:=hc55.own c68 (by intro x hx;simp at hx;subst hx;have:=c44.size;omega)
  refine Sr (Om U (Om U (Om U ?_)))
  refine Og (yQ (v':=Ii ((a+1:Nat):Int)) (zG U U (by omega)) (by congr 1)) U ?_
  refine Om U ?_
  refine Oq (zz zhE U (vs:=[_]) U (css:=[_]) ⟨U,trivial⟩ U U (cs:=[_]) U U ?_)
  intro b74 w74 e74 n74 c74 k74
  refine Oc zh7 U U U (f26 p ls [l.set (lbN l key) (key,val)] _ a (a+1) _ (hp.chg0 (hc68.trans c74)) (ya.one k74 (hset.chg0 c74)) (by omega) hat (by omega) (by simp)) ?_
  rintro v75 w75⟨rfl,p75,c75⟩
  refine E1 14 U (Sr (Om U (Oa U (Oa U (Oa U (E3 6 7 8 U (zh ?_)))))))
  refine zba ?_
  refine zgh U U U U ?_
  refine⟨?_,?_,((hc68.trans c74).any (S:=[p])).transS c75⟩
  ·rw[if_pos hT,hold];rfl
  rw[ze6,if_pos hT,zcM,if_neg (by rw[List.length_set];omega)]
  exact p75
 have hF':¬ zdw l key=true:=by rw[show zdw l key=false from hF];simp
 refine zk (zd ?_)
 have hys:∀(wz:Wl) (b:Nat),zK wz b 215 [.string key,.string val]→zw wz 215 2 (.slice (some ⟨b,0,none⟩) 1 1) 1 (flat [(key,val)]):=fun wz b hb=>zw.of_blk (n:=1) hb rfl (by simp[maxLen]) (zmp [(key,val)])
 refine za (Om U (Om U (Om U (Om U ?_))))
 refine Og (zC zut zlZ U (vs:=[_,_]) U (css:=[_,_]) ⟨U,U,trivial⟩ U U (cs:=[_,_]) U) U ?_
 refine Oq (zz zx8 U (vs:=[_]) U (css:=[_]) ⟨U,trivial⟩ U U (cs:=[_,_]) U U ?_)
 intro b82 w82 e82 n82 c82 k82
 refine Oc zy6 U U U (f27 _ _ (lbN l key) l.length (flat l) (flat [(key,val)]) _ (i55.chg0 c82) (hys _ _ k82) hlb (by omega) (by intro x hx hy;simp[zq]at hx;subst hx;have:=i55.lt _ hy;omega)) ?_
 rintro v83 w83⟨i83,c83,o83⟩
 refine Oa U (E3 9 12 13 U ?_)
 have hput:ze6 l key val=l.take (lbN l key)++[(key,val)]++l.drop (lbN l key):=by rw[ze6,if_neg hF']
 have hpl:(ze6 l key val).length=l.length+1:=by rw[hput];simp;omega
 have hlist:yd w83 v83 (ze6 l key val):=by
  unfold yd
  rw[hpl,hput,zcY,zcY,zhd,zfJ]
  exact i83
 have hc83:zl [] w w83:=(hc55.trans c82).own c83 (by intro x hx;have:=n55 x hx;have:=c44.size;omega)
 clear i83 c83 o83
 rw[if_neg hF']
 clear hput
 generalize ze6 l key val=l' at *
 obtain⟨p83,q83,rfl,hq83⟩:=zw.val hlist
 refine zd (Sr (Om U (On yc U (Og (ym U U) U (E4 9 12 13 86 U ?_)))))
 refine zH U (fun hT2=>?_) (fun hF2=>?_)
 ·have h8:8<l'.length:=by have:=of_decide_eq_true hT2;omega
  refine Sr (Oa U (E4 9 12 13 15 U ?_))
  refine zN (fun _=>True) mix (by kernel_rfl) trivial ?_
  refine Tm U (Tm U (Tm U ?_))
  refine Tp (fun _=>yQ (v':=Ii ((a+1:Nat):Int)) (zG U U (by omega)) (by congr 1)) U ?_
  refine Tm U (Tm U (Tm U ?_))
  refine Tp (fun _=>zfK yc yL U U U 4 4 U U (Nat.le_refl _) (by omega)) U ?_
  refine Tm U (Tm U ?_)
  refine Tp (fun _=>zaV yc yL U U 4 U (by omega)) U ?_
  refine za4 U (gn U) (zz zhE U (vs:=[_,_]) U (css:=[_,_]) ⟨U,U,trivial⟩ U U (cs:=[_,_]) U U ?_)
  intro b98 w98 e98 n98 c98 k98
  refine⟨.inl trivial,?_⟩
  have hc98:zl [] w83 w98:=(zl.drew [] w83).trans c98
  refine Tc zh7 U U U (f26 p ls [l'.take 4,l'.drop 4] _ a (a+1) _ (hp.chg0 (hc83.trans hc98)) (ya.two k98 ((hlist.chg0 hc98).cutL (by omega) (Nat.le_refl _) (by omega)) ((hlist.chg0 hc98).cutR (by omega) hq83)) (by omega) hat (by omega) (by simp)) ?_
  rintro v99 w99⟨rfl,p99,c99⟩
  refine⟨.inl trivial,?_⟩
  refine zjv [] (F':=[]) U ?_
  refine Sr (Oa U (Oa U (Oa U (E3 6 7 8 U (zh ?_)))))
  refine zgh U U U U ?_
  refine⟨U,?_,((hc83.trans hc98).any (S:=[p])).transS c99⟩
  rw[zcM,if_pos h8]
  exact p99
 have h8:¬ 8<l'.length:=by have:=of_decide_eq_false hF2;omega
 refine za (Om U (Om U (Om U ?_)))
 refine Og (yQ (v':=Ii ((a+1:Nat):Int)) (zG U U (by omega)) (by congr 1)) U ?_
 refine Om U ?_
 refine Oq (zz zhE U (vs:=[_]) U (css:=[_]) ⟨U,trivial⟩ U U (cs:=[_]) U U ?_)
 intro b105 w105 e105 n105 c105 k105
 refine Oc zh7 U U U (f26 p ls [l'] _ a (a+1) _ (hp.chg0 (hc83.trans c105)) (ya.one k105 (hlist.chg0 c105)) (by omega) hat (by omega) (by simp)) ?_
 rintro v106 w106⟨rfl,p106,c106⟩
 refine zac [] (F':=[]) U (Sr (Oa U (Oa U (Oa U (E3 6 7 8 U (zh ?_))))))
 refine zgh U U U U ?_
 refine⟨U,?_,((hc83.trans c105).any (S:=[p])).transS c106⟩
 rw[zcM,if_neg h8]
 exact p106
def zfX(l:List Ent)(key:By):List Ent:=l.take (lbN l key)++l.drop (lbN l key+1)
def nth(ls:LE)(i:Nat):List Ent:=ls[i]?.getD []
def settle(ls:LE)(a:Nat)(l':List Ent):LE:=
 if 3≤l'.length∨(ls.length=1∧0<l'.length) then ls.take a++[l']++ls.drop (a+1)
 else if ls.length=1 then []
 else if a+1=ls.length then ls.take (a-1)++zfj (nth ls (a-1)++l')++ls.drop (a+1)
 else ls.take a++zfj (l'++nth ls (a+1))++ls.drop (a+2)
def zcB(ls:LE)(key:By):LE:=
 match ls[yl ls key-1]? with
 |some l=>if zdw l key then settle ls (yl ls key-1) (zfX l key) else ls
 |none=>ls
theorem f11(p:Nat)(ls:LE)(key:By)(w:Wl)(hp:Pg w p ls)(hw:WfP ls)(hn:ls.length≤65536) :
 zL TP 223 #[Pt p,.string key] w fun r w'=>r=.tuple #[.string ((zco ls key).getD ⟨#[]⟩),.bool (zco ls key).isSome,Ii 0]∧Pg w' p (zcB ls key)∧zl [p] w w':=by
 obtain⟨v,hb,hpg⟩:=id hp
 obtain⟨vs,hsl,hal⟩:=id hpg
 obtain⟨pv,cv,rfl,hlc⟩:=hsl.val
 refine A2 Tryz.func223 U U ?_
 refine Sr (Oa U (Oa U (Oa U (E2 0 1 U (zd (Sr (Om U (Og (zan zjA U U) U (E3 0 1 14 U (zb U (zk (Sr ?_))))))))))))
 refine Om U (Og (zp U) U (Od yH U (Ol zbp U (hb.cell' U) (Om U ?_))))
 refine Oc zqA U U U (f24 (.slice pv ls.length cv) ls key w hpg hw.ne (by omega) hw.firsts hw.each (fun l hl=>by have:=hw.le l hl;omega)) ?_
 rintro v21 w21⟨rfl,c21⟩
 refine Om U (Oe U U (Oe U U (Oe U U (Oa U (Oa U (Oa U (E4 0 7 8 9 U (zd (Sr (Om U (Og (zE U) U (E4 0 7 8 26 U ?_))))))))))))
 refine zH U (fun hT=>?_) (fun hF=>?_)
 ·refine Sr (Oa U (Oa U (Oa U (E3 4 5 6 U (zh ?_)))))
  refine zba ?_
  refine zgh U U U U ?_
  have hs:(spot ls key).2.2=false:=by simpa using hT
  have hg:zco ls key=none∧zcB ls key=ls:=by
   unfold zco zcB
   unfold spot at hs
   cases hx:ls[yl ls key-1]? with
   |none=>simp
   |some l=>simp only[hx]at hs;simp[hs]
  rw[hg.1,hg.2]
  exact⟨U,hp.chg0 c21,c21.any⟩
 refine zk ?_
 have hs:(spot ls key).2.2=true:=by simpa using hF
 obtain⟨l,hget⟩:∃l,ls[yl ls key-1]? = some l:=by
  unfold spot at hs
  cases hx:ls[yl ls key-1]? with
  |none=>simp[hx]at hs
  |some l=>exact⟨l,rfl⟩
 have hspot:spot ls key=(yl ls key-1,lbN l key,zdw l key):=by unfold spot;rw[hget]
 have hh:zdw l key=true:=by rw[hspot]at hs;exact hs
 obtain⟨old,hold⟩:=zeG hh
 have hgp:zco ls key=some old:=by unfold zco;rw[hget];simp[hh,hold]
 have hpt:zcB ls key=settle ls (yl ls key-1) (zfX l key):=by unfold zcB;rw[hget];simp[hh]
 have hat:=(Gs hget).1
 have hmem:=List.mem_of_getElem? hget
 have hl8:=hw.le _ hmem
 have hil:=(Gs hold).1
 rw[hgp,hpt,hspot]
 dsimp only
 generalize ha:yl ls key-1=a at *
 clear hspot hgp hpt hs hF
 obtain⟨bb,off,cap,u,hv,hcell,hlu⟩:=(hpg.chg0 c21).at hget
 simp only[Value.slice.injEq]at hv
 obtain⟨rfl,_,rfl⟩:=hv
 obtain⟨bu,ou,cu,rfl,hcu⟩:=hlu.at' hold
 refine Sr (Om U (Og (zp U) U (Od yH U (Ol zbp U ((hb.chg0 c21).cell' U) (Om U ?_)))))
 refine Og (zm zau zbd U U _ U hat) U ?_
 refine Ol zdD U hcell (Om U ?_)
 refine Og (zm yc yL U U _ U hil) U ?_
 refine Od zgO U ?_
 refine Ol ag9 U (hcu 1 _ U) ?_
 refine Oa U (E4 0 7 8 10 U (Sr (Om U (Og (zp U) U (Od yH U (Ol zbp U ((hb.chg0 c21).cell' U) (Om U ?_)))))))
 refine Og (zm zau zbd U U _ U hat) U ?_
 refine Ol zdD U hcell ?_
 refine Oc zuD U U U (f25 _ _ _ _ hlu (by omega)) ?_
 rintro v45 w45⟨i45,n45,c45⟩
 refine Om U (Om U ?_)
 refine Og (zG U U (by omega)) U ?_
 refine Oc zwW U U U (f28 v45 (lbN l key) l.length (flat l) w45 i45 hil (by omega)) ?_
 rintro v49 w49⟨i49,c49,o49⟩
 refine Oa U (E4 0 7 10 11 U ?_)
 have htl:(zfX l key).length=l.length-1:=by unfold zfX;simp;omega
 have hlist:yd w49 v49 (zfX l key):=by
  unfold yd
  rw[htl,zfX,zcY,zhd,zfJ]
  have e:(lbN l key+1)*2=lbN l key*2+2:=by omega
  rw[e]
  exact i49
 have hc49:zl [] w w49:=(c21.trans c45).own c49 (by intro x hx;have:=n45 x hx;have:=c21.size;omega)
 have hb49:=hb.chg0 hc49
 clear i49 c49 o49
 generalize zfX l key=l' at *
 obtain⟨p49,q49,rfl,hq49⟩:=zw.val hlist
 refine yt (fun F' w'=>F'=[(10,.string old)]∧Pg w' p (settle ls a l')∧zl [p] w w') ?_ ?_
 case refine_2=>
  rintro F' w'⟨rfl,hpp,hcc⟩
  refine Sr (Om U (Oa U (Oa U (Oa U (E3 4 5 6 U (zh ?_))))))
  refine zgh U U U U ?_
  exact⟨U,hpp,hcc⟩
 refine zu (zd ?_)
 by_cases h3:3≤l'.length
 ·
  refine za (Om U (On yc U ?_))
  refine Og (vt (yj U U) (by simp;omega)) U ?_
  refine Om U ?_
  iterate 7 refine zdG U U U U U U ?_
  iterate 3 refine ziH U U U U U ?_
  refine Oz U U (Ot U (Oa U (E5 0 7 10 11 84 U (zf U (za (Om U (Om U (Om U ?_))))))))
  refine Og (yQ (v':=Ii ((a+1:Nat):Int)) (zG U U (by omega)) (by congr 1)) U ?_
  refine Om U ?_
  refine Oq (zz zhE U (vs:=[_]) U (css:=[_]) ⟨U,trivial⟩ U U (cs:=[_]) U U ?_)
  intro b106 w106 e106 n106 c106 k106
  refine Oc zh7 U U U (f26 p ls [l'] _ a (a+1) _ (hp.chg0 (hc49.trans c106)) (ya.one k106 (hlist.chg0 c106)) (by omega) hat (by omega) (by simp)) ?_
  rintro v107 w107⟨rfl,p107,c107⟩
  refine zfx [10] (F':=[(10,_)]) U ?_
  refine zn (zcU ?_)
  refine⟨U,?_,((hc49.trans c106).any (S:=[p])).transS c107⟩
  rw[settle,if_pos (.inl h3)]
  exact p107
 by_cases h1:ls.length=1
 ·by_cases h0:0<l'.length
  ·
   refine za (Om U (On yc U ?_))
   refine Og (vf (yj U U) (by simp;omega)) U ?_
   refine Om U (Oj U U (Oy U U (zp U) (Oy U U (ze yH U) (Oy U U (zj zbp U (hb49.cell' U)) (Oy U U (z5 zau U) ?_)))))
   refine Oy U U (vt (zA U U) (by simp;omega)) ?_
   refine Oj U U (Oj U U (Oy U U (z5 yc U) ?_))
   refine Oy U U (vt (ym U U) (by simp;omega)) ?_
   refine Oy U U (zW U U) (Of U (Oa U (E5 0 7 10 11 84 U (zf U (za (Om U (Om U (Om U ?_))))))))
   refine Og (yQ (v':=Ii ((a+1:Nat):Int)) (zG U U (by omega)) (by congr 1)) U ?_
   refine Om U ?_
   refine Oq (zz zhE U (vs:=[_]) U (css:=[_]) ⟨U,trivial⟩ U U (cs:=[_]) U U ?_)
   intro b106 w106 e106 n106 c106 k106
   refine Oc zh7 U U U (f26 p ls [l'] _ a (a+1) _ (hp.chg0 (hc49.trans c106)) (ya.one k106 (hlist.chg0 c106)) (by omega) hat (by omega) (by simp)) ?_
   rintro v107 w107⟨rfl,p107,c107⟩
   refine zfx [10] (F':=[(10,_)]) U ?_
   refine zn (zcU ?_)
   refine⟨U,?_,((hc49.trans c106).any (S:=[p])).transS c107⟩
   rw[settle,if_pos (.inr ⟨h1,h0⟩)]
   exact p107
  ·
   refine za (Om U (On yc U ?_))
   refine Og (vf (yj U U) (by simp;omega)) U ?_
   refine Om U (Oj U U (Oy U U (zp U) (Oy U U (ze yH U) (Oy U U (zj zbp U (hb49.cell' U)) (Oy U U (z5 zau U) ?_)))))
   refine Oy U U (vt (zA U U) (by simp;omega)) ?_
   refine Oj U U (Oj U U (Oy U U (z5 yc U) ?_))
   refine Oy U U (vf (ym U U) (df (by omega))) ?_
   refine Oy U U (zW U U) (Of U (Oa U (E5 0 7 10 11 84 U (zb U (Sr (Om U (Og (zp U) U (Od yH U (Ol zbp U (hb49.cell' U) (On zau U ?_))))))))))
   refine Og (vt (zA U U) (by simp;omega)) U ?_
   refine Oa U (E5 0 7 10 11 108 U (zf U (za (Om U (Og (zp U) U (Od yH U ?_))))))
   refine Oq (zv zia U U U U hb49 (by simp) (by intro u hu;simp at hu;subst hu;rfl) ?_)
   intro wX nX cX kX
   refine zfx [10] (F':=[(10,_)]) U ?_
   refine zn (zcU ?_)
   refine⟨U,?_,(hc49.any (S:=[p])).transS cX⟩
   rw[settle,if_neg (by omega),if_pos h1]
   exact⟨_,kX,⟨[],zw.nil _ _ _,trivial⟩⟩
 ·
  refine za (Om U (On yc U ?_))
  refine Og (vf (yj U U) (by simp;omega)) U ?_
  refine Om U (Oj U U (Oy U U (zp U) (Oy U U (ze yH U) (Oy U U (zj zbp U (hb49.cell' U)) (Oy U U (z5 zau U) ?_)))))
  refine Oy U U (vf (zA U U) (by simp;omega)) ?_
  refine Oj U U ?_
  iterate 3 refine zdG U U U U U U ?_
  refine Oy U U (zR U U) (Of U (Oa U (E5 0 7 10 11 84 U (zb U (Sr (Om U (Og (zp U) U (Od yH U (Ol zbp U (hb49.cell' U) (On zau U ?_))))))))))
  refine Og (vf (zA U U) (by simp;omega)) U ?_
  refine Oa U (E5 0 7 10 11 108 U (zb U ?_))
  by_cases hend:a+1=ls.length
  ·
   refine Sr (Om U ?_)
   refine Og (zcN zjM zbd zkV U (vs:=[_]) U (css:=[_]) ⟨U,trivial⟩ U U (cs:=[_,_]) U) U ?_
   refine Oq (zD zkV U U ?_)
   intro b12 w12 e12 n12 c12 k12
   refine Oq (zv zlv U U U U k12 (by simp) (by intro u hu;simp at hu;rcases hu with rfl|rfl<;>rfl) ?_)
   intro w50 n50 c50 k50
   refine E5 0 7 10 11 12 U ?_
   have hc50:zl [] w49 w50:=c12.own c50 (by simp[←e12])
   have hcw:zl [] w w50:=hc49.trans hc50
   have hb50:=hb49.chg0 hc50
   refine zd (Sr (Om U (Om U (Og (zp U) U (Od yH U (Ol zbp U (hb50.cell' U) (On zau U ?_)))))))
   refine Og (yV U U (by omega)) U ?_
   refine Og (vt (zA U U) (by simp;omega)) U ?_
   refine E6 0 7 10 11 12 59 U (zf U ?_)
   have hprev:ls[a-1]? = some (nth ls (a-1)):=by unfold nth;rw[List.getElem?_eq_getElem (by omega)];rfl
   obtain⟨b2,off2,cap2,u2,hv2,hcell2,hlu2⟩:=(hpg.chg0 hcw).at hprev
   simp only[Value.slice.injEq,Option.some.injEq,Addr.mk.injEq,and_true]at hv2
   obtain⟨⟨rfl,rfl⟩,_⟩:=hv2
   obtain⟨pu2,qu2,rfl,_⟩:=zw.val hlu2
   refine Sr (Om U ?_)
   refine Og (yQ (v':=Ii ((a-1:Nat):Int)) (yV U U (by omega)) (by congr 1;omega)) U ?_
   refine Oa U (E5 0 7 10 11 12 U (za (Om U (Og (zp U) U (Od yH U (Ol zbp U (hb50.cell' U) (Om U ?_)))))))
   refine Og (zm zau zbd U U _ U (by omega)) U ?_
   refine Ol zdD U hcell2 (Om U ?_)
   refine Og (zcN zjM zbd zkV U (vs:=[_,_]) U (css:=[_,_]) ⟨U,U,trivial⟩ U U (cs:=[_,_]) U) U ?_
   refine Oq (zv zlv U U U U k50 (by simp[yF]) (by intro u hu;simp at hu;rcases hu with rfl|rfl<;>rfl) ?_)
   intro w70 n70 c70 k70
   refine E4 0 7 10 12 U ?_
   have hc70:zl [] w49 w70:=c12.own (c50.transS c70) (by simp[←e12])
   refine za (Om U (Om U (Og (zg zue zlv U U (zB.of_blk0 k70)) U ?_)))
   refine Oc zup U U U (f29 p ls _ _ (nth ls (a-1)) l' (a-1) _ (hp.chg0 (hc49.trans hc70)) ((hlu2.chg c70 (zw.apart hlu2 k50 U))) (hlist.chg0 hc70) (by omega) (by omega) (by have:=hw.le _ (List.mem_of_getElem? hprev);omega) (by omega)) ?_
   rintro v83 w83⟨rfl,p83,c83⟩
   refine zfx [10] (F':=[(10,_)]) U ?_
   refine zn (zcU ?_)
   refine⟨U,?_,((hc49.trans hc70).any (S:=[p])).transS c83⟩
   rw[settle,if_neg (by omega),if_neg h1,if_pos hend]
   rw[show a-1+2=a+1 by omega]at p83
   exact p83
  ·
   refine Sr (Om U ?_)
   refine Og (zcN zjM zbd zkV U (vs:=[_]) U (css:=[_]) ⟨U,trivial⟩ U U (cs:=[_,_]) U) U ?_
   refine Oq (zD zkV U U ?_)
   intro b12 w12 e12 n12 c12 k12
   refine Oq (zv zlv U U U U k12 (by simp) (by intro u hu;simp at hu;rcases hu with rfl|rfl<;>rfl) ?_)
   intro w50 n50 c50 k50
   refine E5 0 7 10 11 12 U ?_
   have hc50:zl [] w49 w50:=c12.own c50 (by simp[←e12])
   have hcw:zl [] w w50:=hc49.trans hc50
   have hb50:=hb49.chg0 hc50
   refine zd (Sr (Om U (Om U (Og (zp U) U (Od yH U (Ol zbp U (hb50.cell' U) (On zau U ?_)))))))
   refine Og (yV U U (by omega)) U ?_
   refine Og (vf (zA U U) (by simp;omega)) U ?_
   refine E6 0 7 10 11 12 59 U (zb U ?_)
   have hnext:ls[a+1]? = some (nth ls (a+1)):=by unfold nth;rw[List.getElem?_eq_getElem (by omega)];rfl
   obtain⟨b2,off2,cap2,u2,hv2,hcell2,hlu2⟩:=(hpg.chg0 hcw).at hnext
   simp only[Value.slice.injEq,Option.some.injEq,Addr.mk.injEq,and_true]at hv2
   obtain⟨⟨rfl,rfl⟩,_⟩:=hv2
   obtain⟨pu2,qu2,rfl,_⟩:=zw.val hlu2
   refine za (Om U (Og (zp U) U (Od yH U (Ol zbp U (hb50.cell' U) (Om U ?_)))))
   refine Og (yQ (v':=Ii ((a+1:Nat):Int)) (zG U U (by omega)) (by congr 1)) U ?_
   refine Og (zm zau zbd U U _ U (by omega)) U ?_
   refine Ol zdD U hcell2 ?_
   refine Og (zP zjM zbd U U 1 U (by omega)) U ?_
   refine Oq (zv zbd U U U U k50 (by simp[yF]) (by intro u hu;simp at hu;subst hu;rfl) ?_)
   intro w70 n70 c70 k70
   refine E4 0 7 10 12 U ?_
   have hc70:zl [] w49 w70:=c12.own (c50.transS c70) (by simp[←e12])
   refine za (Om U (Om U (Og (zg zue zlv U U (zB.of_blk0 k70)) U ?_)))
   refine Oc zup U U U (f29 p ls _ _ l' (nth ls (a+1)) a _ (hp.chg0 (hc49.trans hc70)) (hlist.chg0 hc70) (hlu2.chg c70 (zw.apart hlu2 k50 U)) (by omega) (by omega) (by omega) (by have:=hw.le _ (List.mem_of_getElem? hnext);omega)) ?_
   rintro v83 w83⟨rfl,p83,c83⟩
   refine zfx [10] (F':=[(10,_)]) U ?_
   refine zn (zcU ?_)
   refine⟨U,?_,((hc49.trans hc70).any (S:=[p])).transS c83⟩
   rw[settle,if_neg (by omega),if_neg h1,if_neg hend]
   exact p83
theorem f9(w:Wl):zL TP 177 #[] w fun r w'=>∃p,r=Pt p∧w.heap.size≤p∧Pg w' p []∧zl [] w w':=by
 refine zL.of_W (args:=[]) Tryz.func177 U U U U ?_
 refine Sr (Oa U (zac [] (F':=[]) U (Sr ?_)))
 refine Og (zC zuV zuQ U (vs:=[]) U (css:=[]) trivial U U (cs:=[_]) U) U ?_
 refine Ob U U ?_
 intro b2 w2 e2 n2 c2 k2
 refine Oa U (E1 0 U (zh ?_))
 refine zx U U ?_
 exact⟨b2,rfl,by omega,⟨_,k2,[],zw.nil _ _ _,trivial⟩,c2⟩
theorem zeO{ls:LE}{i:Nat}{x:List Ent}(h:ls[i]? = some x):(ls.take (i+1)).flatten=(ls.take i).flatten++x:=by
 rw[List.take_add_one,h]
 simp
theorem zln{ls:LE}(h:∀l∈ls,l.length≤8)(i:Nat):(ls.take i).flatten.length≤8*i:=by
 induction i with
 |zero=>simp
 |succ i ih=>
  cases hx:ls[i]? with
  |none=>
   rw[List.take_add_one,hx]
   simp at ih ⊢
   omega
  |some x=>
   rw[zeO hx,List.length_append]
   have:=h x (List.mem_of_getElem? hx)
   omega
theorem f30(v:Va)(ls:LE)(w:Wl)(hp:ya w v ls)(h8:∀l∈ls,l.length≤8)(hn:ls.length≤65536) :
 zL TP 182 #[v] w fun r w'=>r=Ii (ls.flatten.length:Nat)∧w'=w:=by
 obtain⟨vs,hsl,hal⟩:=id hp
 obtain⟨p,c,rfl,_⟩:=hsl.val
 refine A1 Tryz.func182 U U ?_
 refine Sr (Oa U (E2 0 2 U (zd (Sr (Om U (On zau U (Om U (E4 2 5 6 7 U (zu ?_)))))))))
 refine zX [2,5,6,7] (fun m F wx=>wx=w∧∃j:Nat,m=ls.length-j∧j≤ls.length∧F=[(2,Ii ((ls.take j).flatten.length:Nat)),(5,.slice p ls.length c),(6,Ii ls.length),(7,Ii j)]) (m:=ls.length-0) ⟨U,0,U,Nat.zero_le _,U⟩ ?_
 rintro m F wx⟨rfl,j,rfl,hj,rfl⟩
 have hb:=zln h8 j
 refine Sr (Og (zF U U) U (E5 2 5 6 7 8 U (zd ?_)))
 refine zH U (fun hT=>?_) (fun hF=>?_)
 ·refine zk ?_
  have hlt:j<ls.length:=by simpa using hT
  have hx:ls[j]? = some ls[j]:=by simp[hlt]
  have hx8:=h8 _ (List.mem_of_getElem? hx)
  obtain⟨b,off,cap,u,hv,hc,hl⟩:=hp.at hx
  cases hv
  obtain⟨pu,cu,rfl,_⟩:=zw.val hl
  refine zd (zu (Sr ?_))
  refine Og (zm zau zbd U U _ U hlt) U ?_
  refine Ol zdD U hc (Oa U (E5 2 4 5 6 7 U (za (Om U (Om U (On yc U ?_))))))
  refine Og (zG U U (by omega)) U ?_
  refine Oa U (N4 2 5 6 7 U (zn (za ?_)))
  refine Og (zG U U (by omega)) U ?_
  refine Om U (N4 2 5 6 7 U ?_)
  refine⟨ls.length-(j+1),by omega,rfl,j+1,rfl,by omega,?_⟩
  have e:(((ls.take (j+1)).flatten.length:Nat):Int)=((ls.take j).flatten.length:Nat)+(ls[j].length:Nat):=by rw[zeO hx,List.length_append];omega
  rw[e]
  rfl
 refine zI ?_
 repeat first|refine te ?_|refine bo rfl ?_
 refine zt _ ?_
 have he:j=ls.length:=by
  have:¬ (j<ls.length):=by simpa using hF
  omega
 subst he
 refine Sr (Om U (Oa U (E1 2 U (zh ?_))))
 refine zx U U ?_
 rw[List.take_length]
 exact⟨U,U⟩
theorem f13(p:Nat)(ls:LE)(w:Wl)(hp:Pg w p ls)(h8:∀l∈ls,l.length≤8)(hn:ls.length≤65536) :
 zL TP 118 #[Pt p] w fun r w'=>r=Ii (ls.flatten.length:Nat)∧w'=w:=by
 obtain⟨v,hb,hpg⟩:=id hp
 refine A1 Tryz.func118 U U ?_
 refine Sr (Oa U (E1 0 U (zd (Sr (Om U (Og (zan zjA U U) U (E2 0 4 U (zb U (zk (Sr (Om U (Og (zp U) U ?_))))))))))))
 refine Od yH U (Ol zbp U (hb.cell' U) ?_)
 refine Oc zxr U U U (f30 v ls w hpg h8 hn) ?_
 rintro v9 w9⟨rfl,rfl⟩
 refine Oa U (E1 2 U (zh ?_))
 refine zx U U ?_
 exact⟨U,U⟩
theorem f15(p:Nat)(ls:LE)(key:By)(w:Wl)(hp:Pg w p ls)(hw:WfP ls)(hn:ls.length≤65536) :
 zL TP 72 #[Pt p,.string key] w fun r w'=>r=.tuple #[.string ((zco ls key).getD ⟨#[]⟩),.bool (zco ls key).isSome]∧zl [] w w':=by
 obtain⟨v,hb,hpg⟩:=id hp
 obtain⟨vs,hsl,hal⟩:=id hpg
 obtain⟨pv,cv,rfl,hlc⟩:=hsl.val
 refine A2 Tryz.func72 U U ?_
 refine Sr (Oa U (Oa U (E2 0 1 U (zd (Sr (Om U (Og (zan zjA U U) U (E3 0 1 10 U (zb U (zk (Sr (Om U ?_))))))))))))
 refine Og (zp U) U (Od yH U (Ol zbp U (hb.cell' U) (Om U ?_)))
 refine Oc zqA U U U (f24 (.slice pv ls.length cv) ls key w hpg hw.ne (by omega) hw.firsts hw.each (fun l hl=>by have:=hw.le l hl;omega)) ?_
 rintro v17 w17⟨rfl,c21⟩
 refine Om U (Oe U U (Oe U U (Oe U U (Oa U (Oa U (Oa U (E4 0 6 7 8 U (zd (Sr (Om U (Og (zE U) U (E4 0 6 7 22 U ?_))))))))))))
 refine zH U (fun hT=>?_) (fun hF=>?_)
 ·refine Sr (Oa U (Oa U (E2 4 5 U (zh ?_))))
  refine zba ?_
  refine zbX U U U ?_
  have hs:(spot ls key).2.2=false:=by simpa using hT
  have hg:zco ls key=none:=by
   unfold zco
   unfold spot at hs
   cases hx:ls[yl ls key-1]? with
   |none=>simp
   |some l=>simp only[hx]at hs;simp[hs]
  rw[hg]
  exact⟨U,c21⟩
 refine zk ?_
 have hs:(spot ls key).2.2=true:=by simpa using hF
 obtain⟨l,hget⟩:∃l,ls[yl ls key-1]? = some l:=by
  unfold spot at hs
  cases hx:ls[yl ls key-1]? with
  |none=>simp[hx]at hs
  |some l=>exact⟨l,rfl⟩
 have hspot:spot ls key=(yl ls key-1,lbN l key,zdw l key):=by unfold spot;rw[hget]
 have hh:zdw l key=true:=by rw[hspot]at hs;exact hs
 obtain⟨old,hold⟩:=zeG hh
 have hgp:zco ls key=some old:=by unfold zco;rw[hget];simp[hh,hold]
 have hat:=(Gs hget).1
 have hil:=(Gs hold).1
 rw[hgp,hspot]
 dsimp only
 obtain⟨bb,off,cap,u,hv,hcell,hlu⟩:=(hpg.chg0 c21).at hget
 simp only[Value.slice.injEq]at hv
 obtain⟨rfl,_,rfl⟩:=hv
 obtain⟨bu,ou,cu,rfl,hcu⟩:=hlu.at' hold
 refine Sr (Om U (Og (zp U) U (Od yH U (Ol zbp U ((hb.chg0 c21).cell' U) (Om U ?_)))))
 refine Og (zm zau zbd U U _ U hat) U ?_
 refine Ol zdD U hcell (Om U ?_)
 refine Og (zm yc yL U U _ U hil) U ?_
 refine Od zgO U ?_
 refine Ol ag9 U (hcu 1 _ U) ?_
 refine Oa U (Oa U (E2 4 5 U (zh ?_)))
 refine zbX U U U ?_
 exact⟨U,c21⟩
theorem f19(p:Nat)(ls:LE)(w:Wl)(hp:Pg w p ls)(hn:ls.length≤65536) :
 zL TP 56 #[Pt p] w fun r w'=>∃q,r=Pt q∧w.heap.size≤q∧Pg w' q ls∧zl [] w w':=by
 obtain⟨v,hb,hpg⟩:=id hp
 obtain⟨vs,hsl,hal⟩:=id hpg
 refine A1 Tryz.func56 U U ?_
 refine Sr (Oa U (E1 0 U (zd (Sr (Om U (Og (zan zjA U U) U (E2 0 4 U (zb U (zk (Sr (Om U (Og (zp U) U ?_))))))))))))
 refine Od yH U (Ol zbp U (hb.cell' U) ?_)
 refine Oc zy3 U U U (f31 v ls.length vs w hsl (by omega)) ?_
 rintro v9 w9⟨i9,n9,c9⟩
 obtain⟨p9,q9,rfl,_⟩:=i9.val
 refine Og (zC zuV zuQ U (vs:=[_]) U (css:=[_]) ⟨U,trivial⟩ U U (cs:=[_]) U) U ?_
 refine Ob U U ?_
 intro b11 w11 e11 n11 c11 k11
 refine Oa U (E1 2 U (zh ?_))
 refine zx U U ?_
 have hs9:=c9.size
 exact⟨b11,rfl,by omega,⟨_,k11,vs,i9.chg0 c11,(hal.chg (c9.trans c11) (by simp))⟩,c9.trans c11⟩
theorem zb4{α:Type}(p:α→Bool):∀(l:List α) (j:Nat) (x:α),l[j]? = some x→(j<(l.takeWhile p).length→p x=true)∧(j=(l.takeWhile p).length→p x=false)
 |[],j,x,h=>by simp at h
 |a::l,0,x,h=>by
  simp at h
  subst h
  cases hp:p a<;>simp[List.takeWhile,hp]
 |a::l,j+1,x,h=>by
  have ih:=zb4 p l j x (by simpa using h)
  cases hp:p a
  ·simp[List.takeWhile,hp]
  simpa[List.takeWhile,hp] using ih
theorem zv9{l:List Ent}{key:By}{x:Ent}(h:l[lbN l key]? = some x):blt x.1 key=false:=(zb4 _ l _ x h).2 rfl
theorem zgs{ls:LE}{key:By}(hs:zjc ls){j:Nat}{l:List Ent}(h:ls[j]? = some l):(!blt key (yo l))=true↔j<yl ls key:=by
 constructor
 ·intro h1
  rcases Nat.lt_or_ge j (yl ls key) with h2|h2
  ·exact h2
  exfalso
  have hjl:=(Gs h).1
  have h3:yl ls key<ls.length:=by omega
  have h0:ls[yl ls key]? = some ls[yl ls key]:=by simp[h3]
  have hf:=(zb4 _ ls _ _ h0).2 rfl
  rcases Nat.lt_or_ge (yl ls key) j with h4|h4
  ·have h5:=hs.at h4 h0 h
   have h6:blt key (yo ls[yl ls key])=true:=by simpa using hf
   rw[zcJ h6 h5]at h1
   simp at h1
  have:j=yl ls key:=by omega
  have hf2:=(zb4 (fun l => !blt key (yo l)) ls _ _ h).2 this
  rw[hf2]at h1
  cases h1
 intro h1
 exact(zb4 _ ls j l h).1 h1
theorem zjw{l:List Ent}(hs:Srt l){x:Ent}(h:x∈l):blt x.1 (yo l)=false:=by
 cases l with
 |nil=>cases h
 |cons y l=>
  obtain⟨i,hi⟩:=List.mem_iff_getElem?.1 h
  cases i with
  |zero=>simp at hi;subst hi;exact yJ _
  |succ i=>exact zdq (hs.at (show 0<i+1 by omega) rfl hi)
theorem zfN{ls:LE}{i:Nat}{l:List Ent}(h:ls[i]? = some l):nth ls i=l:=by unfold nth;rw[h];rfl
theorem zmn(l:List Ent)(key:By):∀x∈l.take (lbN l key),blt x.1 key=true:=by
 intro x hx
 have:l.take (lbN l key)=l.takeWhile fun x=>blt x.1 key:=((List.prefix_iff_eq_take.1 (List.takeWhile_prefix _)).symm)
 rw[this]at hx
 exact(List.all_takeWhile (l:=l) (p:=fun x=>blt x.1 key) |> List.all_eq_true.1) x hx
theorem zka{a b c:By}(h:blt a b=true)(h2:blt c b=false):blt a c=true:=by
 cases hx:blt a c with
 |true=>rfl
 |false=>
  exfalso
  cases hy:blt c a with
  |true=>rw[zcJ hy h]at h2;cases h2
  |false=>
   have:=zfM hx hy
   subst this
   rw[h]at h2;cases h2
theorem zsW{X Y:List Ent}{k v:By}(h:Srt (X++Y))(hx:∀x∈X,blt x.1 k=true)(hy:∀y∈Y,blt k y.1=true):Srt (X++(k,v)::Y):=by
 obtain⟨h1,h2,h3⟩:=List.pairwise_append.1 h
 refine List.pairwise_append.2 ⟨h1,List.pairwise_cons.2 ⟨fun y m=>hy y m,h2⟩,fun a ha b hb=>?_⟩
 rcases List.mem_cons.1 hb with rfl|hb
 ·exact hx a ha
 exact h3 a ha b hb
theorem zgN{α:Type}{l:List α}{i:Nat}{x:α}(h:l[i]? = some x):l=l.take i++x::l.drop (i+1):=by
 have h1:l.drop i=x::l.drop (i+1):=by
  obtain⟨hl,rfl⟩:=Gs h
  exact List.drop_eq_getElem_cons hl
 rw[←h1]
 exact(List.take_append_drop i l).symm
def zcz(l:List Ent)(key:By):List Ent:=if zdw l key then l.drop (lbN l key+1) else l.drop (lbN l key)
theorem zhb{l:List Ent}(key val:By):ze6 l key val=l.take (lbN l key)++(key,val)::zcz l key:=by
 unfold ze6 zcz
 by_cases hh:zdw l key=true
 ·rw[if_pos hh,if_pos hh]
  obtain⟨v,hv⟩:=zeG hh
  rw[List.set_eq_take_append_cons_drop,if_pos (Gs hv).1]
 rw[if_neg hh,if_neg hh]
 simp
theorem zjy{l:List Ent}{key:By}(hs:Srt l):∀y∈zcz l key,blt key y.1=true:=by
 intro y hy
 unfold zcz at hy
 by_cases hh:zdw l key=true
 ·rw[if_pos hh]at hy
  obtain⟨v,hv⟩:=zeG hh
  obtain⟨j,hj⟩:=List.mem_iff_getElem?.1 hy
  rw[List.getElem?_drop]at hj
  exact hs.at (show lbN l key<lbN l key+1+j by omega) hv hj
 rw[if_neg hh]at hy
 obtain⟨j,hj⟩:=List.mem_iff_getElem?.1 hy
 rw[List.getElem?_drop]at hj
 have hlen:=(Gs hj).1
 have h0:l[lbN l key]? = some l[lbN l key]:=by simp
 have h1:=zv9 h0
 have h2:(l[lbN l key]).1≠key:=by
  intro e
  apply hh
  unfold zdw zb8
  rw[List.getElem?_map,h0]
  simp[e]
 have h3:blt key (l[lbN l key]).1=true:=by
  cases hx:blt key (l[lbN l key]).1 with
  |true=>rfl
  |false=>exact absurd (zfM h1 hx) h2
 cases j with
 |zero=>
  rw[Nat.add_zero,h0]at hj
  simp only[Option.some.injEq]at hj
  rw[←hj];exact h3
 |succ j=>exact zcJ h3 (hs.at (show lbN l key<lbN l key+(j+1) by omega) h0 hj)
theorem znb(l:List Ent)(key:By):(zcz l key).Sublist (l.drop (lbN l key)):=by
 unfold zcz
 split
 ·rw[←List.drop_drop];exact List.drop_sublist _ _
 exact List.Sublist.refl _
theorem zqf(l:List Ent)(key val:By):(ze6 l key val).length≤l.length+1:=by
 unfold ze6
 split
 ·rw[List.length_set];omega
 simp;omega
theorem zp8(l:List Ent)(key val:By):0<(ze6 l key val).length:=by
 rw[zhb];simp;omega
theorem zhD(l:List Ent):(zcM l).flatten=l:=by
 unfold zcM
 split<;>simp
theorem zoY{l:List Ent}(h0:0<l.length)(h9:l.length≤9):∀x∈zcM l,x≠[]∧x.length≤8:=by
 intro x hx
 unfold zcM at hx
 split at hx
 ·simp at hx
  rcases hx with rfl|rfl
  ·refine⟨fun e=>?_,by simp;omega⟩
   have:=congrArg List.length e
   rw[List.length_take,List.length_nil]at this;omega
  refine⟨fun e=>?_,by simp;omega⟩
  have:=congrArg List.length e
  rw[List.length_drop,List.length_nil]at this;omega
 simp at hx
 subst hx
 exact⟨fun e=>by subst e;simp at h0,by omega⟩
theorem zmm{ls:LE}{key:By}{L:List Ent}(hw:WfP ls)(hL:ls[yl ls key-1]? = some L):∀x∈(ls.take (yl ls key-1)).flatten,blt x.1 key=true:=by
 intro x hx
 obtain⟨l',hl',hx'⟩:=List.mem_flatten.1 hx
 obtain⟨j,hj⟩:=List.mem_iff_getElem?.1 hl'
 have hjl:=(Gs hj).1
 rw[List.length_take]at hjl
 rw[List.getElem?_take_of_lt (by omega)]at hj
 have h3:=(List.pairwise_flatten.1 hw.srt).2
 have hmem:=List.mem_of_getElem? hL
 obtain⟨y,hy,e⟩:=zeL (hw.ne _ hmem)
 obtain⟨hjl',ej⟩:=Gs hj
 obtain⟨hil,ei⟩:=Gs hL
 have h4:=List.pairwise_iff_getElem.1 h3 j _ hjl' hil (by omega) x (by rw[ej];exact hx') y (by rw[ei];exact hy)
 have h5:=(zgs (key:=key) hw.firsts hL).2 (by omega)
 rw[e]at h5
 exact zka h4 (by simpa using h5)
theorem zkb{ls:LE}{key:By}(hw:WfP ls):∀x∈(ls.drop (yl ls key-1+1)).flatten,blt key x.1=true:=by
 intro x hx
 obtain⟨l',hl',hx'⟩:=List.mem_flatten.1 hx
 obtain⟨j,hj⟩:=List.mem_iff_getElem?.1 hl'
 rw[List.getElem?_drop]at hj
 have h1:=zjw (hw.each l' (List.mem_of_getElem? hj)) hx'
 have h2:blt key (yo l')=true:=by
  cases h:blt key (yo l') with
  |true=>rfl
  |false=>
   have:=(zgs (key:=key) hw.firsts hj).1 (by rw[h];rfl)
   omega
 exact zka h2 h1
theorem WfP.put{ls:LE}(hw:WfP ls)(key val:By):WfP (zfV ls key val):=by
 unfold zfV
 cases hL:ls[yl ls key-1]? with
 |none=>exact⟨by simp,by simp,by simp[Srt]⟩
 |some L=>
  have hmem:=List.mem_of_getElem? hL
  have hs:=hw.each L hmem
  have h8:=hw.le L hmem
  have hlen:=zqf L key val
  have hok:=zoY (zp8 L key val) (by omega)
  dsimp only
  refine⟨fun l hl=>?_,fun l hl=>?_,?_⟩
  ·simp only[List.mem_append]at hl
   rcases hl with (hl|hl)|hl
   ·exact hw.ne l (List.mem_of_mem_take hl)
   ·exact(hok l hl).1
   exact hw.ne l (List.mem_of_mem_drop hl)
  ·simp only[List.mem_append]at hl
   rcases hl with (hl|hl)|hl
   ·exact hw.le l (List.mem_of_mem_take hl)
   ·exact(hok l hl).2
   exact hw.le l (List.mem_of_mem_drop hl)
  rw[List.flatten_append,List.flatten_append,zhD,zhb]
  have e:(ls.take (yl ls key-1)).flatten++(L.take (lbN L key)++(key,val)::zcz L key)++(ls.drop (yl ls key-1+1)).flatten=((ls.take (yl ls key-1)).flatten++L.take (lbN L key))++(key,val)::(zcz L key++(ls.drop (yl ls key-1+1)).flatten):=by simp
  rw[e]
  refine zsW ?_ ?_ ?_
  ·refine List.Pairwise.sublist ?_ hw.srt
   have e2:ls.flatten=((ls.take (yl ls key-1)).flatten++L.take (lbN L key))++(L.drop (lbN L key)++(ls.drop (yl ls key-1+1)).flatten):=by
    conv=>lhs;rw[zgN hL]
    rw[List.flatten_append,List.flatten_cons]
    simp only[List.append_assoc]
    rw[←List.append_assoc (L.take (lbN L key)),List.take_append_drop]
   rw[e2]
   exact List.Sublist.append (List.Sublist.refl _) (List.Sublist.append (znb _ _) (List.Sublist.refl _))
  ·intro x hx
   rcases List.mem_append.1 hx with hx|hx
   ·exact zmm hw hL x hx
   exact zmn L key x hx
  intro x hx
  rcases List.mem_append.1 hx with hx|hx
  ·exact zjy hs x hx
  exact zkb hw x hx
theorem zir(l:List Ent):(zfj l).flatten=l:=by unfold zfj;split<;>simp
theorem zlu{l:List Ent}(h0:0<l.length)(h16:l.length≤16):∀x∈zfj l,x≠[]∧x.length≤8:=by
 intro x hx
 unfold zfj at hx
 split at hx
 ·simp at hx
  subst hx
  exact⟨fun e=>by subst e;simp at h0,by omega⟩
 simp at hx
 rcases hx with rfl|rfl
 ·refine⟨fun e=>?_,by simp;omega⟩
  have:=congrArg List.length e
  rw[List.length_take,List.length_nil]at this;omega
 refine⟨fun e=>?_,by simp;omega⟩
 have:=congrArg List.length e
 rw[List.length_drop,List.length_nil]at this;omega
theorem WfP.parts{A B M:LE}{ls:LE}(hw:WfP ls)(hA:∀l∈A,l∈ls)(hB:∀l∈B,l∈ls)(hM:∀l∈M,l≠[]∧l.length≤8)(hs:Srt (A++M++B).flatten):WfP (A++M++B):=by
 refine⟨fun l hl=>?_,fun l hl=>?_,hs⟩
 ·simp only[List.mem_append]at hl
  rcases hl with (hl|hl)|hl
  ·exact hw.ne l (hA l hl)
  ·exact(hM l hl).1
  exact hw.ne l (hB l hl)
 simp only[List.mem_append]at hl
 rcases hl with (hl|hl)|hl
 ·exact hw.le l (hA l hl)
 ·exact(hM l hl).2
 exact hw.le l (hB l hl)
theorem zhJ{ls:LE}{a:Nat}{L l':List Ent}(hL:ls[a]? = some L)(hne:ls.length=1→l'.length=0→True) :
 (settle ls a l').flatten=if ls.length=1∧l'.length=0 then [] else (ls.take a).flatten++l'++(ls.drop (a+1)).flatten:=by
 have hat:=(Gs hL).1
 unfold settle
 by_cases h1:3≤l'.length∨ls.length=1∧0<l'.length
 ·rw[if_pos h1,if_neg (show ¬ (ls.length=1∧l'.length=0) by omega)]
  simp
 rw[if_neg h1]
 by_cases h2:ls.length=1
 ·rw[if_pos h2,if_pos (show ls.length=1∧l'.length=0 by omega)]
  rfl
 rw[if_neg h2,if_neg (show ¬ (ls.length=1∧l'.length=0) by omega)]
 by_cases h3:a+1=ls.length
 ·rw[if_pos h3]
  have h4:a-1<ls.length:=by omega
  have hg:ls[a-1]? = some ls[a-1]:=by simp[h4]
  rw[zfN hg,List.flatten_append,List.flatten_append,zir]
  have h5:=zeO hg
  rw[show a-1+1=a by omega]at h5
  rw[h5]
  simp
 rw[if_neg h3]
 have h4:a+1<ls.length:=by omega
 have hg:ls[a+1]? = some ls[a+1]:=by simp[h4]
 rw[zfN hg,List.flatten_append,List.flatten_append,zir]
 have h5:ls.drop (a+1)=ls[a+1]::ls.drop (a+2):=List.drop_eq_getElem_cons h4
 rw[h5,List.flatten_cons]
 simp only[List.append_assoc]
theorem WfP.settle{ls:LE}(hw:WfP ls){a:Nat}{L l':List Ent}(hL:ls[a]? = some L)(hsub:l'.Sublist L):WfP (settle ls a l'):=by
 have hat:=(Gs hL).1
 have hmem:=List.mem_of_getElem? hL
 have hl8:l'.length≤8:=Nat.le_trans hsub.length_le (hw.le L hmem)
 have hsrt:Srt (Wk.settle ls a l').flatten:=by
  rw[zhJ hL (fun _ _=>trivial)]
  split
  ·exact List.Pairwise.nil
  refine List.Pairwise.sublist ?_ hw.srt
  conv=>rhs;rw[zgN hL]
  rw[List.flatten_append,List.flatten_cons,List.append_assoc]
  exact List.Sublist.append (List.Sublist.refl _) (List.Sublist.append hsub (List.Sublist.refl _))
 revert hsrt
 unfold Wk.settle
 by_cases h1:3≤l'.length∨ls.length=1∧0<l'.length
 ·rw[if_pos h1]
  intro hsrt
  refine hw.parts (fun l hl=>List.mem_of_mem_take hl) (fun l hl=>List.mem_of_mem_drop hl) ?_ hsrt
  intro l hl
  simp at hl
  subst hl
  exact⟨fun e=>by subst e;simp at h1,hl8⟩
 rw[if_neg h1]
 by_cases h2:ls.length=1
 ·rw[if_pos h2]
  intro _
  exact⟨by simp,by simp,List.Pairwise.nil⟩
 rw[if_neg h2]
 by_cases h3:a+1=ls.length
 ·rw[if_pos h3]
  intro hsrt
  have h4:a-1<ls.length:=by omega
  have hg:ls[a-1]? = some ls[a-1]:=by simp[h4]
  have hm:=List.mem_of_getElem? hg
  have hp:=List.length_pos_iff.2 (hw.ne _ hm)
  have h8:=hw.le _ hm
  refine hw.parts (fun l hl=>List.mem_of_mem_take hl) (fun l hl=>List.mem_of_mem_drop hl) ?_ hsrt
  rw[zfN hg]
  exact zlu (by rw[List.length_append];omega) (by rw[List.length_append];omega)
 rw[if_neg h3]
 intro hsrt
 have h4:a+1<ls.length:=by omega
 have hg:ls[a+1]? = some ls[a+1]:=by simp[h4]
 have hm:=List.mem_of_getElem? hg
 have hp:=List.length_pos_iff.2 (hw.ne _ hm)
 have h8:=hw.le _ hm
 refine hw.parts (fun l hl=>List.mem_of_mem_take hl) (fun l hl=>List.mem_of_mem_drop hl) ?_ hsrt
 rw[zfN hg]
 exact zlu (by rw[List.length_append];omega) (by rw[List.length_append];omega)
theorem zoZ(l:List Ent)(key:By):(zfX l key).Sublist l:=by
 unfold zfX
 conv=>rhs;rw[←List.take_append_drop (lbN l key) l]
 refine List.Sublist.append (List.Sublist.refl _) ?_
 rw[←List.drop_drop]
 exact List.drop_sublist _ _
theorem WfP.take{ls:LE}(hw:WfP ls)(key:By):WfP (zcB ls key):=by
 unfold zcB
 cases hL:ls[yl ls key-1]? with
 |none=>exact hw
 |some L=>
  dsimp only
  split
  ·exact hw.settle hL (zoZ L key)
  exact hw
theorem f14(p:Nat)(ls:LE)(key:By)(w:Wl)(hp:Pg w p ls)(hn:ls.length≤65536) :
 zL TP 71 #[Pt p,.string key] w fun r w'=>∃b5 b3 v,r=.func (.func 119) #[] #[Pt b5,Pt b3]∧zK w' b5 173 [v]∧ya w' v ls∧zK w' b3 9 [.string key]∧w.heap.size≤b3∧w.heap.size≤b5∧zl [] w w':=by
 obtain⟨v,hb,hpg⟩:=id hp
 obtain⟨vs,hsl,hal⟩:=id hpg
 refine A2 Tryz.func71 U U ?_
 refine Sr ?_
 refine Ob U U ?_
 intro b3 w3 e3 n3 c3 k3
 refine Oa U (E2 0 3 U (Sr ?_))
 refine Oq (zD zuX U U ?_)
 intro b5 w5 e5 n5 c5 k5
 refine E3 0 3 5 U ?_
 have hc5:=c3.trans c5
 have hs3:=c3.size
 refine zd (Sr (Om U (Og (zqM zjA U U) U (E4 0 3 5 7 U (zf U (za (Om U (Og (zp U) U (Od yH U (Ol zbp U ((hb.chg0 hc5).cell' U) ?_))))))))))
 refine Oc zy3 U U U (f31 v ls.length vs _ (hsl.chg0 hc5) (by omega)) ?_
 rintro v12 w12⟨i12,n12,c12⟩
 obtain⟨p12,q12,rfl,_⟩:=i12.val
 refine Oq (zv zia U U U U (k5.chg0 c12) (by simp) (by intro u hu;simp at hu;subst hu;rfl) ?_)
 intro wF nF cF kF
 refine E2 3 5 U ?_
 have hb5:=k5.chg0 c12
 have hb3:=((k3.chg0 c5).chg0 c12).chg cF (by simp;omega)
 refine Sr (Og (y9 U U) U (Oa U (E1 4 U (zh ?_))))
 refine zx U U ?_
 refine⟨b5,b3,_,rfl,kF,⟨vs,i12.chg cF (i12.apart hb5 U),?_⟩,hb3,by omega,by omega,(hc5.trans c12).own cF (by intro x hx;simp at hx;omega)⟩
 have hal12:=hal.chg (hc5.trans c12) (by simp)
 exact hal12.chg cF (hal12.apart hb5 U)
def za6(l:List Ent)(key:By):List Ent:=l.filter fun x => !blt x.1 key
theorem zeN(a b:List Ent)(key:By):za6 (a++b) key=za6 a key++za6 b key:=by simp[za6]
theorem zw.kp{w w':Wl}{e k:Nat}{v:Va}{len:Nat}{xs:List Va}(h:zw w e k v len xs)(hk:∀b∈zq v,w'.heap[b]? = w.heap[b]?):zw w' e k v len xs:=by
 rcases h with h|⟨b,off,cap,c,rfl,h⟩
 ·exact .inl h
 exact .inr ⟨b,off,cap,c,rfl,⟨(hk b (by simp[zq])).trans h.blk,h.le,h.max,h.fit,h.xs,h.one⟩⟩
theorem Kp.sl{S:List Nat}{w w':Wl}(hk:∀k,k<w.heap.size→k∉S→w'.heap[k]? = w.heap[k]?){e k:Nat}{v:Va}{len:Nat}{xs:List Va}(h:zw w e k v len xs)
 (hS:∀b∈S,∀e' c,zK w b e' c→Nat.beq e e'=false):zw w' e k v len xs:=by
 refine zw.kp h fun b hb=>hk b (h.lt b hb) fun hm=>?_
 rcases h with⟨rfl,_,_⟩|⟨b',off,cap,c,rfl,hs⟩
 ·simp[zq]at hb
 simp[zq]at hb
 subst hb
 have:=hS b hm e c hs.blk
 simp at this
theorem zmR{ls:LE}{j:Nat}{l:List Ent}(h:ls[j]? = some l)(key:By):za6 (ls.take (j+1)).flatten key=za6 (ls.take j).flatten key++za6 l key:=by
 rw[zeO h,zeN]
theorem zfv{l:List Ent}{i:Nat}{x:Ent}(h:l[i]? = some x)(key:By):za6 (l.take (i+1)) key=za6 (l.take i) key++(if blt x.1 key then [] else [x]):=by
 rw[List.take_add_one,h,zeN]
 congr 1
 cases hb:blt x.1 key<;>simp[za6,hb]
theorem zo6{ls:LE}{j:Nat}{l:List Ent}(h:ls[j]? = some l)(key:By)(i:Nat):za6 (ls.take j).flatten key++za6 (l.take i) key <+: za6 ls.flatten key:=by
 rw[←zeN]
 refine List.IsPrefix.filter _ ?_
 conv=>rhs;rw[zgN h]
 rw[List.flatten_append,List.flatten_cons]
 refine List.prefix_append_right_inj _ |>.2 ?_
 exact(List.take_prefix _ _).trans (List.prefix_append _ _)
theorem zkD{Q:Exit→Fr→Wl→Prop}{F:Fr}{w:Wl}(h:Q .normal F w):znf Q .normal F w:=h
theorem yb{A B:Prop}{e:Ending}(h:(e=.returned (.bool true)∧A)∨(e=.returned (.bool false)∧B)):∃b,e=.returned (.bool b)∧((b=true∧A)∨(b=false∧B)):=by
 rcases h with⟨rfl,h⟩|⟨rfl,h⟩
 ·exact⟨true,U,.inl ⟨U,h⟩⟩
 exact⟨false,U,.inr ⟨U,h⟩⟩
theorem zqh{α:Type}(val:α→Ent)(al:List α)(w0 w:Wl)(h0w:zl [] w0 w)(b5 b3:Nat)(v:Va)(ls:LE)(key:By)(S0:List Nat)(h5:zK w b5 173 [v])(hp:ya w0 v ls)(h3:zK w b3 9 [.string key])
 (hl:ls.length≤65536) (h8:∀l∈ls,l.length≤8) (k3:b3∉S0) (hS:∀b∈S0,∀e c,zK w0 b e c→Nat.beq 176 e=false∧Nat.beq 215 e=false) (ha:za6 ls.flatten key=al.map val) :
 zwH TP 119 #[Pt b5,Pt b3] (fun x:α => #[.string (val x).1,.string (val x).2]) (Kp S0 w.heap.size)
  (fun xs=>xs=al) (fun pre=>pre≠[]∧pre <+: al) (fun pre=>pre <+: al) w:=by
 intro l J Jx W hW hJ hJx hY h0
 have hab:∀{pre:List α} {W1 W2:Wl},zl [] W1 W2→J pre W1→J pre W2:=fun hc hj=>hJ _ _ _ none hj hc.grown0 (fun _ e=>by cases e)
 have hcw:zl [] w W:=⟨hW.os,hW.tape,hW.output,hW.size,fun k hk _=>hW.block k hk⟩
 obtain⟨vs,hsl,hal⟩:=id hp
 have f0:∀{W1:Wl},Kp S0 w.heap.size w W1→∀k,k<w0.heap.size→k∉S0→W1.heap[k]? = w0.heap[k]? := fun hk k hlt hn=>(hk.2 k (Nat.lt_of_lt_of_le hlt h0w.size) hn).trans (h0w.block k hlt (by simp))
 have fsl:∀{W1:Wl},Kp S0 w.heap.size w W1→zw W1 176 1 v ls.length vs:=fun hk=>Kp.sl (f0 hk) hsl (fun b hb e c hc=>(hS b hb e c hc).1)
 have fls:∀{W1:Wl} {u:Va} {L:List Ent},Kp S0 w.heap.size w W1→yd w0 u L→yd W1 u L:=fun hk hL=>Kp.sl (f0 hk) hL (fun b hb e c hc=>(hS b hb e c hc).2)
 have fb3:∀{W1:Wl},Kp S0 w.heap.size w W1→zK W1 b3 9 [.string key]:=fun hk=>(hk.2 b3 h3.lt k3).trans h3
 have hkw:Kp S0 w.heap.size w W:=⟨hcw.size,fun k hk _=>hcw.block k hk (by simp)⟩
 have hmono:∀{W1 W2:Wl},Kp S0 w.heap.size w W1→zl [] W1 W2→Kp S0 w.heap.size w W2:=fun hk hc=>⟨Nat.le_trans hk.1 hc.size,fun k hlt hn=>(hc.block k (Nat.lt_of_lt_of_le hlt hk.1) (by simp)).trans (hk.2 k hlt hn)⟩
 refine CallsIn.mono (R:=fun e W'=>∃u,e=.returned u∧(fun(_:Va) W'=>(∃xs,xs=al∧J xs W')∨(∃pre,(pre≠[]∧pre <+: al)∧Jx pre W')) u W') ?_ (fun e W' ⟨u,he,h⟩=>⟨⟨u,he⟩,h⟩)
 refine CallsIn.of_WX (args:=[_,_,_]) Tryz.func119 U U U U (zkk ?_)
 refine zkt ?_
 refine zd ?_
 refine zoj ?_
 refine zd ?_
 obtain⟨pv,cv,rfl,hcv⟩:=hsl.val
 refine za (Ol zbp U ((h5.chg0 hcw).cell' U) (On zau U (Om U (E5 0 2 8 9 10 U (zu ?_)))))
 refine zX [0,2,8,9,10] (fun m F wx=>∃j:Nat,m=ls.length-j∧j≤ls.length∧F=[(0,.func (.yield l) #[] #[]),(2,Pt b3),(8,.slice pv ls.length cv),(9,Ii ls.length),(10,Ii j)]∧Kp S0 w.heap.size w wx∧J (al.take (za6 (ls.take j).flatten key).length) wx) (m:=ls.length-0) ⟨0,U,Nat.zero_le _,U,hkw,h0⟩ ?_
 rintro m F wx⟨j,rfl,hj,rfl,hkx,hJx0⟩
 refine Sr (Og (zF U U) U (E6 0 2 8 9 10 11 U (zd ?_)))
 refine zH U (fun hT=>?_) (fun hF=>?_)
 ·refine zk ?_
  have hlt:j<ls.length:=by have:=of_decide_eq_true hT;omega
  have hx:ls[j]? = some ls[j]:=by simp[hlt]
  generalize ls[j]=L at hx
  have hL8:=h8 L (List.mem_of_getElem? hx)
  refine zd (zu (zd ?_))
  obtain⟨u,hus,hlw⟩:=hal.at hx
  obtain⟨bb,off,cap,u',hv,hu',hcell⟩:=(fsl hkx).at1 hlt
  rw[hus]at hu'
  simp only[Option.some.injEq]at hu'
  subst hu'
  simp only[Value.slice.injEq]at hv
  obtain⟨rfl,_,rfl⟩:=hv
  obtain⟨pu,cu,rfl,_⟩:=zw.val hlw
  refine za ?_
  refine Og (zm zau zbd U U _ U hlt) U ?_
  refine Ol zdD U hcell (Oa U (E6 0 2 5 8 9 10 U (Sr (Om U (On yc U (Om U (E8 0 2 8 9 10 14 15 16 U (zu ?_))))))))
  refine zX [0,2,8,9,10,14,15,16] (fun m F wy=>∃i:Nat,m=L.length-i∧i≤L.length∧F=[(0,.func (.yield l) #[] #[]),(2,Pt b3),(8,.slice (some ⟨bb,off,none⟩) ls.length cv),(9,Ii ls.length),(10,Ii j),(14,.slice pu L.length cu),(15,Ii L.length),(16,Ii i)]∧Kp S0 w.heap.size w wy∧J (al.take (za6 (ls.take j).flatten key++za6 (L.take i) key).length) wy) (m:=L.length-0) ⟨0,rfl,Nat.zero_le _,rfl,hkx,by simpa[za6] using hJx0⟩ ?_
  rintro m F wy⟨i,rfl,hi,rfl,hky,hJy⟩
  refine Sr (Og (zF U U) U (zac [0,2,8,9,10,14,15,16,17] (F':=[(0,_),(2,_),(8,_),(9,_),(10,_),(14,_),(15,_),(16,_),(17,_)]) U (zd ?_)))
  refine zH U (fun hT=>?_) (fun hF=>?_)
  ·refine zk ?_
   have hli:i<L.length:=by have:=of_decide_eq_true hT;omega
   have hxi:L[i]? = some L[i]:=by simp[hli]
   generalize L[i]=x at hxi
   obtain⟨bu,ou,cu',hvu,hcu⟩:=(fls hky hlw).at' hxi
   simp only[Value.slice.injEq]at hvu
   obtain⟨rfl,_,rfl⟩:=hvu
   have hb3:=fb3 hky
   refine zd (zu (Sr ?_))
   refine Og (zm yc yL U U _ U hli) U ?_
   refine Og (zg znC yL U U hcu) U ?_
   refine Oq (zD zlZ U U ?_)
   intro b7 w7 e7 n7 c7 k7
   refine Oq (zv yL U U U U k7 (by simp) (by intro u hu;simp at hu;rcases hu with rfl|rfl<;>rfl) ?_)
   intro wA nA cA kA
   refine zac [0,2,7,8,9,10,14,15,16] (F':=[(0,_),(2,_),(7,_),(8,_),(9,_),(10,_),(14,_),(15,_),(16,_)]) U ?_
   have hcA:zl [] wy wA:=c7.own cA (by intro y hy;simp at hy;omega)
   have hkA:=hmono hky hcA
   have hJA:=hab hcA hJy
   have hb3A:=hb3.chg0 hcA
   have hkey:=kA.cell' (i:=0) rfl
   have hval:=kA.cell' (i:=1) rfl
   refine zd ?_
   cases hb:blt x.1 key with
   |true=>
    refine za (Od zgH U (Ol ag9 U hkey (Ol ag9 U (hb3A.cell' U) ?_)))
    refine Og (vf (zq1 U U) (by rw[hb];rfl)) U ?_
    refine Om U (Oz U U (Oz U U (Oz U U (Oz U U (Oz U U (Oz U U (Oz U U (Of U (zac [0,2,8,9,10,14,15,16,32] (F':=[(0,_),(2,_),(8,_),(9,_),(10,_),(14,_),(15,_),(16,_),(32,_)]) U (zb U (z0 (zn (za ?_)))))))))))))
    refine Og (zG U U (by omega)) U ?_
    refine Om U ?_
    refine zfx [0,2,8,9,10,14,15,16] (F':=[(0,_),(2,_),(8,_),(9,_),(10,_),(14,_),(15,_),(16,_)]) U ?_
    refine⟨L.length-(i+1),by omega,i+1,rfl,by omega,rfl,hkA,?_⟩
    rw[zfv hxi,hb,if_pos rfl,List.append_nil]
    exact hJA
   |false=>
    have hpre:za6 (ls.take j).flatten key++za6 (L.take (i+1)) key <+: za6 ls.flatten key:=zo6 hx key (i+1)
    rw[zfv hxi,hb,if_neg (by simp),←List.append_assoc]at hpre
    rw[ha]at hpre
    generalize hm:za6 (ls.take j).flatten key++za6 (L.take i) key=M at *
    have hlen:M.length<al.length:=by
     have:=hpre.length_le
     rw[List.length_append,List.length_map]at this
     simp only[List.length_cons,List.length_nil]at this
     omega
    have hat:al[M.length]? = some al[M.length]:=by simp[hlen]
    generalize al[M.length]=a at hat
    have hval':val a=x:=by
     obtain⟨r,hr⟩:=hpre
     have h1:(al.map val)[M.length]? = some x:=by rw[←hr];simp
     rw[List.getElem?_map,hat]at h1
     simpa using h1
    subst hval'
    have htake:al.take (M.length+1)=al.take M.length++[a]:=by rw[List.take_add_one,hat];rfl
    have hy:=hY _ a wA hJA (by rw[←htake];exact List.take_prefix _ _)
    refine zg3 ?_
    refine yO (gn U) U (St.vl (ze zgH U) U U ?_)
    refine yO (gn U) U (St.vl (zj ag9 U hkey) U U ?_)
    refine yO (gn U) U (St.vl (zj ag9 U (hb3A.cell' U)) U U ?_)
    refine yO (gn U) U (St.vl (vt (zq1 U U) (by rw[hb];rfl)) U U ?_)
    refine Xm U ?_
    refine yO (gy U U U) U (St.vl (zaT U) U U ?_)
    refine yO (gy U U U) U (St.vl (ze zgH U) U U ?_)
    refine yO (gy U U U) U (St.vl (zj ag9 U hkey) U U ?_)
    refine yO (gy U U U) U (St.vl (ze zgO U) U U ?_)
    refine yO (gy U U U) U (St.vl (zj ag9 U hval) U U ?_)
    refine zky (gy U U U) U U U hy ?_
    rintro v30 w30 hR30
    obtain⟨b30,rfl,hb30⟩:=yb hR30
    refine⟨_,U,?_⟩
    refine yO (gy U U U) U (St.vl (zE U) U U ?_)
    refine yO (gn U) U (St.vl (zW U U) U U ?_)
    refine zde [0,2,8,9,10,14,15,16,32] (F':=[(0,_),(2,_),(8,_),(9,_),(10,_),(14,_),(15,_),(16,_),(32,_)]) U ?_
    rcases hb30 with⟨rfl,hJ30,hk30⟩|⟨rfl,hJ30⟩
    ·refine zb U (z0 (zn (za ?_)))
     refine Og (zG U U (by omega)) U ?_
     refine Om U ?_
     refine zfx [0,2,8,9,10,14,15,16] (F':=[(0,_),(2,_),(8,_),(9,_),(10,_),(14,_),(15,_),(16,_)]) U ?_
     refine⟨L.length-(i+1),by omega,i+1,rfl,by omega,rfl,hkA.trans hk30,?_⟩
     rw[zfv hxi,hb,if_neg (by simp),←List.append_assoc,hm,List.length_append]
     show J (al.take (M.length+1)) _
     rw[htake]
     exact hJ30
    refine zf U ?_
    refine zI ?_
    repeat first|refine te ?_|refine bo rfl ?_
    refine zt _ ?_
    refine zkD ?_
    refine zkK U ?_
    exact .inr ⟨_,⟨by simp,by rw[←htake];exact List.take_prefix _ _⟩,hJ30⟩
  refine zI ?_
  repeat first|refine te ?_|refine bo rfl ?_
  refine zt _ ?_
  refine zn ?_
  have he:i=L.length:=by have:=of_decide_eq_false hF;omega
  subst he
  refine za ?_
  refine Og (zG U U (by omega)) U ?_
  refine Om U (N5 0 2 8 9 10 U ?_)
  refine⟨ls.length-(j+1),by omega,j+1,rfl,by omega,rfl,hky,?_⟩
  rw[zmR hx]
  rwa [List.take_length]at hJy
 refine zI ?_
 repeat first|refine te ?_|refine bo rfl ?_
 refine zt _ ?_
 refine zkD ?_
 refine zkK U ?_
 have he:j=ls.length:=by have:=of_decide_eq_false hF;omega
 subst he
 rw[List.take_length,ha,List.length_map,List.take_length]at hJx0
 exact .inl ⟨_,U,hJx0⟩
theorem zrx{α:Type}(val:α→Ent)(al:List α)(w0 w:Wl)(h0w:zl [] w0 w)(b5 b3:Nat)(v:Va)(ls:LE)(key:By)(S0:List Nat)(h5:zK w b5 173 [v])(hp:ya w0 v ls)(h3:zK w b3 9 [.string key])
 (hl:ls.length≤65536) (h8:∀l∈ls,l.length≤8) (k3:b3∉S0) (hS:∀b∈S0,∀e c,zK w0 b e c→Nat.beq 176 e=false∧Nat.beq 215 e=false) (ha:za6 ls.flatten key=al.map val) :
 SeqStopsK Fence.wide 2 TP 119 #[Pt b5,Pt b3] (fun x:α => #[.string (val x).1,.string (val x).2]) (Kp S0 w.heap.size)
  (fun xs=>xs=al) (fun pre=>pre≠[]∧pre <+: al) al.length w:=(zqh val al w0 w h0w b5 b3 v ls key S0 h5 hp h3 hl h8 k3 hS ha).toK fun _ h=>h.length_le
theorem zr0{α:Type}(val:α→Ent)(al:List α)(w:Wl)(b5 b3:Nat)(v:Va)(ls:LE)(key:By)(S0:List Nat)(h5:zK w b5 173 [v])(hp:ya w v ls)(h3:zK w b3 9 [.string key])
 (hl:ls.length≤65536) (h8:∀l∈ls,l.length≤8) (k3:b3∉S0) (hS:∀b∈S0,∃e c,zK w b e c∧Nat.beq 176 e=false∧Nat.beq 215 e=false) (ha:za6 ls.flatten key=al.map val) :
 SeqStopsK Fence.wide 2 TP 119 #[Pt b5,Pt b3] (fun x:α => #[.string (val x).1,.string (val x).2]) (Kp S0 w.heap.size)
  (fun xs=>xs=al) (fun pre=>pre≠[]∧pre <+: al) al.length w:=
 zrx val al w w (zl.refl _ _) b5 b3 v ls key S0 h5 hp h3 hl h8 k3 (fun b hb e c hc=>by
  obtain⟨e',c',hc',h1,h2⟩:=hS b hb
  have:=Option.some.inj ((show w.heap[b]? = _ from hc).symm.trans hc')
  cases this
  exact⟨h1,h2⟩) ha
theorem ztk(w:Wl)(b5 b3:Nat)(v:Va)(ls:LE)(key:By)(S0:List Nat)(h5:zK w b5 173 [v])(hp:ya w v ls)(h3:zK w b3 9 [.string key])
 (hl:ls.length≤65536) (h8:∀l∈ls,l.length≤8) (k3:b3∉S0) (hS:∀b∈S0,∃e c,zK w b e c∧Nat.beq 176 e=false∧Nat.beq 215 e=false) {all:List Ent} (ha:za6 ls.flatten key=all) :
 SeqStopsK Fence.wide 2 TP 119 #[Pt b5,Pt b3] (fun x:Ent => #[.string x.1,.string x.2]) (Kp S0 w.heap.size)
  (fun xs=>xs=all) (fun pre=>pre≠[]∧pre <+: all) all.length w:=
 zr0 id all w b5 b3 v ls key S0 h5 hp h3 hl h8 k3 hS (by rw[List.map_id];exact ha)
theorem zkW{ls:LE}{key:By}(h:ls[yl ls key-1]? = none):ls=[]:=by
 by_cases hl:ls=[]
 ·exact hl
 have h1:=zh4 (key:=key) hl
 have h2:ls.length≤yl ls key-1:=List.getElem?_eq_none_iff.1 h
 omega
structure zp0(ls:LE)(key:By)(L A B S:List Ent):Prop where
 all:ls.flatten=A++(L.drop (lbN L key)++S)
 low:∀y∈A,blt y.1 key=true
 high:∀y∈B++S,blt key y.1=true
 mid:∀y,y.1≠key→(y∈L.drop (lbN L key)↔y∈B)
theorem zy2{ls:LE}{key:By}{L:List Ent}(hw:WfP ls)(hL:ls[yl ls key-1]? = some L) :
 zp0 ls key L ((ls.take (yl ls key-1)).flatten++L.take (lbN L key)) (zcz L key) ((ls.drop (yl ls key-1+1)).flatten):=by
 have hmem:=List.mem_of_getElem? hL
 have hs:=hw.each L hmem
 refine⟨?_,fun y hy=>?_,fun y hy=>?_,fun y hy=>?_⟩
 ·conv=>lhs;rw[zgN hL]
  rw[List.flatten_append,List.flatten_cons]
  simp only[List.append_assoc]
  rw[←List.append_assoc (L.take (lbN L key)),List.take_append_drop]
 ·rcases List.mem_append.1 hy with hy|hy
  ·exact zmm hw hL y hy
  exact zmn L key y hy
 ·rcases List.mem_append.1 hy with hy|hy
  ·exact zjy hs y hy
  exact zkb hw y hy
 unfold zcz
 split
 ·rename_i hh
  obtain⟨v,hv⟩:=zeG hh
  have h1:L.drop (lbN L key)=(key,v)::L.drop (lbN L key+1):=by
   obtain⟨hl,e⟩:=Gs hv
   rw[←e]
   exact List.drop_eq_getElem_cons hl
  rw[h1,List.mem_cons]
  exact⟨fun h=>h.elim (fun e=>absurd (by rw[e]) hy) id,.inr⟩
 exact Iff.rfl
theorem zp0.ne{ls:LE}{key:By}{L A B S:List Ent}(h:zp0 ls key L A B S){x:Ent}(hx:x∈A∨x∈B∨x∈S):x.1≠key:=by
 rcases hx with hx|hx
 ·exact zhl (h.low x hx)
 exact fun e=>zhl (h.high x (by simpa using hx)) e.symm
theorem zp0.iff{ls:LE}{key:By}{L A B S:List Ent}(h:zp0 ls key L A B S)(x:Ent):(x∈A∨x∈B∨x∈S)↔(x.1≠key∧x∈ls.flatten):=by
 constructor
 ·intro hx
  have hne:=h.ne hx
  refine⟨hne,?_⟩
  rw[h.all,List.mem_append,List.mem_append,h.mid x hne]
  exact hx
 rintro⟨hne,hx⟩
 rw[h.all,List.mem_append,List.mem_append,h.mid x hne]at hx
 exact hx
theorem zol{ls:LE}(hw:WfP ls)(key val:By)(x:Ent):x∈(zfV ls key val).flatten↔x=(key,val)∨(x.1≠key∧x∈ls.flatten):=by
 unfold zfV
 cases hL:ls[yl ls key-1]? with
 |none=>
  have:=zkW hL
  subst this
  simp
 |some L=>
  have hc:=zy2 hw hL
  dsimp only
  rw[List.flatten_append,List.flatten_append,zhD,zhb,←hc.iff x]
  simp only[List.mem_append,List.mem_cons]
  constructor
  ·rintro ((h|h|h|h)|h)
   ·exact .inr (.inl (.inl h))
   ·exact .inr (.inl (.inr h))
   ·exact .inl h
   ·exact .inr (.inr (.inl h))
   exact .inr (.inr (.inr h))
  rintro (h|(h|h)|h|h)
  ·exact .inl (.inr (.inr (.inl h)))
  ·exact .inl (.inl h)
  ·exact .inl (.inr (.inl h))
  ·exact .inl (.inr (.inr (.inr h)))
  exact .inr h
theorem zkw{ls:LE}{a:Nat}{L l':List Ent}(hL:ls[a]? = some L):(settle ls a l').flatten=(ls.take a).flatten++l'++(ls.drop (a+1)).flatten:=by
 rw[zhJ hL (fun _ _=>trivial)]
 split
 ·rename_i h
  have hat:=(Gs hL).1
  have ha:a=0:=by omega
  subst ha
  have hl:l'=[]:=List.eq_nil_of_length_eq_zero h.2
  subst hl
  rw[List.drop_eq_nil_of_le (by omega)]
  simp
 rfl
theorem zlG{ls:LE}(hw:WfP ls)(key:By)(x:Ent):x∈(zcB ls key).flatten↔x.1≠key∧x∈ls.flatten:=by
 unfold zcB
 cases hL:ls[yl ls key-1]? with
 |none=>
  have:=zkW hL
  subst this
  simp
 |some L=>
  have hc:=zy2 hw hL
  dsimp only
  split
  ·rename_i hh
   have hb:zcz L key=L.drop (lbN L key+1):=by unfold zcz;rw[if_pos hh]
   rw[zkw hL,←hc.iff x,hb]
   unfold zfX
   simp only[List.mem_append]
   constructor
   ·rintro ((h|h|h)|h)
    ·exact .inl (.inl h)
    ·exact .inl (.inr h)
    ·exact .inr (.inl h)
    exact .inr (.inr h)
   rintro ((h|h)|h|h)
   ·exact .inl (.inl h)
   ·exact .inl (.inr (.inl h))
   ·exact .inl (.inr (.inr h))
   exact .inr h
  rename_i hh
  have hb:zcz L key=L.drop (lbN L key):=by unfold zcz;rw[if_neg hh]
  have hall:=hc.all
  rw[←hb]at hall
  constructor
  ·intro hx
   refine⟨hc.ne ?_,hx⟩
   rw[hall]at hx
   rcases List.mem_append.1 hx with h|h
   ·exact .inl h
   exact .inr (List.mem_append.1 h)
  exact fun h=>h.2
def zen(ls:LE):Prop:=1<ls.length→∀l∈ls,3≤l.length
theorem zen.nil:zen []:=fun h=>by simp at h
theorem zsK(l:List Ent)(key val:By):l.length≤(ze6 l key val).length:=by
 unfold ze6
 split
 ·rw[List.length_set];omega
 simp;omega
theorem zpi{l:List Ent}(h:8<l.length):∀x∈zcM l,3≤x.length:=by
 intro x hx
 unfold zcM at hx
 rw[if_pos h]at hx
 simp at hx
 rcases hx with rfl|rfl
 ·rw[List.length_take];omega
 rw[List.length_drop];omega
theorem zen.put{ls:LE}(h3:zen ls)(key val:By):zen (zfV ls key val):=by
 unfold zfV
 cases hL:ls[yl ls key-1]? with
 |none=>intro h;simp at h
 |some L=>
  have hat:=(Gs hL).1
  have hmem:=List.mem_of_getElem? hL
  have hge:=zsK L key val
  dsimp only
  by_cases h8:8<(ze6 L key val).length
  ·intro _ l hl
   have old:∀l∈ls,1<ls.length→3≤l.length:=fun l hl h=>h3 h l hl
   simp only[List.mem_append]at hl
   rcases hl with (hl|hl)|hl
   ·refine old l (List.mem_of_mem_take hl) ?_
    have:=List.length_pos_of_mem hl
    rw[List.length_take]at this
    omega
   ·exact zpi h8 l hl
   refine old l (List.mem_of_mem_drop hl) ?_
   have:=List.length_pos_of_mem hl
   rw[List.length_drop]at this
   omega
  have e:zcM (ze6 L key val)=[ze6 L key val]:=by unfold zcM;rw[if_neg h8]
  rw[e]
  intro hlen l hl
  have hls:1<ls.length:=by
   simp only[List.length_append,List.length_take,List.length_drop,List.length_cons,List.length_nil]at hlen
   omega
  simp only[List.mem_append,List.mem_singleton]at hl
  rcases hl with (hl|rfl)|hl
  ·exact h3 hls l (List.mem_of_mem_take hl)
  ·have:=h3 hls L hmem;omega
  exact h3 hls l (List.mem_of_mem_drop hl)
theorem zla{l:List Ent}(h:3≤l.length):∀x∈zfj l,3≤x.length:=by
 intro x hx
 unfold zfj at hx
 split at hx
 ·simp at hx;subst hx;exact h
 simp at hx
 rcases hx with rfl|rfl
 ·rw[List.length_take];omega
 rw[List.length_drop];omega
theorem zen.settle{ls:LE}(h3:zen ls){a:Nat}{L l':List Ent}(hL:ls[a]? = some L):zen (settle ls a l'):=by
 have hat:=(Gs hL).1
 unfold Wk.settle
 by_cases h1:3≤l'.length∨ls.length=1∧0<l'.length
 ·rw[if_pos h1]
  intro hlen l hl
  have hls:1<ls.length:=by
   simp only[List.length_append,List.length_take,List.length_drop,List.length_cons,List.length_nil]at hlen
   omega
  simp only[List.mem_append,List.mem_singleton]at hl
  rcases hl with (hl|rfl)|hl
  ·exact h3 hls l (List.mem_of_mem_take hl)
  ·omega
  exact h3 hls l (List.mem_of_mem_drop hl)
 rw[if_neg h1]
 by_cases h2:ls.length=1
 ·rw[if_pos h2];exact zen.nil
 rw[if_neg h2]
 have hls:1<ls.length:=by omega
 by_cases h4:a+1=ls.length
 ·rw[if_pos h4]
  have h5:a-1<ls.length:=by omega
  have hg:ls[a-1]? = some ls[a-1]:=by simp[h5]
  have h6:=h3 hls _ (List.mem_of_getElem? hg)
  rw[zfN hg]
  intro _ l hl
  simp only[List.mem_append]at hl
  rcases hl with (hl|hl)|hl
  ·exact h3 hls l (List.mem_of_mem_take hl)
  ·exact zla (by rw[List.length_append];omega) l hl
  exact h3 hls l (List.mem_of_mem_drop hl)
 rw[if_neg h4]
 have h5:a+1<ls.length:=by omega
 have hg:ls[a+1]? = some ls[a+1]:=by simp[h5]
 have h6:=h3 hls _ (List.mem_of_getElem? hg)
 rw[zfN hg]
 intro _ l hl
 simp only[List.mem_append]at hl
 rcases hl with (hl|hl)|hl
 ·exact h3 hls l (List.mem_of_mem_take hl)
 ·exact zla (by rw[List.length_append];omega) l hl
 exact h3 hls l (List.mem_of_mem_drop hl)
theorem zen.take{ls:LE}(h3:zen ls)(key:By):zen (zcB ls key):=by
 unfold zcB
 cases hL:ls[yl ls key-1]? with
 |none=>exact h3
 |some L=>
  dsimp only
  split
  ·exact h3.settle hL
  exact h3
theorem zen.len{ls:LE}(h3:zen ls)(h:1<ls.length):3*ls.length≤ls.flatten.length:=by
 have:∀ms:LE,(∀l∈ms,3≤l.length)→3*ms.length≤ms.flatten.length:=by
  intro ms
  induction ms with
  |nil=>intro _;simp
  |cons m ms ih=>
   intro h
   have h1:=h m (by simp)
   have h2:=ih (fun l hl=>h l (by simp[hl]))
   rw[List.flatten_cons,List.length_append,List.length_cons]
   omega
 exact this ls (h3 h)
def zf0(es:List Ent)(key:By):Option By:=(es.find? fun x=>decide (x.1=key)).map (·.2)
theorem zpK{es:List Ent}{key:By}{i:Nat}{x:Ent}(h:zf0 (es.take i) key=none)(hx:es[i]? = some x)(he:x.1=key):zf0 es key=some x.2:=by
 have h1:es.drop i=x::es.drop (i+1):=by
  obtain⟨hl,rfl⟩:=Gs hx
  exact List.drop_eq_getElem_cons hl
 have h2:es=es.take i++(x::es.drop (i+1)):=by rw[←h1];exact(List.take_append_drop i es).symm
 unfold zf0 at h ⊢
 rw[h2,List.find?_append]
 simp only[Option.map_eq_none_iff]at h
 rw[h]
 simp[he]
theorem zgq{es:List Ent}(hs:Srt es){k v:By}(h:(k,v)∈es):zf0 es k=some v:=by
 obtain⟨i,hi⟩:=List.mem_iff_getElem?.1 h
 refine zpK (i:=i) (x:=(k,v)) ?_ hi U
 unfold zf0
 rw[Option.map_eq_none_iff,List.find?_eq_none]
 intro x hx
 obtain⟨j,hj⟩:=List.mem_iff_getElem?.1 hx
 have hjl:=(Gs hj).1
 rw[List.length_take]at hjl
 rw[List.getElem?_take_of_lt (by omega)]at hj
 have:=hs.at (show j<i by omega) hj hi
 simpa using zhl this
theorem zmP{es:List Ent}{k:By}(h:∀x∈es,x.1≠k):zf0 es k=none:=by
 unfold zf0
 rw[Option.map_eq_none_iff,List.find?_eq_none]
 intro x hx
 simpa using h x hx
theorem zvn{l:List Ent}(hs:Srt l){i:Nat}{x:Ent}(h:l[i]? = some x):lbN l x.1=i:=by
 refine zbZ _ l i (Nat.le_of_lt (Gs h).1) (fun j k hk=>?_)
 constructor
 ·intro h1
  rcases Nat.lt_or_ge j i with h2|h2
  ·exact h2
  exfalso
  rcases Nat.lt_or_ge i j with h3|h3
  ·have:=hs.at h3 h hk
   rw[zdq this]at h1;cases h1
  have:j=i:=by omega
  subst this
  rw[h]at hk
  simp only[Option.some.injEq]at hk
  subst hk
  rw[yJ]at h1;cases h1
 intro h1
 exact hs.at h1 hk h
theorem zkO{l:List Ent}(hs:Srt l){k v:By}(h:(k,v)∈l):zdw l k=true:=by
 obtain⟨i,hi⟩:=List.mem_iff_getElem?.1 h
 have:=zvn hs hi
 dsimp only at this
 unfold zdw zb8
 rw[this,List.getElem?_map,hi]
 simp
theorem zmN{ls:LE}(hw:WfP ls)(key:By):zf0 ls.flatten key=zco ls key:=by
 cases hL:ls[yl ls key-1]? with
 |none=>
  have:ls=[]:=by
   have h1:ls.length≤yl ls key-1:=List.getElem?_eq_none_iff.1 hL
   by_cases h:ls=[]
   ·exact h
   have:=zh4 (key:=key) h;omega
  subst this
  rfl
 |some l=>
  have hmem:=List.mem_of_getElem? hL
  have hs:=hw.each l hmem
  unfold zco
  rw[hL]
  dsimp only
  by_cases hh:zdw l key=true
  ·rw[if_pos hh]
   obtain⟨v,hv⟩:=zeG hh
   rw[hv]
   exact zgq hw.srt (List.mem_flatten.2 ⟨l,hmem,List.mem_of_getElem? hv⟩)
  rw[if_neg hh]
  refine zmP ?_
  rintro⟨k,v⟩ hx he
  dsimp only at he
  subst he
  obtain⟨l',hl',hx'⟩:=List.mem_flatten.1 hx
  obtain⟨j,hj⟩:=List.mem_iff_getElem?.1 hl'
  have h1:j<yl ls k:=by
   refine(zgs hw.firsts hj).1 ?_
   rw[zjw (hw.each l' hl') hx'];rfl
  rcases Nat.lt_or_ge j (yl ls k-1) with h2|h2
  ·have h3:=(List.pairwise_flatten.1 hw.srt).2
   obtain⟨hjl,rfl⟩:=Gs hj
   obtain⟨hil,rfl⟩:=Gs hL
   obtain⟨y,hy,e⟩:=zeL (hw.ne _ hmem)
   have h4:=List.pairwise_iff_getElem.1 h3 j _ hjl hil h2 (k,v) hx' y hy
   have h5:=(zgs (key:=k) hw.firsts hL).2 (by omega)
   rw[e]at h5
   dsimp only at h4
   rw[h4]at h5
   cases h5
  have:j=yl ls k-1:=by omega
  subst this
  rw[hL]at hj
  simp only[Option.some.injEq]at hj
  subst hj
  exact hh (zkO hs hx')
theorem zps{es:List Ent}{k v:By}(h:zf0 es k=some v):(k,v)∈es:=by
 unfold zf0 at h
 rw[Option.map_eq_some_iff]at h
 obtain⟨x,hx,rfl⟩:=h
 have h1:=List.mem_of_find?_eq_some hx
 have h2:=List.find?_some hx
 simp at h2
 subst h2
 exact h1
theorem zfe{ls:LE}(hw:WfP ls){k v:By}:zco ls k=some v↔(k,v)∈ls.flatten:=by
 rw[←zmN hw]
 exact⟨zps,zgq hw.srt⟩
theorem zoR{ls:LE}(hw:WfP ls){k:By}(h:∀v,(k,v)∉ls.flatten):zco ls k=none:=by
 cases hg:zco ls k with
 |none=>rfl
 |some v=>exact absurd ((zfe hw).1 hg) (h v)
theorem zkE:∀{l m:List Ent},Srt l→Srt m→(∀x,x∈l↔x∈m)→l=m
 |[],[],_,_,_=>rfl
 |[],y::m,_,_,h=>by have:=(h y).2 (by simp);cases this
 |x::l,[],_,_,h=>by have:=(h x).1 (by simp);cases this
 |x::l,y::m,hl,hm,h=>by
  have hl':=List.pairwise_cons.1 hl
  have hm':=List.pairwise_cons.1 hm
  have hxy:x=y:=by
   rcases List.mem_cons.1 ((h x).1 (by simp)) with e|e
   ·exact e
   rcases List.mem_cons.1 ((h y).2 (by simp)) with e2|e2
   ·exact e2.symm
   have h1:=hm'.1 x e
   rw[zdq (hl'.1 y e2)]at h1
   cases h1
  subst hxy
  rw[zkE hl'.2 hm'.2 fun z=>?_]
  constructor
  ·intro hz
   rcases List.mem_cons.1 ((h z).1 (by simp[hz])) with e|e
   ·subst e
    have:=hl'.1 z hz
    rw[yJ]at this;cases this
   exact e
  intro hz
  rcases List.mem_cons.1 ((h z).2 (by simp[hz])) with e|e
  ·subst e
   have:=hm'.1 z hz
   rw[yJ]at this;cases this
  exact e
theorem zgm(n:Nat):IntKind.u8.wrap (n:Int)=((n % 256:Nat):Int):=by
 simp only[IntKind.wrap,IntKind.bits,IntKind.signed]
 simp
theorem zeg{n:Nat}(h:n<9223372036854775808):IntKind.i64.wrap (n:Int)=(n:Int):=IntWalk.i64_in _ ⟨by omega,by omega⟩
theorem zg0{n:Nat}(h:n<18446744073709551616):IntKind.u64.wrap (n:Int)=(n:Int):=zgC (by omega) (by omega)
theorem zxT(n m:Nat):(n:Int).fdiv (m:Int)=((n / m:Nat):Int):=by
 rw[Int.fdiv_eq_ediv_of_nonneg _ (by omega)];omega
theorem zle(n m:Nat):(n:Int).fdiv (2 ^ m)=((n / 2 ^ m:Nat):Int):=by
 rw[show ((2:Int) ^ m)=((2 ^ m:Nat):Int) by simp]
 exact zxT _ _
def zef(n L:Nat):Prop:=∀k,L≤k↔n<2 ^ k
theorem zef.shift{n L:Nat}(s:Nat)(h:zef (n / 2 ^ s) L)(hn:2 ^ s≤n):zef n (L+s):=by
 intro k
 rcases Nat.lt_or_ge k s with hk|hk
 ·have:=Nat.pow_lt_pow_right (a:=2) (by omega) hk
  constructor<;>intro _<;>omega
 obtain⟨j,rfl⟩:=Nat.exists_eq_add_of_le hk
 rw[Nat.pow_add,Nat.mul_comm,←Nat.div_lt_iff_lt_mul (Nat.two_pow_pos s),←h j]
 omega
theorem zqs{n L:Nat}(h1:n<2 ^ L)(h2:L=0∨2 ^ (L-1)≤n):zef n L:=by
 intro k
 constructor
 ·intro h
  exact Nat.lt_of_lt_of_le h1 (Nat.pow_le_pow_right (by omega) h)
 intro h
 rcases Nat.lt_or_ge k L with hk|hk
 ·rcases h2 with rfl|h2
  ·omega
  have:2 ^ k≤2 ^ (L-1):=Nat.pow_le_pow_right (by omega) (by omega)
  omega
 exact hk
def yP(n:Nat):Nat:=if n<1 then 0 else if n<256 then 1 else if n<65536 then 2 else if n<16777216 then 3 else if n<4294967296 then 4 else if n<1099511627776 then 5 else if n<281474976710656 then 6 else if n<72057594037927936 then 7 else 8
theorem zbG(n:Nat):yP n≤8:=by unfold yP;split<;>(try split)<;>(try split)<;>(try split)<;>(try split)<;>(try split)<;>(try split)<;>(try split)<;>omega
theorem zgY{n k:Nat}(hn:n<18446744073709551616):yP n≤k↔n<256 ^ k:=by
 have e:∀j,8≤j→n<256 ^ j:=fun j hj=>Nat.lt_of_lt_of_le hn (by
  have:256 ^ 8≤256 ^ j:=Nat.pow_le_pow_right (by omega) hj
  simpa using this)
 rcases Nat.lt_or_ge k 8 with hk|hk
 ·have hc:k=0∨k=1∨k=2∨k=3∨k=4∨k=5∨k=6∨k=7:=by omega
  unfold yP
  rcases hc with rfl|rfl|rfl|rfl|rfl|rfl|rfl|rfl<;>simp only[Nat.reducePow]<;>(repeat' split)<;>omega
 have:=zbG n
 have:=e k hk
 exact⟨fun _=>this,fun _=>by omega⟩
theorem zlR{n L:Nat}(hn:n<18446744073709551616)(h:zef n L):(L+8-1) / 8=yP n:=by
 have h1:∀k,(L+8-1) / 8≤k↔yP n≤k:=fun k=>by
  rw[zgY hn,show (256:Nat)=2 ^ 8 by rfl,←Nat.pow_mul,←h (8*k)]
  omega
 have h2:=(h1 (yP n)).2 (Nat.le_refl _)
 have h3:=(h1 ((L+8-1) / 8)).1 (Nat.le_refl _)
 omega
def znr:List UInt8:=(List.range 256).map fun i=>UInt8.ofNat (if i=0 then 0 else i.log2+1)
theorem zv6:∀x:Fin 256,x.val<2 ^ (znr[x.val]?.getD 0).toNat∧((znr[x.val]?.getD 0).toNat=0∨2 ^ ((znr[x.val]?.getD 0).toNat-1)≤x.val)∧(znr[x.val]?).isSome=true:=by decide
theorem zvz{l:Array UInt8}{x:Nat}{b:UInt8}(h:l.toList=znr)(ho:znr[x]? = some b):l[x]? = some b:=by rw[←Array.getElem?_toList,h];exact ho
theorem zsZ(n:Nat)(w:Wl)(hn:n<18446744073709551616):zL TP 245 #[.int .u64 n] w fun r w'=>∃L:Nat,r=Ii L∧zef n L∧L≤64∧w'=w:=by
 refine A1 Tryz.func245 U U ?_
 refine Sr (Oa U (E2 0 2 U ?_))
 refine yt (fun F wx=>wx=w∧∃x t:Nat,F=[(0,.int .u64 x),(2,Ii t)]∧x<4294967296∧t≤32∧∀L,zef x L→zef n (L+t)) ?_ ?_
 ·refine Sr (Om U (Og (yj U U) U (E3 0 2 4 U ?_)))
  refine zH U (fun hT=>?_) (fun hF=>?_)
  ·have hge:4294967296≤n:=by have:=of_decide_eq_true hT;omega
   refine Sr (Om U ?_)
   refine Og (zbW 32 U U (by omega) (by decide) (zle _ _)) U ?_
   refine Oa U (E1 0 U (za (Oa U (E2 0 2 U ?_))))
   exact⟨rfl,_,32,rfl,by omega,by omega,fun L hL=>hL.shift 32 (by omega)⟩
  have hlt:n<4294967296:=by have:=of_decide_eq_false hF;omega
  refine zbT [0,2] U ?_
  refine zk ?_
  exact⟨rfl,n,0,rfl,hlt,by omega,fun L hL=>hL⟩
 rintro F wx⟨hwx,x,t,rfl,hx,ht,hL⟩
 subst wx
 refine yt (fun F wx'=>wx'=w∧∃x t:Nat,F=[(0,.int .u64 x),(2,Ii t)]∧x<65536∧t≤48∧∀L,zef x L→zef n (L+t)) ?_ ?_
 ·refine Sr (Om U (Og (yj U U) U (E3 0 2 8 U ?_)))
  refine zH U (fun hT=>?_) (fun hF=>?_)
  ·have hge:65536≤x:=by have:=of_decide_eq_true hT;omega
   refine Sr (Om U ?_)
   refine Og (zbW 16 U U (by omega) (by decide) (zle _ _)) U ?_
   refine Oa U (E2 0 2 U (za (Om U ?_)))
   refine Og (yQ (v':=Ii ((t+16:Nat):Int)) (zG U U (by omega)) (by congr 1)) U ?_
   refine Oa U (E2 0 2 U ?_)
   exact⟨rfl,_,_,rfl,by omega,by omega,fun L h=>by rw[show L+(t+16)=L+16+t by omega];exact hL _ (h.shift 16 (by omega))⟩
  have hlt:x<65536:=by have:=of_decide_eq_false hF;omega
  refine zbT [0,2] U ?_
  refine zk ?_
  exact⟨rfl,x,t,rfl,hlt,by omega,hL⟩
 clear hL hx ht
 rintro F wx⟨hwx,x,t,rfl,hx,ht,hL⟩
 subst wx
 refine yt (fun F wx'=>wx'=w∧∃x t:Nat,F=[(0,.int .u64 x),(2,Ii t)]∧x<256∧t≤56∧∀L,zef x L→zef n (L+t)) ?_ ?_
 ·refine Sr (Om U (Og (yj U U) U (E3 0 2 14 U ?_)))
  refine zH U (fun hT=>?_) (fun hF=>?_)
  ·have hge:256≤x:=by have:=of_decide_eq_true hT;omega
   refine Sr (Om U ?_)
   refine Og (zbW 8 U U (by omega) (by decide) (zle _ _)) U ?_
   refine Oa U (E2 0 2 U (za (Om U ?_)))
   refine Og (yQ (v':=Ii ((t+8:Nat):Int)) (zG U U (by omega)) (by congr 1)) U ?_
   refine Oa U (E2 0 2 U ?_)
   exact⟨rfl,_,_,rfl,by omega,by omega,fun L h=>by rw[show L+(t+8)=L+8+t by omega];exact hL _ (h.shift 8 (by omega))⟩
  have hlt:x<256:=by have:=of_decide_eq_false hF;omega
  refine zbT [0,2] U ?_
  refine zk ?_
  exact⟨rfl,x,t,rfl,hlt,by omega,hL⟩
 clear hL hx ht
 rintro F wx⟨hwx,x,t,rfl,hx,ht,hL⟩
 subst wx
 have ht1:=zv6 ⟨x,hx⟩
 dsimp only at ht1
 obtain⟨h1,h2,h3⟩:=ht1
 generalize ho:znr[x]? = o at h1 h2 h3
 cases o with
 |none=>cases h3
 |some b=>
  simp only[Option.getD_some]at h1 h2
  have hb:=UInt8.toNat_lt b
  have hlb:zef x b.toNat:=zqs h1 h2
  have hb8:b.toNat≤8:=(hlb 8).2 (by omega)
  refine Sr (Om U (Om U ?_))
  refine Og (yp za9 zbO U (show IntKind.u8.wrap (x:Int)=(x:Int) by rw[zgm];congr 1;omega)) U ?_
  refine Og (zg6 st9 U U _ U (zvz (by kernel_rfl) ho)) U ?_
  refine Og (yp zaY za9 U (zeg (n:=b.toNat) (by omega))) U ?_
  refine Og (yQ (v':=Ii ((t+b.toNat:Nat):Int)) (zG U U (by omega)) (by congr 1)) U ?_
  refine Oa U (E1 2 U (zh ?_))
  refine zx U U ?_
  exact⟨_,rfl,by rw[Nat.add_comm];exact hL _ hlb,by omega,rfl⟩
theorem zkz(n:Nat)(w:Wl)(hn:n<18446744073709551616):zL TP 219 #[.int .u64 n] w fun r w'=>r=Ii (yP n:Nat)∧w'=w:=by
 refine A1 Tryz.func219 U U ?_
 refine Sr (Oa U (E1 0 U (Sr (Om U ?_))))
 refine Oc zyk U U U (zsZ n w hn) ?_
 rintro v4 w4⟨L,rfl,hL,h64,rfl⟩
 refine Og (zG U U (by omega)) U ?_
 refine Og (yV U U (by omega)) U ?_
 refine Og (zqC U U (by omega) (by omega)) U ?_
 refine Oa U (E1 2 U (zh ?_))
 refine zx U U ?_
 refine⟨?_,U⟩
 rw[←zlR hn hL]
 congr 1
 omega
def be(n:Nat):Nat→List UInt8
 |0=>[]
 |k+1=>UInt8.ofNat (n / 256 ^ k % 256)::be n k
theorem zaG(n:Nat):∀k,(be n k).length=k
 |0=>rfl
 |k+1=>by simp[be,zaG n k]
theorem zzn(n i:Nat)(b:Nat)(w:Wl)(hn:n<18446744073709551616)(hi:i<8)(hb:zK w b 109 [.int .u64 n]):zL TP 306 #[Ii i,Pt b] w fun r w'=>r=.int .u8 ((UInt8.ofNat (n / 256 ^ i % 256)).toNat:Nat)∧w'=w:=by
 refine A2 Tryz.func306 U U ?_
 refine Sr (Oa U (E2 0 1 U (Sr (Ol zeV U (hb.cell' U) (Om U ?_)))))
 refine Og (zc8 U U (by omega)) U ?_
 refine Og (zbW (8*i) U U (by omega) (show 8*i≤64 by omega) (zle _ _)) U ?_
 refine Og (yp za9 zbO U (zgm _)) U ?_
 refine Oa U (E1 3 U (zh ?_))
 refine zx U U ?_
 refine⟨?_,U⟩
 rw[Nat.pow_mul]
 simp
theorem zzE(n:Nat)(w:Wl):zL TP 220 #[.int .u64 n] w fun r w'=>∃b,r=.func (.func 306) #[] #[Pt b]∧w.heap.size≤b∧zK w' b 109 [.int .u64 n]∧zl [] w w':=by
 refine A1 Tryz.func220 U U ?_
 refine Sr ?_
 refine Ob U U ?_
 intro b1 w1 e1 n1 c1 k1
 refine Oa U (E1 1 U (Sr (Og (y9 U U) U (Oa U (E1 2 U (zh ?_))))))
 refine zx U U ?_
 exact⟨b1,rfl,by omega,k1,c1⟩
theorem zqr(n k:Nat)(v:Va)(len:Nat)(xs:List UInt8)(b:Nat)(w:Wl)(hn:n<18446744073709551616)(hk:k≤8)(hl:len≤1048576)(hv:zw w 5 1 v len (bv xs))(hb:zK w b 109 [.int .u64 n]) :
 zL TP 218 #[v,Ii k,.func (.func 306) #[] #[Pt b]] w fun r w'=>zw w' 5 1 r (len+k) (bv (xs++be n k))∧zl (zq v) w w'∧(zq r=zq v∨∃b',zq r=[b']∧w.heap.size≤b'):=by
 refine A3 Tryz.func218 U U ?_
 refine Sr (Oa U (E3 0 1 2 U (zd (Sr (Om U ?_)))))
 refine Og (yV U U (by omega)) U ?_
 refine Oa U (E3 0 2 7 U (zu ?_))
 refine zX [0,2,7] (fun m F wx=>m≤k∧∃u:Va,F=[(0,u),(2,.func (.func 306) #[] #[Pt b]),(7,Ii ((m:Int)-1))]∧∃ys,zw wx 5 1 u (len+(k-m)) (bv ys)∧ys++be n m=xs++be n k∧zl (zq v) w wx∧(zq u=zq v∨∃b',zq u=[b']∧w.heap.size≤b')) (m:=k) ⟨Nat.le_refl _,v,rfl,xs,by simpa using hv,rfl,zl.refl _ _,.inl U⟩ ?_
 rintro m F wx⟨hm,u,rfl,ys,hu,hys,hc,ho⟩
 refine zd (Sr (Om U (Og (yj U U) U (E4 0 2 7 11 U ?_))))
 refine zH U (fun hT=>?_) (fun hF=>?_)
 ·refine zk ?_
  have hm1:1≤m:=by have:=of_decide_eq_true hT;omega
  obtain⟨i,rfl⟩:=Nat.exists_eq_add_of_le hm1
  have hbx:zK wx b 109 [.int .u64 n]:=hb.chg hc (fun hm=>hv.apart hb rfl b hm (by simp))
  refine zd (zu ?_)
  rw[show (((1+i:Nat):Int)-1)=(i:Int) by omega]
  refine za (Om U (Om U (Om U ?_)))
  refine Oc zzk U U U (zzn n i b wx hn (by omega) hbx) ?_
  rintro v17 w17⟨rfl,rfl⟩
  refine Oq (zz zdc U (vs:=[_]) U (css:=[_]) ⟨U,trivial⟩ U U (cs:=[_]) U U ?_)
  intro b18 w18 e18 n18 c18 k18
  refine Oq (yE zdc yT U U (hu.chg0 c18) (zw.of_blk k18 U (by simp[maxLen]) (by simp[Value.oneCell'])) (by simp only[maxLen];omega) (by omega) U ?_)
  intro v19 w19 i19 c19 o19 z19
  refine Oa U (N3 0 2 7 U (zn (za (Om U ?_))))
  refine Og (yV U U (by omega)) U ?_
  refine Oa U (N3 0 2 7 U ?_)
  refine⟨i,by omega,by omega,v19,rfl,ys++[UInt8.ofNat (n / 256 ^ i % 256)],?_,?_,?_,?_⟩
  ·rw[zam]
   have e:len+(k-i)=len+(k-(1+i))+1:=by omega
   rw[e]
   exact i19
  ·rw[Nat.add_comm 1 i]at hys
   rw[←hys]
   simp[be]
  ·rcases ho with ho|⟨b',ho,hb'⟩
   ·exact(hc.trans c18).trans' c19 (fun x hx=>.inl (ho▸hx))
   exact(hc.trans c18).trans' c19 (fun x hx=>.inr (by rw[ho]at hx;simp at hx;omega))
  have:=hc.size
  have:=c18.size
  rcases o19 with h|⟨b',h,hb'⟩
  ·rw[h];exact ho
  exact .inr ⟨b',h,by omega⟩
 refine zI ?_
 repeat first|refine te ?_|refine bo rfl ?_
 refine zt _ ?_
 have hm0:m=0:=by have:=of_decide_eq_false hF;omega
 subst hm0
 refine Sr (Om U (Oa U (E1 6 U (zh ?_))))
 refine zx U U ?_
 rw[be,List.append_nil]at hys
 rw[←hys]
 exact⟨hu,hc,ho⟩
def rdN(l:List UInt8):Nat:=l.foldl (fun n b=>n*256+b.toNat) 0
theorem zsL(l:List UInt8)(b:UInt8):rdN (l++[b])=rdN l*256+b.toNat:=by simp[rdN]
theorem zs6(l:List UInt8):∀m,l.foldl (fun n b=>n*256+b.toNat) m=m*256 ^ l.length+rdN l:=by
 induction l with
 |nil=>intro m;simp[rdN]
 |cons b l ih=>
  intro m
  have e:rdN (b::l)=(0*256+b.toNat)*256 ^ l.length+rdN l:=by rw[rdN,List.foldl_cons,ih]
  rw[List.foldl_cons,ih,e,List.length_cons,Nat.pow_succ,Nat.add_mul]
  have:m*(256 ^ l.length*256)=m*256*256 ^ l.length:=by rw[Nat.mul_assoc,Nat.mul_comm (256 ^ l.length)]
  rw[this,Nat.zero_mul,Nat.zero_add]
  omega
theorem zoP(b:UInt8)(l:List UInt8):rdN (b::l)=b.toNat*256 ^ l.length+rdN l:=by
 rw[rdN,List.foldl_cons,zs6,Nat.zero_mul,Nat.zero_add]
theorem znD:∀l:List UInt8,rdN l<256 ^ l.length
 |[]=>by simp[rdN]
 |b::l=>by
  have ih:=znD l
  rw[zoP,List.length_cons,Nat.pow_succ]
  have:=UInt8.toNat_lt b
  have h2:b.toNat*256 ^ l.length≤255*256 ^ l.length:=Nat.mul_le_mul_right _ (by omega)
  omega
theorem zhq(n:Nat):∀k,rdN (be n k)=n % 256 ^ k
 |0=>by simp[be,rdN,Nat.mod_one]
 |k+1=>by
  have e:rdN (be n (k+1))=(n / 256 ^ k % 256)*256 ^ k+rdN (be n k):=by
   show rdN (UInt8.ofNat _::be n k)=_
   rw[zoP,zaG]
   congr 2
   simp
  rw[e,zhq n k,Nat.pow_succ,Nat.mod_mul,Nat.mul_comm,Nat.add_comm]
theorem zdz{n:Nat}(hn:n<18446744073709551616):rdN (be n (yP n))=n:=by
 rw[zhq]
 exact Nat.mod_eq_of_lt ((zgY hn).1 (Nat.le_refl _))
def zcn(n:Nat):List UInt8:=UInt8.ofNat (yP n)::be n (yP n)
theorem zdB(n:Nat):(zcn n).length=yP n+1:=by simp[zcn,zaG]
theorem zkR(n:Nat)(w:Wl)(hn:n<18446744073709551616):zL TP 166 #[.int .u64 n] w fun r w'=>zw w' 5 1 r (zcn n).length (bv (zcn n))∧(∀b∈zq r,w.heap.size≤b)∧zl [] w w':=by
 have h8:=zbG n
 refine A1 Tryz.func166 U U ?_
 refine Sr (Oa U (E1 0 U (Sr (Om U ?_))))
 refine Oc znT U U U (zkz n w hn) ?_
 rintro v4 w4⟨rfl,rfl⟩
 refine Og (yp za9 zaY U (show IntKind.u8.wrap ((yP n:Nat):Int)=(((UInt8.ofNat (yP n)).toNat:Nat):Int) by rw[zgm];simp)) U ?_
 refine Oq (zz zdc U (vs:=[_]) U (css:=[_]) ⟨U,trivial⟩ U U (cs:=[_]) U U ?_)
 intro b6 w6 e6 n6 c6 k6
 refine Om U ?_
 refine Oc znT U U U (zkz n w6 hn) ?_
 rintro v8 w8⟨rfl,rfl⟩
 refine Om U ?_
 refine Oc zuk U U U (zzE n _) ?_
 rintro v10 w10⟨b10,rfl,h10,k10,c10⟩
 refine Oc zuG U U U (zqr n (yP n) _ 1 [UInt8.ofNat (yP n)] b10 _ hn h8 (by omega) (zw.of_blk (k6.chg0 c10) U (by simp[maxLen]) (zeB _)) k10) ?_
 rintro v11 w11⟨i11,c11,o11⟩
 refine Oa U (E1 2 U (zh ?_))
 refine zx U U ?_
 have hs:=c6.size
 have hs10:=c10.size
 refine⟨?_,?_,?_⟩
 ·rw[zdB,Nat.add_comm]
  exact i11
 ·intro b hb
  rcases o11 with h|⟨b',h,hb'⟩
  ·rw[h]at hb;simp[zq]at hb;omega
  rw[h]at hb;simp at hb;omega
 exact(c6.trans c10).own c11 (by intro b hb;simp[zq]at hb;omega)
def zbD(s:By):List UInt8:=zcn s.size++s.data.toList
theorem zwk(s:By)(w:Wl)(hs:s.size≤1048576):zL TP 203 #[.string s] w fun r w'=>zw w' 5 1 r (zbD s).length (bv (zbD s))∧(∀b∈zq r,w.heap.size≤b)∧zl [] w w':=by
 have h8:=zbG s.size
 have hl:=zdB s.size
 refine A1 Tryz.func203 U U ?_
 refine Sr (Oa U (E1 0 U (Sr (Om U (Og (zax st9 U) U ?_)))))
 refine Og (yp zbO zaY U (zg0 (n:=s.size) (by omega))) U ?_
 refine Oc zvc U U U (zkR s.size w (by omega)) ?_
 rintro v6 w6⟨i6,o6,c6⟩
 refine Om U ?_
 refine Oq (zna zdc st9 U U i6 (by simp only[maxLen];omega) (by omega) U ?_)
 intro v8 w8 i8 c8 o8 z8
 refine Oa U (E1 2 U (zh ?_))
 refine zx U U ?_
 have hs6:=c6.size
 refine⟨?_,?_,?_⟩
 ·rw[zbD,zam,List.length_append]
  have:s.data.toList.length=s.size:=by simp
  rw[this]
  exact i8
 ·intro b hb
  rcases o8 with h|⟨b',h,hb'⟩
  ·exact o6 b (h▸hb)
  rw[h]at hb;simp at hb;omega
 exact c6.own c8 o6
theorem znU(n k:Nat)(w:Wl)(hn:n<18446744073709551616)(hk:1≤k∧k≤8)(hf:n<256 ^ k):zL TP 281 #[.int .u64 n,Ii k] w fun r w'=>∃v,r=.tuple #[v,Ii 0]∧zw w' 5 1 v k (bv (be n k))∧(∀b∈zq v,w.heap.size≤b)∧zl [] w w':=by
 have hle:yP n≤k:=(zgY hn).2 hf
 refine A2 Tryz.func281 U U ?_
 refine Sr (Oa U (Oa U (E2 0 1 U (zd (zu (Sr (Om U ?_)))))))
 refine Og (vf (zF U U) (df (by omega))) U ?_
 refine Om U (Oj U U ?_)
 refine Oy U U (vf (ym U U) (df (by omega))) ?_
 refine Of U (Oa U (E3 0 1 6 U (zb U (Sr (Om U ?_)))))
 refine Oc znT U U U (zkz n w hn) ?_
 rintro v15 w15⟨rfl,rfl⟩
 refine Om U ?_
 refine Og (vf (ym U U) (df (by omega))) U ?_
 refine Oa U (E3 0 1 13 U (zb U (z0 (zn (Sr (Om U (Om U ?_)))))))
 refine Oc zuk U U U (zzE n _) ?_
 rintro v20 w20⟨b20,rfl,h20,k20,c20⟩
 refine Oc zuG U U U (zqr n k (.slice none 0 0) 0 [] b20 _ hn hk.2 (by omega) (zw.nil _ _ _) k20) ?_
 rintro v21 w21⟨i21,c21,o21⟩
 refine Oa U (Oa U (E2 4 5 U (zh ?_)))
 refine zbX U U U ?_
 have hs:=c20.size
 refine⟨_,rfl,by rw[Nat.zero_add]at i21;exact i21,?_,c20.transS c21⟩
 intro b hb
 rcases o21 with h|⟨b',h,hb'⟩
 ·rw[h]at hb;simp[zq]at hb
 rw[h]at hb;simp at hb;omega
theorem zl9(v:Va)(l:List UInt8)(w:Wl)(hv:zaA w 5 1 v l.length (bv l))(hl:l.length≤8):zL TP 296 #[v] w fun r w'=>r=.int .u64 (rdN l:Nat)∧w'=w:=by
 obtain⟨pv,cv,rfl,hcv⟩:=hv.val
 refine A1 Tryz.func296 U U ?_
 refine Sr (Oa U (E2 0 2 U (zd (Sr (Om U (On zuR U (Om U (E4 2 5 6 7 U (zu ?_)))))))))
 refine zX [2,5,6,7] (fun m F wx=>wx=w∧∃j:Nat,m=l.length-j∧j≤l.length∧F=[(2,.int .u64 (rdN (l.take j):Nat)),(5,.slice pv l.length cv),(6,Ii l.length),(7,Ii j)]) (m:=l.length-0) ⟨U,0,U,Nat.zero_le _,U⟩ ?_
 rintro m F wx⟨rfl,j,rfl,hj,rfl⟩
 refine Sr (Og (zF U U) U (E5 2 5 6 7 8 U (zd ?_)))
 refine zH U (fun hT=>?_) (fun hF=>?_)
 ·refine zk ?_
  have hlt:j<l.length:=by have:=of_decide_eq_true hT;omega
  have hx:l[j]? = some l[j]:=by simp[hlt]
  generalize l[j]=x at hx
  obtain⟨b,off,cap,hv',hc⟩:=hv.at1 (zot hx)
  cases hv'
  have hx8:=UInt8.toNat_lt x
  have htk:l.take (j+1)=l.take j++[x]:=by rw[List.take_add_one,hx];rfl
  have hr:=znD (l.take j)
  rw[List.length_take,Nat.min_eq_left hj]at hr
  have h8:256 ^ j≤256 ^ 7:=Nat.pow_le_pow_right (by omega) (by omega)
  simp only[Nat.reducePow]at h8
  refine zd (zu (Sr ?_))
  refine Og (zm zuR sz5 U U _ U hlt) U ?_
  refine Ol ag5 U hc (Oa U (E5 2 4 5 6 7 U (za (Om U ?_))))
  refine Og (zdv 8 U U (by omega) (by decide) (show IntKind.u64.wrap (((rdN (l.take j):Nat):Int)*2 ^ 8)=((rdN (l.take j)*256:Nat):Int) by rw[show ((2:Int) ^ 8)=256 by rfl,zgC (by omega) (by omega)];omega)) U ?_
  refine Om U ?_
  refine Og (yp zbO za9 U (zg0 (n:=x.toNat) (by omega))) U ?_
  refine Og (ztb U U ⟨8,by omega,by omega⟩ (by omega)) U ?_
  refine Oa U (N4 2 5 6 7 U (zn (za ?_)))
  refine Og (zG U U (by omega)) U ?_
  refine Om U (N4 2 5 6 7 U ?_)
  exact⟨l.length-(j+1),by omega,rfl,j+1,rfl,by omega,by rw[htk,zsL];rfl⟩
 refine zI ?_
 repeat first|refine te ?_|refine bo rfl ?_
 refine zt _ ?_
 have he:j=l.length:=by have:=of_decide_eq_false hF;omega
 subst he
 refine Sr (Om U (Oa U (E1 2 U (zh ?_))))
 refine zx U U ?_
 rw[List.take_length]
 exact⟨U,U⟩
theorem zhr(v:Va)(l:List UInt8)(w:Wl)(hv:zaA w 5 1 v l.length (bv l))(hl:1≤l.length∧l.length≤8):zL TP 251 #[v] w fun r w'=>r=.tuple #[.int .u64 (rdN l:Nat),Ii 0]∧w'=w:=by
 obtain⟨pv,cv,rfl,hcv⟩:=id hv.val
 refine A1 Tryz.func251 U U ?_
 refine Sr (Oa U (Oa U (E1 0 U (zd (Sr (Om U (On yT U ?_)))))))
 refine Og (vf (zF U U) (df (by omega))) U ?_
 refine Om U (Oj U U (Oy U U (z5 yT U) ?_))
 refine Oy U U (vf (ym U U) (df (by omega))) ?_
 refine Of U (E2 0 11 U (zb U (zk (Sr (Om U ?_)))))
 refine Oc zuo U U U (zl9 _ l w hv hl.2) ?_
 rintro v13 w13⟨rfl,rfl⟩
 refine Oa U (Oa U (E2 2 3 U (zh ?_)))
 refine zbX U U U ?_
 exact⟨U,U⟩
theorem zvE{Q:Exit→Fr→Wl→Prop}{F:Fr}{w:Wl}(h:Q .ret F w):znf Q .ret F w:=h
theorem zkh(v:Va)(n:Nat)(rest:List UInt8)(w:Wl)(hn:n<18446744073709551616)(hr:rest.length≤4194304)(hv:zaA w 5 1 v (zcn n++rest).length (bv (zcn n++rest))) :
 zL TP 207 #[v] w fun r w'=>r=.tuple #[.int .u64 n,Ii (zcn n).length,Ii 0]∧zl [] w w':=by
 have h8:=zbG n
 have hlen:(zcn n++rest).length=yP n+1+rest.length:=by rw[List.length_append,zdB]
 have hnl:=zdB n
 have h0:(zcn n++rest)[0]? = some (UInt8.ofNat (yP n)):=rfl
 have hbyte:(UInt8.ofNat (yP n)).toNat=yP n:=by simp;omega
 obtain⟨b,off,cap,rfl,hc0⟩:=hv.at1 (zot h0)
 rw[hbyte]at hc0
 have hcap:(zcn n++rest).length≤cap:=by obtain⟨_,_,he,hc⟩:=hv.val;cases he;exact hc
 refine A1 Tryz.func207 U U ?_
 refine Sr (Oa U (Oa U (Oa U (E1 0 U ?_))))
 refine zkt ?_
 refine Sr (Om U ?_)
 refine Og (zC zzb zuK U (vs:=[_]) U (css:=[_]) ⟨U,trivial⟩ U U (cs:=[_,_]) U) U ?_
 refine Oq (zD zuK U U ?_)
 intro b5 w5 e5 n5 c5 k5
 refine Oq (zv zzf U U U U k5 (by simp) (by intro u hu;simp at hu;rcases hu with rfl|rfl<;>rfl) ?_)
 intro wA nA cA kA
 refine E2 0 5 U ?_
 have hcA:zl [] w wA:=c5.own cA (by intro y hy;simp at hy;omega)
 have hvA:=hv.chg0 hcA
 have hc0A:=(hvA.cells) 0 _ (zot h0)
 rw[hbyte]at hc0A
 refine zd (Sr (Om U (On yT U ?_)))
 refine Og (vf (zA U U) (df (by omega))) U ?_
 refine Om U (Oj U U ?_)
 refine Oy U U (zm yT sz5 U U 0 U (by omega)) ?_
 refine Oy U U (zj ag5 U hc0A) ?_
 refine Oy U U (vf (ym U U) (df (by omega))) ?_
 refine Of U (Om U (Oj U U ?_))
 refine Oy U U (zm yT sz5 U U 0 U (by omega)) ?_
 refine Oy U U (zj ag5 U hc0A) ?_
 refine Oy U U (yp zaY za9 U (zeg (n:=yP n) (by omega))) ?_
 refine Oj U U (Oy U U (z5 yT U) ?_)
 refine Oy U U (yV U U (by omega)) ?_
 refine Oy U U (vf (ym U U) (df (by omega))) ?_
 refine Of U (E3 0 5 26 U (zb U (zk (Sr (Om U ?_)))))
 refine Og (zm yT sz5 U U 0 U (by omega)) U ?_
 refine Ol ag5 U hc0A ?_
 refine Og (yp zaY za9 U (zeg (n:=yP n) (by omega))) U ?_
 refine Og (yQ (v':=Ii ((1+yP n:Nat):Int)) (zG U U (by omega)) (by congr 1)) U ?_
 refine Od zhZ U ?_
 refine Oq (zv sz3 U U U U kA (by simp[yF]) (by intro u hu;simp at hu;subst hu;rfl) ?_)
 intro wB nB cB kB
 refine E2 0 5 U ?_
 have hcB:zl [] w wB:=hcA.own cB (by intro y hy;simp at hy;omega)
 refine Sr (Om U (Od zhZ U (Ol ag3 U (kB.cell' U) (Od zhZ U (Ol ag3 U (kB.cell' U) ?_)))))
 refine Og (zeP yT sz5 U U U U _ _ _ U U U (show 1≤1+yP n by omega) (Nat.le_refl _) (by omega)) U ?_
 refine Od zof U ?_
 refine Oq (zv zzF U U U U kB (by simp[yF]) (by intro u hu;simp at hu;subst hu;rfl) ?_)
 intro wC nC cC kC
 refine E2 0 5 U ?_
 have hcC:zl [] w wC:=hcB.own cC (by intro y hy;simp at hy;omega)
 have hcut:=(hv.chg0 hcC).cut (l:=1) (h:=1+yP n) (m:=1+yP n) (by omega) (Nat.le_refl _) (by omega) (by omega)
 have ecut:((bv (zcn n++rest)).drop (1*1)).take ((1+yP n-1)*1)=bv (be n (yP n)):=by
  simp only[Nat.mul_one]
  rw[zcn,List.cons_append,bv,List.map_cons,List.drop_one,List.tail_cons,List.map_append,show 1+yP n-1=yP n by omega]
  exact List.take_left' (by simp[zaG])
 rw[ecut,show 1+yP n-1=(be n (yP n)).length by rw[zaG];omega]at hcut
 refine zd (Sr (Od zof U (Ol zxt U (kC.cell' U) ?_)))
 refine Oc zuo U U U (zl9 _ (be n (yP n)) _ hcut (by rw[zaG];exact h8)) ?_
 rintro v42 w42⟨rfl,rfl⟩
 refine Oa U (E3 0 2 5 U (zd ?_))
 rw[zdz hn]
 have hc0C:=((hv.chg0 hcC).cells) 0 _ (zot h0)
 rw[hbyte]at hc0C
 have hatC:=kC.cell' (i:=1) rfl
 clear hcut ecut hc0A hvA
 refine zN (fun wz=>wz.cell? ⟨b,off+0*1,none⟩=some (.int .u8 (yP n:Nat))∧wz.cell? ⟨b5,1,none⟩=some (Ii (1+yP n:Nat))∧zl [] w wz) mix (by kernel_rfl) ⟨hc0C,hatC,hcC.trans (zl.drew [] _)⟩ ?_
 refine Tm U ?_
 refine Tc znT U U U (zkz n _ hn) ?_
 rintro v44 w44⟨rfl,h44⟩
 subst h44
 refine⟨.inl ⟨hc0C,hatC,hcC.trans (zl.drew [] _)⟩,?_⟩
 refine Tm U ?_
 refine Tp (fun _=>zm yT sz5 U U 0 U (by omega)) U ?_
 refine Tr (fun wz hz=>zj ag5 U hz.1) U ?_
 refine Tp (fun _=>yp zaY za9 U (zeg (n:=yP n) (by omega))) U ?_
 refine Tp (fun _=>vf (zZ U U) (by simp)) U ?_
 refine D3 2 5 49 U (zb U (zk (zd (zd ?_))))
 refine zN (fun wz=>zl [] w wz∧wz.cell? ⟨b5,1,none⟩=some (Ii (1+yP n:Nat))) mix (by kernel_rfl) ⟨(hcC.trans (zl.drew [] _)).trans (zl.drew [] _),hatC⟩ ?_
 refine Tm U (Td zhZ U (Tr (fun wz hz=>zj ag3 U hz.2) U (Ta U (Ta U (Ta U (D3 2 3 4 U (zh ?_)))))))
 refine zba ?_
 refine zvE ?_
 refine zgh U U U U ?_
 rw[hnl,Nat.add_comm]
 exact⟨U,(hcC.trans (zl.drew [] _)).trans (zl.drew [] _)⟩
theorem zno(v:Va)(s:By)(rest:List UInt8)(w:Wl)(hs:s.size≤1048576)(hr:rest.length≤1048576)(hv:zaA w 5 1 v (zbD s++rest).length (bv (zbD s++rest))) :
 zL TP 151 #[v] w fun r w'=>r=.tuple #[.string s,Ii (zbD s).length,Ii 0]∧zl [] w w':=by
 have h8:=zbG s.size
 have hnl:=zdB s.size
 have hsz:s.data.toList.length=s.size:=by simp
 have htl:(zbD s).length=(zcn s.size).length+s.size:=by rw[zbD,List.length_append,hsz]
 have hv':=hv
 rw[zbD,List.append_assoc]at hv'
 have hlen:(zbD s++rest).length=(zcn s.size).length+s.size+rest.length:=by rw[List.length_append,htl]
 obtain⟨pv,cap,rfl,hcap⟩:=hv.val
 refine A1 Tryz.func151 U U ?_
 refine Sr (Oa U (Oa U (Oa U (E1 0 U (Sr (Om U ?_))))))
 refine Oc zzu U U U (zkh _ s.size (s.data.toList++rest) w (by omega) (by rw[List.length_append];omega) hv') ?_
 rintro v11 w11⟨rfl,c11⟩
 refine Om U (Oe U U (Oe U U (Oe U U (Oa U (Oa U (Oa U (E4 0 5 6 7 U (zd (Sr (Om U ?_))))))))))
 refine Og (vf (zZ U U) (zb6 (by omega))) U ?_
 refine Om U (Oj U U (Oj U U (Oy U U (z5 yT U) (Oj U U ?_))))
 refine Oy U U (yQ (v':=Ii ((s.size+rest.length:Nat):Int)) (yV U U (by omega)) (by congr 1<;>omega)) ?_
 refine Oy U U (yp zbO zaY U (zg0 (n:=s.size+rest.length) (by omega))) ?_
 refine Oy U U (vf (ym U U) (df (by omega))) ?_
 refine Of U (E4 0 5 6 25 U (zb U (zk (Sr (Om U (Om U ?_))))))
 refine Og (yp zaY zbO U (zeg (n:=s.size) (by omega))) U ?_
 refine Og (yQ (v':=Ii (((zcn s.size).length+s.size:Nat):Int)) (zG U U (by omega)) (by congr 1)) U ?_
 refine Oa U (E3 0 6 8 U (zd ?_))
 have hcut:=(hv.chg0 c11).cut (l:=(zcn s.size).length) (h:=(zcn s.size).length+s.size) (m:=(zcn s.size).length+s.size) (by omega) (Nat.le_refl _) (by omega) (by omega)
 have ecut:((bv (zbD s++rest)).drop ((zcn s.size).length*1)).take (((zcn s.size).length+s.size-(zcn s.size).length)*1)=bv s.data.toList:=by
  simp only[Nat.mul_one]
  rw[zbD,List.append_assoc,zam,List.drop_left' (zct _),Nat.add_sub_cancel_left,zam]
  exact List.take_left' (by rw[zct,hsz])
 rw[ecut]at hcut
 refine za (Om U (Om U (Om U (Om U ?_))))
 refine Og (zeP yT sz5 U U U U _ _ _ U U U (by omega) (Nat.le_refl _) (by omega)) U ?_
 refine Og (zhi (l:=s.data.toList) yT za9 st9 U hcut) U (Om U (Oa U (Oa U (Oa U (E3 2 3 4 U (zh ?_))))))
 refine zgh U U U U ?_
 rw[htl]
 exact⟨U,c11⟩
end Go.Wk
