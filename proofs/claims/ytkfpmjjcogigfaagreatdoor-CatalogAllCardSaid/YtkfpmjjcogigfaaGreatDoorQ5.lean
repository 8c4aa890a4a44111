/- joined texts -/
import Derived.Test.YtkfpmjjcogigfaaGreatDoorQ4
set_option linter.all false
namespace Go.Wk
open Go.Proofs
set_option maxRecDepth 10000
structure WfP(ls:LE):Prop where
 ne:∀l∈ls,l≠[]
 le:∀l∈ls,l.length≤8
 srt:Srt ls.flatten
theorem WfP.each{ls:LE}(h:WfP ls):∀l∈ls,Srt l:=(List.pairwise_flatten.1 h.srt).1
theorem zfu{l:List Ent}(h:l≠[]):∃x∈l,yO l=x.1:=by
 cases l with
 |nil=>exact absurd rfl h
 |cons x l=>exact⟨x,by simp,rfl⟩
theorem WfP.firsts{ls:LE}(h:WfP ls):zkr ls:=by
 refine List.Pairwise.imp_of_mem ?_ (List.pairwise_flatten.1 h.srt).2
 intro a b ha hb hab
 obtain⟨x,hx,e1⟩:=zfu (h.ne a ha)
 obtain⟨y,hy,e2⟩:=zfu (h.ne b hb)
 rw[e1,e2]
 exact hab x hx y hy
def zel(ls:LE)(key:By):Option By:=
 match ls[yN ls key-1]? with
 |some l=>if zev l key then (l[lbN l key]?).map (·.2) else none
 |none=>none
def zfL(l:List Ent)(key val:By):List Ent:=if zev l key then l.set (lbN l key) (key,val) else l.take (lbN l key)++[(key,val)]++l.drop (lbN l key)
def zdw(l:List Ent):LE:=if 8<l.length then [l.take 4,l.drop 4] else [l]
def zgE(ls:LE)(key val:By):LE:=
 match ls[yN ls key-1]? with
 |some l=>ls.take (yN ls key-1)++zdw (zfL l key val)++ls.drop (yN ls key-1+1)
 |none=>[[(key,val)]]
theorem zfr{l:List Ent}{key:By}(h:zev l key=true):∃v,l[lbN l key]? = some (key,v):=by
 unfold zev zcI at h
 rw[List.getElem?_map]at h
 cases hx:l[lbN l key]? with
 |none=>simp[hx]at h
 |some x=>simp[hx]at h;exact⟨x.2,by rw[←h]⟩
theorem zxn(l:List Ent)(key:By):lbN l key≤l.length:=(List.takeWhile_prefix _).length_le
theorem zmn{es:List Ent}{i:Nat}{x:Ent}(hi:i<es.length):flat (es.set i x)=flat (es.take i)++(.string x.1 :: .string x.2::flat (es.drop (i+1))):=by
 rw[List.set_eq_take_append_cons_drop,if_pos hi,zdR,zek]
theorem yF.setVal{w:Wl}{b off cap:Nat}{c:List Va}{es:List Ent}{i:Nat}{k v x:By}(hs:zeK w 215 2 b off es.length cap c (flat es))(hi:es[i]? = some (k,v)){w':Wl}(hb:zQ w' b 215 (yX c (off+i*2+1) [.string x])) :
 yF w' (.slice (some ⟨b,off,none⟩) es.length cap) (es.set i (k,x)):=by
 have hil:i<es.length:=(Gs hi).1
 have hfit:=hs.fit
 have hle:=hs.le
 have hlen:off+i*2+1+[Value.string x].length≤c.length:=by simp;omega
 have hfl:=hs.xs
 have hfe:flat es=flat (es.take i)++(.string k :: .string v::flat (es.drop (i+1))):=by
  have:es.set i (k,v)=es:=by
   rw[List.getElem?_eq_some_iff]at hi
   obtain⟨_,h⟩:=hi
   rw[←h];exact List.set_getElem_self hil
  have h:=zmn (x:=(k,v)) hil
  rw[this]at h
  exact h
 have hti:(flat (es.take i)).length=i*2:=by rw[zfV,List.length_take];omega
 have hdi:(flat (es.drop (i+1))).length=(es.length-(i+1))*2:=by rw[zfV,List.length_drop]
 -- the block,in parts
 have hc:c=(c.take off++flat (es.take i)++[.string k])++([.string v]++(flat (es.drop (i+1))++c.drop (off+es.length*2))):=by
  have e1:c.drop off=flat es++c.drop (off+es.length*2):=by
   rw[hfl,←List.drop_drop];exact(List.take_append_drop _ _).symm
  have e2:=List.take_append_drop off c
  rw[e1,hfe]at e2
  refine e2.symm.trans ?_
  simp
 have hA:(c.take off++flat (es.take i)++[Value.string k]).length=off+i*2+1:=by simp only[List.length_append,List.length_take,hti,List.length_singleton];omega
 have hl:yX c (off+i*2+1) [.string x]=(c.take off++flat (es.take i)++[.string k])++([.string x]++(flat (es.drop (i+1))++c.drop (off+es.length*2))):=by
  conv=>lhs;rw[hc,←hA]
  rw[zeq]
  simp
 refine .inr ⟨b,off,cap,_,by rw[List.length_set],⟨hb,by rw[List.length_set];exact hle,hs.max,by rw[zco hlen];exact hfit,?_,?_⟩⟩
 ·rw[hl,zmn hil,List.length_set]
  have:(c.take off).length=off:=by rw[List.length_take];omega
  have e0:(c.take off++flat (es.take i)++[Value.string k])++([Value.string x]++(flat (es.drop (i+1))++c.drop (off+es.length*2)))=c.take off++((flat (es.take i)++(.string k :: .string x::flat (es.drop (i+1))))++c.drop (off+es.length*2)):=by simp
  rw[e0,List.drop_left' this,List.take_left' (by simp only[List.length_append,List.length_cons,hti,hdi];omega)]
 intro u hu
 simp only[yX,List.mem_append]at hu
 rcases hu with (hu|hu)|hu
 ·exact hs.one u (List.mem_of_mem_take hu)
 ·simp at hu;subst hu;rfl
 exact hs.one u (List.mem_of_mem_drop hu)
theorem f10(p:Nat)(ls:LE)(key val:By)(w:Wl)(hp:Pg w p ls)(hw:WfP ls)(hn:ls.length≤65536)(hk:key.size≤2000) :
 zV TP 140 #[Pt p,.string key,.string val] w fun r w'=>r=.tuple #[.string ((zel ls key).getD ⟨#[]⟩),.bool (zel ls key).isSome,Ii 0]∧Pg w' p (zgE ls key val)∧zl [p] w w':=by
 obtain⟨v,hb,hpg⟩:=id hp
 obtain⟨vs,hsl,hal⟩:=id hpg
 obtain⟨pv,cv,rfl,hlc⟩:=hsl.val
 refine A3 Tryz.func140 U U ?_
 refine Sr (Oa U (Oa U (Oa U (E3 0 1 2 U (zf (zq (Sr (Om U (Og (zbs zkI U U) U (Oa U (E4 0 1 2 16 U (zb U (zf ?_)))))))))))))
 refine za (Om U (Og (yW st9 U) U (Og (zU U U) U (Oa U (E4 0 1 2 19 U ?_)))))
 refine zR U (fun hT=>?_) (fun hF=>?_)
 ·exfalso
  have:=of_decide_eq_true hT
  omega
 refine Sr (Om U (Og (zD U) U (Od zaq U (Ol zb6 U (hb.cell' U) (On za9 U (Og (zx U U) U (Oa U (E4 0 1 2 23 U ?_))))))))
 refine zR U (fun hT=>?_) (fun hF=>?_)
 ·have hls:ls=[]:=List.eq_nil_of_length_eq_zero (by have:=of_decide_eq_true hT;omega)
  subst hls
  refine Sr (Om U (Om U (Om U ?_)))
  refine Og (zN zwN znC U (vs:=[_,_]) U (css:=[_,_]) ⟨U,U,trivial⟩ U U (cs:=[_,_]) U) U ?_
  refine Oq (zA ziP U (vs:=[_]) U (css:=[_]) ⟨U,trivial⟩ U U (cs:=[_,_]) U U ?_)
  intro b34 w34 e34 n34 c34 k34
  refine Oq (zA zmK U (vs:=[_]) U (css:=[_]) ⟨U,trivial⟩ U U (cs:=[_]) U U ?_)
  intro b35 w35 e35 n35 c35 k35
  refine Og (zD U) U (Od zaq U ?_)
  refine Oq (zu zj6 U U U U (hb.chg0 (c34.trans c35)) (by simp) (by intro u hu;simp at hu;subst hu;rfl) ?_)
  intro wX nX cX kX
  refine yT [] (F':=[]) U (Sr (Oa U (Oa U (Oa U (E3 6 7 8 U (zk ?_))))))
  refine zqJ (zbN ?_)
  refine zgN U U U U ?_
  have hl:yF w35 (.slice (some ⟨b34,0,none⟩) 1 1) [(key,val)]:=(zB.of_blk (n:=1) (k34.chg0 c35) rfl (by simp[maxLen]) (zmb [(key,val)]):zB w35 215 2 _ 1 (flat [(key,val)]))
  have hpp:yJ w35 (.slice (some ⟨b35,0,none⟩) 1 1) [[(key,val)]]:=yJ.one k35 hl
  refine⟨U,⟨_,kX,hpp.chg1 (hb.chg0 (c34.trans c35)) U U cX⟩,((c34.trans c35).any (S:=[p])).transS cX⟩
 refine zW (zm ?_)
 have hls:ls≠[]:=by rintro rfl;simp at hF
 have hat:=ziZ (key:=key) hls
 have hget:ls[yN ls key-1]? = some ls[yN ls key-1]:=by simp[hat]
 have hmem:ls[yN ls key-1]∈ls:=List.getElem_mem hat
 have hspot:spot ls key=(yN ls key-1,lbN ls[yN ls key-1] key,zev ls[yN ls key-1] key):=by unfold spot;rw[hget]
 have hgp:zel ls key=if zev ls[yN ls key-1] key then (ls[yN ls key-1][lbN ls[yN ls key-1] key]?).map (·.2) else none:=by unfold zel;rw[hget]
 have hpp:zgE ls key val=ls.take (yN ls key-1)++zdw (zfL ls[yN ls key-1] key val)++ls.drop (yN ls key-1+1):=by unfold zgE;rw[hget]
 have hl8:=hw.le _ hmem
 rw[hgp,hpp]
 have f24':=f24 (.slice pv ls.length cv) ls key w hpg hw.ne (by omega) hw.firsts hw.each (fun l hl=>by have:=hw.le l hl;omega)
 rw[hspot]at f24'
 generalize hl:ls[yN ls key-1]=l at *
 generalize ha:yN ls key-1=a at *
 clear hspot hgp hpp
 have hlb:=zxn l key
 refine Sr (Om U (Og (zD U) U (Od zaq U (Ol zb6 U (hb.cell' U) (Om U ?_)))))
 refine Oc zrU U U U f24' ?_
 rintro v44 w44⟨rfl,c44⟩
 refine Om U (Oe U U (Oe U U (Oe U U (Oa U (Oa U (Oa U (E6 0 1 2 9 10 11 U ?_)))))))
 obtain⟨bb,off,cap,u,hv,hcell,hlu⟩:=(hpg.chg0 c44).at hget
 simp only[Value.slice.injEq]at hv
 obtain⟨rfl,_,rfl⟩:=hv
 refine Sr (Om U (Og (zD U) U (Od zaq U (Ol zb6 U ((hb.chg0 c44).cell' U) (Om U ?_)))))
 refine Og (zi za9 zbV U U _ U hat) U ?_
 refine Ol zeu U hcell ?_
 refine Oc zwL U U U (f25 _ _ _ _ hlu (by omega)) ?_
 rintro v55 w55⟨i55,n55,c55⟩
 obtain⟨p55,q55,rfl,hq55⟩:=i55.val
 refine Oa U (E7 0 1 2 9 10 11 12 U ?_)
 have hc55:zl [] w w55:=c44.trans c55
 refine Sr (Om U (Og (zap U U) U (Oa U (E7 1 2 9 10 11 12 13 U (zf (Sr (Om U (E7 1 2 9 10 12 13 58 U ?_))))))))
 refine zR U (fun hT=>?_) (fun hF=>?_)
 ·obtain⟨old,hold⟩:=zfr hT
  have hil:=(Gs hold).1
  obtain⟨bl,ol,cl,rfl,hsl55⟩:∃b off c,p55=some ⟨b,off,none⟩∧zeK w55 215 2 b off l.length q55 c (flat l):=by
   rcases i55 with⟨_,h1,_⟩|⟨b,off,cap,c,he,hs⟩
   ·omega
   simp only[Value.slice.injEq]at he
   obtain⟨rfl,_,rfl⟩:=he
   exact⟨b,off,c,U,hs⟩
  have hnew:w44.heap.size≤bl:=n55 bl (by simp[zv])
  obtain⟨_,_,_,hv2,hcl2⟩:=yF.at' i55 hold
  simp only[Value.slice.injEq,Option.some.injEq,Addr.mk.injEq,and_true]at hv2
  obtain⟨⟨rfl,rfl⟩,_⟩:=hv2
  have hfit:=hsl55.fit
  have hle55:=hsl55.le
  refine Sr (Om U (Om U ?_))
  refine Og (zi yB zav U U _ U hil) U ?_
  refine Od zhe U ?_
  refine Ol yK U (hcl2 1 _ U) ?_
  refine Oa U (E6 2 9 10 12 13 14 U (Sr (Om U (Om U (Om U ?_)))))
  refine Og (zi yB zav U U _ U hil) U ?_
  refine Od zhe U ?_
  refine Oq (zu sz9 U U U U hsl55.blk (by simp;omega) (by intro u hu;simp at hu;subst hu;rfl) ?_)
  intro w68 n68 c68 k68
  refine E4 9 12 13 14 U ?_
  have hset:=yF.setVal hsl55 hold k68
  have hc68:zl [] w w68:=hc55.own c68 (by intro x hx;simp at hx;subst hx;have:=c44.size;omega)
  refine Sr (Om U (Om U (Om U ?_)))
  refine Og (yv (v':=Ii ((a+1:Nat):Int)) (zI U U (by omega)) (by congr 1)) U ?_
  refine Om U ?_
  refine Oq (zA ziG U (vs:=[_]) U (css:=[_]) ⟨U,trivial⟩ U U (cs:=[_]) U U ?_)
  intro b74 w74 e74 n74 c74 k74
  refine Oc zi9 U U U (f26 p ls [l.set (lbN l key) (key,val)] _ a (a+1) _ (hp.chg0 (hc68.trans c74)) (yJ.one k74 (hset.chg0 c74)) (by omega) hat (by omega) (by simp)) ?_
  rintro v75 w75⟨rfl,p75,c75⟩
  refine E1 14 U (Sr (Om U (Oa U (Oa U (Oa U (E3 6 7 8 U (zk ?_)))))))
  refine zbN ?_
  refine zgN U U U U ?_
  refine⟨?_,?_,((hc68.trans c74).any (S:=[p])).transS c75⟩
  ·rw[if_pos hT,hold];rfl
  rw[zfL,if_pos hT,zdw,if_neg (by rw[List.length_set];omega)]
  exact p75
 have hF':¬ zev l key=true:=by rw[show zev l key=false from hF];simp
 refine zn (zf ?_)
 have hys:∀(wz:Wl) (b:Nat),zQ wz b 215 [.string key,.string val]→zB wz 215 2 (.slice (some ⟨b,0,none⟩) 1 1) 1 (flat [(key,val)]):=fun wz b hb=>zB.of_blk (n:=1) hb rfl (by simp[maxLen]) (zmb [(key,val)])
 refine za (Om U (Om U (Om U (Om U ?_))))
 refine Og (zN zwN znC U (vs:=[_,_]) U (css:=[_,_]) ⟨U,U,trivial⟩ U U (cs:=[_,_]) U) U ?_
 refine Oq (zA zBM U (vs:=[_]) U (css:=[_]) ⟨U,trivial⟩ U U (cs:=[_,_]) U U ?_)
 intro b82 w82 e82 n82 c82 k82
 refine Oc zAB U U U (f27 _ _ (lbN l key) l.length (flat l) (flat [(key,val)]) _ (i55.chg0 c82) (hys _ _ k82) hlb (by omega) (by intro x hx hy;simp[zv]at hx;subst hx;have:=i55.lt _ hy;omega)) ?_
 rintro v83 w83⟨i83,c83,o83⟩
 refine Oa U (E3 9 12 13 U ?_)
 have hput:zfL l key val=l.take (lbN l key)++[(key,val)]++l.drop (lbN l key):=by rw[zfL,if_neg hF']
 have hpl:(zfL l key val).length=l.length+1:=by rw[hput];simp;omega
 have hlist:yF w83 v83 (zfL l key val):=by
  unfold yF
  rw[hpl,hput,zdR,zdR,zhY,zgA]
  exact i83
 have hc83:zl [] w w83:=(hc55.trans c82).own c83 (by intro x hx;have:=n55 x hx;have:=c44.size;omega)
 clear i83 c83 o83
 rw[if_neg hF']
 clear hput
 generalize zfL l key val=l' at *
 obtain⟨p83,q83,rfl,hq83⟩:=zB.val hlist
 refine zf (Sr (Om U (On yB U (Og (zU U U) U (E4 9 12 13 86 U ?_)))))
 refine zR U (fun hT2=>?_) (fun hF2=>?_)
 ·have h8:8<l'.length:=by have:=of_decide_eq_true hT2;omega
  refine Sr (Oa U (E4 9 12 13 15 U ?_))
  refine zK (fun _=>True) mix (by kernel_rfl) trivial ?_
  refine Tm U (Tm U (Tm U ?_))
  refine Tp (fun _=>yv (v':=Ii ((a+1:Nat):Int)) (zI U U (by omega)) (by congr 1)) U ?_
  refine Tm U (Tm U (Tm U ?_))
  refine Tp (fun _=>zgq yB zav U U U 4 4 U U (Nat.le_refl _) (by omega)) U ?_
  refine Tm U (Tm U ?_)
  refine Tp (fun _=>za8 yB zav U U 4 U (by omega)) U ?_
  refine zaM U (gn U) (zA ziG U (vs:=[_,_]) U (css:=[_,_]) ⟨U,U,trivial⟩ U U (cs:=[_,_]) U U ?_)
  intro b98 w98 e98 n98 c98 k98
  refine⟨.inl trivial,?_⟩
  have hc98:zl [] w83 w98:=(zl.drew [] w83).trans c98
  refine Tc zi9 U U U (f26 p ls [l'.take 4,l'.drop 4] _ a (a+1) _ (hp.chg0 (hc83.trans hc98)) (yJ.two k98 ((hlist.chg0 hc98).cutL (by omega) (Nat.le_refl _) (by omega)) ((hlist.chg0 hc98).cutR (by omega) hq83)) (by omega) hat (by omega) (by simp)) ?_
  rintro v99 w99⟨rfl,p99,c99⟩
  refine⟨.inl trivial,?_⟩
  refine zhE [] (F':=[]) U ?_
  refine Sr (Oa U (Oa U (Oa U (E3 6 7 8 U (zk ?_)))))
  refine zgN U U U U ?_
  refine⟨U,?_,((hc83.trans hc98).any (S:=[p])).transS c99⟩
  rw[zdw,if_pos h8]
  exact p99
 have h8:¬ 8<l'.length:=by have:=of_decide_eq_false hF2;omega
 refine za (Om U (Om U (Om U ?_)))
 refine Og (yv (v':=Ii ((a+1:Nat):Int)) (zI U U (by omega)) (by congr 1)) U ?_
 refine Om U ?_
 refine Oq (zA ziG U (vs:=[_]) U (css:=[_]) ⟨U,trivial⟩ U U (cs:=[_]) U U ?_)
 intro b105 w105 e105 n105 c105 k105
 refine Oc zi9 U U U (f26 p ls [l'] _ a (a+1) _ (hp.chg0 (hc83.trans c105)) (yJ.one k105 (hlist.chg0 c105)) (by omega) hat (by omega) (by simp)) ?_
 rintro v106 w106⟨rfl,p106,c106⟩
 refine yT [] (F':=[]) U (Sr (Oa U (Oa U (Oa U (E3 6 7 8 U (zk ?_))))))
 refine zgN U U U U ?_
 refine⟨U,?_,((hc83.trans c105).any (S:=[p])).transS c106⟩
 rw[zdw,if_neg h8]
 exact p106
def zgL(l:List Ent)(key:By):List Ent:=l.take (lbN l key)++l.drop (lbN l key+1)
def nth(ls:LE)(i:Nat):List Ent:=ls[i]?.getD []
def settle(ls:LE)(a:Nat)(l':List Ent):LE:=
 if 3≤l'.length∨(ls.length=1∧0<l'.length) then ls.take a++[l']++ls.drop (a+1)
 else if ls.length=1 then []
 else if a+1=ls.length then ls.take (a-1)++zga (nth ls (a-1)++l')++ls.drop (a+1)
 else ls.take a++zga (l'++nth ls (a+1))++ls.drop (a+2)
def zdo(ls:LE)(key:By):LE:=
 match ls[yN ls key-1]? with
 |some l=>if zev l key then settle ls (yN ls key-1) (zgL l key) else ls
 |none=>ls
theorem f11(p:Nat)(ls:LE)(key:By)(w:Wl)(hp:Pg w p ls)(hw:WfP ls)(hn:ls.length≤65536) :
 zV TP 223 #[Pt p,.string key] w fun r w'=>r=.tuple #[.string ((zel ls key).getD ⟨#[]⟩),.bool (zel ls key).isSome,Ii 0]∧Pg w' p (zdo ls key)∧zl [p] w w':=by
 obtain⟨v,hb,hpg⟩:=id hp
 obtain⟨vs,hsl,hal⟩:=id hpg
 obtain⟨pv,cv,rfl,hlc⟩:=hsl.val
 refine A2 Tryz.func223 U U ?_
 refine Sr (Oa U (Oa U (Oa U (E2 0 1 U (zf (Sr (Om U (Og (zbs zkI U U) U (E3 0 1 14 U (zb U (zn (Sr ?_))))))))))))
 refine Om U (Og (zD U) U (Od zaq U (Ol zb6 U (hb.cell' U) (Om U ?_))))
 refine Oc zrU U U U (f24 (.slice pv ls.length cv) ls key w hpg hw.ne (by omega) hw.firsts hw.each (fun l hl=>by have:=hw.le l hl;omega)) ?_
 rintro v21 w21⟨rfl,c21⟩
 refine Om U (Oe U U (Oe U U (Oe U U (Oa U (Oa U (Oa U (E4 0 7 8 9 U (zf (Sr (Om U (Og (zE U) U (E4 0 7 8 26 U ?_))))))))))))
 refine zR U (fun hT=>?_) (fun hF=>?_)
 ·refine Sr (Oa U (Oa U (Oa U (E3 4 5 6 U (zk ?_)))))
  refine zbN ?_
  refine zgN U U U U ?_
  have hs:(spot ls key).2.2=false:=by simpa using hT
  have hg:zel ls key=none∧zdo ls key=ls:=by
   unfold zel zdo
   unfold spot at hs
   cases hx:ls[yN ls key-1]? with
   |none=>simp
   |some l=>simp only[hx]at hs;simp[hs]
  rw[hg.1,hg.2]
  exact⟨U,hp.chg0 c21,c21.any⟩
 refine zn ?_
 have hs:(spot ls key).2.2=true:=by simpa using hF
 obtain⟨l,hget⟩:∃l,ls[yN ls key-1]? = some l:=by
  unfold spot at hs
  cases hx:ls[yN ls key-1]? with
  |none=>simp[hx]at hs
  |some l=>exact⟨l,rfl⟩
 have hspot:spot ls key=(yN ls key-1,lbN l key,zev l key):=by unfold spot;rw[hget]
 have hh:zev l key=true:=by rw[hspot]at hs;exact hs
 obtain⟨old,hold⟩:=zfr hh
 have hgp:zel ls key=some old:=by unfold zel;rw[hget];simp[hh,hold]
 have hpt:zdo ls key=settle ls (yN ls key-1) (zgL l key):=by unfold zdo;rw[hget];simp[hh]
 have hat:=(Gs hget).1
 have hmem:=List.mem_of_getElem? hget
 have hl8:=hw.le _ hmem
 have hil:=(Gs hold).1
 rw[hgp,hpt,hspot]
 dsimp only
 generalize ha:yN ls key-1=a at *
 clear hspot hgp hpt hs hF
 obtain⟨bb,off,cap,u,hv,hcell,hlu⟩:=(hpg.chg0 c21).at hget
 simp only[Value.slice.injEq]at hv
 obtain⟨rfl,_,rfl⟩:=hv
 obtain⟨bu,ou,cu,rfl,hcu⟩:=hlu.at' hold
 refine Sr (Om U (Og (zD U) U (Od zaq U (Ol zb6 U ((hb.chg0 c21).cell' U) (Om U ?_)))))
 refine Og (zi za9 zbV U U _ U hat) U ?_
 refine Ol zeu U hcell (Om U ?_)
 refine Og (zi yB zav U U _ U hil) U ?_
 refine Od zhe U ?_
 refine Ol yK U (hcu 1 _ U) ?_
 refine Oa U (E4 0 7 8 10 U (Sr (Om U (Og (zD U) U (Od zaq U (Ol zb6 U ((hb.chg0 c21).cell' U) (Om U ?_)))))))
 refine Og (zi za9 zbV U U _ U hat) U ?_
 refine Ol zeu U hcell ?_
 refine Oc zwL U U U (f25 _ _ _ _ hlu (by omega)) ?_
 rintro v45 w45⟨i45,n45,c45⟩
 refine Om U (Om U ?_)
 refine Og (zI U U (by omega)) U ?_
 refine Oc zAJ U U U (f28 v45 (lbN l key) l.length (flat l) w45 i45 hil (by omega)) ?_
 rintro v49 w49⟨i49,c49,o49⟩
 refine Oa U (E4 0 7 10 11 U ?_)
 have htl:(zgL l key).length=l.length-1:=by unfold zgL;simp;omega
 have hlist:yF w49 v49 (zgL l key):=by
  unfold yF
  rw[htl,zgL,zdR,zhY,zgA]
  have e:(lbN l key+1)*2=lbN l key*2+2:=by omega
  rw[e]
  exact i49
 have hc49:zl [] w w49:=(c21.trans c45).own c49 (by intro x hx;have:=n45 x hx;have:=c21.size;omega)
 have hb49:=hb.chg0 hc49
 clear i49 c49 o49
 generalize zgL l key=l' at *
 obtain⟨p49,q49,rfl,hq49⟩:=zB.val hlist
 refine zS (fun F' w'=>F'=[(10,.string old)]∧Pg w' p (settle ls a l')∧zl [p] w w') ?_ ?_
 case refine_2=>
  rintro F' w'⟨rfl,hpp,hcc⟩
  refine Sr (Om U (Oa U (Oa U (Oa U (E3 4 5 6 U (zk ?_))))))
  refine zgN U U U U ?_
  exact⟨U,hpp,hcc⟩
 refine zq (zf ?_)
 by_cases h3:3≤l'.length
 ·
  refine za (Om U (On yB U ?_))
  refine Og (vt (yg U U) (by simp;omega)) U ?_
  refine Om U ?_
  iterate 7 refine zem U U U U U U ?_
  iterate 3 refine zj U U U U U ?_
  refine Oz U U (Ot U (Oa U (E5 0 7 10 11 84 U (ze U (za (Om U (Om U (Om U ?_))))))))
  refine Og (yv (v':=Ii ((a+1:Nat):Int)) (zI U U (by omega)) (by congr 1)) U ?_
  refine Om U ?_
  refine Oq (zA ziG U (vs:=[_]) U (css:=[_]) ⟨U,trivial⟩ U U (cs:=[_]) U U ?_)
  intro b106 w106 e106 n106 c106 k106
  refine Oc zi9 U U U (f26 p ls [l'] _ a (a+1) _ (hp.chg0 (hc49.trans c106)) (yJ.one k106 (hlist.chg0 c106)) (by omega) hat (by omega) (by simp)) ?_
  rintro v107 w107⟨rfl,p107,c107⟩
  refine zcD [10] (F':=[(10,_)]) U ?_
  refine zm (zdT ?_)
  refine⟨U,?_,((hc49.trans c106).any (S:=[p])).transS c107⟩
  rw[settle,if_pos (.inl h3)]
  exact p107
 by_cases h1:ls.length=1
 ·by_cases h0:0<l'.length
  ·
   refine za (Om U (On yB U ?_))
   refine Og (vf (yg U U) (by simp;omega)) U ?_
   refine Om U (Oj U U (Oy U U (zD U) (Oy U U (zd zaq U) (Oy U U (zg zb6 U (hb49.cell' U)) (Oy U U (zX za9 U) ?_)))))
   refine Oy U U (vt (zx U U) (by simp;omega)) ?_
   refine Oj U U (Oj U U (Oy U U (zX yB U) ?_))
   refine Oy U U (vt (zU U U) (by simp;omega)) ?_
   refine Oy U U (zF U U) (Of U (Oa U (E5 0 7 10 11 84 U (ze U (za (Om U (Om U (Om U ?_))))))))
   refine Og (yv (v':=Ii ((a+1:Nat):Int)) (zI U U (by omega)) (by congr 1)) U ?_
   refine Om U ?_
   refine Oq (zA ziG U (vs:=[_]) U (css:=[_]) ⟨U,trivial⟩ U U (cs:=[_]) U U ?_)
   intro b106 w106 e106 n106 c106 k106
   refine Oc zi9 U U U (f26 p ls [l'] _ a (a+1) _ (hp.chg0 (hc49.trans c106)) (yJ.one k106 (hlist.chg0 c106)) (by omega) hat (by omega) (by simp)) ?_
   rintro v107 w107⟨rfl,p107,c107⟩
   refine zcD [10] (F':=[(10,_)]) U ?_
   refine zm (zdT ?_)
   refine⟨U,?_,((hc49.trans c106).any (S:=[p])).transS c107⟩
   rw[settle,if_pos (.inr ⟨h1,h0⟩)]
   exact p107
  ·
   refine za (Om U (On yB U ?_))
   refine Og (vf (yg U U) (by simp;omega)) U ?_
   refine Om U (Oj U U (Oy U U (zD U) (Oy U U (zd zaq U) (Oy U U (zg zb6 U (hb49.cell' U)) (Oy U U (zX za9 U) ?_)))))
   refine Oy U U (vt (zx U U) (by simp;omega)) ?_
   refine Oj U U (Oj U U (Oy U U (zX yB U) ?_))
   refine Oy U U (vf (zU U U) (df (by omega))) ?_
   refine Oy U U (zF U U) (Of U (Oa U (E5 0 7 10 11 84 U (zb U (Sr (Om U (Og (zD U) U (Od zaq U (Ol zb6 U (hb49.cell' U) (On za9 U ?_))))))))))
   refine Og (vt (zx U U) (by simp;omega)) U ?_
   refine Oa U (E5 0 7 10 11 108 U (ze U (za (Om U (Og (zD U) U (Od zaq U ?_))))))
   refine Oq (zu zj6 U U U U hb49 (by simp) (by intro u hu;simp at hu;subst hu;rfl) ?_)
   intro wX nX cX kX
   refine zcD [10] (F':=[(10,_)]) U ?_
   refine zm (zdT ?_)
   refine⟨U,?_,(hc49.any (S:=[p])).transS cX⟩
   rw[settle,if_neg (by omega),if_pos h1]
   exact⟨_,kX,⟨[],zB.nil _ _ _,trivial⟩⟩
 ·
  refine za (Om U (On yB U ?_))
  refine Og (vf (yg U U) (by simp;omega)) U ?_
  refine Om U (Oj U U (Oy U U (zD U) (Oy U U (zd zaq U) (Oy U U (zg zb6 U (hb49.cell' U)) (Oy U U (zX za9 U) ?_)))))
  refine Oy U U (vf (zx U U) (by simp;omega)) ?_
  refine Oj U U ?_
  iterate 3 refine zem U U U U U U ?_
  refine Oy U U (zG U U) (Of U (Oa U (E5 0 7 10 11 84 U (zb U (Sr (Om U (Og (zD U) U (Od zaq U (Ol zb6 U (hb49.cell' U) (On za9 U ?_))))))))))
  refine Og (vf (zx U U) (by simp;omega)) U ?_
  refine Oa U (E5 0 7 10 11 108 U (zb U ?_))
  by_cases hend:a+1=ls.length
  ·
   refine Sr (Om U ?_)
   refine Og (zej zk3 zbV znf U (vs:=[_]) U (css:=[_]) ⟨U,trivial⟩ U U (cs:=[_,_]) U) U ?_
   refine Oq (zH znf U U ?_)
   intro b12 w12 e12 n12 c12 k12
   refine Oq (zu zmE U U U U k12 (by simp) (by intro u hu;simp at hu;rcases hu with rfl|rfl<;>rfl) ?_)
   intro w50 n50 c50 k50
   refine E5 0 7 10 11 12 U ?_
   have hc50:zl [] w49 w50:=c12.own c50 (by simp[←e12])
   have hcw:zl [] w w50:=hc49.trans hc50
   have hb50:=hb49.chg0 hc50
   refine zf (Sr (Om U (Om U (Og (zD U) U (Od zaq U (Ol zb6 U (hb50.cell' U) (On za9 U ?_)))))))
   refine Og (yI U U (by omega)) U ?_
   refine Og (vt (zx U U) (by simp;omega)) U ?_
   refine E6 0 7 10 11 12 59 U (ze U ?_)
   have hprev:ls[a-1]? = some (nth ls (a-1)):=by unfold nth;rw[List.getElem?_eq_getElem (by omega)];rfl
   obtain⟨b2,off2,cap2,u2,hv2,hcell2,hlu2⟩:=(hpg.chg0 hcw).at hprev
   simp only[Value.slice.injEq,Option.some.injEq,Addr.mk.injEq,and_true]at hv2
   obtain⟨⟨rfl,rfl⟩,_⟩:=hv2
   obtain⟨pu2,qu2,rfl,_⟩:=zB.val hlu2
   refine Sr (Om U ?_)
   refine Og (yv (v':=Ii ((a-1:Nat):Int)) (yI U U (by omega)) (by congr 1;omega)) U ?_
   refine Oa U (E5 0 7 10 11 12 U (za (Om U (Og (zD U) U (Od zaq U (Ol zb6 U (hb50.cell' U) (Om U ?_)))))))
   refine Og (zi za9 zbV U U _ U (by omega)) U ?_
   refine Ol zeu U hcell2 (Om U ?_)
   refine Og (zej zk3 zbV znf U (vs:=[_,_]) U (css:=[_,_]) ⟨U,U,trivial⟩ U U (cs:=[_,_]) U) U ?_
   refine Oq (zu zmE U U U U k50 (by simp[yX]) (by intro u hu;simp at hu;rcases hu with rfl|rfl<;>rfl) ?_)
   intro w70 n70 c70 k70
   refine E4 0 7 10 12 U ?_
   have hc70:zl [] w49 w70:=c12.own (c50.transS c70) (by simp[←e12])
   refine za (Om U (Om U (Og (zh zwz zmE U U (zw.of_blk0 k70)) U ?_)))
   refine Oc zxm U U U (f29 p ls _ _ (nth ls (a-1)) l' (a-1) _ (hp.chg0 (hc49.trans hc70)) ((hlu2.chg c70 (zB.apart hlu2 k50 U))) (hlist.chg0 hc70) (by omega) (by omega) (by have:=hw.le _ (List.mem_of_getElem? hprev);omega) (by omega)) ?_
   rintro v83 w83⟨rfl,p83,c83⟩
   refine zcD [10] (F':=[(10,_)]) U ?_
   refine zm (zdT ?_)
   refine⟨U,?_,((hc49.trans hc70).any (S:=[p])).transS c83⟩
   rw[settle,if_neg (by omega),if_neg h1,if_pos hend]
   rw[show a-1+2=a+1 by omega]at p83
   exact p83
  ·
   refine Sr (Om U ?_)
   refine Og (zej zk3 zbV znf U (vs:=[_]) U (css:=[_]) ⟨U,trivial⟩ U U (cs:=[_,_]) U) U ?_
   refine Oq (zH znf U U ?_)
   intro b12 w12 e12 n12 c12 k12
   refine Oq (zu zmE U U U U k12 (by simp) (by intro u hu;simp at hu;rcases hu with rfl|rfl<;>rfl) ?_)
   intro w50 n50 c50 k50
   refine E5 0 7 10 11 12 U ?_
   have hc50:zl [] w49 w50:=c12.own c50 (by simp[←e12])
   have hcw:zl [] w w50:=hc49.trans hc50
   have hb50:=hb49.chg0 hc50
   refine zf (Sr (Om U (Om U (Og (zD U) U (Od zaq U (Ol zb6 U (hb50.cell' U) (On za9 U ?_)))))))
   refine Og (yI U U (by omega)) U ?_
   refine Og (vf (zx U U) (by simp;omega)) U ?_
   refine E6 0 7 10 11 12 59 U (zb U ?_)
   have hnext:ls[a+1]? = some (nth ls (a+1)):=by unfold nth;rw[List.getElem?_eq_getElem (by omega)];rfl
   obtain⟨b2,off2,cap2,u2,hv2,hcell2,hlu2⟩:=(hpg.chg0 hcw).at hnext
   simp only[Value.slice.injEq,Option.some.injEq,Addr.mk.injEq,and_true]at hv2
   obtain⟨⟨rfl,rfl⟩,_⟩:=hv2
   obtain⟨pu2,qu2,rfl,_⟩:=zB.val hlu2
   refine za (Om U (Og (zD U) U (Od zaq U (Ol zb6 U (hb50.cell' U) (Om U ?_)))))
   refine Og (yv (v':=Ii ((a+1:Nat):Int)) (zI U U (by omega)) (by congr 1)) U ?_
   refine Og (zi za9 zbV U U _ U (by omega)) U ?_
   refine Ol zeu U hcell2 ?_
   refine Og (zO zk3 zbV U U 1 U (by omega)) U ?_
   refine Oq (zu zbV U U U U k50 (by simp[yX]) (by intro u hu;simp at hu;subst hu;rfl) ?_)
   intro w70 n70 c70 k70
   refine E4 0 7 10 12 U ?_
   have hc70:zl [] w49 w70:=c12.own (c50.transS c70) (by simp[←e12])
   refine za (Om U (Om U (Og (zh zwz zmE U U (zw.of_blk0 k70)) U ?_)))
   refine Oc zxm U U U (f29 p ls _ _ l' (nth ls (a+1)) a _ (hp.chg0 (hc49.trans hc70)) (hlist.chg0 hc70) (hlu2.chg c70 (zB.apart hlu2 k50 U)) (by omega) (by omega) (by omega) (by have:=hw.le _ (List.mem_of_getElem? hnext);omega)) ?_
   rintro v83 w83⟨rfl,p83,c83⟩
   refine zcD [10] (F':=[(10,_)]) U ?_
   refine zm (zdT ?_)
   refine⟨U,?_,((hc49.trans hc70).any (S:=[p])).transS c83⟩
   rw[settle,if_neg (by omega),if_neg h1,if_neg hend]
   exact p83
theorem f9(w:Wl):zV TP 177 #[] w fun r w'=>∃p,r=Pt p∧w.heap.size≤p∧Pg w' p []∧zl [] w w':=by
 refine zV.of_W (args:=[]) Tryz.func177 U U U U ?_
 refine Sr (Oa U (yT [] (F':=[]) U (Sr ?_)))
 refine Og (zN zwf zwm U (vs:=[]) U (css:=[]) trivial U U (cs:=[_]) U) U ?_
 refine Ob U U ?_
 intro b2 w2 e2 n2 c2 k2
 refine Oa U (E1 0 U (zk ?_))
 refine zy U U ?_
 exact⟨b2,rfl,by omega,⟨_,k2,[],zB.nil _ _ _,trivial⟩,c2⟩
theorem zfq{ls:LE}{i:Nat}{x:List Ent}(h:ls[i]? = some x):(ls.take (i+1)).flatten=(ls.take i).flatten++x:=by
 rw[List.take_add_one,h]
 simp
theorem zmM{ls:LE}(h:∀l∈ls,l.length≤8)(i:Nat):(ls.take i).flatten.length≤8*i:=by
 induction i with
 |zero=>simp
 |succ i ih=>
  cases hx:ls[i]? with
  |none=>
   rw[List.take_add_one,hx]
   simp at ih ⊢
   omega
  |some x=>
   rw[zfq hx,List.length_append]
   have:=h x (List.mem_of_getElem? hx)
   omega
theorem f30(v:Va)(ls:LE)(w:Wl)(hp:yJ w v ls)(h8:∀l∈ls,l.length≤8)(hn:ls.length≤65536) :
 zV TP 182 #[v] w fun r w'=>r=Ii (ls.flatten.length:Nat)∧w'=w:=by
 obtain⟨vs,hsl,hal⟩:=id hp
 obtain⟨p,c,rfl,_⟩:=hsl.val
 refine A1 Tryz.func182 U U ?_
 refine Sr (Oa U (E2 0 2 U (zf (Sr (Om U (On za9 U (Om U (E4 2 5 6 7 U (zq ?_)))))))))
 refine zT [2,5,6,7] (fun m F wx=>wx=w∧∃j:Nat,m=ls.length-j∧j≤ls.length∧F=[(2,Ii ((ls.take j).flatten.length:Nat)),(5,.slice p ls.length c),(6,Ii ls.length),(7,Ii j)]) (m:=ls.length-0) ⟨U,0,U,Nat.zero_le _,U⟩ ?_
 rintro m F wx⟨rfl,j,rfl,hj,rfl⟩
 have hb:=zmM h8 j
 refine Sr (Og (zz U U) U (E5 2 5 6 7 8 U (zf ?_)))
 refine zR U (fun hT=>?_) (fun hF=>?_)
 ·refine zn ?_
  have hlt:j<ls.length:=by simpa using hT
  have hx:ls[j]? = some ls[j]:=by simp[hlt]
  have hx8:=h8 _ (List.mem_of_getElem? hx)
  obtain⟨b,off,cap,u,hv,hc,hl⟩:=hp.at hx
  cases hv
  obtain⟨pu,cu,rfl,_⟩:=zB.val hl
  refine zf (zq (Sr ?_))
  refine Og (zi za9 zbV U U _ U hlt) U ?_
  refine Ol zeu U hc (Oa U (E5 2 4 5 6 7 U (za (Om U (Om U (On yB U ?_))))))
  refine Og (zI U U (by omega)) U ?_
  refine Oa U (N4 2 5 6 7 U (zm (za ?_)))
  refine Og (zI U U (by omega)) U ?_
  refine Om U (N4 2 5 6 7 U ?_)
  refine⟨ls.length-(j+1),by omega,rfl,j+1,rfl,by omega,?_⟩
  have e:(((ls.take (j+1)).flatten.length:Nat):Int)=((ls.take j).flatten.length:Nat)+(ls[j].length:Nat):=by rw[zfq hx,List.length_append];omega
  rw[e]
  rfl
 refine zJ ?_
 repeat first|refine te ?_|refine bo rfl ?_
 refine zt _ ?_
 have he:j=ls.length:=by
  have:¬ (j<ls.length):=by simpa using hF
  omega
 subst he
 refine Sr (Om U (Oa U (E1 2 U (zk ?_))))
 refine zy U U ?_
 rw[List.take_length]
 exact⟨U,U⟩
theorem f13(p:Nat)(ls:LE)(w:Wl)(hp:Pg w p ls)(h8:∀l∈ls,l.length≤8)(hn:ls.length≤65536) :
 zV TP 118 #[Pt p] w fun r w'=>r=Ii (ls.flatten.length:Nat)∧w'=w:=by
 obtain⟨v,hb,hpg⟩:=id hp
 refine A1 Tryz.func118 U U ?_
 refine Sr (Oa U (E1 0 U (zf (Sr (Om U (Og (zbs zkI U U) U (E2 0 4 U (zb U (zn (Sr (Om U (Og (zD U) U ?_))))))))))))
 refine Od zaq U (Ol zb6 U (hb.cell' U) ?_)
 refine Oc zB7 U U U (f30 v ls w hpg h8 hn) ?_
 rintro v9 w9⟨rfl,rfl⟩
 refine Oa U (E1 2 U (zk ?_))
 refine zy U U ?_
 exact⟨U,U⟩
theorem f15(p:Nat)(ls:LE)(key:By)(w:Wl)(hp:Pg w p ls)(hw:WfP ls)(hn:ls.length≤65536) :
 zV TP 72 #[Pt p,.string key] w fun r w'=>r=.tuple #[.string ((zel ls key).getD ⟨#[]⟩),.bool (zel ls key).isSome]∧zl [] w w':=by
 obtain⟨v,hb,hpg⟩:=id hp
 obtain⟨vs,hsl,hal⟩:=id hpg
 obtain⟨pv,cv,rfl,hlc⟩:=hsl.val
 refine A2 Tryz.func72 U U ?_
 refine Sr (Oa U (Oa U (E2 0 1 U (zf (Sr (Om U (Og (zbs zkI U U) U (E3 0 1 10 U (zb U (zn (Sr (Om U ?_))))))))))))
 refine Og (zD U) U (Od zaq U (Ol zb6 U (hb.cell' U) (Om U ?_)))
 refine Oc zrU U U U (f24 (.slice pv ls.length cv) ls key w hpg hw.ne (by omega) hw.firsts hw.each (fun l hl=>by have:=hw.le l hl;omega)) ?_
 rintro v17 w17⟨rfl,c21⟩
 refine Om U (Oe U U (Oe U U (Oe U U (Oa U (Oa U (Oa U (E4 0 6 7 8 U (zf (Sr (Om U (Og (zE U) U (E4 0 6 7 22 U ?_))))))))))))
 refine zR U (fun hT=>?_) (fun hF=>?_)
 ·refine Sr (Oa U (Oa U (E2 4 5 U (zk ?_))))
  refine zbN ?_
  refine zcw U U U ?_
  have hs:(spot ls key).2.2=false:=by simpa using hT
  have hg:zel ls key=none:=by
   unfold zel
   unfold spot at hs
   cases hx:ls[yN ls key-1]? with
   |none=>simp
   |some l=>simp only[hx]at hs;simp[hs]
  rw[hg]
  exact⟨U,c21⟩
 refine zn ?_
 have hs:(spot ls key).2.2=true:=by simpa using hF
 obtain⟨l,hget⟩:∃l,ls[yN ls key-1]? = some l:=by
  unfold spot at hs
  cases hx:ls[yN ls key-1]? with
  |none=>simp[hx]at hs
  |some l=>exact⟨l,rfl⟩
 have hspot:spot ls key=(yN ls key-1,lbN l key,zev l key):=by unfold spot;rw[hget]
 have hh:zev l key=true:=by rw[hspot]at hs;exact hs
 obtain⟨old,hold⟩:=zfr hh
 have hgp:zel ls key=some old:=by unfold zel;rw[hget];simp[hh,hold]
 have hat:=(Gs hget).1
 have hil:=(Gs hold).1
 rw[hgp,hspot]
 dsimp only
 obtain⟨bb,off,cap,u,hv,hcell,hlu⟩:=(hpg.chg0 c21).at hget
 simp only[Value.slice.injEq]at hv
 obtain⟨rfl,_,rfl⟩:=hv
 obtain⟨bu,ou,cu,rfl,hcu⟩:=hlu.at' hold
 refine Sr (Om U (Og (zD U) U (Od zaq U (Ol zb6 U ((hb.chg0 c21).cell' U) (Om U ?_)))))
 refine Og (zi za9 zbV U U _ U hat) U ?_
 refine Ol zeu U hcell (Om U ?_)
 refine Og (zi yB zav U U _ U hil) U ?_
 refine Od zhe U ?_
 refine Ol yK U (hcu 1 _ U) ?_
 refine Oa U (Oa U (E2 4 5 U (zk ?_)))
 refine zcw U U U ?_
 exact⟨U,c21⟩
theorem f19(p:Nat)(ls:LE)(w:Wl)(hp:Pg w p ls)(hn:ls.length≤65536) :
 zV TP 56 #[Pt p] w fun r w'=>∃q,r=Pt q∧w.heap.size≤q∧Pg w' q ls∧zl [] w w':=by
 obtain⟨v,hb,hpg⟩:=id hp
 obtain⟨vs,hsl,hal⟩:=id hpg
 refine A1 Tryz.func56 U U ?_
 refine Sr (Oa U (E1 0 U (zf (Sr (Om U (Og (zbs zkI U U) U (E2 0 4 U (zb U (zn (Sr (Om U (Og (zD U) U ?_))))))))))))
 refine Od zaq U (Ol zb6 U (hb.cell' U) ?_)
 refine Oc zAY U U U (f31 v ls.length vs w hsl (by omega)) ?_
 rintro v9 w9⟨i9,n9,c9⟩
 obtain⟨p9,q9,rfl,_⟩:=i9.val
 refine Og (zN zwf zwm U (vs:=[_]) U (css:=[_]) ⟨U,trivial⟩ U U (cs:=[_]) U) U ?_
 refine Ob U U ?_
 intro b11 w11 e11 n11 c11 k11
 refine Oa U (E1 2 U (zk ?_))
 refine zy U U ?_
 have hs9:=c9.size
 exact⟨b11,rfl,by omega,⟨_,k11,vs,i9.chg0 c11,(hal.chg (c9.trans c11) (by simp))⟩,c9.trans c11⟩
theorem zcN{α:Type}(p:α→Bool):∀(l:List α) (j:Nat) (x:α),l[j]? = some x→(j<(l.takeWhile p).length→p x=true)∧(j=(l.takeWhile p).length→p x=false)
 |[],j,x,h=>by simp at h
 |a::l,0,x,h=>by
  simp at h
  subst h
  cases hp:p a<;>simp[List.takeWhile,hp]
 |a::l,j+1,x,h=>by
  have ih:=zcN p l j x (by simpa using h)
  cases hp:p a
  ·simp[List.takeWhile,hp]
  simpa[List.takeWhile,hp] using ih
theorem zxU{l:List Ent}{key:By}{x:Ent}(h:l[lbN l key]? = some x):blt x.1 key=false:=(zcN _ l _ x h).2 rfl
theorem zhp{ls:LE}{key:By}(hs:zkr ls){j:Nat}{l:List Ent}(h:ls[j]? = some l):(!blt key (yO l))=true↔j<yN ls key:=by
 constructor
 ·intro h1
  rcases Nat.lt_or_ge j (yN ls key) with h2|h2
  ·exact h2
  exfalso
  have hjl:=(Gs h).1
  have h3:yN ls key<ls.length:=by omega
  have h0:ls[yN ls key]? = some ls[yN ls key]:=by simp[h3]
  have hf:=(zcN _ ls _ _ h0).2 rfl
  rcases Nat.lt_or_ge (yN ls key) j with h4|h4
  ·have h5:=hs.at h4 h0 h
   have h6:blt key (yO ls[yN ls key])=true:=by simpa using hf
   rw[zdy h6 h5]at h1
   simp at h1
  have:j=yN ls key:=by omega
  have hf2:=(zcN (fun l => !blt key (yO l)) ls _ _ h).2 this
  rw[hf2]at h1
  cases h1
 intro h1
 exact(zcN _ ls j l h).1 h1
theorem zkV{l:List Ent}(hs:Srt l){x:Ent}(h:x∈l):blt x.1 (yO l)=false:=by
 cases l with
 |nil=>cases h
 |cons y l=>
  obtain⟨i,hi⟩:=List.mem_iff_getElem?.1 h
  cases i with
  |zero=>simp at hi;subst hi;exact zaF _
  |succ i=>exact zdA (hs.at (show 0<i+1 by omega) rfl hi)
theorem zgi{ls:LE}{i:Nat}{l:List Ent}(h:ls[i]? = some l):nth ls i=l:=by unfold nth;rw[h];rfl
theorem zmu(l:List Ent)(key:By):∀x∈l.take (lbN l key),blt x.1 key=true:=by
 intro x hx
 have:l.take (lbN l key)=l.takeWhile fun x=>blt x.1 key:=((List.prefix_iff_eq_take.1 (List.takeWhile_prefix _)).symm)
 rw[this]at hx
 exact(List.all_takeWhile (l:=l) (p:=fun x=>blt x.1 key) |> List.all_eq_true.1) x hx
theorem zh6{a b c:By}(h:blt a b=true)(h2:blt c b=false):blt a c=true:=by
 cases hx:blt a c with
 |true=>rfl
 |false=>
  exfalso
  cases hy:blt c a with
  |true=>rw[zdy hy h]at h2;cases h2
  |false=>
   have:=zfd hx hy
   subst this
   rw[h]at h2;cases h2
theorem zuT{X Y:List Ent}{k v:By}(h:Srt (X++Y))(hx:∀x∈X,blt x.1 k=true)(hy:∀y∈Y,blt k y.1=true):Srt (X++(k,v)::Y):=by
 obtain⟨h1,h2,h3⟩:=List.pairwise_append.1 h
 refine List.pairwise_append.2 ⟨h1,List.pairwise_cons.2 ⟨fun y m=>hy y m,h2⟩,fun a ha b hb=>?_⟩
 rcases List.mem_cons.1 hb with rfl|hb
 ·exact hx a ha
 exact h3 a ha b hb
theorem zhg{α:Type}{l:List α}{i:Nat}{x:α}(h:l[i]? = some x):l=l.take i++x::l.drop (i+1):=by
 have h1:l.drop i=x::l.drop (i+1):=by
  obtain⟨hl,rfl⟩:=Gs h
  exact List.drop_eq_getElem_cons hl
 rw[←h1]
 exact(List.take_append_drop i l).symm
def zc8(l:List Ent)(key:By):List Ent:=if zev l key then l.drop (lbN l key+1) else l.drop (lbN l key)
theorem zib{l:List Ent}(key val:By):zfL l key val=l.take (lbN l key)++(key,val)::zc8 l key:=by
 unfold zfL zc8
 by_cases hh:zev l key=true
 ·rw[if_pos hh,if_pos hh]
  obtain⟨v,hv⟩:=zfr hh
  rw[List.set_eq_take_append_cons_drop,if_pos (Gs hv).1]
 rw[if_neg hh,if_neg hh]
 simp
theorem zli{l:List Ent}{key:By}(hs:Srt l):∀y∈zc8 l key,blt key y.1=true:=by
 intro y hy
 unfold zc8 at hy
 by_cases hh:zev l key=true
 ·rw[if_pos hh]at hy
  obtain⟨v,hv⟩:=zfr hh
  obtain⟨j,hj⟩:=List.mem_iff_getElem?.1 hy
  rw[List.getElem?_drop]at hj
  exact hs.at (show lbN l key<lbN l key+1+j by omega) hv hj
 rw[if_neg hh]at hy
 obtain⟨j,hj⟩:=List.mem_iff_getElem?.1 hy
 rw[List.getElem?_drop]at hj
 have hlen:=(Gs hj).1
 have h0:l[lbN l key]? = some l[lbN l key]:=by simp
 have h1:=zxU h0
 have h2:(l[lbN l key]).1≠key:=by
  intro e
  apply hh
  unfold zev zcI
  rw[List.getElem?_map,h0]
  simp[e]
 have h3:blt key (l[lbN l key]).1=true:=by
  cases hx:blt key (l[lbN l key]).1 with
  |true=>rfl
  |false=>exact absurd (zfd h1 hx) h2
 cases j with
 |zero=>
  rw[Nat.add_zero,h0]at hj
  simp only[Option.some.injEq]at hj
  rw[←hj];exact h3
 |succ j=>exact zdy h3 (hs.at (show lbN l key<lbN l key+(j+1) by omega) h0 hj)
theorem zok(l:List Ent)(key:By):(zc8 l key).Sublist (l.drop (lbN l key)):=by
 unfold zc8
 split
 ·rw[←List.drop_drop];exact List.drop_sublist _ _
 exact List.Sublist.refl _
theorem ztC(l:List Ent)(key val:By):(zfL l key val).length≤l.length+1:=by
 unfold zfL
 split
 ·rw[List.length_set];omega
 simp;omega
theorem zrK(l:List Ent)(key val:By):0<(zfL l key val).length:=by
 rw[zib];simp;omega
theorem ziu(l:List Ent):(zdw l).flatten=l:=by
 unfold zdw
 split<;>simp
theorem zrd{l:List Ent}(h0:0<l.length)(h9:l.length≤9):∀x∈zdw l,x≠[]∧x.length≤8:=by
 intro x hx
 unfold zdw at hx
 split at hx
 ·simp at hx
  rcases hx with rfl|rfl
  ·refine⟨fun e=>?_,by simp;omega⟩
   have:=congrArg List.length e
   rw[List.length_take,List.length_nil]at this;omega
  refine⟨fun e=>?_,by simp;omega⟩
  have:=congrArg List.length e
  rw[List.length_drop,List.length_nil]at this;omega
 simp at hx
 subst hx
 exact⟨fun e=>by subst e;simp at h0,by omega⟩
theorem zn1{ls:LE}{key:By}{L:List Ent}(hw:WfP ls)(hL:ls[yN ls key-1]? = some L):∀x∈(ls.take (yN ls key-1)).flatten,blt x.1 key=true:=by
 intro x hx
 obtain⟨l',hl',hx'⟩:=List.mem_flatten.1 hx
 obtain⟨j,hj⟩:=List.mem_iff_getElem?.1 hl'
 have hjl:=(Gs hj).1
 rw[List.length_take]at hjl
 rw[List.getElem?_take_of_lt (by omega)]at hj
 have h3:=(List.pairwise_flatten.1 hw.srt).2
 have hmem:=List.mem_of_getElem? hL
 obtain⟨y,hy,e⟩:=zfu (hw.ne _ hmem)
 obtain⟨hjl',ej⟩:=Gs hj
 obtain⟨hil,ei⟩:=Gs hL
 have h4:=List.pairwise_iff_getElem.1 h3 j _ hjl' hil (by omega) x (by rw[ej];exact hx') y (by rw[ei];exact hy)
 have h5:=(zhp (key:=key) hw.firsts hL).2 (by omega)
 rw[e]at h5
 exact zh6 h4 (by simpa using h5)
theorem zkz{ls:LE}{key:By}(hw:WfP ls):∀x∈(ls.drop (yN ls key-1+1)).flatten,blt key x.1=true:=by
 intro x hx
 obtain⟨l',hl',hx'⟩:=List.mem_flatten.1 hx
 obtain⟨j,hj⟩:=List.mem_iff_getElem?.1 hl'
 rw[List.getElem?_drop]at hj
 have h1:=zkV (hw.each l' (List.mem_of_getElem? hj)) hx'
 have h2:blt key (yO l')=true:=by
  cases h:blt key (yO l') with
  |true=>rfl
  |false=>
   have:=(zhp (key:=key) hw.firsts hj).1 (by rw[h];rfl)
   omega
 exact zh6 h2 h1
theorem WfP.put{ls:LE}(hw:WfP ls)(key val:By):WfP (zgE ls key val):=by
 unfold zgE
 cases hL:ls[yN ls key-1]? with
 |none=>exact⟨by simp,by simp,by simp[Srt]⟩
 |some L=>
  have hmem:=List.mem_of_getElem? hL
  have hs:=hw.each L hmem
  have h8:=hw.le L hmem
  have hlen:=ztC L key val
  have hok:=zrd (zrK L key val) (by omega)
  dsimp only
  refine⟨fun l hl=>?_,fun l hl=>?_,?_⟩
  ·simp only[List.mem_append]at hl
   rcases hl with (hl|hl)|hl
   ·exact hw.ne l (List.mem_of_mem_take hl)
   ·exact(hok l hl).1
   exact hw.ne l (List.mem_of_mem_drop hl)
  ·simp only[List.mem_append]at hl
   rcases hl with (hl|hl)|hl
   ·exact hw.le l (List.mem_of_mem_take hl)
   ·exact(hok l hl).2
   exact hw.le l (List.mem_of_mem_drop hl)
  rw[List.flatten_append,List.flatten_append,ziu,zib]
  have e:(ls.take (yN ls key-1)).flatten++(L.take (lbN L key)++(key,val)::zc8 L key)++(ls.drop (yN ls key-1+1)).flatten=((ls.take (yN ls key-1)).flatten++L.take (lbN L key))++(key,val)::(zc8 L key++(ls.drop (yN ls key-1+1)).flatten):=by simp
  rw[e]
  refine zuT ?_ ?_ ?_
  ·refine List.Pairwise.sublist ?_ hw.srt
   have e2:ls.flatten=((ls.take (yN ls key-1)).flatten++L.take (lbN L key))++(L.drop (lbN L key)++(ls.drop (yN ls key-1+1)).flatten):=by
    conv=>lhs;rw[zhg hL]
    rw[List.flatten_append,List.flatten_cons]
    simp only[List.append_assoc]
    rw[←List.append_assoc (L.take (lbN L key)),List.take_append_drop]
   rw[e2]
   exact List.Sublist.append (List.Sublist.refl _) (List.Sublist.append (zok _ _) (List.Sublist.refl _))
  ·intro x hx
   rcases List.mem_append.1 hx with hx|hx
   ·exact zn1 hw hL x hx
   exact zmu L key x hx
  intro x hx
  rcases List.mem_append.1 hx with hx|hx
  ·exact zli hs x hx
  exact zkz hw x hx
theorem zjz(l:List Ent):(zga l).flatten=l:=by unfold zga;split<;>simp
theorem zne{l:List Ent}(h0:0<l.length)(h16:l.length≤16):∀x∈zga l,x≠[]∧x.length≤8:=by
 intro x hx
 unfold zga at hx
 split at hx
 ·simp at hx
  subst hx
  exact⟨fun e=>by subst e;simp at h0,by omega⟩
 simp at hx
 rcases hx with rfl|rfl
 ·refine⟨fun e=>?_,by simp;omega⟩
  have:=congrArg List.length e
  rw[List.length_take,List.length_nil]at this;omega
 refine⟨fun e=>?_,by simp;omega⟩
 have:=congrArg List.length e
 rw[List.length_drop,List.length_nil]at this;omega
theorem WfP.parts{A B M:LE}{ls:LE}(hw:WfP ls)(hA:∀l∈A,l∈ls)(hB:∀l∈B,l∈ls)(hM:∀l∈M,l≠[]∧l.length≤8)(hs:Srt (A++M++B).flatten):WfP (A++M++B):=by
 refine⟨fun l hl=>?_,fun l hl=>?_,hs⟩
 ·simp only[List.mem_append]at hl
  rcases hl with (hl|hl)|hl
  ·exact hw.ne l (hA l hl)
  ·exact(hM l hl).1
  exact hw.ne l (hB l hl)
 simp only[List.mem_append]at hl
 rcases hl with (hl|hl)|hl
 ·exact hw.le l (hA l hl)
 ·exact(hM l hl).2
 exact hw.le l (hB l hl)
theorem ziN{ls:LE}{a:Nat}{L l':List Ent}(hL:ls[a]? = some L)(hne:ls.length=1→l'.length=0→True) :
 (settle ls a l').flatten=if ls.length=1∧l'.length=0 then [] else (ls.take a).flatten++l'++(ls.drop (a+1)).flatten:=by
 have hat:=(Gs hL).1
 unfold settle
 by_cases h1:3≤l'.length∨ls.length=1∧0<l'.length
 ·rw[if_pos h1,if_neg (show ¬ (ls.length=1∧l'.length=0) by omega)]
  simp
 rw[if_neg h1]
 by_cases h2:ls.length=1
 ·rw[if_pos h2,if_pos (show ls.length=1∧l'.length=0 by omega)]
  rfl
 rw[if_neg h2,if_neg (show ¬ (ls.length=1∧l'.length=0) by omega)]
 by_cases h3:a+1=ls.length
 ·rw[if_pos h3]
  have h4:a-1<ls.length:=by omega
  have hg:ls[a-1]? = some ls[a-1]:=by simp[h4]
  rw[zgi hg,List.flatten_append,List.flatten_append,zjz]
  have h5:=zfq hg
  rw[show a-1+1=a by omega]at h5
  rw[h5]
  simp
 rw[if_neg h3]
 have h4:a+1<ls.length:=by omega
 have hg:ls[a+1]? = some ls[a+1]:=by simp[h4]
 rw[zgi hg,List.flatten_append,List.flatten_append,zjz]
 have h5:ls.drop (a+1)=ls[a+1]::ls.drop (a+2):=List.drop_eq_getElem_cons h4
 rw[h5,List.flatten_cons]
 simp only[List.append_assoc]
theorem WfP.settle{ls:LE}(hw:WfP ls){a:Nat}{L l':List Ent}(hL:ls[a]? = some L)(hsub:l'.Sublist L):WfP (settle ls a l'):=by
 have hat:=(Gs hL).1
 have hmem:=List.mem_of_getElem? hL
 have hl8:l'.length≤8:=Nat.le_trans hsub.length_le (hw.le L hmem)
 have hsrt:Srt (Wk.settle ls a l').flatten:=by
  rw[ziN hL (fun _ _=>trivial)]
  split
  ·exact List.Pairwise.nil
  refine List.Pairwise.sublist ?_ hw.srt
  conv=>rhs;rw[zhg hL]
  rw[List.flatten_append,List.flatten_cons,List.append_assoc]
  exact List.Sublist.append (List.Sublist.refl _) (List.Sublist.append hsub (List.Sublist.refl _))
 revert hsrt
 unfold Wk.settle
 by_cases h1:3≤l'.length∨ls.length=1∧0<l'.length
 ·rw[if_pos h1]
  intro hsrt
  refine hw.parts (fun l hl=>List.mem_of_mem_take hl) (fun l hl=>List.mem_of_mem_drop hl) ?_ hsrt
  intro l hl
  simp at hl
  subst hl
  exact⟨fun e=>by subst e;simp at h1,hl8⟩
 rw[if_neg h1]
 by_cases h2:ls.length=1
 ·rw[if_pos h2]
  intro _
  exact⟨by simp,by simp,List.Pairwise.nil⟩
 rw[if_neg h2]
 by_cases h3:a+1=ls.length
 ·rw[if_pos h3]
  intro hsrt
  have h4:a-1<ls.length:=by omega
  have hg:ls[a-1]? = some ls[a-1]:=by simp[h4]
  have hm:=List.mem_of_getElem? hg
  have hp:=List.length_pos_iff.2 (hw.ne _ hm)
  have h8:=hw.le _ hm
  refine hw.parts (fun l hl=>List.mem_of_mem_take hl) (fun l hl=>List.mem_of_mem_drop hl) ?_ hsrt
  rw[zgi hg]
  exact zne (by rw[List.length_append];omega) (by rw[List.length_append];omega)
 rw[if_neg h3]
 intro hsrt
 have h4:a+1<ls.length:=by omega
 have hg:ls[a+1]? = some ls[a+1]:=by simp[h4]
 have hm:=List.mem_of_getElem? hg
 have hp:=List.length_pos_iff.2 (hw.ne _ hm)
 have h8:=hw.le _ hm
 refine hw.parts (fun l hl=>List.mem_of_mem_take hl) (fun l hl=>List.mem_of_mem_drop hl) ?_ hsrt
 rw[zgi hg]
 exact zne (by rw[List.length_append];omega) (by rw[List.length_append];omega)
theorem zre(l:List Ent)(key:By):(zgL l key).Sublist l:=by
 unfold zgL
 conv=>rhs;rw[←List.take_append_drop (lbN l key) l]
 refine List.Sublist.append (List.Sublist.refl _) ?_
 rw[←List.drop_drop]
 exact List.drop_sublist _ _
theorem WfP.take{ls:LE}(hw:WfP ls)(key:By):WfP (zdo ls key):=by
 unfold zdo
 cases hL:ls[yN ls key-1]? with
 |none=>exact hw
 |some L=>
  dsimp only
  split
  ·exact hw.settle hL (zre L key)
  exact hw
def zvK(P:Program)(t:TypeId):Bool:=match P.underlying t with|some (.func ..)=>true|_=>false
section
variable {P:Program} {n:Nat} {F:Fr} {w:Wl} {dst:Option Tmp} {ty:TypeId} {pos:String} {af:Array Edge} {gd:Option (Nat×Bool)}
theorem zqe{x y:Operand}{t u:TypeId}{f:Fn}{a b:Array Va}(hb:zvK P t=true)(hx:ev F x=some (.func f a b))(hy:ev F y=some .nilFunc):Vl P n F ⟨dst,.binOp .eql t x y u,ty,pos,af,gd⟩ w (.bool false) w:=by
 intro ac ha
 unfold zvK at hb
 split at hb
 ·rename_i hu
  have h1:(Op.equal t (.func f a b) .nilFunc).run P w=.ok false w:=zbj fun d=>by simp[Op.equalIn,run_underlying hu]
  simp[execOp,ha.eval hx,ha.eval hy,eqGuard,binOp,h1]
 cases hb
end
theorem f14(p:Nat)(ls:LE)(key:By)(w:Wl)(hp:Pg w p ls)(hn:ls.length≤65536) :
 zV TP 71 #[Pt p,.string key] w fun r w'=>∃b5 b3 v,r=.func (.func 119) #[] #[Pt b5,Pt b3]∧zQ w' b5 173 [v]∧yJ w' v ls∧zQ w' b3 9 [.string key]∧w.heap.size≤b3∧w.heap.size≤b5∧zl [] w w':=by
 obtain⟨v,hb,hpg⟩:=id hp
 obtain⟨vs,hsl,hal⟩:=id hpg
 refine A2 Tryz.func71 U U ?_
 refine Sr ?_
 refine Ob U U ?_
 intro b3 w3 e3 n3 c3 k3
 refine Oa U (E2 0 3 U (Sr ?_))
 refine Oq (zH zwe U U ?_)
 intro b5 w5 e5 n5 c5 k5
 refine E3 0 3 5 U ?_
 have hc5:=c3.trans c5
 have hs3:=c3.size
 refine zf (Sr (Om U (Og (znP zkI U U) U (E4 0 3 5 7 U (ze U (za (Om U (Og (zD U) U (Od zaq U (Ol zb6 U ((hb.chg0 hc5).cell' U) ?_))))))))))
 refine Oc zAY U U U (f31 v ls.length vs _ (hsl.chg0 hc5) (by omega)) ?_
 rintro v12 w12⟨i12,n12,c12⟩
 obtain⟨p12,q12,rfl,_⟩:=i12.val
 refine Oq (zu zj6 U U U U (k5.chg0 c12) (by simp) (by intro u hu;simp at hu;subst hu;rfl) ?_)
 intro wF nF cF kF
 refine E2 3 5 U ?_
 have hb5:=k5.chg0 c12
 have hb3:=((k3.chg0 c5).chg0 c12).chg cF (by simp;omega)
 refine Sr (Og (zap U U) U (Oa U (E1 4 U (zk ?_))))
 refine zy U U ?_
 refine⟨b5,b3,_,rfl,kF,⟨vs,i12.chg cF (i12.apart hb5 U),?_⟩,hb3,by omega,by omega,(hc5.trans c12).own cF (by intro x hx;simp at hx;omega)⟩
 have hal12:=hal.chg (hc5.trans c12) (by simp)
 exact hal12.chg cF (hal12.apart hb5 U)
def zb5(l:List Ent)(key:By):List Ent:=l.filter fun x => !blt x.1 key
theorem zfx(a b:List Ent)(key:By):zb5 (a++b) key=zb5 a key++zb5 b key:=by simp[zb5]
theorem zB.kp{w w':Wl}{e k:Nat}{v:Va}{len:Nat}{xs:List Va}(h:zB w e k v len xs)(hk:∀b∈zv v,w'.heap[b]? = w.heap[b]?):zB w' e k v len xs:=by
 rcases h with h|⟨b,off,cap,c,rfl,h⟩
 ·exact .inl h
 exact .inr ⟨b,off,cap,c,rfl,⟨(hk b (by simp[zv])).trans h.blk,h.le,h.max,h.fit,h.xs,h.one⟩⟩
theorem Kp.sl{S:List Nat}{w w':Wl}(hk:∀k,k<w.heap.size→k∉S→w'.heap[k]? = w.heap[k]?){e k:Nat}{v:Va}{len:Nat}{xs:List Va}(h:zB w e k v len xs)
 (hS:∀b∈S,∀e' c,zQ w b e' c→Nat.beq e e'=false):zB w' e k v len xs:=by
 refine zB.kp h fun b hb=>hk b (h.lt b hb) fun hm=>?_
 rcases h with⟨rfl,_,_⟩|⟨b',off,cap,c,rfl,hs⟩
 ·simp[zv]at hb
 simp[zv]at hb
 subst hb
 have:=hS b hm e c hs.blk
 simp at this
theorem zoX{ls:LE}{j:Nat}{l:List Ent}(h:ls[j]? = some l)(key:By):zb5 (ls.take (j+1)).flatten key=zb5 (ls.take j).flatten key++zb5 l key:=by
 rw[zfq h,zfx]
theorem zfT{l:List Ent}{i:Nat}{x:Ent}(h:l[i]? = some x)(key:By):zb5 (l.take (i+1)) key=zb5 (l.take i) key++(if blt x.1 key then [] else [x]):=by
 rw[List.take_add_one,h,zfx]
 congr 1
 cases hb:blt x.1 key<;>simp[zb5,hb]
theorem zqA{ls:LE}{j:Nat}{l:List Ent}(h:ls[j]? = some l)(key:By)(i:Nat):zb5 (ls.take j).flatten key++zb5 (l.take i) key <+: zb5 ls.flatten key:=by
 rw[←zfx]
 refine List.IsPrefix.filter _ ?_
 conv=>rhs;rw[zhg h]
 rw[List.flatten_append,List.flatten_cons]
 refine List.prefix_append_right_inj _ |>.2 ?_
 exact(List.take_prefix _ _).trans (List.prefix_append _ _)
theorem zf4{Q:Exit→Fr→Wl→Prop}{F:Fr}{w:Wl}(h:Q .normal F w):zoo Q .normal F w:=h
theorem yb{A B:Prop}{e:Ending}(h:(e=.returned (.bool true)∧A)∨(e=.returned (.bool false)∧B)):∃b,e=.returned (.bool b)∧((b=true∧A)∨(b=false∧B)):=by
 rcases h with⟨rfl,h⟩|⟨rfl,h⟩
 ·exact⟨true,U,.inl ⟨U,h⟩⟩
 exact⟨false,U,.inr ⟨U,h⟩⟩
theorem zsj{α:Type}(val:α→Ent)(al:List α)(w0 w:Wl)(h0w:zl [] w0 w)(b5 b3:Nat)(v:Va)(ls:LE)(key:By)(S0:List Nat)(h5:zQ w b5 173 [v])(hp:yJ w0 v ls)(h3:zQ w b3 9 [.string key])
 (hl:ls.length≤65536) (h8:∀l∈ls,l.length≤8) (k3:b3∉S0) (hS:∀b∈S0,∀e c,zQ w0 b e c→Nat.beq 176 e=false∧Nat.beq 215 e=false) (ha:zb5 ls.flatten key=al.map val) :
 zvB TP 119 #[Pt b5,Pt b3] (fun x:α => #[.string (val x).1,.string (val x).2]) (Kp S0 w.heap.size)
  (fun xs=>xs=al) (fun pre=>pre≠[]∧pre <+: al) (fun pre=>pre <+: al) w:=by
 intro l J Jx W hW hJ hJx hY h0
 have hab:∀{pre:List α} {W1 W2:Wl},zl [] W1 W2→J pre W1→J pre W2:=fun hc hj=>hJ _ _ _ none hj hc.grown0 (fun _ e=>by cases e)
 have hcw:zl [] w W:=⟨hW.os,hW.tape,hW.output,hW.size,fun k hk _=>hW.block k hk⟩
 obtain⟨vs,hsl,hal⟩:=id hp
 have f0:∀{W1:Wl},Kp S0 w.heap.size w W1→∀k,k<w0.heap.size→k∉S0→W1.heap[k]? = w0.heap[k]? := fun hk k hlt hn=>(hk.2 k (Nat.lt_of_lt_of_le hlt h0w.size) hn).trans (h0w.block k hlt (by simp))
 have fsl:∀{W1:Wl},Kp S0 w.heap.size w W1→zB W1 176 1 v ls.length vs:=fun hk=>Kp.sl (f0 hk) hsl (fun b hb e c hc=>(hS b hb e c hc).1)
 have fls:∀{W1:Wl} {u:Va} {L:List Ent},Kp S0 w.heap.size w W1→yF w0 u L→yF W1 u L:=fun hk hL=>Kp.sl (f0 hk) hL (fun b hb e c hc=>(hS b hb e c hc).2)
 have fb3:∀{W1:Wl},Kp S0 w.heap.size w W1→zQ W1 b3 9 [.string key]:=fun hk=>(hk.2 b3 h3.lt k3).trans h3
 have hkw:Kp S0 w.heap.size w W:=⟨hcw.size,fun k hk _=>hcw.block k hk (by simp)⟩
 have hmono:∀{W1 W2:Wl},Kp S0 w.heap.size w W1→zl [] W1 W2→Kp S0 w.heap.size w W2:=fun hk hc=>⟨Nat.le_trans hk.1 hc.size,fun k hlt hn=>(hc.block k (Nat.lt_of_lt_of_le hlt hk.1) (by simp)).trans (hk.2 k hlt hn)⟩
 refine CallsIn.mono (R:=fun e W'=>∃u,e=.returned u∧(fun(_:Va) W'=>(∃xs,xs=al∧J xs W')∨(∃pre,(pre≠[]∧pre <+: al)∧Jx pre W')) u W') ?_ (fun e W' ⟨u,he,h⟩=>⟨⟨u,he⟩,h⟩)
 refine CallsIn.of_WX (args:=[_,_,_]) Tryz.func119 U U U U (zg5 ?_)
 refine zhh ?_
 refine zf ?_
 refine zi0 ?_
 refine zf ?_
 obtain⟨pv,cv,rfl,hcv⟩:=hsl.val
 refine za (Ol zb6 U ((h5.chg0 hcw).cell' U) (On za9 U (Om U (E5 0 2 8 9 10 U (zq ?_)))))
 refine zT [0,2,8,9,10] (fun m F wx=>∃j:Nat,m=ls.length-j∧j≤ls.length∧F=[(0,.func (.yield l) #[] #[]),(2,Pt b3),(8,.slice pv ls.length cv),(9,Ii ls.length),(10,Ii j)]∧Kp S0 w.heap.size w wx∧J (al.take (zb5 (ls.take j).flatten key).length) wx) (m:=ls.length-0) ⟨0,U,Nat.zero_le _,U,hkw,h0⟩ ?_
 rintro m F wx⟨j,rfl,hj,rfl,hkx,hJx0⟩
 refine Sr (Og (zz U U) U (E6 0 2 8 9 10 11 U (zf ?_)))
 refine zR U (fun hT=>?_) (fun hF=>?_)
 ·refine zn ?_
  have hlt:j<ls.length:=by have:=of_decide_eq_true hT;omega
  have hx:ls[j]? = some ls[j]:=by simp[hlt]
  generalize ls[j]=L at hx
  have hL8:=h8 L (List.mem_of_getElem? hx)
  refine zf (zq (zf ?_))
  obtain⟨u,hus,hlw⟩:=hal.at hx
  obtain⟨bb,off,cap,u',hv,hu',hcell⟩:=(fsl hkx).at1 hlt
  rw[hus]at hu'
  simp only[Option.some.injEq]at hu'
  subst hu'
  simp only[Value.slice.injEq]at hv
  obtain⟨rfl,_,rfl⟩:=hv
  obtain⟨pu,cu,rfl,_⟩:=zB.val hlw
  refine za ?_
  refine Og (zi za9 zbV U U _ U hlt) U ?_
  refine Ol zeu U hcell (Oa U (E6 0 2 5 8 9 10 U (Sr (Om U (On yB U (Om U (E8 0 2 8 9 10 14 15 16 U (zq ?_))))))))
  refine zT [0,2,8,9,10,14,15,16] (fun m F wy=>∃i:Nat,m=L.length-i∧i≤L.length∧F=[(0,.func (.yield l) #[] #[]),(2,Pt b3),(8,.slice (some ⟨bb,off,none⟩) ls.length cv),(9,Ii ls.length),(10,Ii j),(14,.slice pu L.length cu),(15,Ii L.length),(16,Ii i)]∧Kp S0 w.heap.size w wy∧J (al.take (zb5 (ls.take j).flatten key++zb5 (L.take i) key).length) wy) (m:=L.length-0) ⟨0,rfl,Nat.zero_le _,rfl,hkx,by simpa[zb5] using hJx0⟩ ?_
  rintro m F wy⟨i,rfl,hi,rfl,hky,hJy⟩
  refine Sr (Og (zz U U) U (yT [0,2,8,9,10,14,15,16,17] (F':=[(0,_),(2,_),(8,_),(9,_),(10,_),(14,_),(15,_),(16,_),(17,_)]) U (zf ?_)))
  refine zR U (fun hT=>?_) (fun hF=>?_)
  ·refine zn ?_
   have hli:i<L.length:=by have:=of_decide_eq_true hT;omega
   have hxi:L[i]? = some L[i]:=by simp[hli]
   generalize L[i]=x at hxi
   obtain⟨bu,ou,cu',hvu,hcu⟩:=(fls hky hlw).at' hxi
   simp only[Value.slice.injEq]at hvu
   obtain⟨rfl,_,rfl⟩:=hvu
   have hb3:=fb3 hky
   refine zf (zq (Sr ?_))
   refine Og (zi yB zav U U _ U hli) U ?_
   refine Og (zh zqp zav U U hcu) U ?_
   refine Oq (zH znC U U ?_)
   intro b7 w7 e7 n7 c7 k7
   refine Oq (zu zav U U U U k7 (by simp) (by intro u hu;simp at hu;rcases hu with rfl|rfl<;>rfl) ?_)
   intro wA nA cA kA
   refine yT [0,2,7,8,9,10,14,15,16] (F':=[(0,_),(2,_),(7,_),(8,_),(9,_),(10,_),(14,_),(15,_),(16,_)]) U ?_
   have hcA:zl [] wy wA:=c7.own cA (by intro y hy;simp at hy;omega)
   have hkA:=hmono hky hcA
   have hJA:=hab hcA hJy
   have hb3A:=hb3.chg0 hcA
   have hkey:=kA.cell' (i:=0) rfl
   have hval:=kA.cell' (i:=1) rfl
   refine zf ?_
   cases hb:blt x.1 key with
   |true=>
    refine za (Od zhL U (Ol yK U hkey (Ol yK U (hb3A.cell' U) ?_)))
    refine Og (vf (zsC U U) (by rw[hb];rfl)) U ?_
    refine Om U (Oz U U (Oz U U (Oz U U (Oz U U (Oz U U (Oz U U (Oz U U (Of U (yT [0,2,8,9,10,14,15,16,32] (F':=[(0,_),(2,_),(8,_),(9,_),(10,_),(14,_),(15,_),(16,_),(32,_)]) U (zb U (zW (zm (za ?_)))))))))))))
    refine Og (zI U U (by omega)) U ?_
    refine Om U ?_
    refine zcD [0,2,8,9,10,14,15,16] (F':=[(0,_),(2,_),(8,_),(9,_),(10,_),(14,_),(15,_),(16,_)]) U ?_
    refine⟨L.length-(i+1),by omega,i+1,rfl,by omega,rfl,hkA,?_⟩
    rw[zfT hxi,hb,if_pos rfl,List.append_nil]
    exact hJA
   |false=>
    have hpre:zb5 (ls.take j).flatten key++zb5 (L.take (i+1)) key <+: zb5 ls.flatten key:=zqA hx key (i+1)
    rw[zfT hxi,hb,if_neg (by simp),←List.append_assoc]at hpre
    rw[ha]at hpre
    generalize hm:zb5 (ls.take j).flatten key++zb5 (L.take i) key=M at *
    have hlen:M.length<al.length:=by
     have:=hpre.length_le
     rw[List.length_append,List.length_map]at this
     simp only[List.length_cons,List.length_nil]at this
     omega
    have hat:al[M.length]? = some al[M.length]:=by simp[hlen]
    generalize al[M.length]=a at hat
    have hval':val a=x:=by
     obtain⟨r,hr⟩:=hpre
     have h1:(al.map val)[M.length]? = some x:=by rw[←hr];simp
     rw[List.getElem?_map,hat]at h1
     simpa using h1
    subst hval'
    have htake:al.take (M.length+1)=al.take M.length++[a]:=by rw[List.take_add_one,hat];rfl
    have hy:=hY _ a wA hJA (by rw[←htake];exact List.take_prefix _ _)
    refine zeW ?_
    refine yD (gn U) U (St.vl (zd zhL U) U U ?_)
    refine yD (gn U) U (St.vl (zg yK U hkey) U U ?_)
    refine yD (gn U) U (St.vl (zg yK U (hb3A.cell' U)) U U ?_)
    refine yD (gn U) U (St.vl (vt (zsC U U) (by rw[hb];rfl)) U U ?_)
    refine Xm U ?_
    refine yD (gy U U U) U (St.vl (zar U) U U ?_)
    refine yD (gy U U U) U (St.vl (zd zhL U) U U ?_)
    refine yD (gy U U U) U (St.vl (zg yK U hkey) U U ?_)
    refine yD (gy U U U) U (St.vl (zd zhe U) U U ?_)
    refine yD (gy U U U) U (St.vl (zg yK U hval) U U ?_)
    refine zgy (gy U U U) U U U hy ?_
    rintro v30 w30 hR30
    obtain⟨b30,rfl,hb30⟩:=yb hR30
    refine⟨_,U,?_⟩
    refine yD (gy U U U) U (St.vl (zE U) U U ?_)
    refine yD (gn U) U (St.vl (zF U U) U U ?_)
    refine zdk [0,2,8,9,10,14,15,16,32] (F':=[(0,_),(2,_),(8,_),(9,_),(10,_),(14,_),(15,_),(16,_),(32,_)]) U ?_
    rcases hb30 with⟨rfl,hJ30,hk30⟩|⟨rfl,hJ30⟩
    ·refine zb U (zW (zm (za ?_)))
     refine Og (zI U U (by omega)) U ?_
     refine Om U ?_
     refine zcD [0,2,8,9,10,14,15,16] (F':=[(0,_),(2,_),(8,_),(9,_),(10,_),(14,_),(15,_),(16,_)]) U ?_
     refine⟨L.length-(i+1),by omega,i+1,rfl,by omega,rfl,hkA.trans hk30,?_⟩
     rw[zfT hxi,hb,if_neg (by simp),←List.append_assoc,hm,List.length_append]
     show J (al.take (M.length+1)) _
     rw[htake]
     exact hJ30
    refine ze U ?_
    refine zJ ?_
    repeat first|refine te ?_|refine bo rfl ?_
    refine zt _ ?_
    refine zf4 ?_
    refine zgD U ?_
    exact .inr ⟨_,⟨by simp,by rw[←htake];exact List.take_prefix _ _⟩,hJ30⟩
  refine zJ ?_
  repeat first|refine te ?_|refine bo rfl ?_
  refine zt _ ?_
  refine zm ?_
  have he:i=L.length:=by have:=of_decide_eq_false hF;omega
  subst he
  refine za ?_
  refine Og (zI U U (by omega)) U ?_
  refine Om U (N5 0 2 8 9 10 U ?_)
  refine⟨ls.length-(j+1),by omega,j+1,rfl,by omega,rfl,hky,?_⟩
  rw[zoX hx]
  rwa [List.take_length]at hJy
 refine zJ ?_
 repeat first|refine te ?_|refine bo rfl ?_
 refine zt _ ?_
 refine zf4 ?_
 refine zgD U ?_
 have he:j=ls.length:=by have:=of_decide_eq_false hF;omega
 subst he
 rw[List.take_length,ha,List.length_map,List.take_length]at hJx0
 exact .inl ⟨_,U,hJx0⟩
theorem zl3{ls:LE}{key:By}(h:ls[yN ls key-1]? = none):ls=[]:=by
 by_cases hl:ls=[]
 ·exact hl
 have h1:=ziZ (key:=key) hl
 have h2:ls.length≤yN ls key-1:=List.getElem?_eq_none_iff.1 h
 omega
structure zrR(ls:LE)(key:By)(L A B S:List Ent):Prop where
 all:ls.flatten=A++(L.drop (lbN L key)++S)
 low:∀y∈A,blt y.1 key=true
 high:∀y∈B++S,blt key y.1=true
 mid:∀y,y.1≠key→(y∈L.drop (lbN L key)↔y∈B)
theorem zzl{ls:LE}{key:By}{L:List Ent}(hw:WfP ls)(hL:ls[yN ls key-1]? = some L) :
 zrR ls key L ((ls.take (yN ls key-1)).flatten++L.take (lbN L key)) (zc8 L key) ((ls.drop (yN ls key-1+1)).flatten):=by
 have hmem:=List.mem_of_getElem? hL
 have hs:=hw.each L hmem
 refine⟨?_,fun y hy=>?_,fun y hy=>?_,fun y hy=>?_⟩
 ·conv=>lhs;rw[zhg hL]
  rw[List.flatten_append,List.flatten_cons]
  simp only[List.append_assoc]
  rw[←List.append_assoc (L.take (lbN L key)),List.take_append_drop]
 ·rcases List.mem_append.1 hy with hy|hy
  ·exact zn1 hw hL y hy
  exact zmu L key y hy
 ·rcases List.mem_append.1 hy with hy|hy
  ·exact zli hs y hy
  exact zkz hw y hy
 unfold zc8
 split
 ·rename_i hh
  obtain⟨v,hv⟩:=zfr hh
  have h1:L.drop (lbN L key)=(key,v)::L.drop (lbN L key+1):=by
   obtain⟨hl,e⟩:=Gs hv
   rw[←e]
   exact List.drop_eq_getElem_cons hl
  rw[h1,List.mem_cons]
  exact⟨fun h=>h.elim (fun e=>absurd (by rw[e]) hy) id,.inr⟩
 exact Iff.rfl
theorem zrR.ne{ls:LE}{key:By}{L A B S:List Ent}(h:zrR ls key L A B S){x:Ent}(hx:x∈A∨x∈B∨x∈S):x.1≠key:=by
 rcases hx with hx|hx
 ·exact zh1 (h.low x hx)
 exact fun e=>zh1 (h.high x (by simpa using hx)) e.symm
theorem zrR.iff{ls:LE}{key:By}{L A B S:List Ent}(h:zrR ls key L A B S)(x:Ent):(x∈A∨x∈B∨x∈S)↔(x.1≠key∧x∈ls.flatten):=by
 constructor
 ·intro hx
  have hne:=h.ne hx
  refine⟨hne,?_⟩
  rw[h.all,List.mem_append,List.mem_append,h.mid x hne]
  exact hx
 rintro⟨hne,hx⟩
 rw[h.all,List.mem_append,List.mem_append,h.mid x hne]at hx
 exact hx
theorem zpb{ls:LE}(hw:WfP ls)(key val:By)(x:Ent):x∈(zgE ls key val).flatten↔x=(key,val)∨(x.1≠key∧x∈ls.flatten):=by
 unfold zgE
 cases hL:ls[yN ls key-1]? with
 |none=>
  have:=zl3 hL
  subst this
  simp
 |some L=>
  have hc:=zzl hw hL
  dsimp only
  rw[List.flatten_append,List.flatten_append,ziu,zib,←hc.iff x]
  simp only[List.mem_append,List.mem_cons]
  constructor
  ·rintro ((h|h|h|h)|h)
   ·exact .inr (.inl (.inl h))
   ·exact .inr (.inl (.inr h))
   ·exact .inl h
   ·exact .inr (.inr (.inl h))
   exact .inr (.inr (.inr h))
  rintro (h|(h|h)|h|h)
  ·exact .inl (.inr (.inr (.inl h)))
  ·exact .inl (.inl h)
  ·exact .inl (.inr (.inl h))
  ·exact .inl (.inr (.inr (.inr h)))
  exact .inr h
theorem zlQ{ls:LE}{a:Nat}{L l':List Ent}(hL:ls[a]? = some L):(settle ls a l').flatten=(ls.take a).flatten++l'++(ls.drop (a+1)).flatten:=by
 rw[ziN hL (fun _ _=>trivial)]
 split
 ·rename_i h
  have hat:=(Gs hL).1
  have ha:a=0:=by omega
  subst ha
  have hl:l'=[]:=List.eq_nil_of_length_eq_zero h.2
  subst hl
  rw[List.drop_eq_nil_of_le (by omega)]
  simp
 rfl
theorem zmv{ls:LE}(hw:WfP ls)(key:By)(x:Ent):x∈(zdo ls key).flatten↔x.1≠key∧x∈ls.flatten:=by
 unfold zdo
 cases hL:ls[yN ls key-1]? with
 |none=>
  have:=zl3 hL
  subst this
  simp
 |some L=>
  have hc:=zzl hw hL
  dsimp only
  split
  ·rename_i hh
   have hb:zc8 L key=L.drop (lbN L key+1):=by unfold zc8;rw[if_pos hh]
   rw[zlQ hL,←hc.iff x,hb]
   unfold zgL
   simp only[List.mem_append]
   constructor
   ·rintro ((h|h|h)|h)
    ·exact .inl (.inl h)
    ·exact .inl (.inr h)
    ·exact .inr (.inl h)
    exact .inr (.inr h)
   rintro ((h|h)|h|h)
   ·exact .inl (.inl h)
   ·exact .inl (.inr (.inl h))
   ·exact .inl (.inr (.inr h))
   exact .inr h
  rename_i hh
  have hb:zc8 L key=L.drop (lbN L key):=by unfold zc8;rw[if_neg hh]
  have hall:=hc.all
  rw[←hb]at hall
  constructor
  ·intro hx
   refine⟨hc.ne ?_,hx⟩
   rw[hall]at hx
   rcases List.mem_append.1 hx with h|h
   ·exact .inl h
   exact .inr (List.mem_append.1 h)
  exact fun h=>h.2
def ze8(ls:LE):Prop:=1<ls.length→∀l∈ls,3≤l.length
theorem ze8.nil:ze8 []:=fun h=>by simp at h
theorem zuW(l:List Ent)(key val:By):l.length≤(zfL l key val).length:=by
 unfold zfL
 split
 ·rw[List.length_set];omega
 simp;omega
theorem zqw{l:List Ent}(h:8<l.length):∀x∈zdw l,3≤x.length:=by
 intro x hx
 unfold zdw at hx
 rw[if_pos h]at hx
 simp at hx
 rcases hx with rfl|rfl
 ·rw[List.length_take];omega
 rw[List.length_drop];omega
theorem ze8.put{ls:LE}(h3:ze8 ls)(key val:By):ze8 (zgE ls key val):=by
 unfold zgE
 cases hL:ls[yN ls key-1]? with
 |none=>intro h;simp at h
 |some L=>
  have hat:=(Gs hL).1
  have hmem:=List.mem_of_getElem? hL
  have hge:=zuW L key val
  dsimp only
  by_cases h8:8<(zfL L key val).length
  ·intro _ l hl
   have old:∀l∈ls,1<ls.length→3≤l.length:=fun l hl h=>h3 h l hl
   simp only[List.mem_append]at hl
   rcases hl with (hl|hl)|hl
   ·refine old l (List.mem_of_mem_take hl) ?_
    have:=List.length_pos_of_mem hl
    rw[List.length_take]at this
    omega
   ·exact zqw h8 l hl
   refine old l (List.mem_of_mem_drop hl) ?_
   have:=List.length_pos_of_mem hl
   rw[List.length_drop]at this
   omega
  have e:zdw (zfL L key val)=[zfL L key val]:=by unfold zdw;rw[if_neg h8]
  rw[e]
  intro hlen l hl
  have hls:1<ls.length:=by
   simp only[List.length_append,List.length_take,List.length_drop,List.length_cons,List.length_nil]at hlen
   omega
  simp only[List.mem_append,List.mem_singleton]at hl
  rcases hl with (hl|rfl)|hl
  ·exact h3 hls l (List.mem_of_mem_take hl)
  ·have:=h3 hls L hmem;omega
  exact h3 hls l (List.mem_of_mem_drop hl)
theorem zl7{l:List Ent}(h:3≤l.length):∀x∈zga l,3≤x.length:=by
 intro x hx
 unfold zga at hx
 split at hx
 ·simp at hx;subst hx;exact h
 simp at hx
 rcases hx with rfl|rfl
 ·rw[List.length_take];omega
 rw[List.length_drop];omega
theorem ze8.settle{ls:LE}(h3:ze8 ls){a:Nat}{L l':List Ent}(hL:ls[a]? = some L):ze8 (settle ls a l'):=by
 have hat:=(Gs hL).1
 unfold Wk.settle
 by_cases h1:3≤l'.length∨ls.length=1∧0<l'.length
 ·rw[if_pos h1]
  intro hlen l hl
  have hls:1<ls.length:=by
   simp only[List.length_append,List.length_take,List.length_drop,List.length_cons,List.length_nil]at hlen
   omega
  simp only[List.mem_append,List.mem_singleton]at hl
  rcases hl with (hl|rfl)|hl
  ·exact h3 hls l (List.mem_of_mem_take hl)
  ·omega
  exact h3 hls l (List.mem_of_mem_drop hl)
 rw[if_neg h1]
 by_cases h2:ls.length=1
 ·rw[if_pos h2];exact ze8.nil
 rw[if_neg h2]
 have hls:1<ls.length:=by omega
 by_cases h4:a+1=ls.length
 ·rw[if_pos h4]
  have h5:a-1<ls.length:=by omega
  have hg:ls[a-1]? = some ls[a-1]:=by simp[h5]
  have h6:=h3 hls _ (List.mem_of_getElem? hg)
  rw[zgi hg]
  intro _ l hl
  simp only[List.mem_append]at hl
  rcases hl with (hl|hl)|hl
  ·exact h3 hls l (List.mem_of_mem_take hl)
  ·exact zl7 (by rw[List.length_append];omega) l hl
  exact h3 hls l (List.mem_of_mem_drop hl)
 rw[if_neg h4]
 have h5:a+1<ls.length:=by omega
 have hg:ls[a+1]? = some ls[a+1]:=by simp[h5]
 have h6:=h3 hls _ (List.mem_of_getElem? hg)
 rw[zgi hg]
 intro _ l hl
 simp only[List.mem_append]at hl
 rcases hl with (hl|hl)|hl
 ·exact h3 hls l (List.mem_of_mem_take hl)
 ·exact zl7 (by rw[List.length_append];omega) l hl
 exact h3 hls l (List.mem_of_mem_drop hl)
theorem ze8.take{ls:LE}(h3:ze8 ls)(key:By):ze8 (zdo ls key):=by
 unfold zdo
 cases hL:ls[yN ls key-1]? with
 |none=>exact h3
 |some L=>
  dsimp only
  split
  ·exact h3.settle hL
  exact h3
theorem ze8.len{ls:LE}(h3:ze8 ls)(h:1<ls.length):3*ls.length≤ls.flatten.length:=by
 have:∀ms:LE,(∀l∈ms,3≤l.length)→3*ms.length≤ms.flatten.length:=by
  intro ms
  induction ms with
  |nil=>intro _;simp
  |cons m ms ih=>
   intro h
   have h1:=h m (by simp)
   have h2:=ih (fun l hl=>h l (by simp[hl]))
   rw[List.flatten_cons,List.length_append,List.length_cons]
   omega
 exact this ls (h3 h)
def zgF(es:List Ent)(key:By):Option By:=(es.find? fun x=>decide (x.1=key)).map (·.2)
theorem zqQ{es:List Ent}{key:By}{i:Nat}{x:Ent}(h:zgF (es.take i) key=none)(hx:es[i]? = some x)(he:x.1=key):zgF es key=some x.2:=by
 have h1:es.drop i=x::es.drop (i+1):=by
  obtain⟨hl,rfl⟩:=Gs hx
  exact List.drop_eq_getElem_cons hl
 have h2:es=es.take i++(x::es.drop (i+1)):=by rw[←h1];exact(List.take_append_drop i es).symm
 unfold zgF at h ⊢
 rw[h2,List.find?_append]
 simp only[Option.map_eq_none_iff]at h
 rw[h]
 simp[he]
theorem zhr{es:List Ent}(hs:Srt es){k v:By}(h:(k,v)∈es):zgF es k=some v:=by
 obtain⟨i,hi⟩:=List.mem_iff_getElem?.1 h
 refine zqQ (i:=i) (x:=(k,v)) ?_ hi U
 unfold zgF
 rw[Option.map_eq_none_iff,List.find?_eq_none]
 intro x hx
 obtain⟨j,hj⟩:=List.mem_iff_getElem?.1 hx
 have hjl:=(Gs hj).1
 rw[List.length_take]at hjl
 rw[List.getElem?_take_of_lt (by omega)]at hj
 have:=hs.at (show j<i by omega) hj hi
 simpa using zh1 this
theorem zou{es:List Ent}{k:By}(h:∀x∈es,x.1≠k):zgF es k=none:=by
 unfold zgF
 rw[Option.map_eq_none_iff,List.find?_eq_none]
 intro x hx
 simpa using h x hx
theorem zxP{l:List Ent}(hs:Srt l){i:Nat}{x:Ent}(h:l[i]? = some x):lbN l x.1=i:=by
 refine zcJ _ l i (Nat.le_of_lt (Gs h).1) (fun j k hk=>?_)
 constructor
 ·intro h1
  rcases Nat.lt_or_ge j i with h2|h2
  ·exact h2
  exfalso
  rcases Nat.lt_or_ge i j with h3|h3
  ·have:=hs.at h3 h hk
   rw[zdA this]at h1;cases h1
  have:j=i:=by omega
  subst this
  rw[h]at hk
  simp only[Option.some.injEq]at hk
  subst hk
  rw[zaF]at h1;cases h1
 intro h1
 exact hs.at h1 hk h
theorem zmz{l:List Ent}(hs:Srt l){k v:By}(h:(k,v)∈l):zev l k=true:=by
 obtain⟨i,hi⟩:=List.mem_iff_getElem?.1 h
 have:=zxP hs hi
 dsimp only at this
 unfold zev zcI
 rw[this,List.getElem?_map,hi]
 simp
theorem zot{ls:LE}(hw:WfP ls)(key:By):zgF ls.flatten key=zel ls key:=by
 cases hL:ls[yN ls key-1]? with
 |none=>
  have:ls=[]:=by
   have h1:ls.length≤yN ls key-1:=List.getElem?_eq_none_iff.1 hL
   by_cases h:ls=[]
   ·exact h
   have:=ziZ (key:=key) h;omega
  subst this
  rfl
 |some l=>
  have hmem:=List.mem_of_getElem? hL
  have hs:=hw.each l hmem
  unfold zel
  rw[hL]
  dsimp only
  by_cases hh:zev l key=true
  ·rw[if_pos hh]
   obtain⟨v,hv⟩:=zfr hh
   rw[hv]
   exact zhr hw.srt (List.mem_flatten.2 ⟨l,hmem,List.mem_of_getElem? hv⟩)
  rw[if_neg hh]
  refine zou ?_
  rintro⟨k,v⟩ hx he
  dsimp only at he
  subst he
  obtain⟨l',hl',hx'⟩:=List.mem_flatten.1 hx
  obtain⟨j,hj⟩:=List.mem_iff_getElem?.1 hl'
  have h1:j<yN ls k:=by
   refine(zhp hw.firsts hj).1 ?_
   rw[zkV (hw.each l' hl') hx'];rfl
  rcases Nat.lt_or_ge j (yN ls k-1) with h2|h2
  ·have h3:=(List.pairwise_flatten.1 hw.srt).2
   obtain⟨hjl,rfl⟩:=Gs hj
   obtain⟨hil,rfl⟩:=Gs hL
   obtain⟨y,hy,e⟩:=zfu (hw.ne _ hmem)
   have h4:=List.pairwise_iff_getElem.1 h3 j _ hjl hil h2 (k,v) hx' y hy
   have h5:=(zhp (key:=k) hw.firsts hL).2 (by omega)
   rw[e]at h5
   dsimp only at h4
   rw[h4]at h5
   cases h5
  have:j=yN ls k-1:=by omega
  subst this
  rw[hL]at hj
  simp only[Option.some.injEq]at hj
  subst hj
  exact hh (zmz hs hx')
theorem zqY{es:List Ent}{k v:By}(h:zgF es k=some v):(k,v)∈es:=by
 unfold zgF at h
 rw[Option.map_eq_some_iff]at h
 obtain⟨x,hx,rfl⟩:=h
 have h1:=List.mem_of_find?_eq_some hx
 have h2:=List.find?_some hx
 simp at h2
 subst h2
 exact h1
theorem zjW{ls:LE}(hw:WfP ls){k v:By}:zel ls k=some v↔(k,v)∈ls.flatten:=by
 rw[←zot hw]
 exact⟨zqY,zhr hw.srt⟩
theorem zqa{ls:LE}(hw:WfP ls){k:By}(h:∀v,(k,v)∉ls.flatten):zel ls k=none:=by
 cases hg:zel ls k with
 |none=>rfl
 |some v=>exact absurd ((zjW hw).1 hg) (h v)
theorem zlI:∀{l m:List Ent},Srt l→Srt m→(∀x,x∈l↔x∈m)→l=m
 |[],[],_,_,_=>rfl
 |[],y::m,_,_,h=>by have:=(h y).2 (by simp);cases this
 |x::l,[],_,_,h=>by have:=(h x).1 (by simp);cases this
 |x::l,y::m,hl,hm,h=>by
  have hl':=List.pairwise_cons.1 hl
  have hm':=List.pairwise_cons.1 hm
  have hxy:x=y:=by
   rcases List.mem_cons.1 ((h x).1 (by simp)) with e|e
   ·exact e
   rcases List.mem_cons.1 ((h y).2 (by simp)) with e2|e2
   ·exact e2.symm
   have h1:=hm'.1 x e
   rw[zdA (hl'.1 y e2)]at h1
   cases h1
  subst hxy
  rw[zlI hl'.2 hm'.2 fun z=>?_]
  constructor
  ·intro hz
   rcases List.mem_cons.1 ((h z).1 (by simp[hz])) with e|e
   ·subst e
    have:=hl'.1 z hz
    rw[zaF]at this;cases this
   exact e
  intro hz
  rcases List.mem_cons.1 ((h z).2 (by simp[hz])) with e|e
  ·subst e
   have:=hm'.1 z hz
   rw[zaF]at this;cases this
  exact e
theorem zdN(n:Nat):IntKind.u8.wrap (n:Int)=((n % 256:Nat):Int):=by
 simp only[IntKind.wrap,IntKind.bits,IntKind.signed]
 simp
theorem ze1{n:Nat}(h:n<9223372036854775808):IntKind.i64.wrap (n:Int)=(n:Int):=IntWalk.i64_in _ ⟨by omega,by omega⟩
theorem zgt{n:Nat}(h:n<18446744073709551616):IntKind.u64.wrap (n:Int)=(n:Int):=zhO (by omega) (by omega)
theorem zzK(n m:Nat):(n:Int).fdiv (m:Int)=((n / m:Nat):Int):=by
 rw[Int.fdiv_eq_ediv_of_nonneg _ (by omega)];omega
theorem zky(n m:Nat):(n:Int).fdiv (2 ^ m)=((n / 2 ^ m:Nat):Int):=by
 rw[show ((2:Int) ^ m)=((2 ^ m:Nat):Int) by simp]
 exact zzK _ _
def ze5(n L:Nat):Prop:=∀k,L≤k↔n<2 ^ k
theorem ze5.shift{n L:Nat}(s:Nat)(h:ze5 (n / 2 ^ s) L)(hn:2 ^ s≤n):ze5 n (L+s):=by
 intro k
 rcases Nat.lt_or_ge k s with hk|hk
 ·have:=Nat.pow_lt_pow_right (a:=2) (by omega) hk
  constructor<;>intro _<;>omega
 obtain⟨j,rfl⟩:=Nat.exists_eq_add_of_le hk
 rw[Nat.pow_add,Nat.mul_comm,←Nat.div_lt_iff_lt_mul (Nat.two_pow_pos s),←h j]
 omega
theorem ztA{n L:Nat}(h1:n<2 ^ L)(h2:L=0∨2 ^ (L-1)≤n):ze5 n L:=by
 intro k
 constructor
 ·intro h
  exact Nat.lt_of_lt_of_le h1 (Nat.pow_le_pow_right (by omega) h)
 intro h
 rcases Nat.lt_or_ge k L with hk|hk
 ·rcases h2 with rfl|h2
  ·omega
  have:2 ^ k≤2 ^ (L-1):=Nat.pow_le_pow_right (by omega) (by omega)
  omega
 exact hk
def yA(n:Nat):Nat:=if n<1 then 0 else if n<256 then 1 else if n<65536 then 2 else if n<16777216 then 3 else if n<4294967296 then 4 else if n<1099511627776 then 5 else if n<281474976710656 then 6 else if n<72057594037927936 then 7 else 8
theorem zb8(n:Nat):yA n≤8:=by unfold yA;split<;>(try split)<;>(try split)<;>(try split)<;>(try split)<;>(try split)<;>(try split)<;>(try split)<;>omega
theorem zee{n k:Nat}(hn:n<18446744073709551616):yA n≤k↔n<256 ^ k:=by
 have e:∀j,8≤j→n<256 ^ j:=fun j hj=>Nat.lt_of_lt_of_le hn (by
  have:256 ^ 8≤256 ^ j:=Nat.pow_le_pow_right (by omega) hj
  simpa using this)
 rcases Nat.lt_or_ge k 8 with hk|hk
 ·have hc:k=0∨k=1∨k=2∨k=3∨k=4∨k=5∨k=6∨k=7:=by omega
  unfold yA
  rcases hc with rfl|rfl|rfl|rfl|rfl|rfl|rfl|rfl<;>simp only[Nat.reducePow]<;>(repeat' split)<;>omega
 have:=zb8 n
 have:=e k hk
 exact⟨fun _=>this,fun _=>by omega⟩
theorem zmA{n L:Nat}(hn:n<18446744073709551616)(h:ze5 n L):(L+8-1) / 8=yA n:=by
 have h1:∀k,(L+8-1) / 8≤k↔yA n≤k:=fun k=>by
  rw[zee hn,show (256:Nat)=2 ^ 8 by rfl,←Nat.pow_mul,←h (8*k)]
  omega
 have h2:=(h1 (yA n)).2 (Nat.le_refl _)
 have h3:=(h1 ((L+8-1) / 8)).1 (Nat.le_refl _)
 omega
def zoW:List UInt8:=(List.range 256).map fun i=>UInt8.ofNat (if i=0 then 0 else i.log2+1)
theorem zyh:∀x:Fin 256,x.val<2 ^ (zoW[x.val]?.getD 0).toNat∧((zoW[x.val]?.getD 0).toNat=0∨2 ^ ((zoW[x.val]?.getD 0).toNat-1)≤x.val)∧(zoW[x.val]?).isSome=true:=by decide
theorem zy1{l:Array UInt8}{x:Nat}{b:UInt8}(h:l.toList=zoW)(ho:zoW[x]? = some b):l[x]? = some b:=by rw[←Array.getElem?_toList,h];exact ho
theorem zpx(n:Nat)(w:Wl)(hn:n<18446744073709551616):zV TP 245 #[.int .u64 n] w fun r w'=>∃L:Nat,r=Ii L∧ze5 n L∧L≤64∧w'=w:=by
 refine A1 Tryz.func245 U U ?_
 refine Sr (Oa U (E2 0 2 U ?_))
 refine zS (fun F wx=>wx=w∧∃x t:Nat,F=[(0,.int .u64 x),(2,Ii t)]∧x<4294967296∧t≤32∧∀L,ze5 x L→ze5 n (L+t)) ?_ ?_
 ·refine Sr (Om U (Og (yg U U) U (E3 0 2 4 U ?_)))
  refine zR U (fun hT=>?_) (fun hF=>?_)
  ·have hge:4294967296≤n:=by have:=of_decide_eq_true hT;omega
   refine Sr (Om U ?_)
   refine Og (zct 32 U U (by omega) (by decide) (zky _ _)) U ?_
   refine Oa U (E1 0 U (za (Oa U (E2 0 2 U ?_))))
   exact⟨rfl,_,32,rfl,by omega,by omega,fun L hL=>hL.shift 32 (by omega)⟩
  have hlt:n<4294967296:=by have:=of_decide_eq_false hF;omega
  refine zad [0,2] U ?_
  refine zn ?_
  exact⟨rfl,n,0,rfl,hlt,by omega,fun L hL=>hL⟩
 rintro F wx⟨hwx,x,t,rfl,hx,ht,hL⟩
 subst wx
 refine zS (fun F wx'=>wx'=w∧∃x t:Nat,F=[(0,.int .u64 x),(2,Ii t)]∧x<65536∧t≤48∧∀L,ze5 x L→ze5 n (L+t)) ?_ ?_
 ·refine Sr (Om U (Og (yg U U) U (E3 0 2 8 U ?_)))
  refine zR U (fun hT=>?_) (fun hF=>?_)
  ·have hge:65536≤x:=by have:=of_decide_eq_true hT;omega
   refine Sr (Om U ?_)
   refine Og (zct 16 U U (by omega) (by decide) (zky _ _)) U ?_
   refine Oa U (E2 0 2 U (za (Om U ?_)))
   refine Og (yv (v':=Ii ((t+16:Nat):Int)) (zI U U (by omega)) (by congr 1)) U ?_
   refine Oa U (E2 0 2 U ?_)
   exact⟨rfl,_,_,rfl,by omega,by omega,fun L h=>by rw[show L+(t+16)=L+16+t by omega];exact hL _ (h.shift 16 (by omega))⟩
  have hlt:x<65536:=by have:=of_decide_eq_false hF;omega
  refine zad [0,2] U ?_
  refine zn ?_
  exact⟨rfl,x,t,rfl,hlt,by omega,hL⟩
 clear hL hx ht
 rintro F wx⟨hwx,x,t,rfl,hx,ht,hL⟩
 subst wx
 refine zS (fun F wx'=>wx'=w∧∃x t:Nat,F=[(0,.int .u64 x),(2,Ii t)]∧x<256∧t≤56∧∀L,ze5 x L→ze5 n (L+t)) ?_ ?_
 ·refine Sr (Om U (Og (yg U U) U (E3 0 2 14 U ?_)))
  refine zR U (fun hT=>?_) (fun hF=>?_)
  ·have hge:256≤x:=by have:=of_decide_eq_true hT;omega
   refine Sr (Om U ?_)
   refine Og (zct 8 U U (by omega) (by decide) (zky _ _)) U ?_
   refine Oa U (E2 0 2 U (za (Om U ?_)))
   refine Og (yv (v':=Ii ((t+8:Nat):Int)) (zI U U (by omega)) (by congr 1)) U ?_
   refine Oa U (E2 0 2 U ?_)
   exact⟨rfl,_,_,rfl,by omega,by omega,fun L h=>by rw[show L+(t+8)=L+8+t by omega];exact hL _ (h.shift 8 (by omega))⟩
  have hlt:x<256:=by have:=of_decide_eq_false hF;omega
  refine zad [0,2] U ?_
  refine zn ?_
  exact⟨rfl,x,t,rfl,hlt,by omega,hL⟩
 clear hL hx ht
 rintro F wx⟨hwx,x,t,rfl,hx,ht,hL⟩
 subst wx
 have ht1:=zyh ⟨x,hx⟩
 dsimp only at ht1
 obtain⟨h1,h2,h3⟩:=ht1
 generalize ho:zoW[x]? = o at h1 h2 h3
 cases o with
 |none=>cases h3
 |some b=>
  simp only[Option.getD_some]at h1 h2
  have hb:=UInt8.toNat_lt b
  have hlb:ze5 x b.toNat:=ztA h1 h2
  have hb8:b.toNat≤8:=(hlb 8).2 (by omega)
  refine Sr (Om U (Om U ?_))
  refine Og (yl zaX zbB U (show IntKind.u8.wrap (x:Int)=(x:Int) by rw[zdN];congr 1;omega)) U ?_
  refine Og (zcU st9 U U _ U (zy1 (by kernel_rfl) ho)) U ?_
  refine Og (yl zaw zaX U (ze1 (n:=b.toNat) (by omega))) U ?_
  refine Og (yv (v':=Ii ((t+b.toNat:Nat):Int)) (zI U U (by omega)) (by congr 1)) U ?_
  refine Oa U (E1 2 U (zk ?_))
  refine zy U U ?_
  exact⟨_,rfl,by rw[Nat.add_comm];exact hL _ hlb,by omega,rfl⟩
theorem zlS(n:Nat)(w:Wl)(hn:n<18446744073709551616):zV TP 219 #[.int .u64 n] w fun r w'=>r=Ii (yA n:Nat)∧w'=w:=by
 refine A1 Tryz.func219 U U ?_
 refine Sr (Oa U (E1 0 U (Sr (Om U ?_))))
 refine Oc zwi U U U (zpx n w hn) ?_
 rintro v4 w4⟨L,rfl,hL,h64,rfl⟩
 refine Og (zI U U (by omega)) U ?_
 refine Og (yI U U (by omega)) U ?_
 refine Og (zs9 U U (by omega) (by omega)) U ?_
 refine Oa U (E1 2 U (zk ?_))
 refine zy U U ?_
 refine⟨?_,U⟩
 rw[←zmA hn hL]
 congr 1
 omega
def be(n:Nat):Nat→List UInt8
 |0=>[]
 |k+1=>UInt8.ofNat (n / 256 ^ k % 256)::be n k
theorem zbP(n:Nat):∀k,(be n k).length=k
 |0=>rfl
 |k+1=>by simp[be,zbP n k]
theorem zA8(n i:Nat)(b:Nat)(w:Wl)(hn:n<18446744073709551616)(hi:i<8)(hb:zQ w b 109 [.int .u64 n]):zV TP 306 #[Ii i,Pt b] w fun r w'=>r=.int .u8 ((UInt8.ofNat (n / 256 ^ i % 256)).toNat:Nat)∧w'=w:=by
 refine A2 Tryz.func306 U U ?_
 refine Sr (Oa U (E2 0 1 U (Sr (Ol zbU U (hb.cell' U) (Om U ?_)))))
 refine Og (zdu U U (by omega)) U ?_
 refine Og (zct (8*i) U U (by omega) (show 8*i≤64 by omega) (zky _ _)) U ?_
 refine Og (yl zaX zbB U (zdN _)) U ?_
 refine Oa U (E1 3 U (zk ?_))
 refine zy U U ?_
 refine⟨?_,U⟩
 rw[Nat.pow_mul]
 simp
theorem zzL(n:Nat)(w:Wl):zV TP 220 #[.int .u64 n] w fun r w'=>∃b,r=.func (.func 306) #[] #[Pt b]∧w.heap.size≤b∧zQ w' b 109 [.int .u64 n]∧zl [] w w':=by
 refine A1 Tryz.func220 U U ?_
 refine Sr ?_
 refine Ob U U ?_
 intro b1 w1 e1 n1 c1 k1
 refine Oa U (E1 1 U (Sr (Og (zap U U) U (Oa U (E1 2 U (zk ?_))))))
 refine zy U U ?_
 exact⟨b1,rfl,by omega,k1,c1⟩
theorem zsR(n k:Nat)(v:Va)(len:Nat)(xs:List UInt8)(b:Nat)(w:Wl)(hn:n<18446744073709551616)(hk:k≤8)(hl:len≤1048576)(hv:zB w 5 1 v len (bv xs))(hb:zQ w b 109 [.int .u64 n]) :
 zV TP 218 #[v,Ii k,.func (.func 306) #[] #[Pt b]] w fun r w'=>zB w' 5 1 r (len+k) (bv (xs++be n k))∧zl (zv v) w w'∧(zv r=zv v∨∃b',zv r=[b']∧w.heap.size≤b'):=by
 refine A3 Tryz.func218 U U ?_
 refine Sr (Oa U (E3 0 1 2 U (zf (Sr (Om U ?_)))))
 refine Og (yI U U (by omega)) U ?_
 refine Oa U (E3 0 2 7 U (zq ?_))
 refine zT [0,2,7] (fun m F wx=>m≤k∧∃u:Va,F=[(0,u),(2,.func (.func 306) #[] #[Pt b]),(7,Ii ((m:Int)-1))]∧∃ys,zB wx 5 1 u (len+(k-m)) (bv ys)∧ys++be n m=xs++be n k∧zl (zv v) w wx∧(zv u=zv v∨∃b',zv u=[b']∧w.heap.size≤b')) (m:=k) ⟨Nat.le_refl _,v,rfl,xs,by simpa using hv,rfl,zl.refl _ _,.inl U⟩ ?_
 rintro m F wx⟨hm,u,rfl,ys,hu,hys,hc,ho⟩
 refine zf (Sr (Om U (Og (yg U U) U (E4 0 2 7 11 U ?_))))
 refine zR U (fun hT=>?_) (fun hF=>?_)
 ·refine zn ?_
  have hm1:1≤m:=by have:=of_decide_eq_true hT;omega
  obtain⟨i,rfl⟩:=Nat.exists_eq_add_of_le hm1
  have hbx:zQ wx b 109 [.int .u64 n]:=hb.chg hc (fun hm=>hv.apart hb rfl b hm (by simp))
  refine zf (zq ?_)
  rw[show (((1+i:Nat):Int)-1)=(i:Int) by omega]
  refine za (Om U (Om U (Om U ?_)))
  refine Oc zAv U U U (zA8 n i b wx hn (by omega) hbx) ?_
  rintro v17 w17⟨rfl,rfl⟩
  refine Oq (zA zbf U (vs:=[_]) U (css:=[_]) ⟨U,trivial⟩ U U (cs:=[_]) U U ?_)
  intro b18 w18 e18 n18 c18 k18
  refine Oq (yq zbf y7 U U (hu.chg0 c18) (zB.of_blk k18 U (by simp[maxLen]) (by simp[Value.oneCell'])) (by simp only[maxLen];omega) (by omega) U ?_)
  intro v19 w19 i19 c19 o19 z19
  refine Oa U (N3 0 2 7 U (zm (za (Om U ?_))))
  refine Og (yI U U (by omega)) U ?_
  refine Oa U (N3 0 2 7 U ?_)
  refine⟨i,by omega,by omega,v19,rfl,ys++[UInt8.ofNat (n / 256 ^ i % 256)],?_,?_,?_,?_⟩
  ·rw[yE]
   have e:len+(k-i)=len+(k-(1+i))+1:=by omega
   rw[e]
   exact i19
  ·rw[Nat.add_comm 1 i]at hys
   rw[←hys]
   simp[be]
  ·rcases ho with ho|⟨b',ho,hb'⟩
   ·exact(hc.trans c18).trans' c19 (fun x hx=>.inl (ho▸hx))
   exact(hc.trans c18).trans' c19 (fun x hx=>.inr (by rw[ho]at hx;simp at hx;omega))
  have:=hc.size
  have:=c18.size
  rcases o19 with h|⟨b',h,hb'⟩
  ·rw[h];exact ho
  exact .inr ⟨b',h,by omega⟩
 refine zJ ?_
 repeat first|refine te ?_|refine bo rfl ?_
 refine zt _ ?_
 have hm0:m=0:=by have:=of_decide_eq_false hF;omega
 subst hm0
 refine Sr (Om U (Oa U (E1 6 U (zk ?_))))
 refine zy U U ?_
 rw[be,List.append_nil]at hys
 rw[←hys]
 exact⟨hu,hc,ho⟩
def rdN(l:List UInt8):Nat:=l.foldl (fun n b=>n*256+b.toNat) 0
theorem zum(l:List UInt8)(b:UInt8):rdN (l++[b])=rdN l*256+b.toNat:=by simp[rdN]
theorem zvc(l:List UInt8):∀m,l.foldl (fun n b=>n*256+b.toNat) m=m*256 ^ l.length+rdN l:=by
 induction l with
 |nil=>intro m;simp[rdN]
 |cons b l ih=>
  intro m
  have e:rdN (b::l)=(0*256+b.toNat)*256 ^ l.length+rdN l:=by rw[rdN,List.foldl_cons,ih]
  rw[List.foldl_cons,ih,e,List.length_cons,Nat.pow_succ,Nat.add_mul]
  have:m*(256 ^ l.length*256)=m*256*256 ^ l.length:=by rw[Nat.mul_assoc,Nat.mul_comm (256 ^ l.length)]
  rw[this,Nat.zero_mul,Nat.zero_add]
  omega
theorem zpe(b:UInt8)(l:List UInt8):rdN (b::l)=b.toNat*256 ^ l.length+rdN l:=by
 rw[rdN,List.foldl_cons,zvc,Nat.zero_mul,Nat.zero_add]
theorem zqq:∀l:List UInt8,rdN l<256 ^ l.length
 |[]=>by simp[rdN]
 |b::l=>by
  have ih:=zqq l
  rw[zpe,List.length_cons,Nat.pow_succ]
  have:=UInt8.toNat_lt b
  have h2:b.toNat*256 ^ l.length≤255*256 ^ l.length:=Nat.mul_le_mul_right _ (by omega)
  omega
theorem zkG(n:Nat):∀k,rdN (be n k)=n % 256 ^ k
 |0=>by simp[be,rdN,Nat.mod_one]
 |k+1=>by
  have e:rdN (be n (k+1))=(n / 256 ^ k % 256)*256 ^ k+rdN (be n k):=by
   show rdN (UInt8.ofNat _::be n k)=_
   rw[zpe,zbP]
   congr 2
   simp
  rw[e,zkG n k,Nat.pow_succ,Nat.mod_mul,Nat.mul_comm,Nat.add_comm]
theorem zgZ{n:Nat}(hn:n<18446744073709551616):rdN (be n (yA n))=n:=by
 rw[zkG]
 exact Nat.mod_eq_of_lt ((zee hn).1 (Nat.le_refl _))
def zcR(n:Nat):List UInt8:=UInt8.ofNat (yA n)::be n (yA n)
theorem zdX(n:Nat):(zcR n).length=yA n+1:=by simp[zcR,zbP]
theorem zl8(n:Nat)(w:Wl)(hn:n<18446744073709551616):zV TP 166 #[.int .u64 n] w fun r w'=>zB w' 5 1 r (zcR n).length (bv (zcR n))∧(∀b∈zv r,w.heap.size≤b)∧zl [] w w':=by
 have h8:=zb8 n
 refine A1 Tryz.func166 U U ?_
 refine Sr (Oa U (E1 0 U (Sr (Om U ?_))))
 refine Oc zpl U U U (zlS n w hn) ?_
 rintro v4 w4⟨rfl,rfl⟩
 refine Og (yl zaX zaw U (show IntKind.u8.wrap ((yA n:Nat):Int)=(((UInt8.ofNat (yA n)).toNat:Nat):Int) by rw[zdN];simp)) U ?_
 refine Oq (zA zbf U (vs:=[_]) U (css:=[_]) ⟨U,trivial⟩ U U (cs:=[_]) U U ?_)
 intro b6 w6 e6 n6 c6 k6
 refine Om U ?_
 refine Oc zpl U U U (zlS n w6 hn) ?_
 rintro v8 w8⟨rfl,rfl⟩
 refine Om U ?_
 refine Oc zw1 U U U (zzL n _) ?_
 rintro v10 w10⟨b10,rfl,h10,k10,c10⟩
 refine Oc zwE U U U (zsR n (yA n) _ 1 [UInt8.ofNat (yA n)] b10 _ hn h8 (by omega) (zB.of_blk (k6.chg0 c10) U (by simp[maxLen]) (zcP _)) k10) ?_
 rintro v11 w11⟨i11,c11,o11⟩
 refine Oa U (E1 2 U (zk ?_))
 refine zy U U ?_
 have hs:=c6.size
 have hs10:=c10.size
 refine⟨?_,?_,?_⟩
 ·rw[zdX,Nat.add_comm]
  exact i11
 ·intro b hb
  rcases o11 with h|⟨b',h,hb'⟩
  ·rw[h]at hb;simp[zv]at hb;omega
  rw[h]at hb;simp at hb;omega
 exact(c6.trans c10).own c11 (by intro b hb;simp[zv]at hb;omega)
def zcZ(s:By):List UInt8:=zcR s.size++s.data.toList
theorem zxv(s:By)(w:Wl)(hs:s.size≤1048576):zV TP 203 #[.string s] w fun r w'=>zB w' 5 1 r (zcZ s).length (bv (zcZ s))∧(∀b∈zv r,w.heap.size≤b)∧zl [] w w':=by
 have h8:=zb8 s.size
 have hl:=zdX s.size
 refine A1 Tryz.func203 U U ?_
 refine Sr (Oa U (E1 0 U (Sr (Om U (Og (yW st9 U) U ?_)))))
 refine Og (yl zbB zaw U (zgt (n:=s.size) (by omega))) U ?_
 refine Oc zwJ U U U (zl8 s.size w (by omega)) ?_
 rintro v6 w6⟨i6,o6,c6⟩
 refine Om U ?_
 refine Oq (zj4 zbf st9 U U i6 (by simp only[maxLen];omega) (by omega) U ?_)
 intro v8 w8 i8 c8 o8 z8
 refine Oa U (E1 2 U (zk ?_))
 refine zy U U ?_
 have hs6:=c6.size
 refine⟨?_,?_,?_⟩
 ·rw[zcZ,yE,List.length_append]
  have:s.data.toList.length=s.size:=by simp
  rw[this]
  exact i8
 ·intro b hb
  rcases o8 with h|⟨b',h,hb'⟩
  ·exact o6 b (h▸hb)
  rw[h]at hb;simp at hb;omega
 exact c6.own c8 o6
theorem zqo(n k:Nat)(w:Wl)(hn:n<18446744073709551616)(hk:1≤k∧k≤8)(hf:n<256 ^ k):zV TP 281 #[.int .u64 n,Ii k] w fun r w'=>∃v,r=.tuple #[v,Ii 0]∧zB w' 5 1 v k (bv (be n k))∧(∀b∈zv v,w.heap.size≤b)∧zl [] w w':=by
 have hle:yA n≤k:=(zee hn).2 hf
 refine A2 Tryz.func281 U U ?_
 refine Sr (Oa U (Oa U (E2 0 1 U (zf (zq (Sr (Om U ?_)))))))
 refine Og (vf (zz U U) (df (by omega))) U ?_
 refine Om U (Oj U U ?_)
 refine Oy U U (vf (zU U U) (df (by omega))) ?_
 refine Of U (Oa U (E3 0 1 6 U (zb U (Sr (Om U ?_)))))
 refine Oc zpl U U U (zlS n w hn) ?_
 rintro v15 w15⟨rfl,rfl⟩
 refine Om U ?_
 refine Og (vf (zU U U) (df (by omega))) U ?_
 refine Oa U (E3 0 1 13 U (zb U (zW (zm (Sr (Om U (Om U ?_)))))))
 refine Oc zw1 U U U (zzL n _) ?_
 rintro v20 w20⟨b20,rfl,h20,k20,c20⟩
 refine Oc zwE U U U (zsR n k (.slice none 0 0) 0 [] b20 _ hn hk.2 (by omega) (zB.nil _ _ _) k20) ?_
 rintro v21 w21⟨i21,c21,o21⟩
 refine Oa U (Oa U (E2 4 5 U (zk ?_)))
 refine zcw U U U ?_
 have hs:=c20.size
 refine⟨_,rfl,by rw[Nat.zero_add]at i21;exact i21,?_,c20.transS c21⟩
 intro b hb
 rcases o21 with h|⟨b',h,hb'⟩
 ·rw[h]at hb;simp[zv]at hb
 rw[h]at hb;simp at hb;omega
theorem zny(v:Va)(l:List UInt8)(w:Wl)(hv:zbh w 5 1 v l.length (bv l))(hl:l.length≤8):zV TP 296 #[v] w fun r w'=>r=.int .u64 (rdN l:Nat)∧w'=w:=by
 obtain⟨pv,cv,rfl,hcv⟩:=hv.val
 refine A1 Tryz.func296 U U ?_
 refine Sr (Oa U (E2 0 2 U (zf (Sr (Om U (On zxf U (Om U (E4 2 5 6 7 U (zq ?_)))))))))
 refine zT [2,5,6,7] (fun m F wx=>wx=w∧∃j:Nat,m=l.length-j∧j≤l.length∧F=[(2,.int .u64 (rdN (l.take j):Nat)),(5,.slice pv l.length cv),(6,Ii l.length),(7,Ii j)]) (m:=l.length-0) ⟨U,0,U,Nat.zero_le _,U⟩ ?_
 rintro m F wx⟨rfl,j,rfl,hj,rfl⟩
 refine Sr (Og (zz U U) U (E5 2 5 6 7 8 U (zf ?_)))
 refine zR U (fun hT=>?_) (fun hF=>?_)
 ·refine zn ?_
  have hlt:j<l.length:=by have:=of_decide_eq_true hT;omega
  have hx:l[j]? = some l[j]:=by simp[hlt]
  generalize l[j]=x at hx
  obtain⟨b,off,cap,hv',hc⟩:=hv.at1 (zpy hx)
  cases hv'
  have hx8:=UInt8.toNat_lt x
  have htk:l.take (j+1)=l.take j++[x]:=by rw[List.take_add_one,hx];rfl
  have hr:=zqq (l.take j)
  rw[List.length_take,Nat.min_eq_left hj]at hr
  have h8:256 ^ j≤256 ^ 7:=Nat.pow_le_pow_right (by omega) (by omega)
  simp only[Nat.reducePow]at h8
  refine zf (zq (Sr ?_))
  refine Og (zi zxf sz5 U U _ U hlt) U ?_
  refine Ol ag5 U hc (Oa U (E5 2 4 5 6 7 U (za (Om U ?_))))
  refine Og (zep 8 U U (by omega) (by decide) (show IntKind.u64.wrap (((rdN (l.take j):Nat):Int)*2 ^ 8)=((rdN (l.take j)*256:Nat):Int) by rw[show ((2:Int) ^ 8)=256 by rfl,zhO (by omega) (by omega)];omega)) U ?_
  refine Om U ?_
  refine Og (yl zbB zaX U (zgt (n:=x.toNat) (by omega))) U ?_
  refine Og (zuG U U ⟨8,by omega,by omega⟩ (by omega)) U ?_
  refine Oa U (N4 2 5 6 7 U (zm (za ?_)))
  refine Og (zI U U (by omega)) U ?_
  refine Om U (N4 2 5 6 7 U ?_)
  exact⟨l.length-(j+1),by omega,rfl,j+1,rfl,by omega,by rw[htk,zum];rfl⟩
 refine zJ ?_
 repeat first|refine te ?_|refine bo rfl ?_
 refine zt _ ?_
 have he:j=l.length:=by have:=of_decide_eq_false hF;omega
 subst he
 refine Sr (Om U (Oa U (E1 2 U (zk ?_))))
 refine zy U U ?_
 rw[List.take_length]
 exact⟨U,U⟩
theorem ziF(v:Va)(l:List UInt8)(w:Wl)(hv:zbh w 5 1 v l.length (bv l))(hl:1≤l.length∧l.length≤8):zV TP 251 #[v] w fun r w'=>r=.tuple #[.int .u64 (rdN l:Nat),Ii 0]∧w'=w:=by
 obtain⟨pv,cv,rfl,hcv⟩:=id hv.val
 refine A1 Tryz.func251 U U ?_
 refine Sr (Oa U (Oa U (E1 0 U (zf (Sr (Om U (On y7 U ?_)))))))
 refine Og (vf (zz U U) (df (by omega))) U ?_
 refine Om U (Oj U U (Oy U U (zX y7 U) ?_))
 refine Oy U U (vf (zU U U) (df (by omega))) ?_
 refine Of U (E2 0 11 U (zb U (zn (Sr (Om U ?_)))))
 refine Oc zws U U U (zny _ l w hv hl.2) ?_
 rintro v13 w13⟨rfl,rfl⟩
 refine Oa U (Oa U (E2 2 3 U (zk ?_)))
 refine zcw U U U ?_
 exact⟨U,U⟩
theorem zyx{Q:Exit→Fr→Wl→Prop}{F:Fr}{w:Wl}(h:Q .ret F w):zoo Q .ret F w:=h
theorem zlm(v:Va)(n:Nat)(rest:List UInt8)(w:Wl)(hn:n<18446744073709551616)(hr:rest.length≤4194304)(hv:zbh w 5 1 v (zcR n++rest).length (bv (zcR n++rest))) :
 zV TP 207 #[v] w fun r w'=>r=.tuple #[.int .u64 n,Ii (zcR n).length,Ii 0]∧zl [] w w':=by
 have h8:=zb8 n
 have hlen:(zcR n++rest).length=yA n+1+rest.length:=by rw[List.length_append,zdX]
 have hnl:=zdX n
 have h0:(zcR n++rest)[0]? = some (UInt8.ofNat (yA n)):=rfl
 have hbyte:(UInt8.ofNat (yA n)).toNat=yA n:=by simp;omega
 obtain⟨b,off,cap,rfl,hc0⟩:=hv.at1 (zpy h0)
 rw[hbyte]at hc0
 have hcap:(zcR n++rest).length≤cap:=by obtain⟨_,_,he,hc⟩:=hv.val;cases he;exact hc
 refine A1 Tryz.func207 U U ?_
 refine Sr (Oa U (Oa U (Oa U (E1 0 U ?_))))
 refine zhh ?_
 refine Sr (Om U ?_)
 refine Og (zN zBS zv8 U (vs:=[_]) U (css:=[_]) ⟨U,trivial⟩ U U (cs:=[_,_]) U) U ?_
 refine Oq (zH zv8 U U ?_)
 intro b5 w5 e5 n5 c5 k5
 refine Oq (zu zAC U U U U k5 (by simp) (by intro u hu;simp at hu;rcases hu with rfl|rfl<;>rfl) ?_)
 intro wA nA cA kA
 refine E2 0 5 U ?_
 have hcA:zl [] w wA:=c5.own cA (by intro y hy;simp at hy;omega)
 have hvA:=hv.chg0 hcA
 have hc0A:=(hvA.cells) 0 _ (zpy h0)
 rw[hbyte]at hc0A
 refine zf (Sr (Om U (On y7 U ?_)))
 refine Og (vf (zx U U) (df (by omega))) U ?_
 refine Om U (Oj U U ?_)
 refine Oy U U (zi y7 sz5 U U 0 U (by omega)) ?_
 refine Oy U U (zg ag5 U hc0A) ?_
 refine Oy U U (vf (zU U U) (df (by omega))) ?_
 refine Of U (Om U (Oj U U ?_))
 refine Oy U U (zi y7 sz5 U U 0 U (by omega)) ?_
 refine Oy U U (zg ag5 U hc0A) ?_
 refine Oy U U (yl zaw zaX U (ze1 (n:=yA n) (by omega))) ?_
 refine Oj U U (Oy U U (zX y7 U) ?_)
 refine Oy U U (yI U U (by omega)) ?_
 refine Oy U U (vf (zU U U) (df (by omega))) ?_
 refine Of U (E3 0 5 26 U (zb U (zn (Sr (Om U ?_)))))
 refine Og (zi y7 sz5 U U 0 U (by omega)) U ?_
 refine Ol ag5 U hc0A ?_
 refine Og (yl zaw zaX U (ze1 (n:=yA n) (by omega))) U ?_
 refine Og (yv (v':=Ii ((1+yA n:Nat):Int)) (zI U U (by omega)) (by congr 1)) U ?_
 refine Od zi3 U ?_
 refine Oq (zu sz3 U U U U kA (by simp[yX]) (by intro u hu;simp at hu;subst hu;rfl) ?_)
 intro wB nB cB kB
 refine E2 0 5 U ?_
 have hcB:zl [] w wB:=hcA.own cB (by intro y hy;simp at hy;omega)
 refine Sr (Om U (Od zi3 U (Ol ag3 U (kB.cell' U) (Od zi3 U (Ol ag3 U (kB.cell' U) ?_)))))
 refine Og (zfg y7 sz5 U U U U _ _ _ U U U (show 1≤1+yA n by omega) (Nat.le_refl _) (by omega)) U ?_
 refine Od zp5 U ?_
 refine Oq (zu zBr U U U U kB (by simp[yX]) (by intro u hu;simp at hu;subst hu;rfl) ?_)
 intro wC nC cC kC
 refine E2 0 5 U ?_
 have hcC:zl [] w wC:=hcB.own cC (by intro y hy;simp at hy;omega)
 have hcut:=(hv.chg0 hcC).cut (l:=1) (h:=1+yA n) (m:=1+yA n) (by omega) (Nat.le_refl _) (by omega) (by omega)
 have ecut:((bv (zcR n++rest)).drop (1*1)).take ((1+yA n-1)*1)=bv (be n (yA n)):=by
  simp only[Nat.mul_one]
  rw[zcR,List.cons_append,bv,List.map_cons,List.drop_one,List.tail_cons,List.map_append,show 1+yA n-1=yA n by omega]
  exact List.take_left' (by simp[zbP])
 rw[ecut,show 1+yA n-1=(be n (yA n)).length by rw[zbP];omega]at hcut
 refine zf (Sr (Od zp5 U (Ol zBp U (kC.cell' U) ?_)))
 refine Oc zws U U U (zny _ (be n (yA n)) _ hcut (by rw[zbP];exact h8)) ?_
 rintro v42 w42⟨rfl,rfl⟩
 refine Oa U (E3 0 2 5 U (zf ?_))
 rw[zgZ hn]
 have hc0C:=((hv.chg0 hcC).cells) 0 _ (zpy h0)
 rw[hbyte]at hc0C
 have hatC:=kC.cell' (i:=1) rfl
 clear hcut ecut hc0A hvA
 refine zK (fun wz=>wz.cell? ⟨b,off+0*1,none⟩=some (.int .u8 (yA n:Nat))∧wz.cell? ⟨b5,1,none⟩=some (Ii (1+yA n:Nat))∧zl [] w wz) mix (by kernel_rfl) ⟨hc0C,hatC,hcC.trans (zl.drew [] _)⟩ ?_
 refine Tm U ?_
 refine Tc zpl U U U (zlS n _ hn) ?_
 rintro v44 w44⟨rfl,h44⟩
 subst h44
 refine⟨.inl ⟨hc0C,hatC,hcC.trans (zl.drew [] _)⟩,?_⟩
 refine Tm U ?_
 refine Tp (fun _=>zi y7 sz5 U U 0 U (by omega)) U ?_
 refine Tr (fun wz hz=>zg ag5 U hz.1) U ?_
 refine Tp (fun _=>yl zaw zaX U (ze1 (n:=yA n) (by omega))) U ?_
 refine Tp (fun _=>vf (zM U U) (by simp)) U ?_
 refine D3 2 5 49 U (zb U (zn (zf (zf ?_))))
 refine zK (fun wz=>zl [] w wz∧wz.cell? ⟨b5,1,none⟩=some (Ii (1+yA n:Nat))) mix (by kernel_rfl) ⟨(hcC.trans (zl.drew [] _)).trans (zl.drew [] _),hatC⟩ ?_
 refine Tm U (Td zi3 U (Tr (fun wz hz=>zg ag3 U hz.2) U (Ta U (Ta U (Ta U (D3 2 3 4 U (zk ?_)))))))
 refine zbN ?_
 refine zyx ?_
 refine zgN U U U U ?_
 rw[hnl,Nat.add_comm]
 exact⟨U,(hcC.trans (zl.drew [] _)).trans (zl.drew [] _)⟩
theorem zod(v:Va)(s:By)(rest:List UInt8)(w:Wl)(hs:s.size≤1048576)(hr:rest.length≤1048576)(hv:zbh w 5 1 v (zcZ s++rest).length (bv (zcZ s++rest))) :
 zV TP 151 #[v] w fun r w'=>r=.tuple #[.string s,Ii (zcZ s).length,Ii 0]∧zl [] w w':=by
 have h8:=zb8 s.size
 have hnl:=zdX s.size
 have hsz:s.data.toList.length=s.size:=by simp
 have htl:(zcZ s).length=(zcR s.size).length+s.size:=by rw[zcZ,List.length_append,hsz]
 have hv':=hv
 rw[zcZ,List.append_assoc]at hv'
 have hlen:(zcZ s++rest).length=(zcR s.size).length+s.size+rest.length:=by rw[List.length_append,htl]
 obtain⟨pv,cap,rfl,hcap⟩:=hv.val
 refine A1 Tryz.func151 U U ?_
 refine Sr (Oa U (Oa U (Oa U (E1 0 U (Sr (Om U ?_))))))
 refine Oc zBm U U U (zlm _ s.size (s.data.toList++rest) w (by omega) (by rw[List.length_append];omega) hv') ?_
 rintro v11 w11⟨rfl,c11⟩
 refine Om U (Oe U U (Oe U U (Oe U U (Oa U (Oa U (Oa U (E4 0 5 6 7 U (zf (Sr (Om U ?_))))))))))
 refine Og (vf (zM U U) (zcA (by omega))) U ?_
 refine Om U (Oj U U (Oj U U (Oy U U (zX y7 U) (Oj U U ?_))))
 refine Oy U U (yv (v':=Ii ((s.size+rest.length:Nat):Int)) (yI U U (by omega)) (by congr 1<;>omega)) ?_
 refine Oy U U (yl zbB zaw U (zgt (n:=s.size+rest.length) (by omega))) ?_
 refine Oy U U (vf (zU U U) (df (by omega))) ?_
 refine Of U (E4 0 5 6 25 U (zb U (zn (Sr (Om U (Om U ?_))))))
 refine Og (yl zaw zbB U (ze1 (n:=s.size) (by omega))) U ?_
 refine Og (yv (v':=Ii (((zcR s.size).length+s.size:Nat):Int)) (zI U U (by omega)) (by congr 1)) U ?_
 refine Oa U (E3 0 6 8 U (zf ?_))
 have hcut:=(hv.chg0 c11).cut (l:=(zcR s.size).length) (h:=(zcR s.size).length+s.size) (m:=(zcR s.size).length+s.size) (by omega) (Nat.le_refl _) (by omega) (by omega)
 have ecut:((bv (zcZ s++rest)).drop ((zcR s.size).length*1)).take (((zcR s.size).length+s.size-(zcR s.size).length)*1)=bv s.data.toList:=by
  simp only[Nat.mul_one]
  rw[zcZ,List.append_assoc,yE,List.drop_left' (zdg _),Nat.add_sub_cancel_left,yE]
  exact List.take_left' (by rw[zdg,hsz])
 rw[ecut]at hcut
 refine za (Om U (Om U (Om U (Om U ?_))))
 refine Og (zfg y7 sz5 U U U U _ _ _ U U U (by omega) (Nat.le_refl _) (by omega)) U ?_
 refine Og (zgm (l:=s.data.toList) y7 zaX st9 U hcut) U (Om U (Oa U (Oa U (Oa U (E3 2 3 4 U (zk ?_))))))
 refine zgN U U U U ?_
 rw[htl]
 exact⟨U,c11⟩
end Go.Wk
