/- joined texts -/
import Derived.Test.YtkfpmjjcogigfaaGreatDoorW9
set_option linter.all false
namespace Go.Wk
open Go.Proofs
set_option linter.unusedSectionVars false
variable [Lw]
set_option maxRecDepth 10000
theorem zw.notD{w:Wl}{e k n D:Nat}{v:Va}{xs:List Va}{x:Option (List Deferred)}(h:zw w e k v n xs)(hD:w.heap[D]? = some (.deferred x)):∀b∈zq v,b∉[D]:=by
 rcases h with⟨rfl,_,_⟩|⟨b,off,cap,cc,rfl,hs⟩
 ·simp[zq]
 intro y hy hm
 simp[zq]at hy
 simp at hm
 have:=hs.blk
 rw[←hm,hy,show w.heap[b]? = _ from this]at hD
 cases hD
theorem Pg.chgC{w w':Wl}{p b:Nat}{e:TypeId}{x:List Va}{ls:LE}(h:Pg w p ls)(hb:zK w b e x)(h1:Nat.beq 178 e=false)(h2:Nat.beq 176 e=false)(h3:Nat.beq 215 e=false)(hc:zl [b] w w'):Pg w' p ls:=
 let ⟨v,g1,g2⟩:=h; ⟨v,g1.chg hc (by have:=g1.ne hb h1;simpa using this),g2.chg1 hb h2 h3 hc⟩
theorem Pg.chgSl{w w':Wl}{p:Nat}{ls:LE}(h:Pg w p ls){o:Va}{e:TypeId}{kk n:Nat}{ys:List Va}(hs:zw w e kk o n ys)(h1:Nat.beq 178 e=false)(h2:Nat.beq 176 e=false)(h3:Nat.beq 215 e=false)(hc:zl (zq o) w w'):Pg w' p ls:=by
 rcases hs with⟨rfl,_,_⟩|⟨b,off,cap,cc,rfl,hs⟩
 ·exact h.chg0 hc
 exact h.chgC hs.blk h1 h2 h3 hc
theorem PgL.all{w w':Wl}(hp:∀p ls,Pg w p ls→Pg w' p ls):∀{ps:List Nat} {ms:List (LE)},PgL w ps ms→PgL w' ps ms
 |[],[],_=>trivial
 |_::_,_::_,h=>⟨hp _ _ h.1,PgL.all hp h.2⟩
theorem PgL.lt{w:Wl}:∀{ps:List Nat} {ms:List (LE)},PgL w ps ms→∀p∈ps,p<w.heap.size
 |[],[],_,p,hp=>by cases hp
 |_::_,_::_,h,p,hp=>by
  rcases List.mem_cons.1 hp with rfl|hp
  ·exact h.1.lt
  exact h.2.lt p hp
structure zcs(w0 wx:Wl)(tb pm:Nat)(c k u o:Va)(ys:List (Va×Nat))(main:LE)(subs:List (LE)):Prop where
 blk:zK wx tb 123 [Pt pm,c,k,u,o]
 pg:Pg wx pm main
 sl:yh wx 126 2 scs o ys
 pgs:PgL wx (ys.map (·.2)) subs
 nd:(pm::ys.map (·.2)).Nodup
 fr:∀p∈pm::ys.map (·.2),w0.heap.size≤p
 fo:∀b∈zq o,w0.heap.size≤b
 ft:w0.heap.size≤tb
theorem zcs.chg0{w0 w w':Wl}{tb pm:Nat}{c k u o:Va}{ys:List (Va×Nat)}{main:LE}{subs:List (LE)}(h:zcs w0 w tb pm c k u o ys main subs)(hc:zl [] w w'):zcs w0 w' tb pm c k u o ys main subs:=
 ⟨h.blk.chg0 hc,h.pg.chg0 hc,yh.chg0 h.sl hc,h.pgs.chg0 hc,h.nd,h.fr,h.fo,h.ft⟩
theorem zcs.more{w0 w w1 w2:Wl}{tb pm:Nat}{c k u o o':Va}{ys:List (Va×Nat)}{main m:LE}{subs:List (LE)}(h:zcs w0 w tb pm c k u o ys main subs){a:Va}{q:Nat}(hq:Pg w q m)(hqn:q∉pm::ys.map (·.2))(hqf:w0.heap.size≤q)
 (hc:zl (zq o) w w1) (ho:zw w1 126 2 o' (ys.length+1) (fl scs ys++scs (a,q))) (hfo:∀b∈zq o',w0.heap.size≤b) (hc2:zl [tb] w1 w2) (hb:zK w2 tb 123 [Pt pm,c,k,u,o']) :
 zcs w0 w2 tb pm c k u o' (ys++[(a,q)]) main (subs++[m]):=by
 have htb:zK w1 tb 123 [Pt pm,c,k,u,o]:=h.blk.chg hc (fun hm=>zw.apart h.sl h.blk rfl tb hm (by simp))
 have hP:∀p ls,Pg w p ls→Pg w2 p ls:=fun p ls hp=>(hp.chgSl h.sl rfl rfl rfl hc).chgC htb rfl rfl rfl hc2
 refine⟨hb,hP _ _ h.pg,?_,?_,?_,?_,hfo,h.ft⟩
 ·refine zO.push (n:=ys.length+1) ?_ U U
  exact zw.chg ho hc2 (zw.apart ho htb U)
 ·rw[List.map_append]
  exact PgL.snoc (hP _ _ hq) (PgL.all hP h.pgs)
 ·rw[List.map_append]
  show ((pm::ys.map (·.2))++[q]).Nodup
  rw[List.nodup_append]
  refine⟨h.nd,by simp,fun x hx y hy=>?_⟩
  simp at hy
  subst hy
  exact fun e=>hqn (e▸hx)
 intro p hp
 rw[List.map_append]at hp
 rcases List.mem_cons.1 hp with rfl|hp
 ·exact h.fr _ (by simp)
 rcases List.mem_append.1 hp with hp|hp
 ·exact h.fr p (List.mem_cons_of_mem _ hp)
 simp at hp;subst hp;exact hqf
theorem ztv(w:Wl):zL TP 32 #[.pointer none] w fun r w'=>r=.pointer none∧w'=w:=by
 refine A1 Tryz.func32 U U ?_
 refine Sr (Oa U (E1 0 U (zd (Sr (Om U (Og (zan zkN U U) U (E2 0 7 U (zf U (Sr (Oa U (E1 2 U (zh ?_))))))))))))
 repeat first|refine tr ?_|refine br ?_
 refine zx U U ?_
 exact⟨U,U⟩
set_option maxHeartbeats 1000000 in
theorem zsR(t:Nat)(own:List Nat)(s:yx)(rows:LV)(w:Wl)(h:yw w t own s rows) :
 zL TP 32 #[Pt t] w fun r w'=>∃t' own',r=Pt t'∧yw w' t' own' s rows∧w.heap.size≤t'∧(∀p∈own',w.heap.size≤p)∧zl [] w w' ∧
  ∀pm c k u sv,zK w t 123 [Pt pm,c,k,u,sv]→∃pm' sv',zK w' t' 123 [Pt pm',c,k,u,sv']:=by
 have hT:=h
 obtain⟨pm,c,k,u,sv,xs,main,subs,rfl,hm,ht⟩:=h
 obtain⟨l1,l2⟩:=hm.lens
 obtain⟨psv,csv,rfl,hcsv⟩:=yh.val hm.sl
 have hn3:=(z6 ht.ok.right).2.1
 have hn4:(zQ s).length≤4:=by simp[zQ];omega
 refine A1 Tryz.func32 U U ?_
 refine Sr (Oa U (E1 0 U (zd (Sr (Om U (Og (zan zkN U U) U (E2 0 7 U (zb U (zk (zd ?_))))))))))
 have hd:zl [] w w.drew:=zl.drew [] _
 refine zN (fun wz=>zl [] w wz) mix (by kernel_rfl) hd ?_
 refine Tm U (Tp (fun _=>zp U) U (Td zeQ U (Tr (fun wz hz=>zj zfc U ((hm.blk.chg0 hz).cell' U)) U ?_)))
 refine Tc zys U U U (f19 pm main _ (hm.pg.chg0 hd) (by have:=ht.le;omega)) ?_
 rintro v12 w12⟨q,rfl,hqf,hq,c12⟩
 refine⟨.inl (hd.trans c12),?_⟩
 refine Tm U (Tp (fun _=>zp U) U (Td zcQ U (Tr (fun wz hz=>zg zbQ zbL U U (hm.chg0 hz).scells) U ?_)))
 refine Tp (fun _=>zC zrq zqP U (vs:=[_,_]) U (css:=[_,_]) ⟨U,U,trivial⟩ U U (cs:=[_,_,_,_,_]) U) U ?_
 refine za4 U (gn U) (ziv U U U ?_)
 intro b18 w18 e18 n18 c18 k18
 refine⟨.inl ((hd.trans c12).trans c18),?_⟩
 refine Ta U (D2 0 3 U ?_)
 have k18:zK w18 b18 123 [Pt q,c,k,u,.slice none 0 0]:=k18
 have hcA:=(hd.trans c12).trans c18
 have hsd:=hd.size
 have hs12:=c12.size
 have hpre:zcs w w18 b18 q c k u (.slice none 0 0) [] main []:=⟨k18,hq.chg0 c18,zw.nil _ _ _,trivial,by simp,by simp;omega,by simp[zq],by omega⟩
 have hm1:=hm.chg0 hcA
 refine zd (Sr (Om U (Og (zp U) U (Od zcT U (Ol zhw U (hm1.blk.cell' U) (On zey U (Om U (E4 3 22 23 24 U (zu ?_)))))))))
 refine zX [3,22,23,24] (fun m F wx=>∃(j:Nat) (o:Va) (ys:List (Va×Nat)),m=xs.length-j∧j≤xs.length∧F=[(3,Pt b18),(22,.slice psv xs.length csv),(23,Ii xs.length),(24,Ii j)]∧zcs w wx b18 q c k u o ys main (subs.take j)∧ys.map (·.1)=(xs.take j).map (·.1)∧zl [] w wx) (m:=xs.length-0) ⟨0,_,[],rfl,Nat.zero_le _,rfl,hpre,by simp,hcA⟩ ?_
 rintro m F wx⟨j,o,ys,rfl,hj,rfl,hp,hys,hcx⟩
 have hx:=hm.chg0 hcx
 refine Sr (Og (zF U U) U (E5 3 22 23 24 25 U (zd ?_)))
 refine zH U (fun hT'=>?_) (fun hF=>?_)
 ·refine zk ?_
  have hlt:j<xs.length:=by have:=of_decide_eq_true hT';omega
  obtain⟨a,p,st,m,b,off,cap,e1,e2,e3,ha,hpg,hsv,hcell,hqm⟩:=hx.at (j:=j) (by omega)
  cases hsv
  have hst:st∈zQ s:=List.mem_of_getElem? e2
  have hsub:=zaN.st ht.subs e2 e3
  obtain⟨pa,ca,rfl,_⟩:=id (zO.val ha)
  have hyl:ys.length=j:=by have:=congrArg List.length hys;simpa[Nat.min_eq_left hj] using this
  refine zd (zu (Sr ?_))
  refine Og (zm zey zcl U U _ U hlt) U ?_
  refine Og (zg zgn zcl U U hcell) U ?_
  refine Oq (zD zi5 U U ?_)
  intro b5 w5 e5 n5 c5 k5
  refine Oq (zv zcl U U U U k5 (by simp) (by intro u hu;simp at hu;rcases hu with rfl|rfl;exact zO.one1 ha;rfl) ?_)
  intro wA nA cA kA
  refine E5 3 5 22 23 24 U ?_
  have kA:zK wA b5 126 [.slice pa st.length ca,Pt p]:=kA
  have hcB:zl [] wx wA:=c5.own cA (by intro y hy;simp at hy;omega)
  have hpA:=hp.chg0 hcB
  have hdA:zl [] wA wA.drew:=zl.drew [] _
  have hbo:b18∉zq o:=fun hm=>zw.apart hpA.sl hpA.blk rfl b18 hm (by simp)
  refine zN (fun wz=>zl [] wA wz) mix (by kernel_rfl) hdA ?_
  refine Tm U (Tm U (Tp (fun _=>zp U) U (Td zcT U (Tr (fun wz hz=>zj zhw U ((hpA.blk.chg0 hz).cell' U)) U (Td zn6 U (Tr (fun wz hz=>zj zfh U ((kA.chg0 hz).cell' U)) U (Td zhY U (Tr (fun wz hz=>zj zfc U ((kA.chg0 hz).cell' U)) U ?_))))))))
  refine Tc zys U U U (f19 p m _ ((hpg.chg0 hcB).chg0 hdA) (by have:=hsub.le ht.ok;omega)) ?_
  rintro v37 w37⟨q',rfl,hqf',hq',c37⟩
  refine⟨.inl (hdA.trans c37),?_⟩
  refine Tp (fun _=>zC zug zi5 U (vs:=[_,_]) U (css:=[_,_]) ⟨U,U,trivial⟩ U U (cs:=[_,_]) U) U ?_
  refine za4 U (gn U) (zz zoB U (vs:=[_]) U (css:=[_]) ⟨U,trivial⟩ U U (cs:=[_,_]) U U ?_)
  intro b39 w39 e39 n39 c39 k39
  refine⟨.inl ((hdA.trans c37).trans c39),?_⟩
  refine za4 U (gn U) (yE zoB zey U U (yh.chg0 hpA.sl ((hdA.trans c37).trans c39)) (zw.of_blk (n:=1) (c:=scs (.slice pa st.length ca,q')) k39 U (by simp[maxLen]) (by intro u hu;simp[scs]at hu;rcases hu with rfl|rfl;exact zO.one1 ha;rfl)) (by simp only[maxLen];omega) (by omega) U ?_)
  intro v40 w40 i40 c40 o40 z40
  obtain⟨p40,q40,rfl,_⟩:=id (zw.val i40)
  refine⟨.inr (by kernel_rfl),?_⟩
  refine Tp (fun _=>zp U) U (Td zcT U ?_)
  refine za4 U (gn U) (zv zuz U U U U ((hpA.blk.chg0 ((hdA.trans c37).trans c39)).chg c40 hbo) (by simp) (by intro u hu;simp at hu;subst hu;rfl) ?_)
  intro wB nB cB kB
  refine⟨.inr (by kernel_rfl),?_⟩
  refine zdX [3,22,23,24] (F':=[(3,_),(22,_),(23,_),(24,_)]) U ?_
  have kB:zK wB b18 123 [Pt q,c,k,u,.slice p40 (ys.length+1) q40]:=kB
  refine zn ?_
  have hc39:zl [] wA w39:=(hdA.trans c37).trans c39
  have hsx:=hcx.size
  have hsB:=hcB.size
  have hsd2:=hdA.size
  have hs37:=c37.size
  have hs39:=c39.size
  have hmore:=(hpA.chg0 hc39).more (a:=.slice pa st.length ca) (hq'.chg0 c39) (fun hm=>by
   rcases List.mem_cons.1 hm with rfl|hm
   ·have:=hp.pg.lt;omega
   have:=hp.pgs.lt q' hm;omega) (by omega) c40 i40 (zaH o40 hp.fo (by omega)) cB kB
  refine za ?_
  refine Og (zG U U (by omega)) U ?_
  refine Om U (N4 3 22 23 24 U ?_)
  refine⟨xs.length-(j+1),by omega,j+1,_,_,rfl,by omega,rfl,by rw[zbU e3];exact hmore,?_,?_⟩
  ·rw[List.map_append,hys,zbU e1,List.map_append]
   rfl
  have h1:zl (zq o++[b18]) wx wB:=(((hcB.any (S:=zq o++[b18])).transS (hc39.any)).transS (c40.weak (fun y hy=>by simp[hy]))).transS (cB.weak (by simp))
  exact hcx.own h1 (fun y hy=>by
   rcases List.mem_append.1 hy with hy|hy
   ·exact hp.fo y hy
   simp at hy;subst hy;exact hp.ft)
 refine zI ?_
 repeat first|refine te ?_|refine bo rfl ?_
 refine zt _ ?_
 have he:xs.length≤j:=by have:=of_decide_eq_false hF;omega
 rw[Tl (by omega)]at hp hys
 refine Sr (Om U (Oa U (E1 2 U (zh ?_))))
 refine zx U U ?_
 have hge:Lw.n≤w.heap.size:=Nat.le_trans (hm.ge _ (List.mem_cons_self ..)) (Nat.le_of_lt hm.pg.lt)
 have hM:yI wx b18 q c k u o ys s main subs:=⟨hp.blk,hx.sch,hp.pg,hp.sl,hys▸hx.ats,hp.pgs,hp.nd,fun p hp2=>Nat.le_trans hge (hp.fr p hp2)⟩
 exact⟨b18,q::ys.map (·.2),rfl,⟨q,c,k,u,o,ys,main,subs,rfl,hM,ht⟩,hp.ft,hp.fr,hcx,fun pm0 c0 k0 u0 sv0 hb=>by
  have hq:=Option.some.inj ((show w.heap[t]? = _ from hb).symm.trans hm.blk)
  cases hq
  exact⟨q,o,hp.blk⟩⟩
theorem zsl(t:Nat)(own:List Nat)(s:yx)(rows:LV)(w:Wl)(h:yw w t own s rows) :
 zL TP 32 #[Pt t] w fun r w'=>∃t' own',r=Pt t'∧yw w' t' own' s rows∧w.heap.size≤t'∧(∀p∈own',w.heap.size≤p)∧zl [] w w':=
 Calls.mono (zsR t own s rows w h) fun _ _ ⟨r,he,t',own',h1,h2,h3,h4,h5,_⟩=>⟨r,he,t',own',h1,h2,h3,h4,h5⟩
theorem zwG(n:Nat)(w:Wl)(hn:n≤4294967296):zL TP 309 #[.slice none 0 0,Ii n] w fun r w'=>zw w' 32 1 r 0 []∧(∀b∈zq r,w.heap.size≤b)∧zl [] w w':=by
 refine A2 Tryz.func309 U U ?_
 refine Sr (Oa U (E2 0 1 U (zd (Sr (Om U (Og (zF U U) U (E3 0 1 6 U ?_)))))))
 refine zH U (fun hT=>?_) (fun hF=>?_)
 ·exfalso
  have:=of_decide_eq_true hT
  omega
 refine zk (zd (Sr (Om U (Om U (Og (zgf zcZ U) U (Om U (On zcZ U ?_)))))))
 refine Og (yV U U (by omega)) U ?_
 refine Og (yQ (v':=Ii n) (yV U U (by omega)) (by congr 1<;>omega)) U ?_
 refine Oa U (E2 0 1 U (Sr (Om U (Og (ym U U) U (E3 0 1 16 U ?_)))))
 refine zH U (fun hT=>?_) (fun hF=>?_)
 ·have hpos:0<n:=by have:=of_decide_eq_true hT;omega
  refine za (Om U (Om U (Og (zgf zcZ U) U ?_)))
  refine Og (za8 zcZ zmt U U _ U (by omega)) U ?_
  refine Om U ?_
  refine Oq (zcS zwp zaY U U U (zw.nil _ _ _) (fun p c he=>by simp[cut]at he;omega) (by simp only[maxLen];omega) (by omega) U ?_)
  intro b cap zs w22 hb c22 hge hle hzl hone k22
  refine Om U (On zcZ U ?_)
  refine Og (za8 zcZ zmt U U 0 U (by omega)) U ?_
  refine Oa U (E1 0 U (Sr (Om U (Oa U (E1 4 U (zh ?_))))))
  refine zx U U ?_
  have hsl:zd8 w22 32 1 b 0 (0+n) cap ([]++zs) (((([]++zs):List Va).drop 0).take ((0+n)*1)):=⟨k22,hge,hle,by simp only[List.nil_append];omega,rfl,hone⟩
  have hc:=hsl.cut (l:=0) (h:=0) (m:=cap) (Nat.le_refl _) (Nat.zero_le _) (Nat.le_refl _)
  refine⟨by simpa using hc,fun x hx=>?_,c22⟩
  have:=zw.cutBlk (len:=0) (cap:=0) x hx
  simp[zq]at this
  omega
 refine zk (Sr (Om U (Oa U (E1 4 U (zh ?_)))))
 refine zx U U ?_
 exact⟨zw.nil _ _ _,by simp[zq],zl.refl _ _⟩
def HL(w:Wl)(vs:List Va)(lss:List (List Va)):Prop:=vs.length=lss.length∧∀(i:Nat) (x:Va) (ls:List Va),vs[i]? = some x→lss[i]? = some ls→Rd w 1 x ls.length ls
theorem zp3(v:Va)(vs:List Va)(lss:List (List Va))(w:Wl)(hv:zw w 33 1 v lss.length vs)(hl:HL w vs lss)(hn:lss.flatten.length≤1048576)(hn2:lss.length≤1048576) :
 zL TP 225 #[v] w fun r w'=>zw w' 32 1 r lss.flatten.length lss.flatten∧(∀b∈zq r,w.heap.size≤b)∧zl [] w w':=by
 obtain⟨pv,cv,rfl,hcv⟩:=id (zw.val hv)
 have hfl:∀j,(lss.take j).flatten.length≤lss.flatten.length:=fun j=>by
  have:=congrArg (fun l=>(List.flatten l).length) (List.take_append_drop j lss)
  simp only[List.flatten_append,List.length_append]at this
  omega
 refine A1 Tryz.func225 U U ?_
 refine Sr (Oa U (E1 0 U (Sr (Oa U (E2 0 3 U (zd (Sr (Om U (On zlH U (Om U (E5 0 3 9 10 11 U (zu ?_))))))))))))
 refine zX [0,3,9,10,11] (fun m F wx=>∃(j:Nat),m=lss.length-j∧j≤lss.length∧F=[(0,.slice pv lss.length cv),(3,Ii (lss.take j).flatten.length),(9,.slice pv lss.length cv),(10,Ii lss.length),(11,Ii j)]∧wx=w) (m:=lss.length-0) ⟨0,U,Nat.zero_le _,U,U⟩ ?_
 rintro m F wx⟨j,rfl,hj,rfl,rfl⟩
 refine Sr (Og (zF U U) U (E6 0 3 9 10 11 12 U (zd ?_)))
 refine zH U (fun hT=>?_) (fun hF=>?_)
 ·refine zk ?_
  have hlt:j<lss.length:=by have:=of_decide_eq_true hT;omega
  have hx:lss[j]? = some lss[j]:=by simp[hlt]
  generalize lss[j]=ls at hx
  obtain⟨b,off,cap,x,hve,hxe,hcell⟩:=hv.at1 hlt
  cases hve
  have hls:=hl.2 j x ls hxe hx
  obtain⟨pl,cl,rfl,_⟩:=hls.val
  have hsum:(lss.take (j+1)).flatten.length=(lss.take j).flatten.length+ls.length:=by rw[zbU hx];simp
  have hb:=hfl (j+1)
  refine zd (zu (Sr ?_))
  refine Og (zm zlH zwb U U _ U hlt) U ?_
  refine Ol zhP U hcell (Oa U (E6 0 3 5 9 10 11 U (Sr (Om U (Om U (On zcZ U ?_))))))
  refine Og (yQ (v':=Ii (((lss.take j).flatten.length+ls.length:Nat):Int)) (zG U U (by omega)) (by congr 1)) U ?_
  refine Oa U (E5 0 3 9 10 11 U (Sr (Om U ?_)))
  refine Og (vf (zF U U) (df (by omega))) U ?_
  refine E6 0 3 9 10 11 20 U (zb U (z0 (zn (za ?_))))
  refine Og (zG U U (by omega)) U ?_
  refine Om U (N5 0 3 9 10 11 U ?_)
  exact⟨lss.length-(j+1),by omega,j+1,rfl,by omega,by rw[hsum];rfl,rfl⟩
 refine zI ?_
 repeat first|refine te ?_|refine bo rfl ?_
 refine zt _ ?_
 have he:j=lss.length:=by have:=of_decide_eq_false hF;omega
 subst he
 rw[List.take_length]
 refine Sr (Om U ?_)
 refine Oc zw4 U U U (zwG _ _ (by omega)) ?_
 rintro v24 w24⟨i24,f24',c24⟩
 refine Oa U (E2 0 6 U (zd (Sr (Om U (On zlH U (Om U (E4 6 25 26 27 U (zu ?_))))))))
 refine zX [6,25,26,27] (fun m F wy=>∃(j:Nat) (o:Va),m=lss.length-j∧j≤lss.length∧F=[(6,o),(25,.slice pv lss.length cv),(26,Ii lss.length),(27,Ii j)]∧zw wy 32 1 o (lss.take j).flatten.length (lss.take j).flatten∧(∀b∈zq o,wx.heap.size≤b)∧zl [] wx wy) (m:=lss.length-0) ⟨0,_,U,Nat.zero_le _,U,i24,f24',c24⟩ ?_
 rintro m F wy⟨j,o,rfl,hj,rfl,ho,hfo,hcy⟩
 refine Sr (Og (zF U U) U (E5 6 25 26 27 28 U (zd ?_)))
 refine zH U (fun hT=>?_) (fun hF=>?_)
 ·refine zk ?_
  have hlt:j<lss.length:=by have:=of_decide_eq_true hT;omega
  have hx:lss[j]? = some lss[j]:=by simp[hlt]
  generalize lss[j]=ls at hx
  obtain⟨b,off,cap,x,hve,hxe,hcell⟩:=(zw.chg0 hv hcy).at1 hlt
  cases hve
  have hls:=hl.2 j x ls hxe hx
  have hsum:(lss.take (j+1)).flatten=(lss.take j).flatten++ls:=by rw[zbU hx];simp
  have hb:=hfl (j+1)
  rw[hsum,List.length_append]at hb
  have hl1:=hls.chg0 hcy
  refine zd (zu (Sr ?_))
  refine Og (zm zlH zwb U U _ U hlt) U ?_
  refine Ol zhP U hcell (Oa U (E5 6 8 25 26 27 U (za (Om U (Om U ?_)))))
  refine Oq (ziT zwp zcZ U U ho hl1 (by simp only[maxLen];omega) (by omega) U ?_)
  intro v33 w33 i33 c33 o33 z33
  refine Oa U (N4 6 25 26 27 U (zn (za ?_)))
  refine Og (zG U U (by omega)) U ?_
  refine Om U (N4 6 25 26 27 U ?_)
  have hsy:=hcy.size
  refine⟨lss.length-(j+1),by omega,j+1,v33,rfl,by omega,rfl,?_,zaH o33 hfo (by omega),hcy.own c33 hfo⟩
  rw[hsum,List.length_append];exact i33
 refine zI ?_
 repeat first|refine te ?_|refine bo rfl ?_
 refine zt _ ?_
 have he:lss.length≤j:=by have:=of_decide_eq_false hF;omega
 rw[Tl he]at ho
 refine Sr (Om U (Oa U (E1 2 U (zh ?_))))
 refine zx U U ?_
 exact⟨ho,hfo,hcy⟩
theorem Kr.chg0{S:List Nat}{keep:TypeId→Bool}{B:Nat}{W W':Wl}(hc:zl [] W W')(hB:B≤W.heap.size):Kr S keep B W W':=Kr.chg hc hB (by simp)
section
variable {S:List Nat} {keep:TypeId→Bool} {B:Nat} {W W':Wl}
theorem zK.kr{b:Nat}{e:TypeId}{c:List Va}(h:zK W b e c)(hk:Kr S keep B W W')(he:keep e=true):zK W' b e c:=hk.cells b _ _ _ h he
theorem zw.kr{e k n:Nat}{v:Va}{xs:List Va}(h:zw W e k v n xs)(hk:Kr S keep B W W')(he:keep e=true):zw W' e k v n xs:=by
 rcases h with h|⟨b,off,cap,c,rfl,hs⟩
 ·exact .inl h
 exact .inr ⟨b,off,cap,c,U,⟨hs.blk.kr hk he,hs.le,hs.max,hs.fit,hs.xs,hs.one⟩⟩
end
theorem HL.two{w:Wl}{b n:Nat}{v u:Va}{vu:List Va}(h:zK w b 32 [v])(hv:v.oneCell'=true)(hu:Rd w 1 u n vu):HL w [.slice (some ⟨b,0,none⟩) 1 1,u] [[v],vu]:=by
 refine⟨U,fun i x ls' h1 h2=>?_⟩
 match i with
 |0=>
  simp at h1 h2
  subst h1 h2
  exact(zw.of_blk (n:=1) h U (by simp[maxLen]) (by intro y hy;simp at hy;subst hy;exact hv)).toRd
 |1=>
  simp at h1 h2
  subst h1 h2
  have:=hu.len_xs
  rw[Nat.mul_one]at this
  rw[this];exact hu
 |_+2=>simp at h1
theorem zvH(c k u:Va)(w:Wl):zL TP 178 #[.agg #[c,k,u]] w fun r w'=>∃b1,r=.func (.func 224) #[] #[Pt b1]∧w.heap.size≤b1∧zK w' b1 35 [c,k,u]∧zl [] w w':=by
 refine A1 Tryz.func178 U U ?_
 refine Sr ?_
 refine Ob U U ?_
 intro b1 w1 e1 n1 c1 k1
 refine Oa U (E1 1 U (Sr (Og (y9 U U) U (Oa U (E1 2 U (zh ?_))))))
 refine zx U U ?_
 exact⟨b1,rfl,by omega,k1,c1⟩
theorem znn(w0 w:Wl)(h0w:zl [] w0 w)(b1:Nat)(c k u:Va)(s:yx)(S0:List Nat)(keep:TypeId→Bool)(h1:zK w b1 35 [c,k,u])(hs:zal w0 c k u s)(hS0:∀b∈S0,w0.heap.size≤b)(hr:zaq s=true)
 (kI:keep 3=true) (kII:keep 32=true) :
 zq5 TP 224 #[Pt b1] (fun x:Nat×Va => #[Ii x.1,x.2]) S0 keep (fun x W=>∃st,(zQ s)[x.1]? = some st∧yh W 3 1 ics x.2 st∧∀b∈zq x.2,w.heap.size≤b) (fun xs _=>xs.map (·.1)=List.range (zQ s).length) (fun _ _=>True) (zQ s).length w:=by
 intro l J Jx W hcw hJ hJx hY h0
 have hab:∀{pre:List (Nat×Va)} {W1 W2:Wl},zl [] W1 W2→J pre W1→J pre W2:=fun hc hj=>hJ _ _ _ none hj hc.grown0 (fun _ e=>by cases e)
 have hn3:=(z6 hr).2.1
 have hsl:(zQ s).length≤4:=by simp[zQ];omega
 refine CallsIn.mono (R:=fun e W'=>∃r,e=.returned r∧(fun(_:Va) W'=>(∃xs:List (Nat×Va),xs.map (·.1)=List.range (zQ s).length∧J xs W')∨(∃pre,True∧Jx pre W')) r W') ?_ (fun e W' ⟨u,he,h⟩=>⟨⟨u,he⟩,h⟩)
 refine CallsIn.of_WX (args:=[_,_]) Tryz.func224 U U U U (zkk ?_)
 have h1W:=h1.chg0 hcw
 refine zkt ?_
 refine zd (Sr (Og (zg zbQ zbL U U (zB.of_blk0 h1W)) U ?_))
 refine Oc zj4 U U U (zfF c k u s _ ((hs.chg0 h0w).chg0 hcw) (zbB hr)) ?_
 rintro v6 w6⟨h6,c6⟩
 rw[hr]at h6
 change v6=Ii 0 at h6
 subst h6
 refine Og (vf (zZ U U) (zb6 (by omega))) U ?_
 refine E3 0 1 7 U (zb U (zk (zd ?_)))
 refine zoj ?_
 refine zd ?_
 have h1x:=h1W.chg0 c6
 have hs6:=((hs.chg0 h0w).chg0 hcw).chg0 c6
 obtain⟨vu,ou,lu⟩:=id hs.uq
 have hvu:vu.length=s.uq.length:=by have:=ou.1.len_xs;simpa using this
 obtain⟨pk,ck,rfl,_⟩:=id (zO.val hs.key)
 have hflat:List.flatten (List.cons (List.cons (Value.slice pk s.key.length ck) []) (List.cons vu []))=Value.slice pk s.key.length ck::vu:=by simp
 have hlen:(Value.slice pk s.key.length ck::vu).length=(zQ s).length:=by simp[zQ,hvu]
 obtain⟨pu,cu,rfl,_⟩:=id (zc7.val hs.uq)
 refine za (Od zd7 U (Ol zfh U (h1x.cell' U) ?_))
 refine Oq (zz zwp U (vs:=[_]) U (css:=[_]) ⟨U,trivial⟩ U U (cs:=[_]) U U ?_)
 intro b10 w10 e10 n10 c10 k10
 refine Od zdY U (Ol zhP U ((h1x.chg0 c10).cell' U) ?_)
 refine Oq (zz zyN U (vs:=[_,_]) U (css:=[_,_]) ⟨U,U,trivial⟩ U U (cs:=[_,_]) U U ?_)
 intro b13 w13 e13 n13 c13 k13
 refine Oc zxl U U U (zp3 _ [.slice (some ⟨b10,0,none⟩) 1 1,.slice pu s.uq.length cu] [ [.slice pk s.key.length ck],vu] _ (zw.of_blk (n:=2) k13 U (by simp[maxLen]) (by intro y hy;simp at hy;rcases hy with rfl|rfl<;>rfl)) (HL.two (n:=s.uq.length) (k10.chg0 c13) U (Rd.chg0 (Rd.chg0 (Rd.chg0 (Rd.chg0 (Rd.chg0 ou.1 h0w) hcw) c6) c10) c13)) (by rw[hflat,hlen];omega) (by simp)) ?_
 rintro v14 w14⟨i14,f14',c14⟩
 rw[hflat,hlen]at i14
 obtain⟨p14,q14,rfl,-⟩:=id (zw.val i14)
 refine On zcZ U (Om U (E4 0 14 15 16 U ?_))
 have hsW:=hcw.size
 have hc14:zl [] W w14:=((c6.trans c10).trans c13).trans c14
 have hs14:=hc14.size
 refine zu ?_
 refine zX [0,14,15,16] (fun m F wx=>∃(j:Nat) (pre:List (Nat×Va)),m=(zQ s).length-j∧j≤(zQ s).length∧F=[(0,.func (.yield l) #[] #[]),(14,.slice p14 (zQ s).length q14),(15,Ii (zQ s).length),(16,Ii j)]∧Kr S0 keep w.heap.size w14 wx∧pre.map (·.1)=List.range j∧J pre wx) (m:=(zQ s).length-0) ⟨0,[],U,Nat.zero_le _,U,Kr.refl _ _ _ _,U,hab hc14 h0⟩ ?_
 rintro m F wx⟨j,pre,rfl,hj,rfl,hkx,hpre,hJ0⟩
 have hpl:pre.length=j:=by have:=congrArg List.length hpre;simpa using this
 refine Sr (Og (zF U U) U (E5 0 14 15 16 17 U (zd ?_)))
 refine zH U (fun hT=>?_) (fun hF=>?_)
 ·refine zk ?_
  have hlt:j<(zQ s).length:=by have:=of_decide_eq_true hT;omega
  have hst:(zQ s)[j]? = some (zQ s)[j]:=by simp[hlt]
  generalize (zQ s)[j]=st at hst
  have hstm:st∈zQ s:=List.mem_of_getElem? hst
  have hst4:=(zbr (zeR hr st hstm)).1
  have hlow:Low w0 wx:=fun b hb=>by
   have hb2:b<w.heap.size:=Nat.lt_of_lt_of_le hb h0w.size
   rw[hkx.low b hb2 (fun hm=>by have:=hS0 b hm;omega)]
   exact((h0w.trans hcw).trans hc14).block b hb (by simp)
  have ix:zdO wx (.slice p14 (zQ s).length q14) (zQ s):=⟨_,(i14.kr hkx kII).toOu,zO.low hs.key hlow,lu.low hlow⟩
  obtain⟨b,off,cap,x,hv,hcell,hx⟩:=zc7.at ix hst
  cases hv
  refine zd (zu (Sr (Om U ?_)))
  refine Og (zm zcZ zmt U U _ U hlt) U ?_
  refine Ol zfh U hcell (Oa U (Oa U (E6 0 3 4 14 15 16 U (zd ?_))))
  have hsx:=hkx.size
  refine zg3 ?_
  refine Xm U (Xm U (Xm U ?_))
  refine yO (gn U) U (zaf zxZ U U U U (zsS x st _ hx (by omega)) ?_)
  rintro v24 w24⟨i24,f24',c24⟩
  refine zky (gn U) U U U (hY pre (j,v24) w24 (hab c24 hJ0) ⟨st,hst,i24,fun b hb=>by have:=f24' b hb;omega⟩ (by omega)) ?_
  rintro v25 w25 hR25
  obtain⟨b25,rfl,hb25⟩:=yb hR25
  refine⟨_,U,?_⟩
  refine yO (gn U) U (St.vl (zE U) U U ?_)
  refine zde [0,14,15,16,26] (F':=[(0,_),(14,_),(15,_),(16,_),(26,_)]) U ?_
  rcases hb25 with⟨rfl,hJ25,hk25⟩|⟨rfl,hJ25⟩
  ·refine zb U (z0 (zn (za ?_)))
   refine Og (zG U U (by omega)) U ?_
   refine Om U (N4 0 14 15 16 U ?_)
   refine⟨(zQ s).length-(j+1),by omega,j+1,pre++[(j,v24)],rfl,by omega,rfl,(hkx.trans (Kr.chg0 c24 (by omega))).trans hk25,?_,hJ25⟩
   rw[List.map_append,hpre,List.range_succ]
   rfl
  refine zf U ?_
  refine zI ?_
  repeat first|refine te ?_|refine bo rfl ?_
  refine zt _ ?_
  refine zkD ?_
  refine zkK U ?_
  exact .inr ⟨_,trivial,hJ25⟩
 refine zI ?_
 repeat first|refine te ?_|refine bo rfl ?_
 refine zt _ ?_
 refine zkD ?_
 refine zkK U ?_
 have he:j=(zQ s).length:=by have:=of_decide_eq_false hF;omega
 subst he
 exact .inl ⟨_,hpre,hJ0⟩
theorem zbV.nil{s:yx}(h:zaq s=true):∀{subs:List (LE)},subs=(zQ s).map (fun _=>[])→zbV s [] [] subs:=by
 rintro subs rfl
 have hw:WfP []:=⟨by simp,by simp,by simp[Srt]⟩
 have hW:zen []:=zen.nil
 refine⟨yA.nil h,U,hw,hW,?_⟩
 induction zQ s with
 |nil=>exact .nil
 |cons st sts ih=>exact .cons ⟨hw,hW,by simp⟩ ih
section
variable {B:Nat} {W W':Wl}
theorem ye.bk{α:Type}{f:α→List Va}{e k:Nat}(hk:Bk B W W'):∀{vs:List Va} {ls:List (List α)},ye W e k f vs ls→ye W' e k f vs ls
 |[],[],_=>trivial
 |_::_,_::_,h=>⟨zw.bk h.1 hk,ye.bk hk h.2⟩
theorem zaP.bk(hk:Bk B W W'):∀{vs:List Va} {ls:LE},zaP W vs ls→zaP W' vs ls
 |[],[],_=>trivial
 |_::_,_::_,h=>⟨zw.bk h.1 hk,zaP.bk hk h.2⟩
theorem Pg.bk{p:Nat}{ls:LE}(h:Pg W p ls)(hk:Bk B W W'):Pg W' p ls:=
 let ⟨v,h1,us,h2,h3⟩:=h; ⟨v,h1.bk hk,us,zw.bk h2 hk,h3.bk hk⟩
theorem zcs.bk{w0:Wl}{tb pm:Nat}{c k u o:Va}{ys:List (Va×Nat)}{main:LE}{subs:List (LE)}(h:zcs w0 W tb pm c k u o ys main subs)(hk:Bk B W W'):zcs w0 W' tb pm c k u o ys main subs:=
 ⟨h.blk.bk hk,h.pg.bk hk,zw.bk h.sl hk,PgL.all (fun _ _ hp=>hp.bk hk) h.pgs,h.nd,h.fr,h.fo,h.ft⟩
end
theorem ye.notD{α:Type}{f:α→List Va}{w:Wl}{e k D:Nat}{x:Option (List Deferred)}(hD:w.heap[D]? = some (.deferred x)):∀{vs:List Va} {ls:List (List α)},ye w e k f vs ls→∀v∈vs,∀b∈zq v,b∉[D]
 |[],[],_,v,hv=>by simp at hv
 |v::vs,l::ls,h,u,hu=>by
  rcases List.mem_cons.1 hu with rfl|hu
  ·exact zw.notD h.1 hD
  exact h.2.notD hD u hu
theorem zaP.notD{w:Wl}{D:Nat}{x:Option (List Deferred)}(hD:w.heap[D]? = some (.deferred x)):∀{vs:List Va} {ls:LE},zaP w vs ls→∀v∈vs,∀b∈zq v,b∉[D]
 |[],[],_,v,hv=>by simp at hv
 |v::vs,l::ls,h,u,hu=>by
  rcases List.mem_cons.1 hu with rfl|hu
  ·exact zw.notD h.1 hD
  exact zaP.notD hD h.2 u hu
set_option maxHeartbeats 1000000 in
theorem zwi(c k u:Va)(s:yx)(w:Wl)(hs:zal w c k u s)(hr:zaq s=true)(hN:Lw.n≤w.heap.size) :
 zL TP 111 #[.agg #[c,k,u]] w fun r w'=>∃t own,r=.tuple #[Pt t,Ii 0]∧yw w' t own s []∧w.heap.size≤t∧(∀p∈own,w.heap.size≤p)∧zl [] w w'∧∃pm sv,zK w' t 123 [Pt pm,c,k,u,sv]:=by
 have hn4:(zQ s).length≤4:=by have:=(z6 hr).2.1;simp[zQ];omega
 refine zL.of_WM (args:=[_]) Tryz.func111 U U U U ?_
 refine Sr ?_
 refine Ob U U ?_
 intro b1 w1 e1 n1 c1 k1
 refine Oa U (Oa U (E1 1 U (zd (Sr (Og (zg zbQ zbL U U (zB.of_blk0 k1)) U ?_)))))
 refine Oc zj4 U U U (zfF c k u s _ (hs.chg0 c1) (zbB hr)) ?_
 rintro v9 w9⟨h9,c9⟩
 rw[hr]at h9
 change v9=Ii 0 at h9
 subst h9
 refine Oa U (E2 1 4 U (Sr (Om U ?_)))
 refine Og (vf (zZ U U) (zb6 (by omega))) U ?_
 refine E3 1 4 11 U (zb U (zk ?_))
 have k1:zK w9 b1 35 [c,k,u]:=k1.chg0 c9
 have hcA:=c1.trans c9
 refine yt (fun F wx=>∃b5 b16 pm,F=[(1,Pt b1),(5,Pt b5)]∧zK wx b5 52 [Pt b16]∧zcs w wx b16 pm c k u (.slice none 0 0) [] [] []∧zl [] w9 wx) ?_ ?_
 ·have hsA:=hcA.size
  have hC:=(zl.drew [] w9)
  refine zh3 (fun wz=>zl [] w9 wz) (zbz.seq [1] (.two 0 (zbz.seq [2] (.two 3 (zbz.seq [4,5] .done) 4 (zbz.seq [3,5] .done))) 4 (zbz.seq [0,2,3,5] .done))) mix (by kernel_rfl) hC ?_
  refine zkB U U (gn U) (fun wz hz=>zg zbQ zbL U U (zB.of_blk0 (k1.chg0 hz))) U U ?_
  refine zhs ?_ ?_
  ·refine zaS U U (gn U) (zaf zq6 U U U U (f9 _) ?_)
   rintro v13 w13⟨pm,rfl,hpm,p13,c13⟩
   have hN13:=hC.size
   have hC:=hC.trans c13
   refine⟨.inl hC,?_⟩
   refine yS U U (gn U) (fun _=>zC zrq zqP U (vs:=[_,_]) U (css:=[_,_]) ⟨U,U,trivial⟩ U U (cs:=[_,_,_,_,_]) U) U U ?_
   refine zhs ?_ ?_
   ·refine zaS U U (gn U) (ziv U U U ?_)
    intro b16 w16 e16 n16 c16 k16
    have hN16:=hC.size
    have hC:=hC.trans c16
    have p13:=p13.chg0 c16
    refine⟨.inl hC,?_⟩
    refine zaS U U (gn U) (zD zjk U U ?_)
    intro b5 w5 e5 n5 c5 k5
    have hN5:=hC.size
    have hC:=hC.trans c5
    have k16:=k16.chg0 c5
    have p13:=p13.chg0 c5
    refine⟨.inl hC,?_⟩
    refine zaS U U (gn U) (zv zwC U U U U k5 (by simp) (by intro u hu;simp at hu;subst hu;rfl) ?_)
    intro wA nA cA kA
    have hC:=hC.own cA (by intro y hy;simp at hy;omega)
    refine⟨.inl hC,?_⟩
    refine ze0 [1,5] (F':=[(1,_),(5,_)]) U ?_
    have hz1:=c13.size
    have hz2:=c5.size
    have hz3:=c16.size
    exact⟨b5,b16,pm,rfl,kA,⟨k16.chg cA (by simp;omega),p13.chgC k5 U U U cA,zw.nil _ _ _,trivial,by simp,by simp;omega,by simp[zq],by omega⟩,hC⟩
   refine zaS U U (gn U) (zD zjk U U ?_)
   intro b5 w5 e5 n5 c5 k5
   have hN5:=hC.size
   have hC:=hC.trans c5
   have p13:=p13.chg0 c5
   refine⟨.inl hC,?_⟩
   refine zaS U U (gn U) (ziv U U U ?_)
   intro b16 w16 e16 n16 c16 k16
   have hN16:=hC.size
   have hC:=hC.trans c16
   have k5:=k5.chg0 c16
   have p13:=p13.chg0 c16
   refine⟨.inl hC,?_⟩
   refine zaS U U (gn U) (zv zwC U U U U k5 (by simp) (by intro u hu;simp at hu;subst hu;rfl) ?_)
   intro wA nA cA kA
   have hC:=hC.own cA (by intro y hy;simp at hy;omega)
   refine⟨.inl hC,?_⟩
   refine ze0 [1,5] (F':=[(1,_),(5,_)]) U ?_
   have hz1:=c13.size
   have hz2:=c5.size
   have hz3:=c16.size
   exact⟨b5,b16,pm,rfl,kA,⟨k16.chg cA (by simp;omega),p13.chgC k5 U U U cA,zw.nil _ _ _,trivial,by simp,by simp;omega,by simp[zq],by omega⟩,hC⟩
  refine zaS U U (gn U) (zD zjk U U ?_)
  intro b5 w5 e5 n5 c5 k5
  have hN5:=hC.size
  have hC:=hC.trans c5
  refine⟨.inl hC,?_⟩
  refine zaS U U (gn U) (zaf zq6 U U U U (f9 _) ?_)
  rintro v13 w13⟨pm,rfl,hpm,p13,c13⟩
  have hN13:=hC.size
  have hC:=hC.trans c13
  have k5:=k5.chg0 c13
  refine⟨.inl hC,?_⟩
  refine yS U U (gn U) (fun _=>zC zrq zqP U (vs:=[_,_]) U (css:=[_,_]) ⟨U,U,trivial⟩ U U (cs:=[_,_,_,_,_]) U) U U ?_
  refine zaS U U (gn U) (ziv U U U ?_)
  intro b16 w16 e16 n16 c16 k16
  have hN16:=hC.size
  have hC:=hC.trans c16
  have k5:=k5.chg0 c16
  have p13:=p13.chg0 c16
  refine⟨.inl hC,?_⟩
  refine zaS U U (gn U) (zv zwC U U U U k5 (by simp) (by intro u hu;simp at hu;subst hu;rfl) ?_)
  intro wA nA cA kA
  have hC:=hC.own cA (by intro y hy;simp at hy;omega)
  refine⟨.inl hC,?_⟩
  refine ze0 [1,5] (F':=[(1,_),(5,_)]) U ?_
  have hz1:=c13.size
  have hz2:=c5.size
  have hz3:=c16.size
  exact⟨b5,b16,pm,rfl,kA,⟨k16.chg cA (by simp;omega),p13.chgC k5 U U U cA,zw.nil _ _ _,trivial,by simp,by simp;omega,by simp[zq],by omega⟩,hC⟩
 rintro F wx⟨b5,b16,pm,rfl,kt,hpre,cx⟩
 have hcB:=hcA.trans cx
 have k1x:=k1.chg0 cx
 refine yt (fun F wy=>∃(D:Nat) (f18:Va) (o:Va) (ys:List (Va×Nat)),F=[(1000000,Ii D),(5,Pt b5),(18,f18)]∧w.heap.size≤D∧wy.heap[D]? = some (.deferred (some []))∧zK wy b5 52 [Pt b16]∧zcs w wy b16 pm c k u o ys [] (ys.map fun _=>[])∧ye wy 3 1 ics (ys.map (·.1)) (zQ s)∧zl [] w wy) ?_ ?_
 ·refine Sr (Og (zg zbQ zbL U U (zB.of_blk0 k1x)) U ?_)
  refine Oc zxM U U U (zvH c k u _) ?_
  rintro v18 w18⟨p1,rfl,hp1,kp1,c18⟩
  refine E2 5 18 U ?_
  have hcC:=hcB.trans c18
  have hpre':=hpre.chg0 c18
  have kt':=kt.chg0 c18
  have hsC:=hcC.size
  have hs18:=c18.size
  refine zu ?_
  refine zmb (α:=Nat×Va) (gf:=224) (lb:=[Pt p1]) (encs:=fun x:Nat×Va => #[Ii x.1,x.2]) (S0:=[b16]) (keep:=fun e=>Nat.beq e 3 || Nat.beq e 32) (N:=(zQ s).length)
   (fun pre W=>∃(o:Va) (ys:List (Va×Nat)),zcs w W b16 pm c k u o ys [] (ys.map fun _=>[])∧(∀b∈zq o,w18.heap.size≤b)∧ys.map (·.1)=pre.map (·.2)∧ye W 3 1 ics (pre.map (·.2)) (pre.map fun x=>((zQ s)[x.1]?).getD [])∧zK W b5 52 [Pt b16]∧zl [b16] w18 W∧w18.heap.size≤W.heap.size)
   (fun _ _ _=>False)
   (fun x=>[(20,x.2),(19,Ii x.1),(5,Pt b5),(18,.func (.func 224) #[] #[Pt p1])])
   (fun x=>[(5,Pt b5),(7,x.2),(20,x.2)])
   rfl zyo (znn w w18 hcC p1 c k u s [b16] _ kp1 hs (by intro b hb;simp at hb;subst hb;exact hpre.ft) hr rfl rfl) (fun _=>rfl) ?_ (fun _ _ _ _ h=>h) (fun _ _ _ _ h=>h) ?_ (fun _ _ _ _ _ h=>h.elim) ?_ (fun _ _ h=>h.choose_spec.choose_spec.2.2.2.2.2.2) ?_ ?_ ?_ ?_ (fun _ _ _ _ _ _ h=>h.elim)
  ·rintro x W W' hk ⟨st,h1,h2,h3⟩
   exact⟨st,h1,zw.bk h2 hk,h3⟩
  ·rintro pre W W' hk ⟨o,ys,h1,h2,h3,h4,h5,h6,h7⟩
   exact⟨o,ys,h1.bk hk,h2,h3,h4.bk hk,h5.bk hk,h6.bk (Nat.le_refl _) hk,by obtain⟨T,_,hc⟩:=hk;exact Nat.le_trans h7 hc.size⟩
  ·exact⟨_,[],hpre',by simp[zq],rfl,trivial,kt',zl.refl _ _,Nat.le_refl _⟩
  ·intro x a ha
   exact ha.vars2 U U U
  ·intro l' x W
   refine zav ?_
   refine yO (gn U) U (St.vl (yM U) U U ?_)
   refine zmH [5,7,20] (F':=[(5,_),(7,_),(20,_)]) U ?_
   exact⟨U,U,U⟩
  ·rintro l' pre ⟨xi,xv⟩ W ⟨o,ys,hp,hfo,hys,hats,hk5,hcW,hsW⟩ ⟨st,hst,hx,hfx⟩ hlen
   have hx:yh W 3 1 ics xv st:=hx
   have hst:(zQ s)[xi]? = some st:=hst
   have hfx:∀b∈zq xv,w18.heap.size≤b:=hfx
   obtain⟨px,qx,rfl,_⟩:=id (yh.val hx)
   refine zkx ?_
   have hd:zl [] W W.drew:=zl.drew [] _
   have hbo:b16∉zq o:=fun hm=>zw.apart hp.sl hp.blk rfl b16 hm (by simp)
   have hyl:ys.length=pre.length:=by have:=congrArg List.length hys;simpa using this
   have hb5:b5≠b16:=hk5.ne hp.blk rfl
   have hcl:∀{wz:Wl},zl [] W wz→wz.cell? ⟨b5,0,none⟩=some (Pt b16)∧wz.cell? ⟨b16,4,none⟩=some o:=fun hc=>⟨(hk5.chg0 hc).cell' rfl,(hp.blk.chg0 hc).cell' rfl⟩
   have hb5o:b5∉zq o:=fun hm=>zw.apart hp.sl hk5 rfl b5 hm (by simp)
   refine zqQ (fun wz=>wz.cell? ⟨b5,0,none⟩=some (Pt b16)∧wz.cell? ⟨b16,4,none⟩=some o) mix (by kernel_rfl) (hcl hd) ?_
   refine Tr (fun wz hz=>zj zjd U hz.1) U (Tr (fun wz hz=>zj zjd U hz.1) U (Tp (fun _=>zp U) U (Td zcT U (Tr (fun wz hz=>zj zhw U hz.2) U (Tm U ?_)))))
   refine Tc zq6 U U U (f9 _) ?_
   rintro v27 w27⟨q,rfl,hqf,hq,c27⟩
   refine⟨.inl (hcl (hd.trans c27)),?_⟩
   refine Tp (fun _=>zC zug zi5 U (vs:=[_,_]) U (css:=[_,_]) ⟨U,U,trivial⟩ U U (cs:=[_,_]) U) U ?_
   refine za4 U (gn U) (zz zoB U (vs:=[_]) U (css:=[_]) ⟨U,trivial⟩ U U (cs:=[_,_]) U U ?_)
   intro b29 w29 e29 n29 c29 k29
   refine⟨.inl (hcl ((hd.trans c27).trans c29)),?_⟩
   refine za4 U (gn U) (yE zoB zey U U (yh.chg0 hp.sl ((hd.trans c27).trans c29)) (zw.of_blk (n:=1) (c:=scs (.slice px st.length qx,q)) k29 U (by simp[maxLen]) (by intro u hu;simp[scs]at hu;rcases hu with rfl|rfl<;>rfl)) (by simp only[maxLen];omega) (by omega) U ?_)
   intro v30 w30 i30 c30 o30 z30
   obtain⟨p30,q30,rfl,_⟩:=id (zw.val i30)
   refine⟨.inl ⟨((hk5.chg0 ((hd.trans c27).trans c29)).chg c30 hb5o).cell' U,((hp.blk.chg0 ((hd.trans c27).trans c29)).chg c30 hbo).cell' U⟩,?_⟩
   refine Tp (fun _=>zp U) U (Td zcT U ?_)
   refine za4 U (gn U) (zv zuz U U U U ((hp.blk.chg0 ((hd.trans c27).trans c29)).chg c30 hbo) (by simp) (by intro u hu;simp at hu;subst hu;rfl) ?_)
   intro wB nB cB kB
   refine⟨.inr (by kernel_rfl),?_⟩
   refine zdX [5,20] (F':=[(5,_),(20,_)]) U ?_
   have kB:zK wB b16 123 [Pt pm,c,k,u,.slice p30 (ys.length+1) q30]:=kB
   have hc29:zl [] W w29:=(hd.trans c27).trans c29
   have hs27:=c27.size
   have hs29:=c29.size
   have hsd:=hd.size
   have hmore:=(hp.chg0 hc29).more (a:=.slice px st.length qx) (hq.chg0 c29) (fun hm=>by
    rcases List.mem_cons.1 hm with rfl|hm
    ·have:=hp.pg.lt;omega
    have:=hp.pgs.lt q hm;omega) (by omega) c30 i30 (zaH o30 hp.fo (by omega)) cB kB
   have hcut:∀y∈zq o,∃cc,zK W y 126 cc:=fun y hy=>by
    rcases hp.sl with⟨rfl,_,_⟩|⟨b,off,cap,cc,rfl,hs⟩
    ·simp[zq]at hy
    simp[zq]at hy;subst hy;exact⟨_,hs.blk⟩
   have hall:zl (b16::zq o) W wB:=((hc29.any (S:=b16::zq o)).transS (c30.weak (by intro y hy;simp[hy]))).transS (cB.weak (by simp))
   have hsl29:=yh.chg0 hp.sl hc29
   have hb30:zK w30 b16 123 [Pt pm,c,k,u,o]:=(hp.blk.chg0 hc29).chg c30 hbo
   have hats30:=ye.chg c30 (ye.apartSl hsl29 rfl (hats.chg0 hc29)) (hats.chg0 hc29)
   have hats1:ye wB 3 1 ics (pre.map (·.2)) (pre.map fun x=>((zQ s)[x.1]?).getD []):=ye.chg cB (hats30.apart hb30 rfl) hats30
   have hx30:=yh.chg (yh.chg0 hx hc29) c30 (zw.apartSl (yh.chg0 hx hc29) hsl29 rfl)
   have hx1:yh wB 3 1 ics (.slice px st.length qx) st:=yh.chg hx30 cB (zw.apart hx30 hb30 rfl)
   refine⟨KeepsFrom.chg hall ?_,Kr.chg hall (by omega) ?_,.slice p30 (ys.length+1) q30,ys++[(.slice px st.length qx,q)],?_,?_,?_,?_,?_,?_,by have:=hall.size;omega⟩
   ·intro y hy
    rcases List.mem_cons.1 hy with rfl|hy
    ·exact⟨_,_,hp.blk⟩
    obtain⟨cc,hb⟩:=hcut y hy
    exact⟨_,_,hb⟩
   ·intro y hy
    rcases List.mem_cons.1 hy with rfl|hy
    ·exact⟨.inl (by simp),_,_,hp.blk,rfl⟩
    obtain⟨cc,hb⟩:=hcut y hy
    exact⟨.inr (hfo y hy),_,_,hb,U⟩
   ·rw[List.map_append]
    exact hmore
   ·exact zaH o30 hfo (by omega)
   ·rw[List.map_append,List.map_append,hys]
    rfl
   ·rw[List.map_append,List.map_append]
    refine hats1.append (us:=[_]) (ms:=[_]) ⟨?_,trivial⟩
    show yh wB 3 1 ics (.slice px st.length qx) (((zQ s)[xi]?).getD [])
    rw[hst]
    exact hx1
   ·exact(((hk5.chg0 hc29).chg c30 (fun hm=>zw.apart hsl29 (hk5.chg0 hc29) U b5 hm (by simp))).chg cB (by simpa using hb5))
   exact hcW.trans' hall (by
    intro y hy
    rcases List.mem_cons.1 hy with rfl|hy
    ·simp
    exact .inr (hfo y hy))
  rintro D xs W hD hxs⟨o,ys,hp,hfo,hys,hats,hk5,hcW,hsW⟩ hdf
  refine zn ?_
  have hb16:=hp.ft
  refine⟨D,_,o,ys,rfl,by omega,hdf,hk5,hp,?_,hcC.own hcW (by intro y hy;simp at hy;omega)⟩
  have e:(xs.map fun x=>((zQ s)[x.1]?).getD [])=zQ s:=by
   have e1:(xs.map fun x=>((zQ s)[x.1]?).getD [])=(xs.map (·.1)).map fun i=>((zQ s)[i]?).getD []:=by rw[List.map_map];rfl
   rw[e1,hxs]
   apply List.ext_getElem (by simp)
   intro i h1 h2
   simp[h2]
  rw[hys,←e]
  exact hats
 rintro F wy⟨D,f18,o,ys,rfl,hD,hdf,hk5,htp,hats,hcy⟩
 refine Sr (Ol zjd U (hk5.cell' U) (Oa U (Oa U (zac [2,3] (F':=[(2,_),(3,_),(1000000,_)]) U (zh ?_)))))
 refine zvk (D:=D) U U U U hdf fun w' hcD=>?_
 have hbD:∀{b:Nat} {e:TypeId} {x:List Va},zK wy b e x→b∉[D]:=fun hb hm=>by
  simp at hm
  rw[←hm,show wy.heap[_]? = _ from hb]at hdf
  cases hdf
 have hP:∀p ls,Pg wy p ls→Pg w' p ls:=fun p ls ⟨v,h1,us,h2,h3⟩=>⟨v,h1.chg hcD (hbD h1),us,h2.chg hcD (h2.notD hdf),h3.chg hcD (zaP.notD hdf h3)⟩
 have hsl:(ys.map (·.1)).length=(zQ s).length:=hats.length
 refine⟨b16,pm::ys.map (·.2),rfl,⟨pm,c,k,u,o,ys,[],_,rfl,⟨htp.blk.chg hcD (hbD htp.blk),?_,hP _ _ htp.pg,zw.chg htp.sl hcD (zw.notD htp.sl hdf),ye.chg hcD (hats.notD hdf) hats,PgL.all hP htp.pgs,htp.nd,fun p hp2=>Nat.le_trans hN (htp.fr p hp2)⟩,zbV.nil hr ?_⟩,htp.ft,htp.fr,hcy.own hcD (by intro y hy;simp at hy;omega),pm,o,htp.blk.chg hcD (hbD htp.blk)⟩
 ·exact hs.chg0 (hcy.own hcD (by intro y hy;simp at hy;omega))
 apply List.ext_getElem (by simpa using hsl)
 intro i h1 h2
 simp
theorem zj6{s:yx}{r1 r2:LV}{m1 m2:LE}{s1 s2:List (LE)}(h1:zbV s r1 m1 s1)(h2:zbV s r2 m2 s2):r1=r2↔r1.length=r2.length∧∀x∈m1.flatten,zco m2 x.1=some x.2:=by
 constructor
 ·rintro rfl
  refine⟨U,fun x hx=>?_⟩
  rw[h1.flat,←h2.flat]at hx
  exact(zfe h2.wf).2 hx
 rintro⟨hl,h⟩
 have hsub:∀x∈r1,x∈r2:=fun r hr=>by
  have h3:=h (zV s r,ze9 s r) (by rw[h1.flat];exact List.mem_map.2 ⟨r,hr,rfl⟩)
  have h4:=(zfe h2.wf).1 h3
  rw[h2.flat,List.mem_map]at h4
  obtain⟨r',hr',he⟩:=h4
  simp only[Prod.mk.injEq]at he
  have:=zpW (h2.ok.fit r' hr') (h1.ok.fit r hr) (h2.ok.rng r' hr') (h1.ok.rng r hr) he.2
  rw[←this];exact hr'
 have hn1:r1.Nodup:=h1.ok.srt.imp fun {a b} hb e=>by rw[e]at hb;rw[yJ]at hb;cases hb
 have hsup:∀x∈r2,x∈r1:=fun x hx=>by
  by_cases hm:x∈r1
  ·exact hm
  have:=zik (l:=x::r1) (m:=r2) (List.nodup_cons.2 ⟨hm,hn1⟩) fun y hy=>by
   rcases List.mem_cons.1 hy with rfl|hy
   ·exact hx
   exact hsub y hy
  simp only[List.length_cons]at this
  omega
 have hk:r1.map (zV s)=r2.map (zV s):=by
  refine zlc (List.pairwise_map.2 h1.ok.srt) (List.pairwise_map.2 h2.ok.srt) fun x=>⟨fun hx=>?_,fun hx=>?_⟩
  ·obtain⟨r,hr,rfl⟩:=List.mem_map.1 hx
   exact List.mem_map.2 ⟨r,hsub r hr,U⟩
  obtain⟨r,hr,rfl⟩:=List.mem_map.1 hx
  exact List.mem_map.2 ⟨r,hsup r hr,U⟩
 apply List.ext_getElem hl
 intro i i1 i2
 have e:=congrArg (fun l:List By=>l[i]?) hk
 simp only[List.getElem?_map,List.getElem?_eq_getElem i1,List.getElem?_eq_getElem i2,Option.map_some,Option.some.injEq]at e
 exact h2.ok.uniq (hsub _ (List.getElem_mem i1)) (List.getElem_mem i2) e
theorem zv7(s:By):blt s e0=false:=by
 cases h:blt s e0 with
 |false=>rfl
 |true=>
  have:=(zdQ s e0).1 h
  simp[e0]at this
set_option maxHeartbeats 1000000 in
theorem zqR(t t':Nat)(own own':List Nat)(s s':yx)(rows rows':LV)(w:Wl)(h:yw w t own s rows)(h':yw w t' own' s' rows') :
 zL TP 37 #[Pt t,Pt t'] w fun r w'=>r=.bool (decide (s=s') && decide (rows=rows'))∧zl [] w w':=by
 obtain⟨pm,c,k,u,sv,xs,main,subs,rfl,hm,ht⟩:=h
 obtain⟨pm',c',k',u',sv',xs',main',subs',rfl,hm',ht'⟩:=h'
 refine zL.of_WM (args:=[_,_]) Tryz.func37 U U U U ?_
 refine Sr ?_
 refine Ob U U ?_
 intro b3 w3 e3 n3 c3 k3
 refine Oq (zD zr4 U U ?_)
 intro b4 w4 e4 n4 c4 k4
 refine E3 0 3 4 U ?_
 have k3:zK w4 b3 52 [Pt t']:=k3.chg0 c4
 have hcA:=c3.trans c4
 refine zd (Sr (Om U (Og (zan zkN U U) U (Om U (Oy U U (zj zjd U (k3.cell' U)) (Oy U U (zan zkN U U) (Of U (E4 0 3 4 14 U (zb U (zk (zd (zd ?_))))))))))))
 have hd:zl [] w4 w4.drew:=zl.drew [] _
 have hmA:=hm.chg0 hcA
 have hmA':=hm'.chg0 hcA
 by_cases hse:s=s'
 ·subst hse
  by_cases hl:rows.length=rows'.length
  ·refine zN (fun wz=>zl [] w4 wz) mix (by kernel_rfl) hd ?_
   refine Tm U (Tp (fun _=>zp U) U (Td zcQ U (Tr (fun wz hz=>zg zbQ zbL U U (hmA.chg0 hz).scells) U (Tr (fun wz hz=>zj zjd U ((k3.chg0 hz).cell' U)) U (Tp (fun _=>zp U) U (Td zcQ U (Tr (fun wz hz=>zg zbQ zbL U U (hmA'.chg0 hz).scells) U ?_)))))))
   refine Tc znw U U U (zgi c k u c' k' u' s s _ ((hmA.chg0 hd).sch) ((hmA'.chg0 hd).sch) (zbB ht.ok.right) (zbB ht'.ok.right)) ?_
   rintro v29 w29⟨e29,c29⟩
   rw[dt rfl]at e29
   subst e29
   refine⟨.inl (hd.trans c29),?_⟩
   refine Tp (fun _=>zE U) U (Tm U (Tq U U U ?_))
   refine Tv U U zpy U U U (zjo _ ((hmA.chg0 hd).chg0 c29) ht) ?_
   rintro v33 w33⟨rfl,rfl⟩
   refine⟨.inl (hd.trans c29),?_⟩
   refine Ts U U (fun wz hz=>zj zjd U ((k3.chg0 hz).cell' U)) U ?_
   refine Tv U U zpy U U U (zjo _ ((hmA'.chg0 hd).chg0 c29) ht') ?_
   rintro v35 w35⟨rfl,rfl⟩
   refine⟨.inl (hd.trans c29),?_⟩
   refine Tg U U (fun _=>vf (zZ U U) (by simp[hl])) U ?_
   refine Tp (fun _=>zR U U) U (D4 0 3 4 37 U (zb U (zk ?_)))
   have hcB:=(hcA.trans hd).trans c29
   have hmB:=hm.chg0 hcB
   have hmB':=hm'.chg0 hcB
   have k3:=(k3.chg0 hd).chg0 c29
   have k4:zK w35 b4 4 [.bool false]:=(k4.chg0 hd).chg0 c29
   refine yt (fun F wx=>∃(D:Nat) (f42:Va),F=[(1000000,Ii D),(3,Pt b3),(4,Pt b4),(42,f42)]∧w.heap.size≤D∧wx.heap[D]? = some (.deferred (some []))∧zK wx b4 4 [.bool false]∧(∀x∈main.flatten,zco main' x.1=some x.2)∧zl [] w wx) ?_ ?_
   ·refine Sr (Om U (Og (zp U) U (Od zeQ U (Ol zfc U (hmB.blk.cell' U) ?_))))
    refine Oc zzQ U U U (f14 pm main e0 _ hmB.pg (by have:=ht.le;omega)) ?_
    rintro v42 w42⟨q5,q3,vv,rfl,kq5,ip,kq3,hq3,hq5,c42⟩
    refine E3 3 4 42 U ?_
    have hcC:=hcB.trans c42
    have hsB:=hcB.size
    have hsC:=hcC.size
    have hb4lt:=k4.lt
    have k3:=k3.chg0 c42
    have k4:=k4.chg0 c42
    have hall:za6 main.flatten e0=main.flatten:=List.filter_eq_self.2 fun x _=>by simp[zv7]
    have hm4:=k4.lt
    refine zu ?_
    refine ztg (α:=Ent) (gf:=119) (lb:=[Pt q5,Pt q3]) (encs:=fun x:Ent => #[.string x.1,.string x.2]) (N:=main.flatten.length) [b4]
     (fun pre W=>(∀x∈pre,zco main' x.1=some x.2)∧zl [] w42 W)
     (fun c pre W=>c=.ret∧(∃x∈pre,zco main' x.1≠some x.2)∧zK W b4 4 [.bool false]∧zl [b4] w42 W)
     (fun x=>[(44,.string x.2),(43,.string x.1),(3,Pt b3),(4,Pt b4),(42,.func (.func 119) #[] #[Pt q5,Pt q3])])
     (fun x=>[(3,Pt b3),(4,Pt b4),(5,.string x.1),(6,.string x.2),(43,.string x.1),(44,.string x.2)])
     rfl zw0 ?_
     (ztk w42 q5 q3 vv main e0 [b4] kq5 ip kq3 (by have:=ht.le;omega) ht.wf.le ?_ ?_ hall) (fun _=>rfl) ?_ ?_ ?_ (fun pre W hI=>hI.2.size) ?_ ?_ ?_ ?_ ?_
    ·intro b hb
     simp at hb
     subst hb
     exact hm4
    ·simp
     omega
    ·intro b hb
     simp at hb
     subst hb
     exact⟨_,_,k4,U,U⟩
    ·rintro pre W W' T hT hc ⟨g1,g2⟩
     exact⟨g1,g2.own hc hT⟩
    ·rintro c pre W W' T hT hc ⟨rfl,g1,g2,g3⟩
     exact⟨rfl,g1,g2.chg hc (fun hm=>by have:=hT _ hm;omega),g3.trans' hc (fun y hy=>.inr (hT y hy))⟩
    ·exact⟨by simp,zl.refl _ _⟩
    ·intro x a ha
     exact ha.vars2 U U U
    ·intro l x W
     refine zfw ?_
     refine zav ?_
     refine yO (gn U) U (St.vl (yM U) U U ?_)
     refine zde [3,4,5,43,44] (F':=[(3,_),(4,_),(5,_),(43,_),(44,_)]) U ?_
     refine zav ?_
     refine yO (gn U) U (St.vl (yM U) U U ?_)
     refine zmH [3,4,5,6,43,44] (F':=[(3,_),(4,_),(5,_),(6,_),(43,_),(44,_)]) U ?_
     exact⟨U,U,U⟩
    ·rintro l pre x W ⟨g1,g2⟩ hlen
     have hmW':=hm'.chg0 (hcC.trans g2)
     have k3W:=k3.chg0 g2
     have k4W:=k4.chg0 g2
     refine zkx ?_
     refine zfw ?_
     refine zav ?_
     refine yO (gn U) U (St.vl (zj zjd U (k3W.cell' U)) U U ?_)
     refine yO (gn U) U (St.vl (zp U) U U ?_)
     refine yO (gn U) U (St.vl (ze zeQ U) U U ?_)
     refine yO (gn U) U (St.vl (zj zfc U (hmW'.blk.cell' U)) U U ?_)
     refine Xm U ?_
     refine yO (gn U) U (zaf zvT U U U U (f15 pm' main' x.1 _ hmW'.pg ht'.wf (by have:=ht'.le;omega)) ?_)
     rintro v51 w51⟨rfl,c51⟩
     refine Xm U ?_
     refine yO (gn U) U (St.vl (zJ U U) U U ?_)
     refine yO (gn U) U (St.vl (zJ U U) U U ?_)
     refine yO (gn U) U (St.vl (yM U) U U ?_)
     refine yO (gn U) U (St.vl (yM U) U U ?_)
     refine zde [3,4,6,7,8,43,44] (F':=[(3,_),(4,_),(6,_),(7,_),(8,_),(43,_),(44,_)]) U ?_
     refine zfw ?_
     have hfail:zco main' x.1≠some x.2→∀{wC:Wl},zl [b4] w51 wC→zK wC b4 4 [.bool false]→zl [b4] W wC∧(Code.ret=.ret∧(∃y∈pre++[x],zco main' y.1≠some y.2)∧zK wC b4 4 [.bool false]∧zl [b4] w42 wC):=fun hne {wC} hc hb=>
      ⟨(c51.any (S:=[b4])).transS hc,rfl,⟨x,by simp,hne⟩,hb,((g2.trans c51).any (S:=[b4])).transS hc⟩
     cases hg:zco main' x.1 with
     |none=>
      refine zav ?_
      refine Xm U ?_
      refine yO (gn U) U (St.vl (zE U) U U ?_)
      refine Xm U ?_
      refine zwI U U U U U U ?_
      refine zwI U U U U U U ?_
      refine zwI U U U U U U ?_
      refine yO (gn U) U (St.vl (zW U U) U U ?_)
      refine zde [3,4,43,44,60] (F':=[(3,_),(4,_),(43,_),(44,_),(60,_)]) U ?_
      refine zfl U ?_
      refine zfw ?_
      refine zav ?_
      refine yO (gn U) U (zv sz4 U U U U (k4W.chg0 c51) (by simp) (by simp[Value.oneCell']) ?_)
      intro wC nC cC kC
      refine zde [4] (F':=[(4,_)]) U ?_
      refine zuI ?_
      repeat first|refine tr ?_|refine br ?_
      exact hfail (by rw[hg];simp) cC kC
     |some y=>
      by_cases hxy:x.2=y
      ·refine zav ?_
       refine Xm U ?_
       refine yO (gn U) U (St.vl (zE U) U U ?_)
       refine Xm U ?_
       refine yO (gy U U U) U (St.vl (zaT U) U U ?_)
       refine yO (gy U U U) U (St.vl (zaT U) U U ?_)
       refine yO (gy U U U) U (St.vl (vf (zkJ U U) (by simp[hxy])) U U ?_)
       refine yO (gn U) U (St.vl (zR U U) U U ?_)
       refine zde [3,4,43,44,60] (F':=[(3,_),(4,_),(43,_),(44,_),(60,_)]) U ?_
       refine zgS U ?_
       refine zq0 ?_
       refine zn ?_
       refine⟨c51.any,fun z hz=>?_,g2.trans c51⟩
       rcases List.mem_append.1 hz with hz|hz
       ·exact g1 z hz
       simp at hz;subst hz;rw[hg,hxy]
      refine zav ?_
      refine Xm U ?_
      refine yO (gn U) U (St.vl (zE U) U U ?_)
      refine Xm U ?_
      refine yO (gy U U U) U (St.vl (zaT U) U U ?_)
      refine yO (gy U U U) U (St.vl (zaT U) U U ?_)
      refine yO (gy U U U) U (St.vl (vt (zkJ U U) (by simp[hxy])) U U ?_)
      refine yO (gn U) U (St.vl (zR U U) U U ?_)
      refine zde [3,4,43,44,60] (F':=[(3,_),(4,_),(43,_),(44,_),(60,_)]) U ?_
      refine zfl U ?_
      refine zfw ?_
      refine zav ?_
      refine yO (gn U) U (zv sz4 U U U U (k4W.chg0 c51) (by simp) (by simp[Value.oneCell']) ?_)
      intro wC nC cC kC
      refine zde [4] (F':=[(4,_)]) U ?_
      refine zuI ?_
      repeat first|refine tr ?_|refine br ?_
      exact hfail (by rw[hg];simp;exact fun e=>hxy e.symm) cC kC
    ·rintro D xs W hD rfl ⟨g1,g2⟩ hdf
     refine zn ?_
     exact⟨D,_,rfl,by omega,hdf,k4.chg0 g2,g1,hcC.trans g2⟩
    rintro D c pre W' hD⟨-,hpre⟩⟨rfl,⟨x,hx,hne⟩,g2,g3⟩ hdf
    refine zh ?_
    repeat first|refine tr ?_|refine br ?_
    have hDb:D≠b4:=by omega
    refine znO (v:=.bool false) (D:=D) U ag4 U U hdf fun w' hc'=>?_
    have hnr:rows≠rows':=fun e=>by
     exact hne (((zj6 ht ht').1 e).2 x (hpre.subset hx))
    refine⟨(g2.chg hc' (by simpa using hDb.symm)).cell' U,by simp[hnr],?_⟩
    exact(hcC.own g3 (by intro y hy;simp at hy;have:=c3.size;omega)).own hc' (by intro y hy;simp at hy;omega)
   rintro F wx⟨D,f42,rfl,hD,hdf,hb4,hall,hcx⟩
   refine Sr ?_
   refine Oq (zv sz4 U U U U hb4 (by simp) (by simp[Value.oneCell']) ?_)
   intro wA nA cA kA
   refine zac [4] (F':=[(4,_),(1000000,_)]) U (zh ?_)
   have kA:zK wA b4 4 [.bool true]:=kA
   have hDb:D≠b4:=by rintro rfl;rw[show wx.heap[D]? = _ from hb4]at hdf;cases hdf
   refine znO (v:=.bool true) (D:=D) U ag4 U U ((cA.block D (Array.getElem?_eq_some_iff.1 hdf).1 (by simpa using hDb)).trans hdf) fun w' hc'=>?_
   have hr:rows=rows':=(zj6 ht ht').2 ⟨hl,hall⟩
   refine⟨(kA.chg hc' (by simpa using hDb.symm)).cell' U,?_,?_⟩
   ·simp[hr]
   have h4:w.heap.size≤b4:=by have:=c3.size;omega
   exact(hcx.own cA (by intro y hy;simp at hy;omega)).own hc' (by intro y hy;simp at hy;omega)
  refine zN (fun wz=>zl [] w4 wz) mix (by kernel_rfl) hd ?_
  refine Tm U (Tp (fun _=>zp U) U (Td zcQ U (Tr (fun wz hz=>zg zbQ zbL U U (hmA.chg0 hz).scells) U (Tr (fun wz hz=>zj zjd U ((k3.chg0 hz).cell' U)) U (Tp (fun _=>zp U) U (Td zcQ U (Tr (fun wz hz=>zg zbQ zbL U U (hmA'.chg0 hz).scells) U ?_)))))))
  refine Tc znw U U U (zgi c k u c' k' u' s s _ ((hmA.chg0 hd).sch) ((hmA'.chg0 hd).sch) (zbB ht.ok.right) (zbB ht'.ok.right)) ?_
  rintro v29 w29⟨e29,c29⟩
  rw[dt rfl]at e29
  subst e29
  refine⟨.inl (hd.trans c29),?_⟩
  refine Tp (fun _=>zE U) U (Tm U (Tq U U U ?_))
  refine Tv U U zpy U U U (zjo _ ((hmA.chg0 hd).chg0 c29) ht) ?_
  rintro v33 w33⟨rfl,rfl⟩
  refine⟨.inl (hd.trans c29),?_⟩
  refine Ts U U (fun wz hz=>zj zjd U ((k3.chg0 hz).cell' U)) U ?_
  refine Tv U U zpy U U U (zjo _ ((hmA'.chg0 hd).chg0 c29) ht') ?_
  rintro v35 w35⟨rfl,rfl⟩
  refine⟨.inl (hd.trans c29),?_⟩
  refine Tg U U (fun _=>vt (zZ U U) (by simp;omega)) U ?_
  refine Tp (fun _=>zR U U) U (D4 0 3 4 37 U (zf U (Sr ?_)))
  refine Oq (zv sz4 U U U U ((k4.chg0 hd).chg0 c29) (by simp) (by simp[Value.oneCell']) ?_)
  intro wA nA cA kA
  refine E1 4 U (zh ?_)
  repeat first|refine tr ?_|refine br ?_
  refine zus U ag4 U (kA.cell' U) ?_
  have hne:rows≠rows':=fun e=>hl (by rw[e])
  refine⟨by simp[hne],?_⟩
  exact((hcA.trans hd).trans c29).own cA (by intro y hy;simp at hy;have:=c3.size;omega)
 refine zN (fun wz=>zl [] w4 wz) mix (by kernel_rfl) hd ?_
 refine Tm U (Tp (fun _=>zp U) U (Td zcQ U (Tr (fun wz hz=>zg zbQ zbL U U (hmA.chg0 hz).scells) U (Tr (fun wz hz=>zj zjd U ((k3.chg0 hz).cell' U)) U (Tp (fun _=>zp U) U (Td zcQ U (Tr (fun wz hz=>zg zbQ zbL U U (hmA'.chg0 hz).scells) U ?_)))))))
 refine Tc znw U U U (zgi c k u c' k' u' s s' _ ((hmA.chg0 hd).sch) ((hmA'.chg0 hd).sch) (zbB ht.ok.right) (zbB ht'.ok.right)) ?_
 rintro v29 w29⟨e29,c29⟩
 rw[df hse]at e29
 subst e29
 refine⟨.inl (hd.trans c29),?_⟩
 refine Tp (fun _=>zE U) U (Tm U (Tz U U (Tz U U (Tz U U (Tz U U (Tz U U (Tp (fun _=>zW U U) U (D4 0 3 4 37 U (zf U (Sr ?_))))))))))
 refine Oq (zv sz4 U U U U ((k4.chg0 hd).chg0 c29) (by simp) (by simp[Value.oneCell']) ?_)
 intro wA nA cA kA
 refine E1 4 U (zh ?_)
 repeat first|refine tr ?_|refine br ?_
 refine zus U ag4 U (kA.cell' U) ?_
 refine⟨by simp[hse],?_⟩
 exact((hcA.trans hd).trans c29).own cA (by intro y hy;simp at hy;have:=c3.size;omega)
theorem zt0{s:yx}{rows:LV}{row:List zT}(h:zfi s rows row≠0):zfu s rows row=rows:=by unfold zfu;rw[if_neg h]
theorem zsN{s:yx}{rows:LV}{row:List zT}{k:By}(h:zeH s rows k row≠0):zfo s rows k row=rows:=by unfold zfo;rw[if_neg h]
end Go.Wk
