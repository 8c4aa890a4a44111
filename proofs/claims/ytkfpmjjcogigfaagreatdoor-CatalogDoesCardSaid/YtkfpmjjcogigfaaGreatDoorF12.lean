/- joined texts -/
import Derived.Test.YtkfpmjjcogigfaaGreatDoorF11
set_option linter.all false
namespace Go.Wk
open Go.Proofs
set_option linter.unusedSectionVars false
variable [Lw]
set_option maxRecDepth 10000
theorem zqV(l:List zX)(x:zX):zcN l++(⟨(zeu x).toArray⟩:By)=zcN (l++[x]):=by
 apply ztX
 simp[zcN,zdX]
theorem zAC(v:Va)(l:List zX)(w:Wl)(hl:yc w v l)(hc:∀x∈l,zaY x=0∧x.Rng)(hn:l.length≤1048576):zT TP 126 #[v] w fun r w'=>r=.string (zcN l)∧zk [] w w':=by
 obtain⟨pv,cv,rfl,hcv⟩:=zN.val hl
 refine A1 Tryz.func126 U U ?_
 refine Sr (Oa U (E1 0 U (Sr (Oa U (E2 0 3 U (zf (Sr (Oa U (E3 0 3 4 U (zp ?_))))))))))
 refine zR [0,3,4] (fun m F wx=>∃j:Nat,m=l.length-j∧j≤l.length∧F=[(0,.slice pv l.length cv),(3,.string (zcN (l.take j))),(4,Ii j)]∧zk [] w wx) (m:=l.length-0) ⟨0,U,Nat.zero_le _,U,zk.refl _ _⟩ ?_
 rintro m F wx⟨j,rfl,hj,rfl,hcx⟩
 refine zf (zf ?_)
 by_cases hlt:j<l.length
 ·refine za (Om U (Om U (On yA U ?_)))
  refine Og (vt (zy U U) (by simp;omega)) U ?_
  refine E4 0 3 4 8 U (ze U (zm ?_))
  have hx:l[j]? = some l[j]:=by simp[hlt]
  have htk:=List.take_succ_eq_append_getElem hlt
  generalize l[j]=x at hx htk
  obtain⟨hxc,hxg⟩:=hc x (List.mem_of_getElem? hx)
  obtain⟨b,off,cap,hve,hcell⟩:=zN.at zbn (zN.chg0 hl hcx) hx
  cases hve
  have hkl:=zjO hxc
  have hks:(zcN (l.take j)).size≤235*j:=by
   have:=zha (l:=l.take j) (fun y hy=>(hc y (List.mem_of_mem_take hy)).1)
   rw[List.length_take]at this
   show (zdX (l.take j)).toArray.size≤_
   rw[List.size_toArray]
   have:235*min j l.length≤235*j:=Nat.mul_le_mul_left _ (Nat.min_le_left _ _)
   omega
  have hvs:(⟨(zeu x).toArray⟩:By).size=(zeu x).length:=by
   show (zeu x).toArray.size=_
   simp
  refine zf (zp (za (Om U (Om U (Om U ?_)))))
  refine Og (zi yA ym U U _ U hlt) U ?_
  refine Og (zh zaz ym U U hcell) U ?_
  refine Oc zCo U U U (zBw x _ hxc hxg) ?_
  rintro v16 w16⟨i16,f16,c16⟩
  refine Og (zgo (l:=zeu x) yY zaT st9 U i16.rd) U ?_
  refine Og (zxx U U (by rw[hvs];omega)) U ?_
  refine Oa U (N3 0 3 4 U (zl (za (Om U ?_))))
  refine Og (zG U U (by omega)) U ?_
  refine Oa U (N3 0 3 4 U ?_)
  refine⟨l.length-(j+1),by omega,j+1,rfl,by omega,?_,hcx.trans c16⟩
  rw[htk,←zqV];rfl
 refine za (Om U (Om U (On yA U ?_)))
 refine Og (vf (zy U U) (by simp;omega)) U ?_
 refine E4 0 3 4 8 U (zb U ?_)
 refine zH ?_
 repeat first|refine te ?_|refine bo rfl ?_
 refine zq _ ?_
 refine Sr (Om U (Oa U (E1 2 U (zj ?_))))
 refine zw U U ?_
 rw[Tl (by omega)]
 exact⟨U,hcx⟩
def zau(w:Wl)(v:Va)(ls:LV):Prop:=∃vs,zA w 36 1 v ls.length vs∧yp w 111 4 zX.cs vs ls
theorem zau.chg0{w w':Wl}{v:Va}{ls:LV}(h:zau w v ls)(hc:zk [] w w'):zau w' v ls:=let ⟨vs,h1,h2⟩:=h; ⟨vs,zA.chg0 h1 hc,h2.chg0 hc⟩
theorem zau.nil(w:Wl):zau w (.slice none 0 0) []:=⟨[],zA.nil _ _ _,trivial⟩
theorem zau.val{w:Wl}{v:Va}{ls:LV}(h:zau w v ls):∃p c,v=.slice p ls.length c∧ls.length≤c:=let ⟨_,h1,_⟩:=h;zA.val h1
theorem zau.at{w:Wl}{v:Va}{ls:LV}(h:zau w v ls){i:Nat}{l:List zX}(hi:ls[i]? = some l):∃b off cap u,v=.slice (some ⟨b,off,none⟩) ls.length cap∧w.cell? ⟨b,off+i*1,none⟩=some u∧zbW w u l:=by
 obtain⟨vs,h1,h2⟩:=h
 obtain⟨u,hu,ha⟩:=h2.at hi
 obtain⟨b,off,cap,u',hv,hu',hc⟩:=Rd.at1 h1.toRd (Gs hi).1
 rw[hu]at hu'
 cases hu'
 exact⟨b,off,cap,u,hv,hc,ha⟩
theorem zau.chgB{w w':Wl}{v:Va}{ls:LV}(h:zau w v ls){b:Nat}{e':TypeId}{c:List Va}(hb:zO w b e' c)(h1:Nat.beq 36 e'=false)(h2:Nat.beq 111 e'=false)(hc:zk [b] w w'):zau w' v ls:=
 let ⟨vs,g1,g2⟩:=h
 ⟨vs,zA.chg g1 hc (zA.apart g1 hb h1),g2.chg hc (g2.apart hb h2)⟩
theorem zau.push{w w' w'':Wl}{x x' v:Va}{ls:LV}{r:List zX}{vs:List Va}(h1:zA w 36 1 x ls.length vs)(h2:yp w 111 4 zX.cs vs ls)(h3:zbW w v r)(hc:zk [] w w')(i:zA w'' 36 1 x' (ls.length+1) (vs++[v]))(hc':zk (zu x) w' w''):zau w'' x' (ls++[r]):=by
 have h4:yp w' 111 4 zX.cs (vs++[v]) (ls++[r]):=yp.append (h2.chg0 hc) ⟨yj.chg0 h3 hc,trivial⟩
 refine⟨vs++[v],?_,h4.chg hc' (h4.apartSl (zA.chg0 h1 hc) U)⟩
 rw[List.length_append]
 exact i
structure za3(w:Wl)(c k u o:Va)(s:yL)(rows:LV):Prop where
 sch:zaa w c k u s
 rws:zau w o rows
 ok:yT s rows
 nm:∀c∈s.cols,c.n.size≤1048576
theorem za3.chg0{w w':Wl}{c k u o:Va}{s:yL}{rows:LV}(h:za3 w c k u o s rows)(hc:zk [] w w'):za3 w' c k u o s rows:=⟨h.sch.chg0 hc,h.rws.chg0 hc,h.ok,h.nm⟩
theorem za3.one{w:Wl}{c k u:Va}{s:yL}(h:zaa w c k u s)(p:Option Addr)(n q:Nat):∀y∈[c,k,u,.slice p n q],y.oneCell'=true:=by
 intro y hy
 simp only[List.mem_cons,List.not_mem_nil,or_false]at hy
 rcases hy with rfl|rfl|rfl|rfl
 ·exact h.one _ (by simp)
 ·exact h.one _ (by simp)
 ·exact h.one _ (by simp)
 rfl
theorem zui{s:yL}{st:List Int}(hr:yF s=true)(hs:st∈zW s):st.length≤1048576:=by
 have:=(zbe (zdq hr st hs)).1.2
 omega
theorem zoK{s:yL}{r:List zX}(h:zaf s r=0){st:List Int}(hs:st∈zW s):∀i∈st,0≤i∧i<r.length:=by
 obtain⟨hr,hl,_⟩:=zaM h
 rw[hl]
 exact(zbe (zdq hr st hs)).2.1
theorem zdy(c k u o v:Va)(s:yL)(rows:LV)(row:List zX)(w:Wl)(h:za3 w c k u o s rows)(hl:yc w v row)(hf:zaf s row=0)(hg:∀x∈row,x.Rng) :
 zT TP 79 #[.agg #[c,k,u,o],v] w fun r w'=>r=.string (yd s row)∧zk [] w w':=by
 have hkl:=zui (zaM hf).1 (zdJ s)
 refine A2 Tryz.func79 U U ?_
 refine Sr ?_
 refine Ob U U ?_
 intro b2 w2 e2 n2 c2 k2
 refine Oa U (E2 1 2 U (Sr (Om U (Od zg1 U (Od zbi U (Ol zb9 U (k2.cell' (i:=1) U) ?_))))))
 refine Oc zzw U U U (zxL _ _ _ _ _ (zN.chg0 hl c2) (h.sch.key.chg0 c2) (zoK hf (zdJ s)) hkl) ?_
 rintro v12 w12⟨u12,rfl,i12,f12,c12⟩
 refine Om U (Oe U U (Oe U U (Oa U (Oa U (E1 5 U (Sr (Om U ?_)))))))
 refine Oc zA0 U U U (zAC _ _ _ i12.arr (fun x hx=>⟨zi1 hf x (zfR hf (zdJ s) x hx),hg x (zfR hf (zdJ s) x hx)⟩) (by rw[zhE];exact hkl)) ?_
 rintro v16 w16⟨rfl,c16⟩
 refine Oa U (E1 4 U (zj ?_))
 refine zw U U ?_
 exact⟨U,(c2.trans c12).trans c16⟩
theorem zvk(va vb vi:Va)(a b:List zX)(st:List Int)(w:Wl)(ha:yc w va a)(hb:yc w vb b)(hi:yw w vi st)(hra:∀i∈st,0≤i∧i<a.length)(hrb:∀i∈st,0≤i∧i<b.length)(hn:st.length≤1048576) :
 zT TP 136 #[va,vb,vi] w fun r w'=>r=.bool (za9 a b st)∧zk [] w w':=by
 obtain⟨pa,ca,rfl,hca⟩:=zN.val ha
 obtain⟨pb,cb,rfl,hcb⟩:=zN.val hb
 obtain⟨pi,ci,rfl,hci⟩:=zN.val hi
 refine A3 Tryz.func136 U U ?_
 refine Sr (Oa U (E3 0 1 2 U (zf (Sr (Oa U (E4 0 1 2 7 U (zp ?_)))))))
 refine zR [0,1,2,7] (fun m F wx=>∃j:Nat,m=st.length-j∧j≤st.length∧F=[(0,.slice pa a.length ca),(1,.slice pb b.length cb),(2,.slice pi st.length ci),(7,Ii j)]∧za9 a b (st.take j)=true∧zk [] w wx) (m:=st.length-0) ⟨0,U,Nat.zero_le _,U,U,zk.refl _ _⟩ ?_
 rintro m F wx⟨j,rfl,hj,rfl,hok,hcx⟩
 refine zf (zf ?_)
 by_cases hlt:j<st.length
 ·refine za (Om U (Om U (On zaA U ?_)))
  refine Og (vt (zy U U) (by simp;omega)) U ?_
  refine E5 0 1 2 7 11 U (ze U (zm ?_))
  have hx:st[j]? = some st[j]:=by simp[hlt]
  have htk:=List.take_succ_eq_append_getElem hlt
  have hmem:=List.getElem_mem hlt
  generalize st[j]=i at hx htk hmem
  obtain⟨ha0,ha1⟩:=hra i hmem
  obtain⟨hb0,hb1⟩:=hrb i hmem
  obtain⟨i,rfl⟩:∃k:Nat,i=(k:Int):=⟨i.toNat,by omega⟩
  have hia:i<a.length:=by omega
  have hib:i<b.length:=by omega
  have hxa:a[i]? = some (zdb a (i:Int)):=(zfc rfl ⟨ha0,ha1⟩).2
  have hxb:b[i]? = some (zdb b (i:Int)):=(zfc rfl ⟨hb0,hb1⟩).2
  have hstep:za9 a b (st.take (j+1))=(decide ((zdb a (i:Int)).k≠0) && decide (zdb a (i:Int)=zdb b (i:Int))):=by
   unfold za9 at hok ⊢
   rw[htk,List.all_append,hok]
   simp
  have hfail:za9 a b (st.take (j+1))=false→za9 a b st=false:=fun h=>by
   unfold za9 at h ⊢
   rw[←List.take_append_drop (j+1) st,List.all_append,h,Bool.false_and]
  generalize zdb a (i:Int)=x at *
  generalize zdb b (i:Int)=y at *
  obtain⟨bi,oi,cpi,hve,-⟩:=yw.cell hi hx
  cases hve
  obtain⟨ba,oa,cpa,hve,-⟩:=zN.at zbn ha hxa
  cases hve
  obtain⟨bb,ob,cpb,hve,-⟩:=zN.at zbn hb hxb
  cases hve
  have hce:∀{wz:Wl},zk [] wx wz→wz.cell? ⟨bi,oi+j*1,none⟩=some (Ii (i:Int))∧zx wz ba (oa+i*4) x.cs∧zx wz bb (ob+i*4) y.cs:=fun hc=>by
   obtain⟨_,_,_,he,h1⟩:=yw.cell (zN.chg0 hi (hcx.trans hc)) hx
   cases he
   obtain⟨_,_,_,he,h2⟩:=zN.at zbn (zN.chg0 ha (hcx.trans hc)) hxa
   cases he
   obtain⟨_,_,_,he,h3⟩:=zN.at zbn (zN.chg0 hb (hcx.trans hc)) hxb
   cases he
   exact⟨h1,h2,h3⟩
  refine zf (zp (zf ?_))
  by_cases h0:x.k=0
  ·refine zI (fun wz=>zk [] wx wz) mix (zeI (by kernel_rfl)) (zk.drew [] wx) ?_
   refine Tm U (Tm U (Tm U ?_))
   refine Tp (fun _=>zi zaA sz3 U U _ U hlt) U ?_
   refine Tr (fun wz hz=>zg ag3 U (hce hz).1) U ?_
   refine Tp (fun _=>zi yA ym U U _ U hia) U ?_
   refine Td zak U ?_
   refine Tr (fun wz hz=>zg zbI U ((hce hz).2.1 0 _ U)) U ?_
   refine Tp (fun _=>vt (zv U U) (by simp[h0])) U ?_
   refine Tm U (Tz U U (Tz U U (Tz U U (Tz U U (Tz U U (Tz U U (Tz U U (Tz U U (Tz U U (Tz U U (Tz U U (Tz U U (Tz U U (Tz U U (Tz U U ?_)))))))))))))))
   refine Tp (fun _=>zD U U) U (D5 0 1 2 7 39 U (ze U (Sr (Oa U (E1 6 U (zj ?_))))))
   repeat first|refine tr ?_|refine br ?_
   refine zw U U ?_
   exact⟨by rw[hfail (by rw[hstep];simp[h0])],hcx.trans (zk.drew [] _)⟩
  refine zI (fun wz=>zk [] wx wz) mix (zeI (by kernel_rfl)) (zk.drew [] wx) ?_
  refine Tm U (Tm U (Tm U ?_))
  refine Tp (fun _=>zi zaA sz3 U U _ U hlt) U ?_
  refine Tr (fun wz hz=>zg ag3 U (hce hz).1) U ?_
  refine Tp (fun _=>zi yA ym U U _ U hia) U ?_
  refine Td zak U ?_
  refine Tr (fun wz hz=>zg zbI U ((hce hz).2.1 0 _ U)) U ?_
  refine Tp (fun _=>vf (zv U U) (by simp[h0])) U ?_
  refine Tm U (Tq U U U (Tq U U U (Tq U U U ?_)))
  refine Tg U U (fun _=>zi zaA sz3 U U _ U hlt) U ?_
  refine Ts U U (fun wz hz=>zg ag3 U (hce hz).1) U ?_
  refine Tg U U (fun _=>zi yA ym U U _ U hia) U ?_
  refine Ts U U (fun wz hz=>zh zaz ym U U (hce hz).2.1) U (Tq U U U (Tq U U U (Tq U U U ?_)))
  refine Tg U U (fun _=>zi zaA sz3 U U _ U hlt) U ?_
  refine Ts U U (fun wz hz=>zg ag3 U (hce hz).1) U ?_
  refine Tg U U (fun _=>zi yA ym U U _ U hib) U ?_
  refine Ts U U (fun wz hz=>zh zaz ym U U (hce hz).2.2) U (Tg U U (fun _=>zhV zpK U U (zlB x y)) U (Tp (fun _=>zE U U) U (D5 0 1 2 7 39 U ?_)))
  by_cases hxy:x=y
  ·refine zb (by simp[hxy];rfl) ?_
   refine zU (zl (za (Om U ?_)))
   refine Og (zG U U (by omega)) U ?_
   refine Oa U (N4 0 1 2 7 U ?_)
   exact⟨st.length-(j+1),by omega,j+1,rfl,by omega,rfl,by rw[hstep];simp[hxy];simpa[hxy] using h0,hcx.trans (zk.drew [] _)⟩
  refine ze (by simp[hxy];rfl) ?_
  refine Sr (Oa U (E1 6 U (zj ?_)))
  repeat first|refine tr ?_|refine br ?_
  refine zw U U ?_
  exact⟨by rw[hfail (by rw[hstep];simp[hxy])],hcx.trans (zk.drew [] _)⟩
 refine za (Om U (Om U (On zaA U ?_)))
 refine Og (vf (zy U U) (by simp;omega)) U ?_
 refine E5 0 1 2 7 11 U (zb U ?_)
 refine zH ?_
 repeat first|refine te ?_|refine bo rfl ?_
 refine zq _ ?_
 refine Sr (Oa U (E1 6 U (zj ?_)))
 refine zw U U ?_
 rw[Tl (by omega)]at hok
 exact⟨by rw[hok],hcx⟩
theorem zrp(c k u o va vb:Va)(s:yL)(rows:LV)(a b:List zX)(w:Wl)(h:za3 w c k u o s rows)(ha:yc w va a)(hb:yc w vb b)(hfa:zaf s a=0)(hfb:zaf s b=0) :
 zT TP 88 #[.agg #[c,k,u,o],va,vb] w fun r w'=>r=.bool (zar s a b)∧zk [] w w':=by
 obtain⟨pa,ca,rfl,hca⟩:=zN.val ha
 obtain⟨pb,cb,rfl,hcb⟩:=zN.val hb
 have hr:=h.ok.right
 refine A3 Tryz.func88 U U ?_
 refine Sr ?_
 refine Ob U U ?_
 intro b3 w3 e3 n3 c3 k3
 refine Oa U (E3 1 2 3 U (Sr (Od zg1 U ?_)))
 refine Og (zh zbw zbo U U (zx.of_blk k3 0 [c,k,u] ⟨[_],U⟩)) U ?_
 refine Oc zAR U U U (zy6 _ _ _ s _ (h.sch.chg0 c3) hr h.nm) ?_
 rintro v11 w11⟨i11,f11,c11⟩
 refine Oa U (E3 1 2 7 U ?_)
 have hc11:=c3.trans c11
 obtain⟨ps,cs,rfl,hcs⟩:=zca.val i11
 have hsl:(zW s).length≤1048576:=by have:=(zZ hr).2.1;simp[zW];omega
 refine zf (Sr (Oa U (E4 1 2 7 8 U (zp ?_))))
 refine zR [1,2,7,8] (fun m F wx=>∃j:Nat,m=(zW s).length-j∧j≤(zW s).length∧F=[(1,.slice pa a.length ca),(2,.slice pb b.length cb),(7,.slice ps (zW s).length cs),(8,Ii j)]∧((zW s).take j).any (za9 a b)=false∧zk [] w11 wx) (m:=(zW s).length-0) ⟨0,U,Nat.zero_le _,U,U,zk.refl _ _⟩ ?_
 rintro m F wx⟨j,rfl,hj,rfl,hok,hcx⟩
 refine zf (zf ?_)
 by_cases hlt:j<(zW s).length
 ·refine za (Om U (Om U (On za6 U ?_)))
  refine Og (vt (zy U U) (by simp;omega)) U ?_
  refine E5 1 2 7 8 15 U (ze U (zm ?_))
  have hx:(zW s)[j]? = some (zW s)[j]:=by simp[hlt]
  have htk:=List.take_succ_eq_append_getElem hlt
  have hmem:=List.getElem_mem hlt
  generalize (zW s)[j]=st at hx htk hmem
  obtain⟨bi,oi,cpi,vi,hve,hcell,hint⟩:=zca.at (i11.chg0 hcx) hx
  cases hve
  refine zf (zp (Sr (Om U (Om U (Om U (Om U ?_))))))
  refine Og (zi za6 zg0 U U _ U hlt) U ?_
  refine Ol zb9 U hcell ?_
  refine Oc zAG U U U (zvk _ _ _ a b st _ (zN.chg0 ha (hc11.trans hcx)) (zN.chg0 hb (hc11.trans hcx)) hint (zoK hfa hmem) (zoK hfb hmem) (zui hr hmem)) ?_
  rintro v24 w24⟨rfl,c24⟩
  refine E5 1 2 7 8 24 U ?_
  cases hcl:za9 a b st with
  |true=>
   refine ze U (Sr (Oa U (E1 6 U (zj ?_))))
   repeat first|refine tr ?_|refine br ?_
   refine zw U U ?_
   have e:zar s a b=true:=List.any_eq_true.2 ⟨st,hmem,hcl⟩
   exact⟨by rw[e],(hc11.trans hcx).trans c24⟩
  |false=>
   refine zb U (zU (zl (za (Om U ?_))))
   refine Og (zG U U (by omega)) U ?_
   refine Oa U (N4 1 2 7 8 U ?_)
   exact⟨(zW s).length-(j+1),by omega,j+1,rfl,by omega,rfl,by rw[htk,List.any_append,hok];simp[hcl],hcx.trans c24⟩
 refine za (Om U (Om U (On za6 U ?_)))
 refine Og (vf (zy U U) (by simp;omega)) U ?_
 refine E5 1 2 7 8 15 U (zb U ?_)
 refine zH ?_
 repeat first|refine te ?_|refine bo rfl ?_
 refine zq _ ?_
 refine Sr (Oa U (E1 6 U (zj ?_)))
 refine zw U U ?_
 rw[Tl (by omega)]at hok
 exact⟨by unfold zar;rw[hok],hc11.trans hcx⟩
theorem zqf(c k u o va:Va)(s:yL)(rows:LV)(row:List zX)(but:By)(w:Wl)(h:za3 w c k u o s rows)(ha:yc w va row)(hf:zaf s row=0) :
 zT TP 51 #[.agg #[c,k,u,o],va,.string but] w fun r w'=>r=.bool (zcE s rows row but)∧zk [] w w':=by
 obtain⟨pa,ca,rfl,hca⟩:=zN.val ha
 obtain⟨po,co,rfl,hco⟩:=h.rws.val
 have hr:=h.ok.right
 have hrl:=h.ok.le
 refine A3 Tryz.func51 U U ?_
 refine Sr ?_
 refine Ob U U ?_
 intro b3 w3 e3 n3 c3 k3
 refine Oa U (E3 1 2 3 U (zf (Sr (Oa U (E4 1 2 3 7 U (zp ?_))))))
 refine zR [1,2,3,7] (fun m F wx=>∃j:Nat,m=rows.length-j∧j≤rows.length∧F=[(1,.slice pa row.length ca),(2,.string but),(3,Pt b3),(7,Ii j)]∧(rows.take j).any (fun r=>decide (yd s r≠but) && zar s r row)=false∧zk [] w3 wx) (m:=rows.length-0) ⟨0,U,Nat.zero_le _,U,U,zk.refl _ _⟩ ?_
 rintro m F wx⟨j,rfl,hj,rfl,hok,hcx⟩
 have k3x:=k3.chg0 hcx
 refine zf (zf ?_)
 by_cases hlt:j<rows.length
 ·refine za (Om U (Od zax U (Ol zdf U (k3x.cell' (i:=3) U) (On zcB U ?_))))
  refine Og (vt (zy U U) (by simp;omega)) U ?_
  refine E5 1 2 3 7 12 U (ze U (zm ?_))
  have hx:rows[j]? = some rows[j]:=by simp[hlt]
  have htk:=List.take_succ_eq_append_getElem hlt
  have hmem:=List.getElem_mem hlt
  generalize rows[j]=r at hx htk hmem
  have hfr:=h.ok.fit r hmem
  have hgr:=h.ok.rng r hmem
  obtain⟨bo,oo,cpo,vr,hve,hcell,hvr⟩:=(h.rws.chg0 (c3.trans hcx)).at hx
  cases hve
  have hce:∀{wz:Wl},zk [] wx wz→za3 wz c k u (.slice (some ⟨bo,oo,none⟩) rows.length co) s rows∧zO wz b3 67 [c,k,u,.slice (some ⟨bo,oo,none⟩) rows.length co]∧wz.cell? ⟨bo,oo+j*1,none⟩=some vr∧yc wz vr r∧yc wz (.slice pa row.length ca) row:=fun hc=>by
   have hcc:=(c3.trans hcx).trans hc
   exact⟨h.chg0 hcc,k3x.chg0 hc,hc.cell hcell,(yj.chg0 hvr hc).arr,zN.chg0 ha hcc⟩
  refine zf (zp (zf ?_))
  by_cases hk:yd s r=but
  ·refine zI (fun wz=>zk [] wx wz) mix (by kernel_rfl) (zk.drew [] wx) ?_
   refine Tr (fun wz hz=>zh zaU yM U U (zx.of_blk0 (hce hz).2.1)) U (Td zax U (Tr (fun wz hz=>zg zdf U ((hce hz).2.1.cell' (i:=3) U)) U (Tm U ?_)))
   refine Tp (fun _=>zi zcB zew U U _ U hlt) U ?_
   refine Tr (fun wz hz=>zg yV U (hce hz).2.2.1) U ?_
   refine Tc zie U U U (zdy _ _ _ _ _ s rows r _ (hce (zk.drew [] _)).1 (hce (zk.drew [] _)).2.2.2.1 hfr hgr) ?_
   rintro v21 w21⟨rfl,c21⟩
   refine⟨.inl ((zk.drew [] _).trans c21),?_⟩
   refine Tm U ?_
   refine Tp (fun _=>vf (zdA U U) (by simp[hk])) U ?_
   refine Tm U (Tz U U (Tz U U (Tz U U (Tz U U (Tz U U (Tz U U (Tz U U (Tz U U (Tp (fun _=>zE U U) U (D5 1 2 3 7 33 U (zb U (zU (zl (za (Om U ?_)))))))))))))))
   refine Og (zG U U (by omega)) U ?_
   refine Oa U (N4 1 2 3 7 U ?_)
   exact⟨rows.length-(j+1),by omega,j+1,rfl,by omega,rfl,by rw[htk,List.any_append,hok];simp[hk],(hcx.trans (zk.drew [] _)).trans c21⟩
  refine zI (fun wz=>zk [] wx wz) mix (by kernel_rfl) (zk.drew [] wx) ?_
  refine Tr (fun wz hz=>zh zaU yM U U (zx.of_blk0 (hce hz).2.1)) U (Td zax U (Tr (fun wz hz=>zg zdf U ((hce hz).2.1.cell' (i:=3) U)) U (Tm U ?_)))
  refine Tp (fun _=>zi zcB zew U U _ U hlt) U ?_
  refine Tr (fun wz hz=>zg yV U (hce hz).2.2.1) U ?_
  refine Tc zie U U U (zdy _ _ _ _ _ s rows r _ (hce (zk.drew [] _)).1 (hce (zk.drew [] _)).2.2.2.1 hfr hgr) ?_
  rintro v21 w21⟨rfl,c21⟩
  refine⟨.inl ((zk.drew [] _).trans c21),?_⟩
  refine Tm U ?_
  refine Tp (fun _=>vt (zdA U U) (by simp[hk])) U ?_
  refine Tm U (Ts U U (fun wz hz=>zh zaU yM U U (zx.of_blk0 (hce hz).2.1)) U (Tg U U (fun _=>zd zax U) U (Ts U U (fun wz hz=>zg zdf U ((hce hz).2.1.cell' (i:=3) U)) U (Tq U U U ?_))))
  refine Tg U U (fun _=>zi zcB zew U U _ U hlt) U ?_
  refine Ts U U (fun wz hz=>zg yV U (hce hz).2.2.1) U (Tq U U U ?_)
  refine Tv U U zC5 U U U (zrp _ _ _ _ _ _ s rows r row _ (hce ((zk.drew [] _).trans c21)).1 (hce ((zk.drew [] _).trans c21)).2.2.2.1 (hce ((zk.drew [] _).trans c21)).2.2.2.2 hfr hf) ?_
  rintro v32 w32⟨rfl,c32⟩
  refine⟨.inl (((zk.drew [] _).trans c21).trans c32),?_⟩
  refine Tp (fun _=>zD U U) U (D5 1 2 3 7 33 U ?_)
  cases hcl:zar s r row with
  |false=>
   refine zb U (zU (zl (za (Om U ?_))))
   refine Og (zG U U (by omega)) U ?_
   refine Oa U (N4 1 2 3 7 U ?_)
   exact⟨rows.length-(j+1),by omega,j+1,rfl,by omega,rfl,by rw[htk,List.any_append,hok];simp[hcl],((hcx.trans (zk.drew [] _)).trans c21).trans c32⟩
  |true=>
   refine ze U (Sr (Oa U (E1 6 U (zj ?_))))
   repeat first|refine tr ?_|refine br ?_
   refine zw U U ?_
   have e:zcE s rows row but=true:=List.any_eq_true.2 ⟨r,hmem,by simp[hk,hcl]⟩
   exact⟨by rw[e],(((c3.trans hcx).trans (zk.drew [] _)).trans c21).trans c32⟩
 refine za (Om U (Od zax U (Ol zdf U (k3x.cell' (i:=3) U) (On zcB U ?_))))
 refine Og (vf (zy U U) (by simp;omega)) U ?_
 refine E5 1 2 3 7 12 U (zb U ?_)
 refine zH ?_
 repeat first|refine te ?_|refine bo rfl ?_
 refine zq _ ?_
 refine Sr (Oa U (E1 6 U (zj ?_)))
 refine zw U U ?_
 rw[Tl (by omega)]at hok
 exact⟨by unfold zcE;rw[hok],c3.trans hcx⟩
theorem zsz{α:Type}{p:α→Bool}{l:List α}{j:Nat}{x:α}(hx:l[j]? = some x)(h:(l.take j).any p=false)(hp:p x=true):l.find? p=some x:=by
 obtain⟨hlt,rfl⟩:=Gs hx
 have e:l=l.take j++l[j]::l.drop (j+1):=by rw[List.getElem_cons_drop,List.take_append_drop]
 have hn:(l.take j).find? p=none:=List.find?_eq_none.2 fun y hy=>by
  have:=List.any_eq_false.1 h y hy
  simpa using this
 conv=>lhs;rw[e]
 rw[List.find?_append,hn,List.find?_cons,hp]
 rfl
theorem zmF{α:Type}{p:α→Bool}{l:List α}(h:l.any p=false):l.find? p=none:=List.find?_eq_none.2 fun y hy=>by
 have:=List.any_eq_false.1 h y hy
 simpa using this
theorem zpJ(c k u o:Va)(s:yL)(rows:LV)(key:By)(w:Wl)(h:za3 w c k u o s rows) :
 zT TP 124 #[.agg #[c,k,u,o],.string key] w fun r w'=>∃i:Int,r=Ii i∧((i = -1∧zc0 s rows key=none)∨∃(j:Nat) (x:List zX),i=j∧rows[j]? = some x∧zc0 s rows key=some x)∧zk [] w w':=by
 obtain⟨po,co,rfl,hco⟩:=h.rws.val
 have hrl:=h.ok.le
 refine A2 Tryz.func124 U U ?_
 refine Sr ?_
 refine Ob U U ?_
 intro b2 w2 e2 n2 c2 k2
 refine Oa U (E2 1 2 U (zf (Sr (Oa U (E3 1 2 5 U (zp ?_))))))
 refine zR [1,2,5] (fun m F wx=>∃j:Nat,m=rows.length-j∧j≤rows.length∧F=[(1,.string key),(2,Pt b2),(5,Ii j)]∧(rows.take j).any (fun r=>decide (yd s r=key))=false∧zk [] w2 wx) (m:=rows.length-0) ⟨0,U,Nat.zero_le _,U,U,zk.refl _ _⟩ ?_
 rintro m F wx⟨j,rfl,hj,rfl,hok,hcx⟩
 have k2x:=k2.chg0 hcx
 refine zf (zf ?_)
 by_cases hlt:j<rows.length
 ·refine za (Om U (Od zax U (Ol zdf U (k2x.cell' (i:=3) U) (On zcB U ?_))))
  refine Og (vt (zy U U) (by simp;omega)) U ?_
  refine E4 1 2 5 10 U (ze U (zm ?_))
  have hx:rows[j]? = some rows[j]:=by simp[hlt]
  have htk:=List.take_succ_eq_append_getElem hlt
  have hmem:=List.getElem_mem hlt
  generalize rows[j]=r at hx htk hmem
  have hfr:=h.ok.fit r hmem
  have hgr:=h.ok.rng r hmem
  obtain⟨bo,oo,cpo,vr,hve,hcell,hvr⟩:=(h.rws.chg0 (c2.trans hcx)).at hx
  cases hve
  have hce:∀{wz:Wl},zk [] wx wz→za3 wz c k u (.slice (some ⟨bo,oo,none⟩) rows.length co) s rows∧zO wz b2 67 [c,k,u,.slice (some ⟨bo,oo,none⟩) rows.length co]∧wz.cell? ⟨bo,oo+j*1,none⟩=some vr∧yc wz vr r:=fun hc=>⟨h.chg0 ((c2.trans hcx).trans hc),k2x.chg0 hc,hc.cell hcell,(yj.chg0 hvr hc).arr⟩
  refine zf (zp (zf ?_))
  by_cases hk:yd s r=key
  ·refine zI (fun wz=>zk [] wx wz) mix (by kernel_rfl) (zk.drew [] wx) ?_
   refine Tr (fun wz hz=>zh zaU yM U U (zx.of_blk0 (hce hz).2.1)) U (Td zax U (Tr (fun wz hz=>zg zdf U ((hce hz).2.1.cell' (i:=3) U)) U (Tm U ?_)))
   refine Tp (fun _=>zi zcB zew U U _ U hlt) U ?_
   refine Tr (fun wz hz=>zg yV U (hce hz).2.2.1) U ?_
   refine Tc zie U U U (zdy _ _ _ _ _ s rows r _ (hce (zk.drew [] _)).1 (hce (zk.drew [] _)).2.2.2 hfr hgr) ?_
   rintro v19 w19⟨rfl,c19⟩
   refine⟨.inl ((zk.drew [] _).trans c19),?_⟩
   refine Tm U ?_
   refine Tp (fun _=>vt (zaL U U) (by simp[hk])) U ?_
   refine D4 1 2 5 21 U (ze U (Sr (Om U (Oa U (E1 4 U (zj ?_))))))
   repeat first|refine tr ?_|refine br ?_
   refine zw U U ?_
   exact⟨_,rfl,.inr ⟨j,r,rfl,hx,zsz hx hok (by simp[hk])⟩,((c2.trans hcx).trans (zk.drew [] _)).trans c19⟩
  refine zI (fun wz=>zk [] wx wz) mix (by kernel_rfl) (zk.drew [] wx) ?_
  refine Tr (fun wz hz=>zh zaU yM U U (zx.of_blk0 (hce hz).2.1)) U (Td zax U (Tr (fun wz hz=>zg zdf U ((hce hz).2.1.cell' (i:=3) U)) U (Tm U ?_)))
  refine Tp (fun _=>zi zcB zew U U _ U hlt) U ?_
  refine Tr (fun wz hz=>zg yV U (hce hz).2.2.1) U ?_
  refine Tc zie U U U (zdy _ _ _ _ _ s rows r _ (hce (zk.drew [] _)).1 (hce (zk.drew [] _)).2.2.2 hfr hgr) ?_
  rintro v19 w19⟨rfl,c19⟩
  refine⟨.inl ((zk.drew [] _).trans c19),?_⟩
  refine Tm U ?_
  refine Tp (fun _=>vf (zaL U U) (by simp[hk])) U ?_
  refine D4 1 2 5 21 U (zb U (zU (zl (za (Om U ?_)))))
  refine Og (zG U U (by omega)) U ?_
  refine Oa U (N3 1 2 5 U ?_)
  exact⟨rows.length-(j+1),by omega,j+1,rfl,by omega,rfl,by rw[htk,List.any_append,hok];simp[hk],(hcx.trans (zk.drew [] _)).trans c19⟩
 refine za (Om U (Od zax U (Ol zdf U (k2x.cell' (i:=3) U) (On zcB U ?_))))
 refine Og (vf (zy U U) (by simp;omega)) U ?_
 refine E4 1 2 5 10 U (zb U ?_)
 refine zH ?_
 repeat first|refine te ?_|refine bo rfl ?_
 refine zq _ ?_
 refine Sr (Oa U (E1 4 U (zj ?_)))
 refine zw U U ?_
 rw[Tl (by omega)]at hok
 exact⟨_,U,.inl ⟨U,zmF hok⟩,c2.trans hcx⟩
theorem zlc(c k u o:Va)(s:yL)(rows:LV)(key:By)(w:Wl)(h:za3 w c k u o s rows) :
 zT TP 78 #[.agg #[c,k,u,o],.string key] w fun r w'=>∃o',r=.agg #[c,k,u,o']∧za3 w' c k u o' s (zbu s rows key)∧(∀b∈zu o',w.heap.size≤b)∧zk [] w w':=by
 obtain⟨po,co,rfl,hco⟩:=h.rws.val
 have hrl:=h.ok.le
 refine A2 Tryz.func78 U U ?_
 refine Sr ?_
 refine Ob U U ?_
 intro b2 w2 e2 n2 c2 k2
 refine Oq (zF zgT U U ?_)
 intro b4 w4 e4 n4 c4 k4
 refine E3 1 2 4 U (Sr (Oa U (E4 1 2 4 5 U (zf (Sr (Oa U (E5 1 2 4 5 6 U (zp ?_))))))))
 refine zR [1,2,4,5,6] (fun m F wx=>∃j:Nat,m=rows.length-j∧j≤rows.length∧∃x:Va,F=[(1,.string key),(2,Pt b2),(4,Pt b4),(5,x),(6,Ii j)]∧zau wx x (zbu s (rows.take j) key)∧(∀b∈zu x,w4.heap.size≤b)∧zk [] w4 wx) (m:=rows.length-0) ⟨0,rfl,Nat.zero_le _,_,rfl,zau.nil _,by simp[zu],zk.refl _ _⟩ ?_
 rintro m F wx⟨j,rfl,hj,x,rfl,hu,hfu,hcx⟩
 have k2w:zO w4 b2 67 [c,k,u,.slice po rows.length co]:=k2.chg0 c4
 have k2x:=k2w.chg0 hcx
 have k4x:=k4.chg0 hcx
 have hcw:=(c2.trans c4).trans hcx
 refine zf (zf ?_)
 by_cases hlt:j<rows.length
 ·refine za (Om U (Od zax U (Ol zdf U (k2x.cell' (i:=3) U) (On zcB U ?_))))
  refine Og (vt (zy U U) (by simp;omega)) U ?_
  refine E6 1 2 4 5 6 11 U (ze U (zm ?_))
  have hx:rows[j]? = some rows[j]:=by simp[hlt]
  have htk:=List.take_succ_eq_append_getElem hlt
  have hmem:=List.getElem_mem hlt
  generalize rows[j]=r at hx htk hmem
  have hfr:=h.ok.fit r hmem
  have hgr:=h.ok.rng r hmem
  obtain⟨bo,oo,cpo,vr,hve,hcell,hvr⟩:=(h.rws.chg0 hcw).at hx
  cases hve
  have hce:∀{wz:Wl},zk [] wx wz→za3 wz c k u (.slice (some ⟨bo,oo,none⟩) rows.length co) s rows∧zO wz b2 67 [c,k,u,.slice (some ⟨bo,oo,none⟩) rows.length co]∧wz.cell? ⟨bo,oo+j*1,none⟩=some vr∧yc wz vr r:=fun hc=>⟨h.chg0 (hcw.trans hc),k2x.chg0 hc,hc.cell hcell,(yj.chg0 hvr hc).arr⟩
  refine zf (zp (zf ?_))
  by_cases hk:yd s r=key
  ·refine zI (fun wz=>zk [] wx wz) mix (by kernel_rfl) (zk.drew [] wx) ?_
   refine Tr (fun wz hz=>zh zaU yM U U (zx.of_blk0 (hce hz).2.1)) U (Td zax U (Tr (fun wz hz=>zg zdf U ((hce hz).2.1.cell' (i:=3) U)) U (Tm U ?_)))
   refine Tp (fun _=>zi zcB zew U U _ U hlt) U ?_
   refine Tr (fun wz hz=>zg yV U (hce hz).2.2.1) U ?_
   refine Tc zie U U U (zdy _ _ _ _ _ s rows r _ (hce (zk.drew [] _)).1 (hce (zk.drew [] _)).2.2.2 hfr hgr) ?_
   rintro v20 w20⟨rfl,c20⟩
   refine⟨.inl ((zk.drew [] _).trans c20),?_⟩
   refine Tm U ?_
   refine Tp (fun _=>vf (zdA U U) (by simp[hk])) U ?_
   refine D6 1 2 4 5 6 22 U (zb U (zU (zl (za (Om U ?_)))))
   refine Og (zG U U (by omega)) U ?_
   refine Oa U (N5 1 2 4 5 6 U ?_)
   have e:zbu s (rows.take (j+1)) key=zbu s (rows.take j) key:=by unfold zbu;rw[htk,List.filter_append];simp[hk]
   exact⟨rows.length-(j+1),by omega,j+1,rfl,by omega,x,rfl,e▸hu.chg0 ((zk.drew [] _).trans c20),hfu,(hcx.trans (zk.drew [] _)).trans c20⟩
  refine zI (fun wz=>zk [] wx wz) mix (by kernel_rfl) (zk.drew [] wx) ?_
  refine Tr (fun wz hz=>zh zaU yM U U (zx.of_blk0 (hce hz).2.1)) U (Td zax U (Tr (fun wz hz=>zg zdf U ((hce hz).2.1.cell' (i:=3) U)) U (Tm U ?_)))
  refine Tp (fun _=>zi zcB zew U U _ U hlt) U ?_
  refine Tr (fun wz hz=>zg yV U (hce hz).2.2.1) U ?_
  refine Tc zie U U U (zdy _ _ _ _ _ s rows r _ (hce (zk.drew [] _)).1 (hce (zk.drew [] _)).2.2.2 hfr hgr) ?_
  rintro v20 w20⟨rfl,c20⟩
  refine⟨.inl ((zk.drew [] _).trans c20),?_⟩
  refine Tm U ?_
  refine Tp (fun _=>vt (zdA U U) (by simp[hk])) U ?_
  refine D6 1 2 4 5 6 22 U (ze U ?_)
  have hc20:zk [] wx w20:=(zk.drew [] _).trans c20
  obtain⟨us,hus,hls⟩:=hu.chg0 hc20
  obtain⟨pv,cv,rfl,-⟩:=yj.val hvr
  have hll:(zbu s (rows.take j) key).length≤400:=by
   have:=List.length_filter_le (fun r=>decide (yd s r≠key)) (rows.take j)
   unfold zbu
   rw[List.length_take]at this
   omega
  refine za (Om U (Od zax U (Ol zdf U ((hce hc20).2.1.cell' (i:=3) U) (Om U ?_))))
  refine Og (zi zcB zew U U _ U hlt) U ?_
  refine Ol yV U (hce hc20).2.2.1 ?_
  refine Oq (zz zo0 U (vs:=[_]) U (css:=[_]) ⟨U,trivial⟩ U U (cs:=[_]) U U ?_)
  intro b29 w29 e29 n29 c29 k29
  refine Oq (yo zo0 zcB U U (zA.chg0 hus c29) (zA.of_blk (n:=1) k29 U (by simp[maxLen]) (by intro y hy;simp at hy;subst hy;rfl)) (by simp only[maxLen];omega) (by omega) U ?_)
  intro v30 w30 i30 c30 o30 z30
  refine Oa U (N5 1 2 4 5 6 U (zl (za (Om U ?_))))
  refine Og (zG U U (by omega)) U ?_
  refine Oa U (N5 1 2 4 5 6 U ?_)
  have e:zbu s (rows.take (j+1)) key=zbu s (rows.take j) key++[r]:=by unfold zbu;rw[htk,List.filter_append];simp[hk]
  have hs1:=hcx.size
  have hs2:=hc20.size
  have hs3:=c29.size
  refine⟨rows.length-(j+1),by omega,j+1,rfl,by omega,v30,rfl,?_,yq o30 hfu (by omega),((hcx.trans hc20).trans c29).own c30 hfu⟩
  rw[e]
  exact zau.push hus hls (yj.chg0 hvr hc20) c29 i30 c30
 refine za (Om U (Od zax U (Ol zdf U (k2x.cell' (i:=3) U) (On zcB U ?_))))
 refine Og (vf (zy U U) (by simp;omega)) U ?_
 refine E6 1 2 4 5 6 11 U (zb U ?_)
 refine zH ?_
 repeat first|refine te ?_|refine bo rfl ?_
 refine zq _ ?_
 rw[Tl (by omega)]at hu
 obtain⟨px,cx,rfl,-⟩:=hu.val
 refine Sr (Om U (Od zax U ?_))
 refine Oq (zt zAb U U U U k2x (by simp) (by intro y hy;simp at hy;subst hy;rfl) ?_)
 intro wA nA cA kA
 refine E2 2 4 U ?_
 have kA:zO wA b2 67 [c,k,u,.slice px (zbu s rows key).length cx]:=kA
 have k4A:=k4x.chg cA (by simp;omega)
 refine Sr (Og (zh zaU yM U U (zx.of_blk0 kA)) U ?_)
 refine Oq (zt yM U U U U k4A (by simp) (za3.one h.sch _ _ _) ?_)
 intro wB nB cB kB
 refine E1 4 U (zj ?_)
 refine zfI U zaU yM U U (zx.of_blk0 kB) ?_
 have hs1:=c2.size
 have hs2:=c4.size
 have hcB:zk [] w wB:=(hcw.own cA (by intro y hy;simp at hy;omega)).own cB (by intro y hy;simp at hy;omega)
 exact⟨_,rfl,⟨h.sch.chg0 hcB,(hu.chgB k2x U U cA).chgB k4A U U cB,h.ok.less key,h.nm⟩,fun b hb=>by have:=hfu b hb;omega,hcB⟩
section
variable {α:Type} {w:Wl} {e k:Nat} {f:α→List Va}
theorem yp.take:∀{vs:List Va} {ls:List (List α)} (i:Nat),yp w e k f vs ls→yp w e k f (vs.take i) (ls.take i)
 |_,_,0,_=>by simp[yp]
 |[],[],_+1,_=>by simp[yp]
 |_::_,_::_,i+1,h=>⟨h.1,h.2.take i⟩
theorem yp.drop:∀{vs:List Va} {ls:List (List α)} (i:Nat),yp w e k f vs ls→yp w e k f (vs.drop i) (ls.drop i)
 |_,_,0,h=>h
 |[],[],_+1,_=>by simp[yp]
 |_::_,_::_,i+1,h=>by simpa using h.2.drop i
end
theorem zmL{α:Type}{p:α→Bool}:∀{l:List α} {j:Nat},j≤l.length→(l.take j).all p=true→(∀x,l[j]? = some x→p x=false)→l.takeWhile p=l.take j∧l.dropWhile p=l.drop j
 |[],j,hj,_,_=>by simp
 |a::l,0,_,_,h=>by
  have:=h a (by simp)
  simp[List.takeWhile_cons,List.dropWhile_cons,this]
 |a::l,j+1,hj,h1,h2=>by
  simp only[List.take_succ_cons,List.all_cons,Bool.and_eq_true]at h1
  have ih:=zmL (l:=l) (j:=j) (by simpa using hj) h1.2 (fun x hx=>h2 x (by simpa using hx))
  simp[List.takeWhile_cons,List.dropWhile_cons,h1.1,ih.1,ih.2]
theorem zrC(c k u o v:Va)(s:yL)(rows:LV)(row:List zX)(w:Wl)(h:za3 w c k u o s rows)(hl:yc w v row)(hf:zaf s row=0)(hg:∀x∈row,x.Rng)(hcl:∀r∈rows,zar s r row=false)(h400:rows.length<400) :
 zT TP 52 #[.agg #[c,k,u,o],v] w fun r w'=>∃o',r=.agg #[c,k,u,o']∧za3 w' c k u o' s (zdm s rows row)∧zk [] w w':=by
 obtain⟨po,co,rfl,hco⟩:=h.rws.val
 obtain⟨pv,cv,rfl,hcv⟩:=zN.val hl
 refine A2 Tryz.func52 U U ?_
 refine Sr ?_
 refine Ob U U ?_
 intro b2 w2 e2 n2 c2 k2
 refine Oq (zF zgT U U ?_)
 intro b4 w4 e4 n4 c4 k4
 refine E3 1 2 4 U ?_
 have k2w:zO w4 b2 67 [c,k,u,.slice po rows.length co]:=k2.chg0 c4
 have hcw4:=c2.trans c4
 refine Sr (Og (zh zaU yM U U (zx.of_blk0 k2w)) U (Om U ?_))
 refine Oc zie U U U (zdy _ _ _ _ _ s rows row _ (h.chg0 hcw4) (zN.chg0 hl hcw4) hf hg) ?_
 rintro v10 w10⟨rfl,c10⟩
 refine Oa U (E4 1 2 4 5 U (Sr (Oa U (E5 1 2 4 5 6 U ?_))))
 refine zQ (fun F wx=>∃(j:Nat) (f5 f26:Va),F=[(1,.slice pv row.length cv),(2,Pt b2),(4,Pt b4),(5,f5),(6,Ii j),(26,f26)]∧j≤rows.length∧rows.takeWhile (fun r=>blt (yd s r) (yd s row))=rows.take j∧rows.dropWhile (fun r=>blt (yd s r) (yd s row))=rows.drop j∧zk [] w4 wx) ?_ ?_
 ·refine zp ?_
  refine zR [1,2,4,5,6] (fun m F wx=>∃j:Nat,m=rows.length-j∧j≤rows.length∧F=[(1,.slice pv row.length cv),(2,Pt b2),(4,Pt b4),(5,.string (yd s row)),(6,Ii j)]∧(rows.take j).all (fun r=>blt (yd s r) (yd s row))=true∧zk [] w4 wx) (m:=rows.length-0) ⟨0,U,Nat.zero_le _,U,U,c10⟩ ?_
  rintro m F wx⟨j,rfl,hj,rfl,hok,hcx⟩
  have k2x:=k2w.chg0 hcx
  have hcw:=hcw4.trans hcx
  refine zf (zf ?_)
  have hjrow:j<rows.length→∃r,rows[j]? = some r∧rows.take (j+1)=rows.take j++[r]:=fun hlt=>⟨rows[j],by simp[hlt],List.take_succ_eq_append_getElem hlt⟩
  by_cases hgo:∃r,rows[j]? = some r∧blt (yd s r) (yd s row)=true
  ·obtain⟨r,hx,hb⟩:=hgo
   have hlt:j<rows.length:=(Gs hx).1
   obtain⟨r',hx',htk⟩:=hjrow hlt
   rw[hx]at hx'
   cases hx'
   have hmem:=List.mem_of_getElem? hx
   have hfr:=h.ok.fit r hmem
   have hgr:=h.ok.rng r hmem
   obtain⟨bo,oo,cpo,vr,hve,hcell,hvr⟩:=(h.rws.chg0 hcw).at hx
   cases hve
   have hce:∀{wz:Wl},zk [] wx wz→za3 wz c k u (.slice (some ⟨bo,oo,none⟩) rows.length co) s rows∧zO wz b2 67 [c,k,u,.slice (some ⟨bo,oo,none⟩) rows.length co]∧wz.cell? ⟨bo,oo+j*1,none⟩=some vr∧yc wz vr r:=fun hc=>⟨h.chg0 (hcw.trans hc),k2x.chg0 hc,hc.cell hcell,(yj.chg0 hvr hc).arr⟩
   refine zI (fun wz=>zk [] wx wz) mix (by kernel_rfl) (zk.drew [] wx) ?_
   refine Tm U (Td zax U (Tr (fun wz hz=>zg zdf U ((hce hz).2.1.cell' (i:=3) U)) U (Tp (fun _=>zV zcB U) U ?_)))
   refine Tp (fun _=>vt (zy U U) (by simp;omega)) U ?_
   refine Tm U (Ts U U (fun wz hz=>zh zaU yM U U (zx.of_blk0 (hce hz).2.1)) U (Tg U U (fun _=>zd zax U) U (Ts U U (fun wz hz=>zg zdf U ((hce hz).2.1.cell' (i:=3) U)) U (Tq U U U ?_))))
   refine Tg U U (fun _=>zi zcB zew U U _ U hlt) U ?_
   refine Ts U U (fun wz hz=>zg yV U (hce hz).2.2.1) U ?_
   refine Tv U U zie U U U (zdy _ _ _ _ _ s rows r _ (hce (zk.drew [] _)).1 (hce (zk.drew [] _)).2.2.2 hfr hgr) ?_
   rintro v23 w23⟨rfl,c23⟩
   refine⟨.inl ((zk.drew [] _).trans c23),?_⟩
   refine Tq U U U (Tg U U (fun _=>vt (zh5 U U) hb) U (Tp (fun _=>zD U U) U (D6 1 2 4 5 6 26 U (ze U (zm (zp (za (Om U ?_))))))))
   refine Og (zG U U (by omega)) U ?_
   refine Oa U (N5 1 2 4 5 6 U (zl ?_))
   exact⟨rows.length-(j+1),by omega,j+1,rfl,by omega,rfl,by rw[htk,List.all_append,hok];simp[hb],(hcx.trans (zk.drew [] _)).trans c23⟩
  rcases Nat.lt_or_ge j rows.length with hlt|hge
  ·obtain⟨r,hx,htk⟩:=hjrow hlt
   have hb:blt (yd s r) (yd s row)=false:=by
    cases hbb:blt (yd s r) (yd s row) with
    |false=>rfl
    |true=>exact absurd ⟨r,hx,hbb⟩ hgo
   have hmem:=List.mem_of_getElem? hx
   have hfr:=h.ok.fit r hmem
   have hgr:=h.ok.rng r hmem
   obtain⟨bo,oo,cpo,vr,hve,hcell,hvr⟩:=(h.rws.chg0 hcw).at hx
   cases hve
   have hce:∀{wz:Wl},zk [] wx wz→za3 wz c k u (.slice (some ⟨bo,oo,none⟩) rows.length co) s rows∧zO wz b2 67 [c,k,u,.slice (some ⟨bo,oo,none⟩) rows.length co]∧wz.cell? ⟨bo,oo+j*1,none⟩=some vr∧yc wz vr r:=fun hc=>⟨h.chg0 (hcw.trans hc),k2x.chg0 hc,hc.cell hcell,(yj.chg0 hvr hc).arr⟩
   refine zI (fun wz=>zk [] wx wz) mix (by kernel_rfl) (zk.drew [] wx) ?_
   refine Tm U (Td zax U (Tr (fun wz hz=>zg zdf U ((hce hz).2.1.cell' (i:=3) U)) U (Tp (fun _=>zV zcB U) U ?_)))
   refine Tp (fun _=>vt (zy U U) (by simp;omega)) U ?_
   refine Tm U (Ts U U (fun wz hz=>zh zaU yM U U (zx.of_blk0 (hce hz).2.1)) U (Tg U U (fun _=>zd zax U) U (Ts U U (fun wz hz=>zg zdf U ((hce hz).2.1.cell' (i:=3) U)) U (Tq U U U ?_))))
   refine Tg U U (fun _=>zi zcB zew U U _ U hlt) U ?_
   refine Ts U U (fun wz hz=>zg yV U (hce hz).2.2.1) U ?_
   refine Tv U U zie U U U (zdy _ _ _ _ _ s rows r _ (hce (zk.drew [] _)).1 (hce (zk.drew [] _)).2.2.2 hfr hgr) ?_
   rintro v23 w23⟨rfl,c23⟩
   refine⟨.inl ((zk.drew [] _).trans c23),?_⟩
   refine Tq U U U (Tg U U (fun _=>vf (zh5 U U) hb) U (Tp (fun _=>zD U U) U (D6 1 2 4 5 6 26 U (zb U ?_))))
   refine zH ?_
   repeat first|refine te ?_|refine bo rfl ?_
   refine zq _ ?_
   have e:=zmL (p:=fun r=>blt (yd s r) (yd s row)) hj hok (fun y hy=>by rw[hx]at hy;cases hy;exact hb)
   exact⟨j,_,_,U,hj,e.1,e.2,(hcx.trans (zk.drew [] _)).trans c23⟩
  refine zI (fun wz=>zk [] wx wz) mix (by kernel_rfl) (zk.drew [] wx) ?_
  refine Tm U (Td zax U (Tr (fun wz hz=>zg zdf U ((k2x.chg0 hz).cell' (i:=3) U)) U (Tp (fun _=>zV zcB U) U ?_)))
  refine Tp (fun _=>vf (zy U U) (by simp;omega)) U ?_
  refine Tm U (Tz U U (Tz U U (Tz U U (Tz U U (Tz U U (Tz U U (Tz U U (Tz U U (Tz U U (Tp (fun _=>zE U U) U (D6 1 2 4 5 6 26 U (zb U ?_))))))))))))
  refine zH ?_
  repeat first|refine te ?_|refine bo rfl ?_
  refine zq _ ?_
  have e:=zmL (p:=fun r=>blt (yd s r) (yd s row)) hj hok (fun y hy=>by rw[List.getElem?_eq_none (by omega)]at hy;cases hy)
  exact⟨j,_,_,U,hj,e.1,e.2,hcx.trans (zk.drew [] _)⟩
 rintro F wx⟨j,f5,f26,rfl,hj,hT,hD,hcx⟩
 have k2x:=k2w.chg0 hcx
 have k4x:=k4.chg0 hcx
 have hcw:=hcw4.trans hcx
 have hs1:=c2.size
 have hs2:=c4.size
 have hs3:=hcx.size
 obtain⟨vs,hvs,hls⟩:=id h.rws
 have hvl:=hvs.len_xs
 rw[Nat.mul_one]at hvl
 have hrow:row.length≤1048576:=by have:=(zaM hf).2.1;have:=(zZ (zaM hf).1).1.2;omega
 have hd1:∀{wz:Wl},zk [] w wz→Rd wz 1 (cut po 0 j co 1) j (vs.take j):=fun hc=>by
  have:=Rd.cut (zA.chg0 hvs hc).toRd (l:=0) (h:=j) (m:=co) (by omega) (by omega) (Nat.le_refl _) hj
  simpa using this
 have hd2:∀{wz:Wl},zk [] w wz→Rd wz 1 (cut po j rows.length co 1) (rows.length-j) (vs.drop j):=fun hc=>by
  have:=Rd.cut (zA.chg0 hvs hc).toRd (l:=j) (h:=rows.length) (m:=co) hj (by omega) (Nat.le_refl _) (Nat.le_refl _)
  rw[Nat.mul_one,Nat.mul_one,Tl (by rw[List.length_drop];omega)]at this
  exact this
 refine Sr ?_
 refine Oq (zz zo0 U (vs:=[]) U (css:=[]) trivial U U (cs:=[]) U U ?_)
 intro b29 w29 e29 n29 c29 k29
 refine Od zax U (Ol zdf U ((k2x.chg0 c29).cell' (i:=3) U) (Om U ?_))
 refine Og (zbk zcB zew U U _ U (by omega)) U ?_
 refine Oq (zco zo0 zcB U U (zA.of_blk (n:=0) k29 (by simp) (by simp[maxLen]) (by simp)) (hd1 (hcw.trans c29)) (by simp only[maxLen];omega) (by omega) U ?_)
 intro v34 w34 i34 c34 o34 z34
 refine Oa U (E5 1 2 4 6 7 U ?_)
 have hs4:=c29.size
 have f29:∀x∈zu (.slice (some ⟨b29,0,none⟩) 0 0),wx.heap.size≤x:=by intro x hx;simp[zu]at hx;omega
 have f34:=yq o34 f29 (by omega)
 have hc34:=c29.own c34 f29
 have k2y:=k2x.chg0 hc34
 have k4y:=k4x.chg0 hc34
 have hcy:=hcw.trans hc34
 have hs5:=hc34.size
 have hdr:w34.drew.heap.size=w34.heap.size:=rfl
 refine zf ?_
 refine zI (fun wz=>zk [] wx wz) mix (by kernel_rfl) (hc34.trans (zk.drew [] _)) ?_
 refine Tm U ?_
 refine zaQ U (gn U) (zz zjD U (vs:=[]) U (css:=[]) trivial U U (cs:=[]) U U ?_)
 intro b36 w36 e36 n36 c36 k36
 refine⟨.inl ((hc34.trans (zk.drew [] _)).trans c36),?_⟩
 refine Tm U ?_
 refine zaQ U (gn U) (zco zjD yA U U (zA.of_blk (n:=0) k36 (by simp) (by simp[maxLen]) (by simp)) (zN.chg0 hl ((hcy.trans (zk.drew [] _)).trans c36)) (by simp only[maxLen];omega) (by omega) U ?_)
 intro v38 w38 i38 c38 o38 z38
 have G38:zk [] w34 w38:=((zk.drew [] _).trans c36).own c38 (by intro x hx;simp[zu]at hx;omega)
 have i38:zbW w38 v38 row:=by have:=i38;simp only[Nat.zero_add,List.nil_append]at this;exact this
 obtain⟨p38,q38,rfl,-⟩:=yj.val i38
 have z38:=G38.size
 refine⟨.inl (hc34.trans G38),?_⟩
 refine zaQ U (gn U) (zz zo0 U (vs:=[_]) U (css:=[_]) ⟨U,trivial⟩ U U (cs:=[_]) U U ?_)
 intro b39 w39 e39 n39 c39 k39
 refine⟨.inl ((hc34.trans G38).trans c39),?_⟩
 refine zaQ U (gn U) (yo zo0 zcB U U (zA.chg0 i34 (G38.trans c39)) (zA.of_blk (n:=1) k39 U (by simp[maxLen]) (by intro y hy;simp at hy;subst hy;rfl)) (by simp only[maxLen];omega) (by omega) U ?_)
 intro v40 w40 i40 c40 o40 z40
 have H40:zk [] wx w40:=((hc34.trans G38).trans c39).own c40 f34
 have z39:=c39.size
 have z40:=c40.size
 have f40:=yq o40 f34 (by omega)
 refine⟨.inl H40,?_⟩
 refine Td zax U (Tr (fun wz hz=>zg zdf U ((k2x.chg0 hz).cell' (i:=3) U)) U (Tm U ?_))
 refine Tp (fun _=>zba zcB zew U U _ U (by omega)) U ?_
 refine zaQ U (gn U) (zco zo0 zcB U U i40 (hd2 (hcw.trans H40)) (by simp only[maxLen];omega) (by omega) U ?_)
 intro v45 w45 i45 c45 o45 z45
 have H45:zk [] wx w45:=H40.own c45 f40
 have f45:=yq o45 f40 (by omega)
 obtain⟨p45,q45,rfl,-⟩:=id (zA.val i45)
 refine⟨.inl H45,?_⟩
 refine Td zax U ?_
 refine zaQ U (gn U) (zt zAb U U U U (k2x.chg0 H45) (by simp) (by intro y hy;simp at hy;subst hy;rfl) ?_)
 intro wA nA cA kA
 refine⟨.inr (by kernel_rfl),?_⟩
 refine D2 2 4 U ?_
 have L39:yp w39 111 4 zX.cs (vs.take j++[.slice p38 row.length q38]++vs.drop j) (rows.take j++[row]++rows.drop j):=
  yp.append (yp.append ((hls.take j).chg0 (hcw.trans ((hc34.trans G38).trans c39))) ⟨yj.chg0 i38 c39,trivial⟩) ((hls.drop j).chg0 (hcw.trans ((hc34.trans G38).trans c39)))
 have L40:=L39.chg c40 (L39.apartSl (zA.chg0 i34 (G38.trans c39)) rfl)
 have L45:=L40.chg c45 (L40.apartSl i40 rfl)
 have hwr:zdm s rows row=rows.take j++[row]++rows.drop j:=by unfold zdm;rw[hT,hD];simp
 have hlen:(zdm s rows row).length=0+j+1+(rows.length-j):=by rw[znw];omega
 have hR45:zau w45 (.slice p45 (0+j+1+(rows.length-j)) q45) (zdm s rows row):=⟨_,by rw[hlen];exact i45,by rw[hwr];simpa using L45⟩
 have kA:zO wA b2 67 [c,k,u,.slice p45 (0+j+1+(rows.length-j)) q45]:=kA
 have hRA:=hR45.chgB (k2x.chg0 H45) rfl rfl cA
 have k4A:=(k4x.chg0 H45).chg cA (by simp;omega)
 refine Sr (Og (zh zaU yM U U (zx.of_blk0 kA)) U ?_)
 refine Oq (zt yM U U U U k4A (by simp) (za3.one h.sch _ _ _) ?_)
 intro wB nB cB kB
 refine E1 4 U (zj ?_)
 refine zfI U zaU yM U U (zx.of_blk0 kB) ?_
 have hcB:zk [] w wB:=((hcw.trans H45).own cA (by intro y hy;simp at hy;omega)).own cB (by intro y hy;simp at hy;omega)
 exact⟨_,U,⟨h.sch.chg0 hcB,hRA.chgB k4A U U cB,h.ok.ins hf hg hcl h400,h.nm⟩,hcB⟩
section
variable {P:Program} {fn:Func} {R:Va→Wl→Prop} {n:Nat} {F:Fr} {w:Wl}
theorem zci{t u ty k b off:Nat}{y:Va}{cs:List Va}(hr:fn.results = #[.cell u ty,.tmp t])(hag:zab P ty=some true)(hk:zal P ty=some k)(hu:get F u=some (.pointer (some ⟨b,off,none⟩)))(hy:get F t=some y)(hl:cs.length=k)(hc:zx w b off cs)
 (h:R (.tuple #[.agg cs.toArray,y]) w) (hm:zae F=[]:=by rfl):zfS P fn R n .ret F w:=by
 refine⟨.tuple #[.agg cs.toArray,y],fun a ha=>?_,hm,h⟩
 subst hl
 have h1:(loadCells ⟨b,off,none⟩ cs.length).run P w=.ok cs.toArray w:=run_loadCells_list w ⟨b,off,none⟩ cs (fun j v hv=>by rw[Addr.add_lit];exact hc j v hv)
 simp[results,hr,ha.get u _ hu,ha.get t _ hy,asAddr,loadVar,zaH hag,zY hk,h1]
theorem zp7{t u s ty k b off:Nat}{x y:Va}{cs:List Va}(hr:fn.results = #[.cell u ty,.tmp t,.tmp s])(hag:zab P ty=some true)(hk:zal P ty=some k)(hu:get F u=some (.pointer (some ⟨b,off,none⟩)))(hx:get F t=some x)(hy:get F s=some y)(hl:cs.length=k)(hc:zx w b off cs)
 (h:R (.tuple #[.agg cs.toArray,x,y]) w) (hm:zae F=[]:=by rfl):zfS P fn R n .ret F w:=by
 refine⟨.tuple #[.agg cs.toArray,x,y],fun a ha=>?_,hm,h⟩
 subst hl
 have h1:(loadCells ⟨b,off,none⟩ cs.length).run P w=.ok cs.toArray w:=run_loadCells_list w ⟨b,off,none⟩ cs (fun j v hv=>by rw[Addr.add_lit];exact hc j v hv)
 simp[results,hr,ha.get u _ hu,ha.get t _ hx,ha.get s _ hy,asAddr,loadVar,zaH hag,zY hk,h1]
end
theorem zrW(c k u o v:Va)(s:yL)(rows:LV)(row:List zX)(w:Wl)(h:za3 w c k u o s rows)(hl:yc w v row)(hg:∀x∈row,x.Rng) :
 zT TP 26 #[.agg #[c,k,u,o],v] w fun r w'=>∃o',r=.tuple #[.agg #[c,k,u,o'],Ii (zez s rows row)]∧za3 w' c k u o' s (insR s rows row)∧zk [] w w':=by
 obtain⟨po,co,rfl,hco⟩:=h.rws.val
 have hrl:=h.ok.le
 refine A2 Tryz.func26 U U ?_
 refine Sr ?_
 refine Ob U U ?_
 intro b2 w2 e2 n2 c2 k2
 refine Oq (zF zgT U U ?_)
 intro b4 w4 e4 n4 c4 k4
 refine Oa U (E3 1 2 4 U ?_)
 have k2w:zO w4 b2 67 [c,k,u,.slice po rows.length co]:=k2.chg0 c4
 have hcw4:=c2.trans c4
 have hs2:=c2.size
 refine zf (Sr (Od zg1 U ?_))
 refine Og (zh zbw zbo U U (zx.of_blk k2w 0 [c,k,u] ⟨[_],U⟩)) U ?_
 refine Om U ?_
 refine Oc zup U U U (zpq _ _ _ _ s row _ (h.sch.chg0 hcw4) (zN.chg0 hl hcw4) h.nm) ?_
 rintro v10 w10⟨rfl,c10⟩
 refine Oa U (E4 1 2 4 6 U ?_)
 have k2x:=k2w.chg0 c10
 have k4x:=k4.chg0 c10
 have hcx:=hcw4.trans c10
 refine zf ?_
 by_cases hf:zaf s row=0
 ·refine za (Om U ?_)
  refine Og (vf (zJ U U) (by simp[hf])) U ?_
  refine E5 1 2 4 6 12 U (zb U (zm (zf (Sr (Og (zh zaU yM U U (zx.of_blk0 k2x)) U (Om U ?_))))))
  refine Oc zAB U U U (zqf _ _ _ _ _ s rows row e0 _ (h.chg0 hcx) (zN.chg0 hl hcx) hf) ?_
  rintro v17 w17⟨rfl,c17⟩
  refine E4 1 2 4 17 U ?_
  have k2y:=k2x.chg0 c17
  have k4y:=k4x.chg0 c17
  have hcy:=hcx.trans c17
  cases ht:zcE s rows row e0 with
  |true=>
   refine ze U (Sr (Og (zh zaU yM U U (zx.of_blk0 k2y)) U ?_))
   refine Oq (zt yM U U U U k4y (by simp) (za3.one h.sch _ _ _) ?_)
   intro wB nB cB kB
   refine Oa U (E2 4 5 U (zj ?_))
   repeat first|refine tr ?_|refine br ?_
   refine zci U zaU yM U U U (zx.of_blk0 kB) ?_
   have hcB:zk [] w wB:=hcy.own cB (by intro y hy;simp at hy;omega)
   have e:zez s rows row=220:=by simp[zez,hf,ht]
   exact⟨.slice po rows.length co,by rw[e];rfl,by simp only[insR,e];exact h.chg0 hcB,hcB⟩
  |false=>
   refine zb U (zm (zf (zf ?_)))
   by_cases h4:400≤rows.length
   ·refine za (Od zax U (Ol zdf U (k2y.cell' (i:=3) U) (On zcB U ?_)))
    refine Og (vt (ya U U) (by simp;omega)) U ?_
    refine E4 1 2 4 22 U (ze U (Sr (Og (zh zaU yM U U (zx.of_blk0 k2y)) U ?_)))
    refine Oq (zt yM U U U U k4y (by simp) (za3.one h.sch _ _ _) ?_)
    intro wB nB cB kB
    refine Oa U (E2 4 5 U (zj ?_))
    repeat first|refine tr ?_|refine br ?_
    refine zci U zaU yM U U U (zx.of_blk0 kB) ?_
    have hcB:zk [] w wB:=hcy.own cB (by intro y hy;simp at hy;omega)
    have e:zez s rows row=3:=by simp[zez,hf,ht,h4]
    exact⟨.slice po rows.length co,by rw[e];rfl,by simp only[insR,e];exact h.chg0 hcB,hcB⟩
   refine za (Od zax U (Ol zdf U (k2y.cell' (i:=3) U) (On zcB U ?_)))
   refine Og (vf (ya U U) (by simp;omega)) U ?_
   refine E4 1 2 4 22 U (zb U (zm (zf ?_)))
   have hcl:∀r∈rows,zar s r row=false:=by
    rw[zhQ h.ok]at ht
    intro r hr
    have:=List.any_eq_false.1 ht r hr
    simpa using this
   refine za (Og (zh zaU yM U U (zx.of_blk0 k2y)) U (Om U ?_))
   refine Oc zB4 U U U (zrC _ _ _ _ _ s rows row _ (h.chg0 hcy) (zN.chg0 hl hcy) hf hg hcl (by omega)) ?_
   rintro v26 w26⟨o',rfl,h26,c26⟩
   obtain⟨p26,q26,rfl,-⟩:=h26.rws.val
   refine Oq (zt yM U U U U (k4y.chg0 c26) (by simp) (za3.one h26.sch _ _ _) ?_)
   intro wB nB cB kB
   refine Oa U (E2 4 5 U (zj ?_))
   refine zci U zaU yM U U U (zx.of_blk0 kB) ?_
   have hcB:zk [] w wB:=(hcy.trans c26).own cB (by intro y hy;simp at hy;omega)
   have e:zez s rows row=0:=by simp[zez,hf,ht,h4]
   refine⟨.slice p26 _ q26,by rw[e];rfl,?_,hcB⟩
   simp only[insR,e,if_true]
   exact⟨h.sch.chg0 hcB,h26.rws.chgB (k4y.chg0 c26) U U cB,h26.ok,h26.nm⟩
 refine za (Om U ?_)
 refine Og (vt (zJ U U) (by simp[hf])) U ?_
 refine E5 1 2 4 6 12 U (ze U (Sr (Og (zh zaU yM U U (zx.of_blk0 k2x)) U (Om U ?_))))
 refine Oq (zt yM U U U U k4x (by simp) (za3.one h.sch _ _ _) ?_)
 intro wB nB cB kB
 refine Oa U (E2 4 5 U (zj ?_))
 repeat first|refine tr ?_|refine br ?_
 refine zci U zaU yM U U U (zx.of_blk0 kB) ?_
 have hcB:zk [] w wB:=hcx.own cB (by intro y hy;simp at hy;omega)
 have e:zez s rows row=zaf s row:=by simp[zez,hf]
 exact⟨.slice po rows.length co,by rw[e];rfl,by simp only[insR,e,if_neg hf];exact h.chg0 hcB,hcB⟩
theorem zje(c k u o v:Va)(s:yL)(rows:LV)(key:By)(row:List zX)(w:Wl)(h:za3 w c k u o s rows)(hl:yc w v row)(hg:∀x∈row,x.Rng) :
 zT TP 80 #[.agg #[c,k,u,o],.string key,v] w fun r w'=>∃o' x,r=.tuple #[.agg #[c,k,u,o'],x,Ii (zdg s rows key row)]∧yc w' x (zju s rows key row)∧za3 w' c k u o' s (updR s rows key row)∧zk [] w w':=by
 obtain⟨po,co,rfl,hco⟩:=h.rws.val
 obtain⟨pv,cv,rfl,hcv⟩:=zN.val hl
 have hrl:=h.ok.le
 refine A3 Tryz.func80 U U ?_
 refine Sr ?_
 refine Ob U U ?_
 intro b3 w3 e3 n3 c3 k3
 refine Oq (zF zgT U U ?_)
 intro b6 w6 e6 n6 c6 k6
 refine Oa U (Oa U (E4 1 2 3 6 U ?_))
 have k3w:zO w6 b3 67 [c,k,u,.slice po rows.length co]:=k3.chg0 c6
 have hcw:=c3.trans c6
 have hs2:=c3.size
 refine zf (Sr (Od zg1 U ?_))
 refine Og (zh zbw zbo U U (zx.of_blk k3w 0 [c,k,u] ⟨[_],U⟩)) U ?_
 refine Om U ?_
 refine Oc zup U U U (zpq _ _ _ _ s row _ (h.sch.chg0 hcw) (zN.chg0 hl hcw) h.nm) ?_
 rintro v14 w14⟨rfl,c14⟩
 refine Oa U (E5 1 2 3 6 9 U ?_)
 have k3x:=k3w.chg0 c14
 have k6x:=k6.chg0 c14
 have hcx:=hcw.trans c14
 refine zf ?_
 by_cases hf:zaf s row≠0
 ·refine za (Om U ?_)
  refine Og (vt (zJ U U) (by simp[hf])) U ?_
  refine E6 1 2 3 6 9 16 U (ze U (Sr (Og (zh zaU yM U U (zx.of_blk0 k3x)) U (Om U ?_))))
  refine Oq (zt yM U U U U k6x (by simp) (za3.one h.sch _ _ _) ?_)
  intro wB nB cB kB
  refine Oa U (Oa U (E3 6 7 8 U (zj ?_)))
  repeat first|refine tr ?_|refine br ?_
  refine zp7 U zaU yM U U U U (zx.of_blk0 kB) ?_
  have hcB:zk [] w wB:=(hcx).own cB (by intro y hy;simp at hy;omega)
  have e:zdg s rows key row=zaf s row:=by simp[zdg,hf]
  have e0:¬ (zdg s rows key row=0):=by rw[e];exact hf
  exact⟨.slice po rows.length co,.slice none 0 0,by rw[e];rfl,by simp only[zju,if_neg e0];exact zN.nil _ _ _ _,by simp only[updR,if_neg e0];exact h.chg0 hcB,hcB⟩
 have hf:zaf s row=0:=by omega
 refine za (Om U ?_)
 refine Og (vf (zJ U U) (by simp[hf])) U ?_
 refine E6 1 2 3 6 9 16 U (zb U (zm (Sr (Og (zh zaU yM U U (zx.of_blk0 k3x)) U (Om U ?_)))))
 refine Oc zwN U U U (zpJ _ _ _ _ s rows key _ (h.chg0 hcx)) ?_
 rintro v21 w21⟨i,rfl,hi,c21⟩
 refine Oa U (E5 1 2 3 6 10 U ?_)
 have k3y:=k3x.chg0 c21
 have k6y:=k6x.chg0 c21
 have hcy:=hcx.trans c21
 refine zf (zf ?_)
 rcases hi with⟨rfl,hget⟩|⟨j,r,rfl,hx,hget⟩
 ·refine za (Om U ?_)
  refine Og (vt (zy U U) (by simp)) U ?_
  refine E6 1 2 3 6 10 23 U (ze U (Sr (Og (zh zaU yM U U (zx.of_blk0 k3y)) U ?_)))
  refine Oq (zt yM U U U U k6y (by simp) (za3.one h.sch _ _ _) ?_)
  intro wB nB cB kB
  refine Oa U (Oa U (E3 6 7 8 U (zj ?_)))
  repeat first|refine tr ?_|refine br ?_
  refine zp7 U zaU yM U U U U (zx.of_blk0 kB) ?_
  have hcB:zk [] w wB:=(hcy).own cB (by intro y hy;simp at hy;omega)
  have e:zdg s rows key row=5:=by simp[zdg,hf,hget]
  have e0:¬ (zdg s rows key row=0):=by rw[e];decide
  exact⟨.slice po rows.length co,.slice none 0 0,by rw[e];rfl,by simp only[zju,if_neg e0];exact zN.nil _ _ _ _,by simp only[updR,if_neg e0];exact h.chg0 hcB,hcB⟩
 refine za (Om U ?_)
 refine Og (vf (zy U U) (by simp)) U ?_
 refine E6 1 2 3 6 10 23 U (zb U (zm (zf (Sr (Og (zh zaU yM U U (zx.of_blk0 k3y)) U (Om U (Om U ?_)))))))
 refine Oc zAB U U U (zqf _ _ _ _ _ s rows row key _ (h.chg0 hcy) (zN.chg0 hl hcy) hf) ?_
 rintro v28 w28⟨rfl,c28⟩
 refine E6 1 2 3 6 10 28 U ?_
 have k3z:=k3y.chg0 c28
 have k6z:=k6y.chg0 c28
 have hcz:=hcy.trans c28
 cases ht:zcE s rows row key with
 |true=>
  refine ze U (Sr (Og (zh zaU yM U U (zx.of_blk0 k3z)) U ?_))
  refine Oq (zt yM U U U U k6z (by simp) (za3.one h.sch _ _ _) ?_)
  intro wB nB cB kB
  refine Oa U (Oa U (E3 6 7 8 U (zj ?_)))
  repeat first|refine tr ?_|refine br ?_
  refine zp7 U zaU yM U U U U (zx.of_blk0 kB) ?_
  have hcB:zk [] w wB:=(hcz).own cB (by intro y hy;simp at hy;omega)
  have e:zdg s rows key row=220:=by simp[zdg,hf,hget,ht]
  have e0:¬ (zdg s rows key row=0):=by rw[e];decide
  exact⟨.slice po rows.length co,.slice none 0 0,by rw[e];rfl,by simp only[zju,if_neg e0];exact zN.nil _ _ _ _,by simp only[updR,if_neg e0];exact h.chg0 hcB,hcB⟩
 |false=>
  refine zb U (zm (zf ?_))
  have hlt:j<rows.length:=(Gs hx).1
  obtain⟨bo,oo,cpo,vr,hve,hcell,hvr⟩:=h.rws.at hx
  cases hve
  have h36:b3∉[b6]:=by simp;omega
  have e:zdg s rows key row=0:=by simp[zdg,hf,hget,ht]
  obtain⟨-,-,hfree,h400⟩:=zof h.ok e
  refine zI (fun wz=>zk [] w wz∧zk [b6] w28 wz) mix (by kernel_rfl) ⟨hcz.trans (zk.drew [] _),zk.drew _ _⟩ ?_
  refine Tr (fun wz hz=>zh zaU yM U U (zx.of_blk0 (k3z.chg hz.2 h36))) U (Tm U ?_)
  refine Tc zzA U U U (zlc _ _ _ _ s rows key _ (h.chg0 (hcz.trans (zk.drew [] _)))) ?_
  rintro v32 w32⟨o',rfl,h32,-,c32⟩
  have G32:zk [] w28 w32:=(zk.drew [] _).trans c32
  refine⟨.inl ⟨hcz.trans G32,G32.any⟩,?_⟩
  refine Tm U ?_
  refine Tc zB4 U U U (zrC _ _ _ _ _ s (zbu s rows key) row _ h32 (zN.chg0 hl (hcz.trans G32)) hf hg hfree h400) ?_
  rintro v34 w34⟨o2,rfl,h34,c34⟩
  obtain⟨p34,q34,rfl,-⟩:=h34.rws.val
  refine⟨.inl ⟨hcz.trans (G32.trans c34),(G32.trans c34).any⟩,?_⟩
  refine Td zax U (Tr (fun wz hz=>zg zdf U ((k3z.chg hz.2 h36).cell' (i:=3) U)) U (Tm U ?_))
  refine Tp (fun _=>zi zcB zew U U _ U hlt) U ?_
  refine Tr (fun wz hz=>zg yV U (hz.1.cell hcell)) U ?_
  refine zaQ U (gn U) (zt yM U U U U (k6z.chg0 (G32.trans c34)) (by simp) (za3.one h34.sch _ _ _) ?_)
  intro wB nB cB kB
  refine⟨.inl ⟨(hcz.trans (G32.trans c34)).own cB (by intro y hy;simp at hy;omega),((G32.trans c34).any (S:=[b6])).transS cB⟩,?_⟩
  refine Ta U (Ta U (D3 6 7 8 U (zj ?_)))
  refine zp7 U zaU yM U U U U (zx.of_blk0 kB) ?_
  have hcB:zk [] w wB:=(hcz.trans (G32.trans c34)).own cB (by intro y hy;simp at hy;omega)
  have eR:updR s rows key row=zdm s (zbu s rows key) row:=by simp only[updR,e,if_true]
  have eW:zju s rows key row=r:=by simp[zju,e,hget]
  refine⟨.slice p34 (zdm s (zbu s rows key) row).length q34,vr,by rw[e];rfl,by rw[eW];exact(yj.chg0 hvr hcB).arr,?_,hcB⟩
  rw[eR]
  exact⟨h.sch.chg0 hcB,h34.rws.chgB (k6z.chg0 (G32.trans c34)) U U cB,h34.ok,h34.nm⟩
def ziT(s:yL)(rows:LV)(k:By):LV:=rows.filter fun r => !blt (yd s r) k
theorem zyh{s:yL}{rows:LV}{l:List Ent}(h:l=rows.map fun r=>(yd s r,zfF s r))(k:By):zb6 l k=(ziT s rows k).map fun r=>(yd s r,zfF s r):=by
 subst h
 unfold zb6 ziT
 rw[List.filter_map]
 rfl
theorem zpO(s:yL)(rows:LV):ziT s rows e0=rows:=List.filter_eq_self.2 fun x _=>by simp[zyN]
def Kc(w w':Wl):Prop:=∀(k:Nat) b e f,w.heap[k]? = some (Obj.cells b e f)→w'.heap[k]? = some (Obj.cells b e f)
theorem Low.kc{w w':Wl}(h:Low w w'):Kc w w':=fun k _ _ _ hk=>(h k (Array.getElem?_eq_some_iff.1 hk).1).trans hk
theorem Low.own{w w' w'':Wl}{S:List Nat}(h:Low w w')(hs:w.heap.size≤w'.heap.size)(hc:zk S w' w'')(hS:∀b∈S,w.heap.size≤b):Low w w'':=fun b hb=>(hc.block b (by omega) (fun hm=>by have:=hS b hm;omega)).trans (h b hb)
theorem Low.refl(w:Wl):Low w w:=fun _ _=>rfl
section
variable {α:Type} {f:α→List Va} {w w':Wl} {e k:Nat}
theorem zO.kc{b:Nat}{t:TypeId}{c:List Va}(h:zO w b t c)(hk:Kc w w'):zO w' b t c:=hk b _ _ _ h
theorem zA.kc{v:Va}{n:Nat}{xs:List Va}(h:zA w e k v n xs)(hk:Kc w w'):zA w' e k v n xs:=by
 rcases h with h|⟨b,off,cap,c,rfl,hs⟩
 ·exact .inl h
 exact .inr ⟨b,off,cap,c,U,⟨hs.blk.kc hk,hs.le,hs.max,hs.fit,hs.xs,hs.one⟩⟩
theorem Rd.kc{v:Va}{n:Nat}{xs:List Va}(h:Rd w k v n xs)(hk:Kc w w'):Rd w' k v n xs:=
 h.keep fun b off u j _ _ hc=>by
  unfold World.cell? at hc ⊢
  cases ho:w.heap[b]? with
  |none=>simp[ho]at hc
  |some o=>
   cases o with
   |cells x y z=>
    rw[hk b x y z ho]
    rw[ho]at hc
    exact hc
   |_=>simp[ho]at hc
theorem yp.kc(hk:Kc w w'):∀{vs:List Va} {ls:List (List α)},yp w e k f vs ls→yp w' e k f vs ls
 |[],[],_=>trivial
 |_::_,_::_,h=>⟨zA.kc h.1 hk,yp.kc hk h.2⟩
theorem zcI.kc(hk:Kc w w'):∀{vs:List Va} {ls:List (List α)},zcI w e k f vs ls→zcI w' e k f vs ls
 |[],[],_=>trivial
 |_::_,_::_,h=>⟨Rd.kc h.1 hk,zcI.kc hk h.2⟩
theorem zbN.kc(hk:Kc w w'):∀{vs:List Va} {ls:LE},zbN w vs ls→zbN w' vs ls
 |[],[],_=>trivial
 |_::_,_::_,h=>⟨zA.kc h.1 hk,zbN.kc hk h.2⟩
theorem Pg.kc{p:Nat}{ls:LE}(h:Pg w p ls)(hk:Kc w w'):Pg w' p ls:=
 let ⟨v,h1,us,h2,h3⟩:=h; ⟨v,h1.kc hk,us,zA.kc h2 hk,h3.kc hk⟩
theorem PgL.kc(hk:Kc w w'):∀{ps:List Nat} {ms:List (LE)},PgL w ps ms→PgL w' ps ms
 |[],[],_=>trivial
 |_::_,_::_,h=>⟨Pg.kc h.1 hk,PgL.kc hk h.2⟩
theorem zaa.kc{c k u:Va}{s:yL}(h:zaa w c k u s)(hk:Kc w w'):zaa w' c k u s:=
 have hl:∀b,Lo w b→Lo w' b:=fun b hb=>by
  rcases hb with h|⟨c,e,fr,h3,h4⟩
  ·exact .inl h
  exact .inr ⟨c,e,fr,hk b _ _ _ h3,h4⟩
 ⟨Rd.kc h.cols hk,Rd.kc h.key hk,let ⟨vs,h1,h2,h3⟩:=h.us; ⟨vs,h1.kc hk,h2.kc hk,fun v hv b hb=>hl b (h3 v hv b hb)⟩,fun v hv b hb=>hl b (h.lo v hv b hb)⟩
theorem zac.kc{t:Nat}{own:List Nat}{s:yL}{rows:LV}(h:zac w t own s rows)(hk:Kc w w'):zac w' t own s rows:=by
 obtain⟨pm,c,k,u,sv,xs,main,subs,h1,h2,h3⟩:=h
 exact⟨pm,c,k,u,sv,xs,main,subs,h1,⟨h2.blk.kc hk,h2.sch.kc hk,h2.pg.kc hk,zA.kc h2.sl hk,yp.kc hk h2.ats,PgL.kc hk h2.pgs,h2.nd,h2.ge⟩,h3⟩
end
section
variable {w w':Wl} {t:Nat} {own:List Nat} {s s':yL} {rows rows':LV}
theorem zac.lt(h:zac w t own s rows):∀p∈own,p<w.heap.size:=fun p hp=>by
 obtain⟨_,_,_,hb⟩:=h.pages p hp
 exact hb.lt
end
theorem zx0(t:Nat)(own:List Nat)(s:yL)(rows:LV)(key:By)(w:Wl)(h:zac w t own s rows) :
 zT TP 43 #[Pt t,.string key] w fun r w'=>∃q5 q3 t' own',r=.func (.func 81) #[] #[Pt q5,Pt q3]∧zO w' q5 52 [Pt t']∧zO w' q3 9 [.string key]∧zac w' t' own' s rows∧w.heap.size≤q5∧w.heap.size≤q3∧(∀p∈own',w.heap.size≤p)∧zk [] w w':=by
 refine A2 Tryz.func43 U U ?_
 refine Sr ?_
 refine Ob U U ?_
 intro b3 w3 e3 n3 c3 k3
 refine Oa U (E2 0 3 U (Sr (Om U ?_)))
 refine Oc zvw U U U (zn3 t own s rows _ (h.chg0 c3)) ?_
 rintro v7 w7⟨t7,own7,rfl,i7,f7,g7,c7⟩
 refine Oq (zF zmO U U ?_)
 intro b5 w5 e5 n5 c5 k5
 refine Oq (zt zvc U U U U k5 (by simp) (by simp[Value.oneCell']) ?_)
 intro wA nA cA kA
 refine E2 3 5 U ?_
 have kA:zO wA b5 52 [Pt t7]:=kA
 have hs3:=c3.size
 have hs7:=c7.size
 have hlow:Low w7 wA:=((Low.refl w7).own (Nat.le_refl _) c5 (by simp)).own c5.size cA (by intro y hy;simp at hy;omega)
 refine Sr (Og (zai U U) U (Oa U (E1 4 U (zj ?_))))
 refine zw U U ?_
 exact⟨b5,b3,t7,own7,rfl,kA,((k3.chg0 c7).chg0 c5).chg cA (by have:=k3.lt;simp;omega),i7.kc hlow.kc,by omega,by omega,fun p hp=>by have:=g7 p hp;omega,((c3.trans c7).trans c5).own cA (by intro y hy;simp at hy;omega)⟩
section
variable {P:Program} {n:Nat} {fn:Func} {R:Va→Wl→Prop} {F:Fr} {w:Wl}
theorem zwV{D:Nat}(hr:fn.results = #[])(hm:zae F=[mkD D])(hD:w.heap[D]? = some (.deferred (some [])))(h:∀w',zk [D] w w'→R (.tuple #[]) w'):zhg P fn R n .normal F w:=
 ⟨_,_,by rw[hm];exact⟨D,rfl,hD,rfl⟩,fun _ _=>results_none hr _ _ _,h _ (zk.put w D (.deferred none))⟩
end
def unk(S0:List Nat)(keep:TypeId→Bool)(B:Nat)(w:Wl):List Nat:=(List.range w.heap.size).filter fun k=>(decide (k<B) && S0.contains k) || (decide (B≤k) && !(match w.heap[k]? with|some (.cells _ e _)=>keep e|_=>false))
section
variable {S0:List Nat} {keep:TypeId→Bool} {B:Nat} {w X X':Wl} {k:Nat}
theorem zv8(h:k<w.heap.size)(hn:k∉unk S0 keep B w):(k<B∧k∉S0)∨(B≤k∧∃b e f,w.heap[k]? = some (.cells b e f)∧keep e=true):=by
 have h1:((decide (k<B) && S0.contains k) || (decide (B≤k) && !(match w.heap[k]? with|some (.cells _ e _)=>keep e|_=>false)))=false:=by
  cases hb:((decide (k<B) && S0.contains k) || (decide (B≤k) && !(match w.heap[k]? with|some (.cells _ e _)=>keep e|_=>false))) with
  |false=>rfl
  |true=>exact absurd (List.mem_filter.2 ⟨List.mem_range.2 h,hb⟩) hn
 rw[Bool.or_eq_false_iff]at h1
 rcases Nat.lt_or_ge k B with hk|hk
 ·have h2:=h1.1
  rw[dt hk,Bool.true_and]at h2
  exact .inl ⟨hk,fun hm=>by simp[hm]at h2⟩
 have h2:=h1.2
 rw[dt hk,Bool.true_and,Bool.not_eq_false']at h2
 split at h2
 ·rename_i b e f he
  exact .inr ⟨hk,b,e,f,he,h2⟩
 cases h2
theorem zlu(h:k∈unk S0 keep B w):(k<B∧k∈S0)∨(B≤k∧∀b e f,w.heap[k]? = some (.cells b e f)→keep e=false):=by
 have h1:=(List.mem_filter.1 h).2
 rw[Bool.or_eq_true]at h1
 rcases h1 with h1|h1
 ·rw[Bool.and_eq_true]at h1
  exact .inl ⟨of_decide_eq_true h1.1,by simpa using h1.2⟩
 rw[Bool.and_eq_true]at h1
 refine .inr ⟨of_decide_eq_true h1.1,fun b e f he=>?_⟩
 have h2:=h1.2
 rw[he]at h2
 simpa using h2
theorem Kr.inner(hk:Kr S0 keep B X X')(hB:B≤w.heap.size)(hp:Kp (unk S0 keep B w) w.heap.size w X):Kr (unk S0 keep B w) keep w.heap.size X X':=by
 refine⟨hk.size,fun k h1 h2=>?_,hk.cells,fun k o h1 h2 h3=>hk.iters k o (by omega) h2 h3⟩
 rcases zv8 h1 h2 with⟨h3,h4⟩|⟨_,b,e,f,h4,h5⟩
 ·exact hk.low k h3 h4
 have h6:=hp.2 k h1 h2
 rw[h6,h4]
 exact hk.cells k b e f (h6.trans h4) h5
theorem Bk.at'(h:Bk B X X')(hk:k<B)(hl:k<X.heap.size):X'.heap[k]? = X.heap[k]? := by
 obtain⟨T,hT,hc⟩:=h
 exact hc.block k hl fun hm=>by have:=(hT k hm).1;omega
theorem Bk.sz(h:Bk B X X'):X.heap.size≤X'.heap.size:=let ⟨_,_,hc⟩:=h;hc.size
theorem Bk.put{D:Nat}(hB:B≤D)(hc:zk [D] X X')(hD:X.heap[D]? = some (.deferred (some []))):Bk B X X':=⟨[D],fun b hb=>by simp at hb;subst hb;exact⟨hB,_,hD,rfl⟩,hc⟩
end
theorem yX.kc{w w':Wl}{t pm:Nat}{c k u sv:Va}{xs:List (Va×Nat)}{s:yL}{main:LE}{subs:List (LE)}(h:yX w t pm c k u sv xs s main subs)(hk:Kc w w'):yX w' t pm c k u sv xs s main subs:=
 ⟨h.blk.kc hk,h.sch.kc hk,h.pg.kc hk,zA.kc h.sl hk,yp.kc hk h.ats,PgL.kc hk h.pgs,h.nd,h.ge⟩
set_option maxHeartbeats 1000000 in
theorem zoq(w0 w:Wl)(h0w:zk [] w0 w)(t q5 q3:Nat)(own:List Nat)(s:yL)(rows:LV)(key:By)(S0:List Nat)(keep:TypeId→Bool)
 (h:zac w0 t own s rows) (h5:zO w0 q5 52 [Pt t]) (h3:zO w0 q3 9 [.string key]) (hS0:∀b∈S0,w0.heap.size≤b) (hSk:∀b∈S0,∀e c,zO w b e c→keep e=false)
 (kL:keep 176=true) (kE:keep 215=true) (kP:keep 173=true) (kS:keep 9=true) (kF:keep 156=true) :
 zv9 TP 81 #[Pt q5,Pt q3] (fun x:List zX×Va => #[.string (yd s x.1),x.2]) S0 keep
  (fun x W=>zbW W x.2 x.1∧∀b∈zu x.2,w.heap.size≤b) (fun xs _=>xs.map (·.1)=ziT s rows key) (fun _ _=>True) (fun xs=>xs.map (·.1) <+: ziT s rows key) w:=by
 intro l J Jx W hcw hJ hJx hY h0
 obtain⟨pm,c,k,u,sv,xs,main,subs,rfl,hm,ht⟩:=h
 have h0W:=h0w.trans hcw
 have hs0:=h0w.size
 have hsW:=hcw.size
 refine callsIn_wide.2 (Calls.mono (zT.of_WM (args:=[_,_,_]) (R:=fun _ W'=>(∃xs:List (List zX×Va),xs.map (·.1)=ziT s rows key∧J xs W')∨∃pre,True∧Jx pre W') Tryz.func81 U U U U ?_) (fun e W' ⟨u,he,hh⟩=>⟨⟨u,he⟩,hh⟩))
 refine Sr ?_
 refine Ob U U ?_
 intro b3 w3 e3 n3 c3 k3
 refine E3 1 2 3 U ?_
 refine zhC ?_
 refine zf (zf ?_)
 have hc3:=h0W.trans c3
 have hm3:=hm.chg0 hc3
 refine za (Ol zqU U ((h5.chg0 hc3).cell' U) (Og (zav zkp U U) U (E4 1 2 3 8 U (zb U (zm (zf ?_))))))
 refine zjc ?_
 refine zf ?_
 have hd:zk [] w3 w3.drew:=zk.drew [] _
 refine zI (fun wz=>zk [] w3 wz) mix (by kernel_rfl) hd ?_
 refine Tr (fun wz hz=>zg zqU U (((h5.chg0 hc3).chg0 hz).cell' U)) U ?_
 refine Tp (fun _=>zB U) U (Td zgw U (Tr (fun wz hz=>zg zgK U ((hm3.chg0 hz).blk.cell' U)) U ?_))
 refine Tr (fun wz hz=>zg yH U (((h3.chg0 hc3).chg0 hz).cell' U)) U ?_
 refine Tc zCL U U U (f14 pm main key _ (hm3.chg0 hd).pg (by have:=ht.le;omega)) ?_
 rintro v14 w14⟨p5,p3,vv,rfl,kp5,ip,kp3,hp3,hp5,c14⟩
 refine⟨.inl (hd.trans c14),?_⟩
 refine D3 1 3 14 U ?_
 have k3:=(k3.chg0 hd).chg0 c14
 have hcR:=((hc3.trans hd).trans c14)
 have hcWR:zk [] W w14:=(c3.trans hd).trans c14
 have hsR:=hcWR.size
 have hsd:=hd.size
 have hs3:=c3.size
 refine zp ?_
 refine zfU (α:=List zX) (gf:=119) (lb:=[Pt p5,Pt p3]) (encs:=fun r:List zX => #[.string (yd s r),.string (zfF s r)])
  (fun pre X=>(∃outs:List (List zX×Va),outs.map (·.1)=pre∧J outs X)∧Low w0 X∧Kp (unk S0 keep w.heap.size w14) w14.heap.size w14 X)
  (fun c _ X=>c=.exit 0∧∃outs,Jx outs X)
  (fun r=>[(16,.string (zfF s r)),(15,.string (yd s r)),(1,Pt q5),(3,Pt b3),(14,.func (.func 119) #[] #[Pt p5,Pt p3])])
  (fun r=>[(1,Pt q5),(3,Pt b3),(4,.string (yd s r)),(15,.string (yd s r))])
  rfl zzf
  ((zsE (fun r:List zX=>(yd s r,zfF s r)) (ziT s rows key) w14 w14 (zk.refl _ _) p5 p3 vv main key (unk S0 keep w.heap.size w14) kp5 ip kp3 (by have:=ht.le;omega) ht.wf.le ?_ ?_ (zyh ht.flat key)).toN keep)
  (fun _=>rfl) (fun _ _ _ _ _=>trivial) (fun _ _ _ _ hh=>hh) (fun _ _ _ _ hh=>hh) ?_ ?_ ?_ (fun pre X hI=>hI.2.2.1) ?_ ?_ ?_ ?_ ?_
 ·intro hmem
  rcases zlu hmem with⟨g1,g2⟩|⟨g1,g2⟩
  ·omega
  rw[g2 _ _ _ kp3]at kS
  cases kS
 ·intro b hb e cs hblk
  have hke:keep e=false:=by
   rcases zlu hb with⟨g1,g2⟩|⟨g1,g2⟩
   ·refine hSk b g2 e cs ?_
    have:=(hcw.trans hcWR).block b g1 (by simp)
    exact this.symm.trans hblk
   exact g2 _ _ _ hblk
  constructor
  ·cases hq:Nat.beq 176 e with
   |false=>rfl
   |true=>
    obtain rfl:=Nat.eq_of_beq_eq_true hq
    rw[kL]at hke
    cases hke
  cases hq:Nat.beq 215 e with
  |false=>rfl
  |true=>
   obtain rfl:=Nat.eq_of_beq_eq_true hq
   rw[kE]at hke
   cases hke
 ·rintro pre X X' hb ⟨⟨outs,ho,hj⟩,hlo,hkp⟩
  have hXs:=hkp.1
  refine⟨⟨outs,ho,hJ _ _ _ (hb.low hsR) hj⟩,fun b hlt=>(hb.at' (by omega) (by omega)).trans (hlo b hlt),Nat.le_trans hkp.1 hb.sz,fun q hq hn=>(hb.at' hq (by omega)).trans (hkp.2 q hq hn)⟩
 ·rintro cc pre X X' hb ⟨rfl,outs,hj⟩
  exact⟨U,outs,hJx _ _ _ (hb.low hsR) hj⟩
 ·exact⟨⟨[],rfl,hJ _ _ _ (Bk.of_chg hcWR) h0⟩,fun b hlt=>hcR.block b hlt (by simp),Nat.le_refl _,fun _ _ _=>rfl⟩
 ·intro x a ha
  exact ha.vars2 U U U
 ·intro l' x X
  refine zam ?_
  refine yC (gn U) U (St.vl (yg U) U U ?_)
  refine zfW [1,3,4,15] (F':=[(1,_),(3,_),(4,_),(15,_)]) U ?_
  exact⟨U,U,U⟩
 ·rintro l' pre x X ⟨⟨outs,ho,hj⟩,hlo,hkp⟩-hgo
  have hxm:x∈rows:=(List.mem_filter.1 (hgo.subset (by simp:x∈pre++[x]))).1
  have hg:zc0 s rows (yd s x)=some x:=ht.ok.get hxm
  have hmX:yX X t pm c k u sv xs s main subs:=hm.kc hlo.kc
  have h5X:zO X q5 52 [Pt t]:=h5.kc hlo.kc
  have h3X:zO X b3 156 [.func (.yield l) #[] #[]]:=by
   have h3lt:=k3.lt
   refine(hkp.2 b3 h3lt fun hmem=>?_).trans k3
   rcases zlu hmem with⟨g1,g2⟩|⟨g1,g2⟩
   ·omega
   rw[g2 _ _ _ k3]at kF
   cases kF
  have hXs:=hkp.1
  refine zgl ?_
  refine zd5 ?_
  refine zam ?_
  refine yC (gn U) U (St.vl (zg zqU U (h5X.cell' U)) U U ?_)
  refine Xm U ?_
  refine yC (gn U) U (yP zsg U U U U (zl6 (yd s x) _ hmX ht) ?_)
  rintro v20 w20⟨o20,rfl,i20,f20,c20⟩
  rw[hg]at i20
  replace i20:zbW w20 o20 x:=i20
  refine Xm U ?_
  refine yC (gn U) U (St.vl (zL U U) U U ?_)
  refine yC (gn U) U (St.vl (zL U U) U U ?_)
  refine yC (gn U) U (St.vl (yg U) U U ?_)
  refine yC (gn U) U (St.vl (yg U) U U ?_)
  refine zdh [1,3,4,5,15] (F':=[(1,_),(3,_),(4,_),(5,_),(15,_)]) U ?_
  refine zd5 ?_
  refine zam ?_
  have hys:=hY outs (x,o20) w20 (hJ _ _ _ (Bk.of_chg c20) hj) ⟨i20,fun b hb=>by have:=f20 b hb;omega⟩ (by show List.map (·.1) (outs++[(x,o20)]) <+: ziT s rows key;rw[List.map_append,ho];exact hgo)
  refine yC (gn U) U (St.vl (zg zAc U ((h3X.chg0 c20).cell' U)) U U ?_)
  refine Xm U (Xm U ?_)
  refine zgx (gn U) U U U hys ?_
  rintro v26 w26 hR26
  obtain⟨b26,rfl,hb26⟩:=yb hR26
  refine⟨_,U,?_⟩
  refine yC (gn U) U (St.vl (zC U) U U ?_)
  refine zdh [1,3,15,27] (F':=[(1,_),(3,_),(15,_),(27,_)]) U ?_
  rcases hb26 with⟨rfl,hJ26,hk26,hf26⟩|⟨rfl,hJ26,hf26⟩
  ·refine zde U ?_
   refine zh0 ?_
   refine zl ?_
   have hkr:Kr S0 keep w.heap.size X w26:=(Kr.chg0 c20 (by omega)).trans hk26
   have hkf:KeepsFrom w14.heap.size X w26:=(KeepsFrom.chg c20 (by simp)).trans (KeepsFrom.up hf26 hsR)
   refine⟨hkf,hkr.inner (by omega) hkp,⟨outs++[(x,o20)],by rw[List.map_append,ho];rfl,hJ26⟩,fun b hlt=>?_,?_⟩
   ·exact(hkr.low b (by omega) (fun hmem=>by have:=hS0 b hmem;omega)).trans (hlo b hlt)
   exact hkp.trans (hkr.inner (by omega) hkp).kp
  refine zf8 U ?_
  refine zs8 ?_
  repeat first|refine te ?_|refine bo rfl ?_
  exact⟨(KeepsFrom.chg c20 (by simp)).trans (KeepsFrom.up hf26 hsR),rfl,_,hJ26⟩
 ·rintro D xs' X hD rfl ⟨⟨outs,ho,hj⟩,_,_⟩ hdf
  refine zl ?_
  refine zf5 ?_
  refine zwV (D:=D) U U hdf fun w' hc'=>?_
  exact .inl ⟨outs,ho,hJ _ _ _ (Bk.put (by omega) hc' hdf) hj⟩
 rintro D cc pre X hD-⟨rfl,outs,hj⟩ hdf
 refine zH ?_
 repeat first|refine te ?_|refine bo rfl ?_
 refine zq _ ?_
 refine zf5 ?_
 refine zwV (D:=D) U U hdf fun w' hc'=>?_
 exact .inr ⟨outs,trivial,hJx _ _ _ (Bk.put (by omega) hc' hdf) hj⟩
def fnV(f:Nat)(cap:List Va):Va:=.func (.func f) #[] cap.toArray
def ze4:List Va:=[fnV 153 [],fnV 155 [],fnV 156 []]
def zmM:List Va:=[fnV 157 [],fnV 159 [],fnV 161 []]
def znn:List Va:=[fnV 163 [],fnV 165 [],fnV 167 []]
def zd2(b:Nat):List Va:=[fnV 141 [Pt b],fnV 145 [Pt b],fnV 148 [Pt b]]
theorem zjl(w:Wl):zT TP 97 #[] w fun r w'=>r=.agg ze4.toArray∧zk [] w w':=by
 refine zT.of_W (args:=[]) Tryz.func97 U U U U ?_
 refine Sr ?_
 refine Oq (zF zf9 U U ?_)
 intro b0 w0 e0 n0 c0 k0
 refine E1 0 U (Sr ?_)
 refine Og (zK zqx zf9 U (vs:=[_,_,_]) U (css:=[_,_,_]) ⟨U,U,U,trivial⟩ U U (cs:=[_,_,_]) U) U ?_
 refine Oq (zt zdN U U U U k0 (by simp) (by simp[Value.oneCell']) ?_)
 intro wA nA cA kA
 refine E1 0 U (zj ?_)
 refine zfI U zg8 zdN U U (zx.of_blk0 kA) ?_
 exact⟨rfl,c0.own cA (by intro y hy;simp at hy;omega)⟩
theorem zyZ(w:Wl):zT TP 98 #[] w fun r w'=>r=.agg zmM.toArray∧zk [] w w':=by
 refine zT.of_W (args:=[]) Tryz.func98 U U U U ?_
 refine Sr ?_
 refine Oq (zF zf9 U U ?_)
 intro b0 w0 e0 n0 c0 k0
 refine E1 0 U (Sr ?_)
 refine Og (zK zqx zf9 U (vs:=[_,_,_]) U (css:=[_,_,_]) ⟨U,U,U,trivial⟩ U U (cs:=[_,_,_]) U) U ?_
 refine Oq (zt zdN U U U U k0 (by simp) (by simp[Value.oneCell']) ?_)
 intro wA nA cA kA
 refine E1 0 U (zj ?_)
 refine zfI U zg8 zdN U U (zx.of_blk0 kA) ?_
 exact⟨rfl,c0.own cA (by intro y hy;simp at hy;omega)⟩
theorem zx2(w:Wl):zT TP 99 #[] w fun r w'=>r=.agg znn.toArray∧zk [] w w':=by
 refine zT.of_W (args:=[]) Tryz.func99 U U U U ?_
 refine Sr ?_
 refine Oq (zF zf9 U U ?_)
 intro b0 w0 e0 n0 c0 k0
 refine E1 0 U (Sr ?_)
 refine Og (zK zqx zf9 U (vs:=[_,_,_]) U (css:=[_,_,_]) ⟨U,U,U,trivial⟩ U U (cs:=[_,_,_]) U) U ?_
 refine Oq (zt zdN U U U U k0 (by simp) (by simp[Value.oneCell']) ?_)
 intro wA nA cA kA
 refine E1 0 U (zj ?_)
 refine zfI U zg8 zdN U U (zx.of_blk0 kA) ?_
 exact⟨rfl,c0.own cA (by intro y hy;simp at hy;omega)⟩
theorem zrJ(f:Nat)(w:Wl):zT TP 94 #[fnV f []] w fun r w'=>∃b,r=.agg (zd2 b).toArray∧zO w' b 182 [fnV f []]∧w.heap.size≤b∧zk [] w w':=by
 refine A1 Tryz.func94 U U ?_
 refine Sr ?_
 refine Ob U U ?_
 intro b1 w1 e1 n1 c1 k1
 refine Oq (zF zf9 U U ?_)
 intro b2 w2 e2 n2 c2 k2
 refine E2 1 2 U (Sr (Og (zai U U) U (Og (zai U U) U (Og (zai U U) U ?_))))
 refine Og (zK zqx zf9 U (vs:=[_,_,_]) U (css:=[_,_,_]) ⟨U,U,U,trivial⟩ U U (cs:=[_,_,_]) U) U ?_
 refine Oq (zt zdN U U U U k2 (by simp) (by simp[Value.oneCell']) ?_)
 intro wA nA cA kA
 refine E1 2 U (zj ?_)
 refine zfI U zg8 zdN U U (zx.of_blk0 kA) ?_
 have h1:=k1.lt
 exact⟨b1,rfl,(k1.chg0 c2).chg cA (by simp;omega),by omega,(c1.trans c2).own cA (by intro y hy;simp at hy;omega)⟩
theorem zhT{K:Type}[DecidableEq K](k k':K)(v:Va):∀es:List (K×Va),zbh (zcH es k v) k'=if k=k' then some v else zbh es k'
 |[]=>by
  by_cases h:k=k'<;>simp[zcH,zbh,h]
 |p::r=>by
  unfold zcH
  by_cases hp:p.1=k
  ·rw[if_pos hp]
   by_cases h:k=k'
   ·simp[zbh,h]
   have:p.1≠k':=fun e=>h (hp.symm.trans e)
   simp[zbh,h,this]
  rw[if_neg hp]
  by_cases h:p.1=k'
  ·have:k≠k':=fun e=>hp (h.trans e.symm)
   simp[zbh,h,this]
  simp[zbh,h,zhT k k' v r]
theorem znc{K:Type}[DecidableEq K]{k:K}{v:Va}:∀{es:List (K×Va)} {p:K×Va},p∈zcH es k v→p=(k,v)∨p∈es
 |[],p,h=>by simpa[zcH] using h
 |q::r,p,h=>by
  unfold zcH at h
  split at h
  ·rcases List.mem_cons.1 h with h|h
   ·exact .inl h
   exact .inr (List.mem_cons_of_mem _ h)
  rcases List.mem_cons.1 h with h|h
  ·exact .inr (by rw[h];exact List.mem_cons_self ..)
  rcases znc h with h|h
  ·exact .inl h
  exact .inr (List.mem_cons_of_mem _ h)
def SL(w:Wl)(v:Va)(parts:List (List Va)):Prop:=∃b,v=.slice (some ⟨b,0,none⟩) parts.length parts.length∧zO w b 137 parts.flatten
theorem SL.chg{S:List Nat}{w w':Wl}{v:Va}{ps:List (List Va)}(h:SL w v ps)(hc:zk S w w')(hS:∀b e c,zO w b e c→b∉S):SL w' v ps:=let ⟨b,h1,h2⟩:=h; ⟨b,h1,h2.chg hc (hS _ _ _ h2)⟩
def Ph(bo bn m:Nat)(k:Nat)(w:Wl)(v:Va):Prop:=match k with
 |0=>v=.map (some m)
 |1=>v=.agg ze4.toArray
 |2=>v=.agg (zd2 bn).toArray
 |3=>SL w v [ze4,(zd2 bn)]
 |5=>v=.agg ze4.toArray
 |6=>v=.agg (zd2 bo).toArray
 |7=>v=.agg (zd2 bn).toArray
 |8=>SL w v [ze4,(zd2 bo),(zd2 bn)]
 |10=>v=.agg ze4.toArray
 |11=>v=.agg (zd2 bo).toArray
 |12=>SL w v [ze4,(zd2 bo)]
 |14=>v=.agg ze4.toArray
 |15=>v=.agg zmM.toArray
 |16=>SL w v [ze4,zmM]
 |18=>v=.agg ze4.toArray
 |19=>SL w v [ze4]
 |21=>v=.agg znn.toArray
 |22=>SL w v [znn]
 |24=>v=.map (some m)
 |25=>v=.map (some m)
 |_=>True
def zkg:List (Nat×Nat):=[(0,5),(1,6),(2,7),(3,8),(5,9),(6,10),(7,11),(8,12),(10,13),(11,14),(12,15),(14,16),(15,17),(16,18),(18,19),(19,20),(21,21),(22,22),(24,23),(25,0)]
def zoj:List (Nat×Int×Nat):=[(4,1,3),(9,2,8),(13,3,12),(17,4,16),(20,5,19),(23,6,22)]
theorem Ph.chg{bo bn m k:Nat}{S:List Nat}{w w':Wl}{v:Va}(h:Ph bo bn m k w v)(hc:zk S w w')(hS:∀b e c,zO w b e c→b∉S):Ph bo bn m k w' v:=by
 unfold Ph at *
 split at h<;>first|exact h|exact SL.chg h hc hS
theorem Ph.indep{bo bn m b k:Nat}{w:Wl}{v:Va}(h0:k≠0)(h4:k≠24)(h5:k≠25)(h:Ph bo bn m k w v):Ph bo bn b k w v:=by
 unfold Ph at *
 split at h<;>first|exact h|exact absurd rfl h0|exact absurd rfl h4|exact absurd rfl h5
theorem ztS{F:Fr}{d:Nat}{v:Va}(hd:d<1000000):get ((d,v)::F) d=some v:=zb7 F d v (by
 cases hb:Nat.ble 1000000 d with
 |false=>rfl
 |true=>have:=Nat.le_of_ble_eq_true hb;omega)
theorem zin{F:Fr}{d i:Nat}{v:Va}(h:d≠i):get ((d,v)::F) i=get F i:=zcm F d i v (fun e=>h e.symm)
theorem zkM{F:Fr}{d:Nat}{v:Va}(hd:d<1000000):zcb ((d,v)::F)=zcb F:=by
 have:Nat.ble 1000000 d=false:=by
  cases hb:Nat.ble 1000000 d with
  |false=>rfl
  |true=>have:=Nat.le_of_ble_eq_true hb;omega
 simp[zcb,this]
theorem gD{listed:Array Bool}{i:Nat}(h:listed.getD i true=false):listed.getD i false≠true:=by
 rcases Nat.lt_or_ge i listed.size with h1|h1
 ·simp[h1]at h ⊢
  exact h
 simp[Array.getElem?_eq_none h1]at h
theorem zuE{listed:Array Bool}{i:Nat}(h:i<listed.size):(listed.setIfInBounds i true).getD i false=true:=by simp[h]
theorem zrV{F:Fr}{a:Nat}{u:Va}(h1:get F a=some u):zgV F [(0,.tmp a)]=some (zbC 0 [u]):=by simp[zgV,ev,h1,zbC]
theorem zoH{F:Fr}{a b:Nat}{u v:Va}(h1:get F a=some u)(h2:get F b=some v):zgV F [(0,.tmp a),(1,.tmp b)]=some (zbC 0 [u,v]):=by simp[zgV,ev,h1,h2,zbC]
theorem zxZ{F:Fr}{a b c:Nat}{u v x:Va}(h1:get F a=some u)(h2:get F b=some v)(h3:get F c=some x):zgV F [(0,.tmp a),(1,.tmp b),(2,.tmp c)]=some (zbC 0 [u,v,x]):=by simp[zgV,ev,h1,h2,h3,zbC]
theorem zgh(n i:Nat):¬ (Array.replicate n false).getD i false=true:=by
 rcases Nat.lt_or_ge i n with h|h
 ·simp[h]
 simp[Nat.not_lt.2 h]
def zwf:List Nat:=[4,9,13,17,20,23,24,25]
theorem znd:∀x∈zkg,∀y∈zkg,x.1=y.1→x=y:=by decide
theorem zuH:∀x∈zoj,x.1∈zwf∧x.1≠0:=by decide
theorem zl7:∀x∈zkg,∀y∈zkg,x.2=y.2→x=y:=by decide
theorem zpy:∀x∈zoj,∀y∈zoj,x.1=y.1∨x.2.1=y.2.1→x=y:=by decide
theorem zl3:∀x∈zoj,∀y∈zkg,x.1≠y.1:=by decide
structure KJ(w0:Wl)(b1 b2 bo bn m:Nat)(es:List (Int×Va))(listed:Array Bool)(F:Fr)(w:Wl):Prop where
 chg:zk [] w0 w
 mf:zcb F=[]
 f1:get F 1=some (Pt b1)
 f2:get F 2=some (Pt b2)
 val:∀x∈zkg,listed.getD x.1 false=true→∃v,get F x.2=some v∧Ph bo bn m x.1 w v
 mp:listed.getD 0 false=true→yf (zaK .i64) w m es∧w0.heap.size≤m
 ent:∀x∈zoj,listed.getD x.1 false=true→∃v,zbh es x.2.1=some v∧Ph bo bn m x.2.2 w v
 keys:∀p∈es,1≤p.1∧p.1≤6
 cl:∀k∈zwf,listed.getD k false=true→listed.getD 0 false=true
section
variable {w0 w w':Wl} {b1 b2 bo bn m:Nat} {es:List (Int×Va)} {listed:Array Bool} {F:Fr}
theorem KJ.put(h:KJ w0 b1 b2 bo bn m es listed F w){i d:Nat}{v:Va}(hi:(i,d)∈zkg)(hv:Ph bo bn m i w' v)(hc:zk [] w w')(h0:i≠0)(hdep:i∈zwf→listed.getD 0 false=true)(hd:d≠1∧d≠2∧d<1000000):KJ w0 b1 b2 bo bn m es (listed.setIfInBounds i true) ((d,v)::F) w':=by
 refine⟨h.chg.trans hc,?_,?_,?_,?_,?_,?_,h.keys,?_⟩
 ·rw[←h.mf]
  exact zkM hd.2.2
 ·rw[zin hd.1]
  exact h.f1
 ·rw[zin hd.2.1]
  exact h.f2
 ·intro x hx hl
  by_cases hxi:x.1=i
  ·have:x=(i,d):=by
    by_cases hd2:x.2=d
    ·exact Prod.ext hxi hd2
    exact absurd (znd x hx (i,d) hi hxi) (fun e=>hd2 (by rw[e]))
   subst this
   exact⟨v,ztS hd.2.2,hv⟩
  rw[getD_set_ne false (fun e=>hxi e.symm)]at hl
  obtain⟨u,h1,h2⟩:=h.val x hx hl
  have hne:d≠x.2:=fun e=>hxi (congrArg Prod.fst (zl7 x hx (i,d) hi e.symm))
  exact⟨u,by rw[zin hne];exact h1,h2.chg hc (by simp)⟩
 ·intro hl
  rw[getD_set_ne false h0]at hl
  exact⟨(h.mp hl).1.chg0 hc,(h.mp hl).2⟩
 ·intro x hx hl
  rw[getD_set_ne false (fun e=>zl3 x hx (i,d) hi e.symm)]at hl
  obtain⟨u,h1,h2⟩:=h.ent x hx hl
  exact⟨u,h1,h2.chg hc (by simp)⟩
 intro k hk hl
 rw[getD_set_ne false h0]
 by_cases hki:k=i
 ·exact hdep (hki▸hk)
 rw[getD_set_ne false (fun e=>hki e.symm)]at hl
 exact h.cl k hk hl
theorem KJ.ins(h:KJ w0 b1 b2 bo bn m es listed F w){i so:Nat}{k:Int}{v:Va}(hi:(i,k,so)∈zoj)(hl0:listed.getD 0 false=true)(hv:Ph bo bn m so w v)(hc:zk [m] w w')(hm:yf (zaK .i64) w' m (zcH es k v))(hk:1≤k∧k≤6):KJ w0 b1 b2 bo bn m (zcH es k v) (listed.setIfInBounds i true) F w':=by
 obtain⟨hm0,hmf⟩:=h.mp hl0
 have hS:∀b e c,zO w b e c→b∉[m]:=fun b e c hb hmem=>by
  simp at hmem
  exact hm0.ne hb hmem.symm
 refine⟨h.chg.own hc (by intro y hy;simp at hy;omega),h.mf,h.f1,h.f2,?_,fun _=>⟨hm,hmf⟩,?_,?_,fun _ _ _=>getD_set_true hl0⟩
 ·intro x hx hl
  rw[getD_set_ne false (fun e=>zl3 (i,k,so) hi x hx e)]at hl
  obtain⟨u,h1,h2⟩:=h.val x hx hl
  exact⟨u,h1,h2.chg hc hS⟩
 ·intro x hx hl
  by_cases hxi:x.1=i
  ·have:=zpy x hx (i,k,so) hi (.inl hxi)
   subst this
   exact⟨v,by rw[zhT,if_pos rfl],hv.chg hc hS⟩
  rw[getD_set_ne false (fun e=>hxi e.symm)]at hl
  obtain⟨u,h1,h2⟩:=h.ent x hx hl
  have hne:k≠x.2.1:=fun e=>hxi (congrArg Prod.fst (zpy x hx (i,k,so) hi (.inr e.symm)))
  exact⟨u,by rw[zhT,if_neg hne];exact h1,h2.chg hc hS⟩
 intro p hp
 rcases znc hp with rfl|hp
 ·exact hk
 exact h.keys p hp
end
theorem aft{listed:Array Bool}{o:Oper}(h:∀e∈o.after,Region.binds .any e=true→listed.getD e.on false=true)(j:Nat)(hj:(o.after.toList.any fun e=>Region.binds .any e && Nat.beq e.on j)=true):listed.getD j false=true:=by
 obtain⟨e,he,hb⟩:=List.any_eq_true.1 hj
 simp only[Bool.and_eq_true]at hb
 have:=Nat.eq_of_beq_eq_true hb.2
 subst this
 exact h e (Array.mem_toList_iff.1 he) hb.1
def zt1(w:Wl)(m:Nat)(es:List (Int×Va))(bo bn:Nat):Prop:=yf (zaK .i64) w m es∧(∀x∈zoj,∃v,zbh es x.2.1=some v∧Ph bo bn m x.2.2 w v)∧(∀p∈es,1≤p.1∧p.1≤6) ∧
 zO w bo 182 [fnV 95 []]∧zO w bn 182 [fnV 96 []]
set_option maxHeartbeats 1000000 in
theorem ztP(w:Wl):zT TP 57 #[] w fun r w'=>∃m es bo bn,r=.map (some m)∧zt1 w' m es bo bn∧zk [] w w':=by
 refine zT.of_W (args:=[]) Tryz.func57 U U U U ?_
 refine Sr (Oa U (yB [] (F':=[]) U (Sr ?_)))
 refine Oc zze U U U (zrJ 95 _) ?_
 rintro v3 w3⟨bo,rfl,ko,ho,c3⟩
 refine Oq (zF zf9 U U ?_)
 intro b1 w1 e1 n1 c1 k1
 refine Oq (zt zdN U U U U k1 (by simp[zd2]) (by simp[zd2,fnV,Value.oneCell']) ?_)
 intro wA nA cA kA
 refine E1 1 U ?_
 have kA:zO wA b1 137 (zd2 bo):=kA
 have hcA:zk [] w wA:=(c3.trans c1).own cA (by intro y hy;have:=c3.size;simp at hy;omega)
 have h1:=k1.lt
 have ho1:=ko.lt
 have ko:=(ko.chg0 c1).chg cA (by simp;omega)
 refine Sr ?_
 refine Oc zze U U U (zrJ 96 _) ?_
 rintro v4 w4⟨bn,rfl,kn,hn,c4⟩
 refine Oq (zF zf9 U U ?_)
 intro b2 w2 e2 n2 c2 k2
 refine Oq (zt zdN U U U U k2 (by simp[zd2]) (by simp[zd2,fnV,Value.oneCell']) ?_)
 intro wB nB cB kB
 refine E2 1 2 U ?_
 have kB:zO wB b2 137 (zd2 bn):=kB
 have hcB:zk [] wA wB:=(c4.trans c2).own cB (by intro y hy;have:=c4.size;simp at hy;omega)
 have kA:=kA.chg0 hcB
 have ko:=ko.chg0 hcB
 have hn1:=kn.lt
 have kn:=(kn.chg0 c2).chg cB (by simp;omega)
 have hcAB:=hcA.trans hcB
 refine zf ?_
 refine zvj (fun listed F w'=>∃m es,KJ wB b1 b2 bo bn m es listed F w') mix (by kernel_rfl) ⟨0,[],⟨zk.drew [] _,rfl,rfl,rfl,?_,?_,?_,by simp,?_⟩⟩ ?_ ?_
 ·intro x hx hl
  exact absurd hl (zgh _ _)
 ·intro hl
  exact absurd hl (zgh _ _)
 ·intro x hx hl
  exact absurd hl (zgh _ _)
 ·intro k hk hl
  exact absurd hl (zgh _ _)
 ·rintro listed F w' i o hs hoo hl haft ⟨m,es,h⟩
  have hi:i<26:=(Gs hoo).1
  have hs26:listed.size=26:=hs
  have hcs:i∈List.range 26:=List.mem_range.2 hi
  simp only[show List.range 26=[0,1,2,3,4,5,6,7,8,9,10,11,12,13,14,15,16,17,18,19,20,21,22,23,24,25] from rfl,List.mem_cons,List.not_mem_nil,or_false]at hcs
  rcases hcs with rfl|rfl|rfl|rfl|rfl|rfl|rfl|rfl|rfl|rfl|rfl|rfl|rfl|rfl|rfl|rfl|rfl|rfl|rfl|rfl|rfl|rfl|rfl|rfl|rfl|rfl
  ·obtain rfl:=Option.some.inj hoo
   refine⟨gn U,zbQ (zaK .i64) U ?_⟩
   intro b w2 e n c k
   have hno:∀k∈zwf,listed.getD k false=true→False:=fun k hk hk2=>gD hl (h.cl k hk hk2)
   refine⟨b,[],⟨h.chg.trans c,?_,?_,?_,?_,fun _=>⟨k,by have:=h.chg.size;omega⟩,?_,by simp,fun _ _ _=>zuE (by omega)⟩⟩
   ·rw[←h.mf];exact zkM (by decide)
   ·rw[zin (by decide)];exact h.f1
   ·rw[zin (by decide)];exact h.f2
   ·intro x hx hl2
    by_cases hx0:x.1=0
    ·have:x=(0,5):=znd x hx (0,5) (by decide) hx0
     subst this
     exact⟨_,ztS (by decide),rfl⟩
    rw[getD_set_ne false (fun e=>hx0 e.symm)]at hl2
    have hne:5≠x.2:=fun e=>hx0 (congrArg Prod.fst (zl7 x hx (0,5) (by decide) e.symm))
    obtain⟨u,h1,h2⟩:=h.val x hx hl2
    exact⟨u,by rw[zin hne];exact h1,(Ph.indep (b:=b) hx0 (fun e=>hno 24 (by decide) (e▸hl2)) (fun e=>hno 25 (by decide) (e▸hl2)) h2).chg c (by simp)⟩
   intro x hx hl2
   obtain⟨d1,d2⟩:=zuH x hx
   rw[getD_set_ne false (fun e=>d2 e.symm)]at hl2
   exact(hno x.1 d1 hl2).elim
  ·obtain rfl:=Option.some.inj hoo
   refine⟨gn U,yP ztf U U U U (zjl _) ?_⟩
   rintro v w2⟨rfl,c⟩
   exact⟨m,es,h.put (by decide) U c (by decide) (fun hh=>absurd hh (by decide)) (by decide)⟩
  ·obtain rfl:=Option.some.inj hoo
   refine⟨gn U,St.vl (zh zg8 zdN h.f2 U (zx.of_blk0 (kB.chg0 h.chg))) U U ?_⟩
   exact⟨m,es,h.put (by decide) U (zk.refl _ _) (by decide) (fun hh=>absurd hh (by decide)) (by decide)⟩
  ·obtain rfl:=Option.some.inj hoo
   obtain⟨u6,g6,p6⟩:=h.val (1,6) (by decide) (aft haft 1 rfl)
   obtain rfl:u6=_:=p6
   obtain⟨u7,g7,p7⟩:=h.val (2,7) (by decide) (aft haft 2 rfl)
   obtain rfl:u7=_:=p7
   refine⟨gn U,zz zkL U (vs:=[_,_]) (zoH g6 g7) (css:=[ze4,(zd2 bn)]) ⟨U,U,trivial⟩ U U U U ?_⟩
   intro b w2 e n c k
   exact⟨m,es,h.put (by decide) ⟨b,rfl,k⟩ c (by decide) (fun hh=>absurd hh (by decide)) (by decide)⟩
  ·obtain rfl:=Option.some.inj hoo
   obtain⟨u5,g5,p5⟩:=h.val (0,5) (by decide) (aft haft 0 rfl)
   obtain rfl:u5=_:=p5
   obtain⟨u,g,p⟩:=h.val (3,8) (by decide) (aft haft 3 rfl)
   refine⟨gn U,yQ (κ:=zaK .i64) zjs (z0 zbA) g5 U g (h.mp (aft haft 0 U)).1 ?_⟩
   intro w2 n c k
   exact⟨m,_,h.ins (by decide) (aft haft 0 U) p c k (by decide)⟩
  ·obtain rfl:=Option.some.inj hoo
   refine⟨gn U,yP ztf U U U U (zjl _) ?_⟩
   rintro v w2⟨rfl,c⟩
   exact⟨m,es,h.put (by decide) U c (by decide) (fun hh=>absurd hh (by decide)) (by decide)⟩
  ·obtain rfl:=Option.some.inj hoo
   refine⟨gn U,St.vl (zh zg8 zdN h.f1 U (zx.of_blk0 (kA.chg0 h.chg))) U U ?_⟩
   exact⟨m,es,h.put (by decide) U (zk.refl _ _) (by decide) (fun hh=>absurd hh (by decide)) (by decide)⟩
  ·obtain rfl:=Option.some.inj hoo
   refine⟨gn U,St.vl (zh zg8 zdN h.f2 U (zx.of_blk0 (kB.chg0 h.chg))) U U ?_⟩
   exact⟨m,es,h.put (by decide) U (zk.refl _ _) (by decide) (fun hh=>absurd hh (by decide)) (by decide)⟩
  ·obtain rfl:=Option.some.inj hoo
   obtain⟨u9,g9,p9⟩:=h.val (5,9) (by decide) (aft haft 5 rfl)
   obtain rfl:u9=_:=p9
   obtain⟨u10,g10,p10⟩:=h.val (6,10) (by decide) (aft haft 6 rfl)
   obtain rfl:u10=_:=p10
   obtain⟨u11,g11,p11⟩:=h.val (7,11) (by decide) (aft haft 7 rfl)
   obtain rfl:u11=_:=p11
   refine⟨gn U,zz zkL U (vs:=[_,_,_]) (zxZ g9 g10 g11) (css:=[ze4,(zd2 bo),(zd2 bn)]) ⟨U,U,U,trivial⟩ U U U U ?_⟩
   intro b w2 e n c k
   exact⟨m,es,h.put (by decide) ⟨b,rfl,k⟩ c (by decide) (fun hh=>absurd hh (by decide)) (by decide)⟩
  ·obtain rfl:=Option.some.inj hoo
   obtain⟨u5,g5,p5⟩:=h.val (0,5) (by decide) (aft haft 0 rfl)
   obtain rfl:u5=_:=p5
   obtain⟨u,g,p⟩:=h.val (8,12) (by decide) (aft haft 8 rfl)
   refine⟨gn U,yQ (κ:=zaK .i64) zjs (z0 zbA) g5 U g (h.mp (aft haft 0 U)).1 ?_⟩
   intro w2 n c k
   exact⟨m,_,h.ins (by decide) (aft haft 0 U) p c k (by decide)⟩
  ·obtain rfl:=Option.some.inj hoo
   refine⟨gn U,yP ztf U U U U (zjl _) ?_⟩
   rintro v w2⟨rfl,c⟩
   exact⟨m,es,h.put (by decide) U c (by decide) (fun hh=>absurd hh (by decide)) (by decide)⟩
  ·obtain rfl:=Option.some.inj hoo
   refine⟨gn U,St.vl (zh zg8 zdN h.f1 U (zx.of_blk0 (kA.chg0 h.chg))) U U ?_⟩
   exact⟨m,es,h.put (by decide) U (zk.refl _ _) (by decide) (fun hh=>absurd hh (by decide)) (by decide)⟩
  ·obtain rfl:=Option.some.inj hoo
   obtain⟨u13,g13,p13⟩:=h.val (10,13) (by decide) (aft haft 10 rfl)
   obtain rfl:u13=_:=p13
   obtain⟨u14,g14,p14⟩:=h.val (11,14) (by decide) (aft haft 11 rfl)
   obtain rfl:u14=_:=p14
   refine⟨gn U,zz zkL U (vs:=[_,_]) (zoH g13 g14) (css:=[ze4,(zd2 bo)]) ⟨U,U,trivial⟩ U U U U ?_⟩
   intro b w2 e n c k
   exact⟨m,es,h.put (by decide) ⟨b,rfl,k⟩ c (by decide) (fun hh=>absurd hh (by decide)) (by decide)⟩
  ·obtain rfl:=Option.some.inj hoo
   obtain⟨u5,g5,p5⟩:=h.val (0,5) (by decide) (aft haft 0 rfl)
   obtain rfl:u5=_:=p5
   obtain⟨u,g,p⟩:=h.val (12,15) (by decide) (aft haft 12 rfl)
   refine⟨gn U,yQ (κ:=zaK .i64) zjs (z0 zbA) g5 U g (h.mp (aft haft 0 U)).1 ?_⟩
   intro w2 n c k
   exact⟨m,_,h.ins (by decide) (aft haft 0 U) p c k (by decide)⟩
  ·obtain rfl:=Option.some.inj hoo
   refine⟨gn U,yP ztf U U U U (zjl _) ?_⟩
   rintro v w2⟨rfl,c⟩
   exact⟨m,es,h.put (by decide) U c (by decide) (fun hh=>absurd hh (by decide)) (by decide)⟩
  ·obtain rfl:=Option.some.inj hoo
   refine⟨gn U,yP zCQ U U U U (zyZ _) ?_⟩
   rintro v w2⟨rfl,c⟩
   exact⟨m,es,h.put (by decide) U c (by decide) (fun hh=>absurd hh (by decide)) (by decide)⟩
  ·obtain rfl:=Option.some.inj hoo
   obtain⟨u16,g16,p16⟩:=h.val (14,16) (by decide) (aft haft 14 rfl)
   obtain rfl:u16=_:=p16
   obtain⟨u17,g17,p17⟩:=h.val (15,17) (by decide) (aft haft 15 rfl)
   obtain rfl:u17=_:=p17
   refine⟨gn U,zz zkL U (vs:=[_,_]) (zoH g16 g17) (css:=[ze4,zmM]) ⟨U,U,trivial⟩ U U U U ?_⟩
   intro b w2 e n c k
   exact⟨m,es,h.put (by decide) ⟨b,rfl,k⟩ c (by decide) (fun hh=>absurd hh (by decide)) (by decide)⟩
  ·obtain rfl:=Option.some.inj hoo
   obtain⟨u5,g5,p5⟩:=h.val (0,5) (by decide) (aft haft 0 rfl)
   obtain rfl:u5=_:=p5
   obtain⟨u,g,p⟩:=h.val (16,18) (by decide) (aft haft 16 rfl)
   refine⟨gn U,yQ (κ:=zaK .i64) zjs (z0 zbA) g5 U g (h.mp (aft haft 0 U)).1 ?_⟩
   intro w2 n c k
   exact⟨m,_,h.ins (by decide) (aft haft 0 U) p c k (by decide)⟩
  ·obtain rfl:=Option.some.inj hoo
   refine⟨gn U,yP ztf U U U U (zjl _) ?_⟩
   rintro v w2⟨rfl,c⟩
   exact⟨m,es,h.put (by decide) U c (by decide) (fun hh=>absurd hh (by decide)) (by decide)⟩
  ·obtain rfl:=Option.some.inj hoo
   obtain⟨u19,g19,p19⟩:=h.val (18,19) (by decide) (aft haft 18 rfl)
   obtain rfl:u19=_:=p19
   refine⟨gn U,zz zkL U (vs:=[_]) (zrV g19) (css:=[ze4]) ⟨U,trivial⟩ U U U U ?_⟩
   intro b w2 e n c k
   exact⟨m,es,h.put (by decide) ⟨b,rfl,k⟩ c (by decide) (fun hh=>absurd hh (by decide)) (by decide)⟩
  ·obtain rfl:=Option.some.inj hoo
   obtain⟨u5,g5,p5⟩:=h.val (0,5) (by decide) (aft haft 0 rfl)
   obtain rfl:u5=_:=p5
   obtain⟨u,g,p⟩:=h.val (19,20) (by decide) (aft haft 19 rfl)
   refine⟨gn U,yQ (κ:=zaK .i64) zjs (z0 zbA) g5 U g (h.mp (aft haft 0 U)).1 ?_⟩
   intro w2 n c k
   exact⟨m,_,h.ins (by decide) (aft haft 0 U) p c k (by decide)⟩
  ·obtain rfl:=Option.some.inj hoo
   refine⟨gn U,yP zCW U U U U (zx2 _) ?_⟩
   rintro v w2⟨rfl,c⟩
   exact⟨m,es,h.put (by decide) U c (by decide) (fun hh=>absurd hh (by decide)) (by decide)⟩
  ·obtain rfl:=Option.some.inj hoo
   obtain⟨u21,g21,p21⟩:=h.val (21,21) (by decide) (aft haft 21 rfl)
   obtain rfl:u21=_:=p21
   refine⟨gn U,zz zkL U (vs:=[_]) (zrV g21) (css:=[znn]) ⟨U,trivial⟩ U U U U ?_⟩
   intro b w2 e n c k
   exact⟨m,es,h.put (by decide) ⟨b,rfl,k⟩ c (by decide) (fun hh=>absurd hh (by decide)) (by decide)⟩
  ·obtain rfl:=Option.some.inj hoo
   obtain⟨u5,g5,p5⟩:=h.val (0,5) (by decide) (aft haft 0 rfl)
   obtain rfl:u5=_:=p5
   obtain⟨u,g,p⟩:=h.val (22,22) (by decide) (aft haft 22 rfl)
   refine⟨gn U,yQ (κ:=zaK .i64) zjs (z0 zbA) g5 U g (h.mp (aft haft 0 U)).1 ?_⟩
   intro w2 n c k
   exact⟨m,_,h.ins (by decide) (aft haft 0 U) p c k (by decide)⟩
  ·obtain rfl:=Option.some.inj hoo
   obtain⟨u,g,p⟩:=h.val (0,5) (by decide) (aft haft 0 rfl)
   obtain rfl:u=_:=p
   refine⟨gn U,St.vl (zao g) U U ?_⟩
   exact⟨m,es,h.put (by decide) U (zk.refl _ _) (by decide) (fun _=>aft haft 0 U) (by decide)⟩
  obtain rfl:=Option.some.inj hoo
  obtain⟨u,g,p⟩:=h.val (24,23) (by decide) (aft haft 24 rfl)
  obtain rfl:u=_:=p
  refine⟨gn U,St.vl (yg g) U U ?_⟩
  exact⟨m,es,h.put (by decide) U (zk.refl _ _) (by decide) (fun _=>h.cl 24 (by decide) (aft haft 24 U)) (by decide)⟩
 rintro listed F w' hall⟨m,es,h⟩
 obtain⟨v,g,p⟩:=h.val (25,0) (by decide) (hall 25 (by decide))
 obtain rfl:v=_:=p
 have hF:prune [0] F=[(0,.map (some m))]:=by
  show (match get F 0 with|some v=>(0,v)::prune [] F|none=>prune [] F)=_
  rw[g]
  show (0,Value.map (some m))::zcb F=_
  rw[h.mf]
 refine zaj [0] hF ?_
 refine zj ?_
 refine zw U U ?_
 exact⟨m,es,bo,bn,rfl,⟨(h.mp (hall 0 (by decide))).1,fun x hx=>h.ent x hx (hall x.1 (by revert x;decide)),h.keys,ko.chg0 h.chg,kn.chg0 h.chg⟩,hcAB.trans h.chg⟩
end Go.Wk
