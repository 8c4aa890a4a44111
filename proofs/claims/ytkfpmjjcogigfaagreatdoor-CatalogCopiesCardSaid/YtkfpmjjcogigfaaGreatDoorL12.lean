/- joined texts -/
import Derived.Test.YtkfpmjjcogigfaaGreatDoorL11
set_option linter.all false
namespace Go.Wk
open Go.Proofs
set_option linter.unusedSectionVars false
variable [Lw]
set_option maxRecDepth 10000
theorem zri(l:List zX)(x:zX):zcZ l++(⟨(zeH x).toArray⟩:By)=zcZ (l++[x]):=by
 apply zr8
 simp[zcZ,zd6]
theorem zCR(v:Va)(l:List zX)(w:Wl)(hl:ya w v l)(hc:∀x∈l,za2 x=0∧x.Rng)(hn:l.length≤1048576):zS TP 126 #[v] w fun r w'=>r=.string (zcZ l)∧zk [] w w':=by
 obtain⟨pv,cv,rfl,hcv⟩:=zN.val hl
 refine A1 Tryz.func126 U U ?_
 refine Sr (Oa U (E1 0 U (Sr (Oa U (E2 0 3 U (zf (Sr (Oa U (E3 0 3 4 U (zp ?_))))))))))
 refine zQ [0,3,4] (fun m F wx=>∃j:Nat,m=l.length-j∧j≤l.length∧F=[(0,.slice pv l.length cv),(3,.string (zcZ (l.take j))),(4,Ii j)]∧zk [] w wx) (m:=l.length-0) ⟨0,U,Zl _,U,zk.refl _ _⟩ ?_
 rintro m F wx⟨j,rfl,hj,rfl,hcx⟩
 refine zf (zf ?_)
 by_cases hlt:j<l.length
 ·refine za (Om U (Om U (On yE U ?_)))
  refine Og (vt (zz U U) (by simp;omega)) U ?_
  refine E4 0 3 4 8 U (ze U (zm ?_))
  have hx:l[j]?=some l[j]:=by simp[hlt]
  have htk:=List.take_succ_eq_append_getElem hlt
  generalize l[j]=x at hx htk
  obtain⟨hxc,hxg⟩:=hc x (Mg hx)
  obtain⟨b,off,cap,hve,hcell⟩:=zN.at zbr (zN.chg0 hl hcx) hx
  cases hve
  have hkl:=zke hxc
  have hks:(zcZ (l.take j)).size≤235*j:=by
   have:=zhq (l:=l.take j) (fun y hy=>(hc y (List.mem_of_mem_take hy)).1)
   rw[List.length_take]at this
   show (zd6 (l.take j)).toArray.size≤_
   rw[List.size_toArray]
   have:235*min j l.length≤235*j:=Nat.mul_le_mul_left _ (Nat.min_le_left _ _)
   omega
  have hvs:(⟨(zeH x).toArray⟩:By).size=(zeH x).length:=by
   show (zeH x).toArray.size=_
   simp
  refine zf (zp (za (Om U (Om U (Om U ?_)))))
  refine Og (zi yE ym U U _ U hlt) U ?_
  refine Og (zh zaJ ym U U hcell) U ?_
  refine Oc zAn U U U (zAZ x _ hxc hxg) ?_
  rintro v16 w16⟨i16,f16,c16⟩
  refine Og (zgF (l:=zeH x) y7 zaZ st9 U i16.rd) U ?_
  refine Og (zy5 U U (by rw[hvs];omega)) U ?_
  refine Oa U (N3 0 3 4 U (zl (za (Om U ?_))))
  refine Og (zG U U (by omega)) U ?_
  refine Oa U (N3 0 3 4 U ?_)
  refine⟨l.length-(j+1),by omega,j+1,rfl,by omega,?_,hcx.trans c16⟩
  rw[htk,←zri];rfl
 refine za (Om U (Om U (On yE U ?_)))
 refine Og (vf (zz U U) (by simp;omega)) U ?_
 refine E4 0 3 4 8 U (zb U ?_)
 refine zI ?_
 repeat first|refine te ?_|refine bo rfl ?_
 refine zq _ ?_
 refine Sr (Om U (Oa U (E1 2 U (zj ?_))))
 refine zw U U ?_
 rw[Tl (by omega)]
 exact⟨U,hcx⟩
def zam(w:Wl)(v:Va)(ls:LV):Prop:=∃vs,zB w 36 1 v ls.length vs∧yn w 111 4 zX.cs vs ls
theorem zam.chg0{w w':Wl}{v:Va}{ls:LV}(h:zam w v ls)(hc:zk [] w w'):zam w' v ls:=let ⟨vs,h1,h2⟩:=h; ⟨vs,zB.chg0 h1 hc,h2.chg0 hc⟩
theorem zam.rows{w:Wl}{v:Va}{ls:LV}(h:zam w v ls):zos w v ls:=let ⟨vs,h1,h2⟩:=h; ⟨vs,h1.toOu,h2.arr⟩
theorem zam.nil(w:Wl):zam w (.slice none 0 0) []:=⟨[],zB.nil _ _ _,Tt⟩
theorem zam.val{w:Wl}{v:Va}{ls:LV}(h:zam w v ls):∃p c,v=.slice p ls.length c∧ls.length≤c:=let ⟨_,h1,_⟩:=h;zB.val h1
theorem zam.at{w:Wl}{v:Va}{ls:LV}(h:zam w v ls){i:Nat}{l:List zX}(hi:ls[i]?=some l):∃b off cap u,v=.slice (some ⟨b,off,none⟩) ls.length cap∧w.cell? ⟨b,off+i*1,none⟩=some u∧zcc w u l:=by
 obtain⟨vs,h1,h2⟩:=h
 obtain⟨u,hu,ha⟩:=h2.at hi
 obtain⟨b,off,cap,u',hv,hu',hc⟩:=Rd.at1 h1.toRd (Gs hi).1
 rw[hu]at hu'
 cases hu'
 exact⟨b,off,cap,u,hv,hc,ha⟩
theorem zam.chgB{w w':Wl}{v:Va}{ls:LV}(h:zam w v ls){b:Nat}{e':TypeId}{c:LA}(hb:zO w b e' c)(h1:Nat.beq 36 e'=false)(h2:Nat.beq 111 e'=false)(hc:zk [b] w w'):zam w' v ls:=
 let ⟨vs,g1,g2⟩:=h
 ⟨vs,zB.chg g1 hc (zB.apart g1 hb h1),g2.chg hc (g2.apart hb h2)⟩
theorem zam.push{w w' w'':Wl}{x x' v:Va}{ls:LV}{r:List zX}{vs:LA}(h1:zB w 36 1 x ls.length vs)(h2:yn w 111 4 zX.cs vs ls)(h3:zcc w v r)(hc:zk [] w w')(i:zB w'' 36 1 x' (ls.length+1) (vs++[v]))(hc':zk (zu x) w' w''):zam w'' x' (ls++[r]):=by
 have h4:yn w' 111 4 zX.cs (vs++[v]) (ls++[r]):=yn.append (h2.chg0 hc) ⟨yl.chg0 h3 hc,Tt⟩
 refine⟨vs++[v],?_,h4.chg hc' (h4.apartSl (zB.chg0 h1 hc) U)⟩
 rw[Sa]
 exact i
structure za3(w:Wl)(c k u o:Va)(s:yK)(rows:LV):Prop where
 sch:zai w c k u s
 rws:zam w o rows
 ok:yW s rows
 nm:∀c∈s.cols,c.n.size≤1048576
theorem za3.chg0{w w':Wl}{c k u o:Va}{s:yK}{rows:LV}(h:za3 w c k u o s rows)(hc:zk [] w w'):za3 w' c k u o s rows:=⟨h.sch.chg0 hc,h.rws.chg0 hc,h.ok,h.nm⟩
theorem za3.one{w:Wl}{c k u:Va}{s:yK}(h:zai w c k u s)(p:Option Addr)(n q:Nat):∀y∈[c,k,u,.slice p n q],y.oneCell'=true:=by
 intro y hy
 simp only[List.mem_cons,List.not_mem_nil,or_false]at hy
 rcases hy with rfl|rfl|rfl|rfl
 ·exact h.one _ (by simp)
 ·exact h.one _ (by simp)
 ·exact h.one _ (by simp)
 rfl
theorem ztn{s:yK}{st:List Int}(hr:yJ s=true)(hs:st∈zW s):st.length≤1048576:=by
 have:=(zbl (zdN hr st hs)).1.2
 omega
theorem zo6{s:yK}{r:List zX}(h:zaf s r=0){st:List Int}(hs:st∈zW s):∀i∈st,0≤i∧i<r.length:=by
 obtain⟨hr,hl,_⟩:=zas h
 rw[hl]
 exact(zbl (zdN hr st hs)).2.1
theorem zdH(c k u o v:Va)(s:yK)(rows:LV)(row:List zX)(w:Wl)(h:za3 w c k u o s rows)(hl:ya w v row)(hf:zaf s row=0)(hg:∀x∈row,x.Rng) :
 zS TP 79 #[.agg #[c,k,u,o],v] w fun r w'=>r=.string (z9 s row)∧zk [] w w':=by
 have hkl:=ztn (zas hf).1 (zdR s)
 refine A2 Tryz.func79 U U ?_
 refine Sr ?_
 refine Ob U U ?_
 intro b2 w2 e2 n2 c2 k2
 refine Oa U (E2 1 2 U (Sr (Om U (Od zeF U (Od zbp U (Ol zci U (k2.cell' (i:=1) U) ?_))))))
 refine Oc zBK U U U (zzh _ _ _ _ _ (zN.chg0 hl c2) (h.sch.key.chg0 c2) (zo6 hf (zdR s)) hkl) ?_
 rintro v12 w12⟨u12,rfl,i12,f12,c12⟩
 refine Om U (Oe U U (Oe U U (Oa U (Oa U (E1 5 U (Sr (Om U ?_)))))))
 refine Oc zBX U U U (zCR _ _ _ i12.arr (fun x hx=>⟨zjj hf x (zgm hf (zdR s) x hx),hg x (zgm hf (zdR s) x hx)⟩) (by rw[zhI];exact hkl)) ?_
 rintro v16 w16⟨rfl,c16⟩
 refine Oa U (E1 4 U (zj ?_))
 refine zw U U ?_
 exact⟨U,(c2.trans c12).trans c16⟩
theorem zvF(va vb vi:Va)(a b:List zX)(st:List Int)(w:Wl)(ha:ya w va a)(hb:ya w vb b)(hi:yA w vi st)(hra:∀i∈st,0≤i∧i<a.length)(hrb:∀i∈st,0≤i∧i<b.length)(hn:st.length≤1048576) :
 zS TP 136 #[va,vb,vi] w fun r w'=>r=.bool (zbi a b st)∧zk [] w w':=by
 obtain⟨pa,ca,rfl,hca⟩:=zN.val ha
 obtain⟨pb,cb,rfl,hcb⟩:=zN.val hb
 obtain⟨pi,ci,rfl,hci⟩:=zN.val hi
 refine A3 Tryz.func136 U U ?_
 refine Sr (Oa U (E3 0 1 2 U (zf (Sr (Oa U (E4 0 1 2 7 U (zp ?_)))))))
 refine zQ [0,1,2,7] (fun m F wx=>∃j:Nat,m=st.length-j∧j≤st.length∧F=[(0,.slice pa a.length ca),(1,.slice pb b.length cb),(2,.slice pi st.length ci),(7,Ii j)]∧zbi a b (st.take j)=true∧zk [] w wx) (m:=st.length-0) ⟨0,U,Zl _,U,U,zk.refl _ _⟩ ?_
 rintro m F wx⟨j,rfl,hj,rfl,hok,hcx⟩
 refine zf (zf ?_)
 by_cases hlt:j<st.length
 ·refine za (Om U (Om U (On zaH U ?_)))
  refine Og (vt (zz U U) (by simp;omega)) U ?_
  refine E5 0 1 2 7 11 U (ze U (zm ?_))
  have hx:st[j]?=some st[j]:=by simp[hlt]
  have htk:=List.take_succ_eq_append_getElem hlt
  have hmem:=List.getElem_mem hlt
  generalize st[j]=i at hx htk hmem
  obtain⟨ha0,ha1⟩:=hra i hmem
  obtain⟨hb0,hb1⟩:=hrb i hmem
  obtain⟨i,rfl⟩:∃k:Nat,i=(k:Int):=⟨i.toNat,by omega⟩
  have hia:i<a.length:=by omega
  have hib:i<b.length:=by omega
  have hxa:a[i]?=some (zdg a (i:Int)):=(zfp rfl ⟨ha0,ha1⟩).2
  have hxb:b[i]?=some (zdg b (i:Int)):=(zfp rfl ⟨hb0,hb1⟩).2
  have hstep:zbi a b (st.take (j+1))=(decide ((zdg a (i:Int)).k≠0)&&decide (zdg a (i:Int)=zdg b (i:Int))):=by
   unfold zbi at hok ⊢
   rw[htk,List.all_append,hok]
   simp
  have hfail:zbi a b (st.take (j+1))=false→zbi a b st=false:=fun h=>by
   unfold zbi at h ⊢
   rw[←List.take_append_drop (j+1) st,List.all_append,h,Bool.false_and]
  generalize zdg a (i:Int)=x at *
  generalize zdg b (i:Int)=y at *
  obtain⟨bi,oi,cpi,hve,-⟩:=yA.cell hi hx
  cases hve
  obtain⟨ba,oa,cpa,hve,-⟩:=zN.at zbr ha hxa
  cases hve
  obtain⟨bb,ob,cpb,hve,-⟩:=zN.at zbr hb hxb
  cases hve
  have hce:∀{wz:Wl},zk [] wx wz→wz.cell? ⟨bi,oi+j*1,none⟩=some (Ii (i:Int))∧zv wz ba (oa+i*4) x.cs∧zv wz bb (ob+i*4) y.cs:=fun hc=>by
   obtain⟨_,_,_,he,h1⟩:=yA.cell (zN.chg0 hi (hcx.trans hc)) hx
   cases he
   obtain⟨_,_,_,he,h2⟩:=zN.at zbr (zN.chg0 ha (hcx.trans hc)) hxa
   cases he
   obtain⟨_,_,_,he,h3⟩:=zN.at zbr (zN.chg0 hb (hcx.trans hc)) hxb
   cases he
   exact⟨h1,h2,h3⟩
  refine zf (zp (zf ?_))
  by_cases h0:x.k=0
  ·refine zH (fun wz=>zk [] wx wz) mix (zdv (by kernel_rfl)) (zk.drew [] wx) ?_
   refine Tm U (Tm U (Tm U ?_))
   refine Tp (fun _=>zi zaH sz3 U U _ U hlt) U ?_
   refine Tr (fun wz hz=>zg ag3 U (hce hz).1) U ?_
   refine Tp (fun _=>zi yE ym U U _ U hia) U ?_
   refine Td zal U ?_
   refine Tr (fun wz hz=>zg zbS U ((hce hz).2.1 0 _ U)) U ?_
   refine Tp (fun _=>vt (zy U U) (by simp[h0])) U ?_
   refine Tm U ?_
   iterate 15 refine Tk U ?_
   refine Tp (fun _=>zD U U) U (D5 0 1 2 7 39 U (ze U (Sr (Oa U (E1 6 U (zj ?_))))))
   repeat first|refine tr ?_|refine br ?_
   refine zw U U ?_
   exact⟨by rw[hfail (by rw[hstep];simp[h0])],hcx.trans (zk.drew [] _)⟩
  refine zH (fun wz=>zk [] wx wz) mix (zdv (by kernel_rfl)) (zk.drew [] wx) ?_
  refine Tm U (Tm U (Tm U ?_))
  refine Tp (fun _=>zi zaH sz3 U U _ U hlt) U ?_
  refine Tr (fun wz hz=>zg ag3 U (hce hz).1) U ?_
  refine Tp (fun _=>zi yE ym U U _ U hia) U ?_
  refine Td zal U ?_
  refine Tr (fun wz hz=>zg zbS U ((hce hz).2.1 0 _ U)) U ?_
  refine Tp (fun _=>vf (zy U U) (by simp[h0])) U ?_
  refine Tm U (Tq U U U (Tq U U U (Tq U U U ?_)))
  refine Tg U U (fun _=>zi zaH sz3 U U _ U hlt) U ?_
  refine Ts U U (fun wz hz=>zg ag3 U (hce hz).1) U ?_
  refine Tg U U (fun _=>zi yE ym U U _ U hia) U ?_
  refine Ts U U (fun wz hz=>zh zaJ ym U U (hce hz).2.1) U (Tq U U U (Tq U U U (Tq U U U ?_)))
  refine Tg U U (fun _=>zi zaH sz3 U U _ U hlt) U ?_
  refine Ts U U (fun wz hz=>zg ag3 U (hce hz).1) U ?_
  refine Tg U U (fun _=>zi yE ym U U _ U hib) U ?_
  refine Ts U U (fun wz hz=>zh zaJ ym U U (hce hz).2.2) U (Tg U U (fun _=>zhX zqc U U (zl8 x y)) U (Tp (fun _=>zE U U) U (D5 0 1 2 7 39 U ?_)))
  by_cases hxy:x=y
  ·refine zb (by simp[hxy];rfl) ?_
   refine zT (zl (za (Om U ?_)))
   refine Og (zG U U (by omega)) U ?_
   refine Oa U (N4 0 1 2 7 U ?_)
   exact⟨st.length-(j+1),by omega,j+1,rfl,by omega,rfl,by rw[hstep];simp[hxy];simpa[hxy] using h0,hcx.trans (zk.drew [] _)⟩
  refine ze (by simp[hxy];rfl) ?_
  refine Sr (Oa U (E1 6 U (zj ?_)))
  repeat first|refine tr ?_|refine br ?_
  refine zw U U ?_
  exact⟨by rw[hfail (by rw[hstep];simp[hxy])],hcx.trans (zk.drew [] _)⟩
 refine za (Om U (Om U (On zaH U ?_)))
 refine Og (vf (zz U U) (by simp;omega)) U ?_
 refine E5 0 1 2 7 11 U (zb U ?_)
 refine zI ?_
 repeat first|refine te ?_|refine bo rfl ?_
 refine zq _ ?_
 refine Sr (Oa U (E1 6 U (zj ?_)))
 refine zw U U ?_
 rw[Tl (by omega)]at hok
 exact⟨by rw[hok],hcx⟩
theorem zq6(c k u o va vb:Va)(s:yK)(rows:LV)(a b:List zX)(w:Wl)(h:za3 w c k u o s rows)(ha:ya w va a)(hb:ya w vb b)(hfa:zaf s a=0)(hfb:zaf s b=0) :
 zS TP 88 #[.agg #[c,k,u,o],va,vb] w fun r w'=>r=.bool (zax s a b)∧zk [] w w':=by
 obtain⟨pa,ca,rfl,hca⟩:=zN.val ha
 obtain⟨pb,cb,rfl,hcb⟩:=zN.val hb
 have hr:=h.ok.right
 refine A3 Tryz.func88 U U ?_
 refine Sr ?_
 refine Ob U U ?_
 intro b3 w3 e3 n3 c3 k3
 refine Oa U (E3 1 2 3 U (Sr (Od zeF U ?_)))
 refine Og (zh zaX zaS U U (zv.of_blk k3 0 [c,k,u] ⟨[_],U⟩)) U ?_
 refine Oc zCD U U U (zzp _ _ _ s _ (h.sch.chg0 c3) hr h.nm) ?_
 rintro v11 w11⟨i11,f11,c11⟩
 refine Oa U (E3 1 2 7 U ?_)
 have hc11:=c3.trans c11
 obtain⟨ps,cs,rfl,hcs⟩:=zbT.val i11
 have hsl:(zW s).length≤1048576:=by have:=(zZ hr).2.1;simp[zW];omega
 refine zf (Sr (Oa U (E4 1 2 7 8 U (zp ?_))))
 refine zQ [1,2,7,8] (fun m F wx=>∃j:Nat,m=(zW s).length-j∧j≤(zW s).length∧F=[(1,.slice pa a.length ca),(2,.slice pb b.length cb),(7,.slice ps (zW s).length cs),(8,Ii j)]∧((zW s).take j).any (zbi a b)=false∧zk [] w11 wx) (m:=(zW s).length-0) ⟨0,U,Zl _,U,U,zk.refl _ _⟩ ?_
 rintro m F wx⟨j,rfl,hj,rfl,hok,hcx⟩
 refine zf (zf ?_)
 by_cases hlt:j<(zW s).length
 ·refine za (Om U (Om U (On zbd U ?_)))
  refine Og (vt (zz U U) (by simp;omega)) U ?_
  refine E5 1 2 7 8 15 U (ze U (zm ?_))
  have hx:(zW s)[j]?=some (zW s)[j]:=by simp[hlt]
  have htk:=List.take_succ_eq_append_getElem hlt
  have hmem:=List.getElem_mem hlt
  generalize (zW s)[j]=st at hx htk hmem
  obtain⟨bi,oi,cpi,vi,hve,hcell,hint⟩:=zbT.at (i11.chg0 hcx) hx
  cases hve
  refine zf (zp (Sr (Om U (Om U (Om U (Om U ?_))))))
  refine Og (zi zbd zg6 U U _ U hlt) U ?_
  refine Ol zci U hcell ?_
  refine Oc zCU U U U (zvF _ _ _ a b st _ (zN.chg0 ha (hc11.trans hcx)) (zN.chg0 hb (hc11.trans hcx)) hint (zo6 hfa hmem) (zo6 hfb hmem) (ztn hr hmem)) ?_
  rintro v24 w24⟨rfl,c24⟩
  refine E5 1 2 7 8 24 U ?_
  cases hcl:zbi a b st with
  |true=>
   refine ze U (Sr (Oa U (E1 6 U (zj ?_))))
   repeat first|refine tr ?_|refine br ?_
   refine zw U U ?_
   have e:zax s a b=true:=List.any_eq_true.2 ⟨st,hmem,hcl⟩
   exact⟨by rw[e],(hc11.trans hcx).trans c24⟩
  |false=>
   refine zb U (zT (zl (za (Om U ?_))))
   refine Og (zG U U (by omega)) U ?_
   refine Oa U (N4 1 2 7 8 U ?_)
   exact⟨(zW s).length-(j+1),by omega,j+1,rfl,by omega,rfl,by rw[htk,List.any_append,hok];simp[hcl],hcx.trans c24⟩
 refine za (Om U (Om U (On zbd U ?_)))
 refine Og (vf (zz U U) (by simp;omega)) U ?_
 refine E5 1 2 7 8 15 U (zb U ?_)
 refine zI ?_
 repeat first|refine te ?_|refine bo rfl ?_
 refine zq _ ?_
 refine Sr (Oa U (E1 6 U (zj ?_)))
 refine zw U U ?_
 rw[Tl (by omega)]at hok
 exact⟨by unfold zax;rw[hok],hc11.trans hcx⟩
theorem zpz(c k u o va:Va)(s:yK)(rows:LV)(row:List zX)(but:By)(w:Wl)(h:za3 w c k u o s rows)(ha:ya w va row)(hf:zaf s row=0) :
 zS TP 51 #[.agg #[c,k,u,o],va,.string but] w fun r w'=>r=.bool (zcN s rows row but)∧zk [] w w':=by
 obtain⟨pa,ca,rfl,hca⟩:=zN.val ha
 obtain⟨po,co,rfl,hco⟩:=h.rws.val
 have hr:=h.ok.right
 have hrl:=h.ok.le
 refine A3 Tryz.func51 U U ?_
 refine Sr ?_
 refine Ob U U ?_
 intro b3 w3 e3 n3 c3 k3
 refine Oa U (E3 1 2 3 U (zf (Sr (Oa U (E4 1 2 3 7 U (zp ?_))))))
 refine zQ [1,2,3,7] (fun m F wx=>∃j:Nat,m=rows.length-j∧j≤rows.length∧F=[(1,.slice pa row.length ca),(2,.string but),(3,Pt b3),(7,Ii j)]∧(rows.take j).any (fun r=>decide (z9 s r≠but)&&zax s r row)=false∧zk [] w3 wx) (m:=rows.length-0) ⟨0,U,Zl _,U,U,zk.refl _ _⟩ ?_
 rintro m F wx⟨j,rfl,hj,rfl,hok,hcx⟩
 have k3x:=k3.chg0 hcx
 refine zf (zf ?_)
 by_cases hlt:j<rows.length
 ·refine za (Om U (Od zar U (Ol zc9 U (k3x.cell' (i:=3) U) (On zbZ U ?_))))
  refine Og (vt (zz U U) (by simp;omega)) U ?_
  refine E5 1 2 3 7 12 U (ze U (zm ?_))
  have hx:rows[j]?=some rows[j]:=by simp[hlt]
  have htk:=List.take_succ_eq_append_getElem hlt
  have hmem:=List.getElem_mem hlt
  generalize rows[j]=r at hx htk hmem
  have hfr:=h.ok.fit r hmem
  have hgr:=h.ok.rng r hmem
  obtain⟨bo,oo,cpo,vr,hve,hcell,hvr⟩:=(h.rws.chg0 (c3.trans hcx)).at hx
  cases hve
  have hce:∀{wz:Wl},zk [] wx wz→za3 wz c k u (.slice (some ⟨bo,oo,none⟩) rows.length co) s rows∧zO wz b3 67 [c,k,u,.slice (some ⟨bo,oo,none⟩) rows.length co]∧wz.cell? ⟨bo,oo+j*1,none⟩=some vr∧ya wz vr r∧ya wz (.slice pa row.length ca) row:=fun hc=>by
   have hcc:=(c3.trans hcx).trans hc
   exact⟨h.chg0 hcc,k3x.chg0 hc,hc.cell hcell,(yl.chg0 hvr hc).arr,zN.chg0 ha hcc⟩
  refine zf (zp (zf ?_))
  by_cases hk:z9 s r=but
  ·refine zH (fun wz=>zk [] wx wz) mix (by kernel_rfl) (zk.drew [] wx) ?_
   refine Tr (fun wz hz=>zh zaG yH U U (zv.of_blk0 (hce hz).2.1)) U (Td zar U (Tr (fun wz hz=>zg zc9 U ((hce hz).2.1.cell' (i:=3) U)) U (Tm U ?_)))
   refine Tp (fun _=>zi zbZ zeg U U _ U hlt) U ?_
   refine Tr (fun wz hz=>zg yU U (hce hz).2.2.1) U ?_
   refine Tc zis U U U (zdH _ _ _ _ _ s rows r _ (hce (zk.drew [] _)).1 (hce (zk.drew [] _)).2.2.2.1 hfr hgr) ?_
   rintro v21 w21⟨rfl,c21⟩
   refine⟨.inl ((zk.drew [] _).trans c21),?_⟩
   refine Tm U ?_
   refine Tp (fun _=>vf (zcj U U) (by simp[hk])) U ?_
   refine Tm U ?_
   iterate 8 refine Tk U ?_
   refine Tp (fun _=>zE U U) U (D5 1 2 3 7 33 U (zb U (zT (zl (za (Om U ?_))))))
   refine Og (zG U U (by omega)) U ?_
   refine Oa U (N4 1 2 3 7 U ?_)
   exact⟨rows.length-(j+1),by omega,j+1,rfl,by omega,rfl,by rw[htk,List.any_append,hok];simp[hk],(hcx.trans (zk.drew [] _)).trans c21⟩
  refine zH (fun wz=>zk [] wx wz) mix (by kernel_rfl) (zk.drew [] wx) ?_
  refine Tr (fun wz hz=>zh zaG yH U U (zv.of_blk0 (hce hz).2.1)) U (Td zar U (Tr (fun wz hz=>zg zc9 U ((hce hz).2.1.cell' (i:=3) U)) U (Tm U ?_)))
  refine Tp (fun _=>zi zbZ zeg U U _ U hlt) U ?_
  refine Tr (fun wz hz=>zg yU U (hce hz).2.2.1) U ?_
  refine Tc zis U U U (zdH _ _ _ _ _ s rows r _ (hce (zk.drew [] _)).1 (hce (zk.drew [] _)).2.2.2.1 hfr hgr) ?_
  rintro v21 w21⟨rfl,c21⟩
  refine⟨.inl ((zk.drew [] _).trans c21),?_⟩
  refine Tm U ?_
  refine Tp (fun _=>vt (zcj U U) (by simp[hk])) U ?_
  refine Tm U (Ts U U (fun wz hz=>zh zaG yH U U (zv.of_blk0 (hce hz).2.1)) U (Tg U U (fun _=>zd zar U) U (Ts U U (fun wz hz=>zg zc9 U ((hce hz).2.1.cell' (i:=3) U)) U (Tq U U U ?_))))
  refine Tg U U (fun _=>zi zbZ zeg U U _ U hlt) U ?_
  refine Ts U U (fun wz hz=>zg yU U (hce hz).2.2.1) U (Tq U U U ?_)
  refine Tv U U zDQ U U U (zq6 _ _ _ _ _ _ s rows r row _ (hce ((zk.drew [] _).trans c21)).1 (hce ((zk.drew [] _).trans c21)).2.2.2.1 (hce ((zk.drew [] _).trans c21)).2.2.2.2 hfr hf) ?_
  rintro v32 w32⟨rfl,c32⟩
  refine⟨.inl (((zk.drew [] _).trans c21).trans c32),?_⟩
  refine Tp (fun _=>zD U U) U (D5 1 2 3 7 33 U ?_)
  cases hcl:zax s r row with
  |false=>
   refine zb U (zT (zl (za (Om U ?_))))
   refine Og (zG U U (by omega)) U ?_
   refine Oa U (N4 1 2 3 7 U ?_)
   exact⟨rows.length-(j+1),by omega,j+1,rfl,by omega,rfl,by rw[htk,List.any_append,hok];simp[hcl],((hcx.trans (zk.drew [] _)).trans c21).trans c32⟩
  |true=>
   refine ze U (Sr (Oa U (E1 6 U (zj ?_))))
   repeat first|refine tr ?_|refine br ?_
   refine zw U U ?_
   have e:zcN s rows row but=true:=List.any_eq_true.2 ⟨r,hmem,by simp[hk,hcl]⟩
   exact⟨by rw[e],(((c3.trans hcx).trans (zk.drew [] _)).trans c21).trans c32⟩
 refine za (Om U (Od zar U (Ol zc9 U (k3x.cell' (i:=3) U) (On zbZ U ?_))))
 refine Og (vf (zz U U) (by simp;omega)) U ?_
 refine E5 1 2 3 7 12 U (zb U ?_)
 refine zI ?_
 repeat first|refine te ?_|refine bo rfl ?_
 refine zq _ ?_
 refine Sr (Oa U (E1 6 U (zj ?_)))
 refine zw U U ?_
 rw[Tl (by omega)]at hok
 exact⟨by unfold zcN;rw[hok],c3.trans hcx⟩
theorem zuo{α:Type}{p:α→Bool}{l:List α}{j:Nat}{x:α}(hx:l[j]?=some x)(h:(l.take j).any p=false)(hp:p x=true):l.find? p=some x:=by
 obtain⟨hlt,rfl⟩:=Gs hx
 have e:l=l.take j++l[j]::l.drop (j+1):=by rw[List.getElem_cons_drop,List.take_append_drop]
 have hn:(l.take j).find? p=none:=List.find?_eq_none.2 fun y hy=>by
  have:=List.any_eq_false.1 h y hy
  simpa using this
 conv=>lhs;rw[e]
 rw[List.find?_append,hn,List.find?_cons,hp]
 rfl
theorem znt{α:Type}{p:α→Bool}{l:List α}(h:l.any p=false):l.find? p=none:=List.find?_eq_none.2 fun y hy=>by
 have:=List.any_eq_false.1 h y hy
 simpa using this
theorem zpG(c k u o:Va)(s:yK)(rows:LV)(key:By)(w:Wl)(h:za3 w c k u o s rows) :
 zS TP 124 #[.agg #[c,k,u,o],.string key] w fun r w'=>∃i:Int,r=Ii i∧((i = -1∧zc7 s rows key=none)∨∃(j:Nat) (x:List zX),i=j∧rows[j]?=some x∧zc7 s rows key=some x)∧zk [] w w':=by
 obtain⟨po,co,rfl,hco⟩:=h.rws.val
 have hrl:=h.ok.le
 refine A2 Tryz.func124 U U ?_
 refine Sr ?_
 refine Ob U U ?_
 intro b2 w2 e2 n2 c2 k2
 refine Oa U (E2 1 2 U (zf (Sr (Oa U (E3 1 2 5 U (zp ?_))))))
 refine zQ [1,2,5] (fun m F wx=>∃j:Nat,m=rows.length-j∧j≤rows.length∧F=[(1,.string key),(2,Pt b2),(5,Ii j)]∧(rows.take j).any (fun r=>decide (z9 s r=key))=false∧zk [] w2 wx) (m:=rows.length-0) ⟨0,U,Zl _,U,U,zk.refl _ _⟩ ?_
 rintro m F wx⟨j,rfl,hj,rfl,hok,hcx⟩
 have k2x:=k2.chg0 hcx
 refine zf (zf ?_)
 by_cases hlt:j<rows.length
 ·refine za (Om U (Od zar U (Ol zc9 U (k2x.cell' (i:=3) U) (On zbZ U ?_))))
  refine Og (vt (zz U U) (by simp;omega)) U ?_
  refine E4 1 2 5 10 U (ze U (zm ?_))
  have hx:rows[j]?=some rows[j]:=by simp[hlt]
  have htk:=List.take_succ_eq_append_getElem hlt
  have hmem:=List.getElem_mem hlt
  generalize rows[j]=r at hx htk hmem
  have hfr:=h.ok.fit r hmem
  have hgr:=h.ok.rng r hmem
  obtain⟨bo,oo,cpo,vr,hve,hcell,hvr⟩:=(h.rws.chg0 (c2.trans hcx)).at hx
  cases hve
  have hce:∀{wz:Wl},zk [] wx wz→za3 wz c k u (.slice (some ⟨bo,oo,none⟩) rows.length co) s rows∧zO wz b2 67 [c,k,u,.slice (some ⟨bo,oo,none⟩) rows.length co]∧wz.cell? ⟨bo,oo+j*1,none⟩=some vr∧ya wz vr r:=fun hc=>⟨h.chg0 ((c2.trans hcx).trans hc),k2x.chg0 hc,hc.cell hcell,(yl.chg0 hvr hc).arr⟩
  refine zf (zp (zf ?_))
  by_cases hk:z9 s r=key
  ·refine zH (fun wz=>zk [] wx wz) mix (by kernel_rfl) (zk.drew [] wx) ?_
   refine Tr (fun wz hz=>zh zaG yH U U (zv.of_blk0 (hce hz).2.1)) U (Td zar U (Tr (fun wz hz=>zg zc9 U ((hce hz).2.1.cell' (i:=3) U)) U (Tm U ?_)))
   refine Tp (fun _=>zi zbZ zeg U U _ U hlt) U ?_
   refine Tr (fun wz hz=>zg yU U (hce hz).2.2.1) U ?_
   refine Tc zis U U U (zdH _ _ _ _ _ s rows r _ (hce (zk.drew [] _)).1 (hce (zk.drew [] _)).2.2.2 hfr hgr) ?_
   rintro v19 w19⟨rfl,c19⟩
   refine⟨.inl ((zk.drew [] _).trans c19),?_⟩
   refine Tm U ?_
   refine Tp (fun _=>vt (zaQ U U) (by simp[hk])) U ?_
   refine D4 1 2 5 21 U (ze U (Sr (Om U (Oa U (E1 4 U (zj ?_))))))
   repeat first|refine tr ?_|refine br ?_
   refine zw U U ?_
   exact⟨_,rfl,.inr ⟨j,r,rfl,hx,zuo hx hok (by simp[hk])⟩,((c2.trans hcx).trans (zk.drew [] _)).trans c19⟩
  refine zH (fun wz=>zk [] wx wz) mix (by kernel_rfl) (zk.drew [] wx) ?_
  refine Tr (fun wz hz=>zh zaG yH U U (zv.of_blk0 (hce hz).2.1)) U (Td zar U (Tr (fun wz hz=>zg zc9 U ((hce hz).2.1.cell' (i:=3) U)) U (Tm U ?_)))
  refine Tp (fun _=>zi zbZ zeg U U _ U hlt) U ?_
  refine Tr (fun wz hz=>zg yU U (hce hz).2.2.1) U ?_
  refine Tc zis U U U (zdH _ _ _ _ _ s rows r _ (hce (zk.drew [] _)).1 (hce (zk.drew [] _)).2.2.2 hfr hgr) ?_
  rintro v19 w19⟨rfl,c19⟩
  refine⟨.inl ((zk.drew [] _).trans c19),?_⟩
  refine Tm U ?_
  refine Tp (fun _=>vf (zaQ U U) (by simp[hk])) U ?_
  refine D4 1 2 5 21 U (zb U (zT (zl (za (Om U ?_)))))
  refine Og (zG U U (by omega)) U ?_
  refine Oa U (N3 1 2 5 U ?_)
  exact⟨rows.length-(j+1),by omega,j+1,rfl,by omega,rfl,by rw[htk,List.any_append,hok];simp[hk],(hcx.trans (zk.drew [] _)).trans c19⟩
 refine za (Om U (Od zar U (Ol zc9 U (k2x.cell' (i:=3) U) (On zbZ U ?_))))
 refine Og (vf (zz U U) (by simp;omega)) U ?_
 refine E4 1 2 5 10 U (zb U ?_)
 refine zI ?_
 repeat first|refine te ?_|refine bo rfl ?_
 refine zq _ ?_
 refine Sr (Oa U (E1 4 U (zj ?_)))
 refine zw U U ?_
 rw[Tl (by omega)]at hok
 exact⟨_,U,.inl ⟨U,znt hok⟩,c2.trans hcx⟩
theorem zla(c k u o:Va)(s:yK)(rows:LV)(key:By)(w:Wl)(h:za3 w c k u o s rows) :
 zS TP 78 #[.agg #[c,k,u,o],.string key] w fun r w'=>∃o',r=.agg #[c,k,u,o']∧za3 w' c k u o' s (zby s rows key)∧(∀b∈zu o',w.heap.size≤b)∧zk [] w w':=by
 obtain⟨po,co,rfl,hco⟩:=h.rws.val
 have hrl:=h.ok.le
 refine A2 Tryz.func78 U U ?_
 refine Sr ?_
 refine Ob U U ?_
 intro b2 w2 e2 n2 c2 k2
 refine Oq (zF zg2 U U ?_)
 intro b4 w4 e4 n4 c4 k4
 refine E3 1 2 4 U (Sr (Oa U (E4 1 2 4 5 U (zf (Sr (Oa U (E5 1 2 4 5 6 U (zp ?_))))))))
 refine zQ [1,2,4,5,6] (fun m F wx=>∃j:Nat,m=rows.length-j∧j≤rows.length∧∃x:Va,F=[(1,.string key),(2,Pt b2),(4,Pt b4),(5,x),(6,Ii j)]∧zam wx x (zby s (rows.take j) key)∧(∀b∈zu x,w4.heap.size≤b)∧zk [] w4 wx) (m:=rows.length-0) ⟨0,rfl,Zl _,_,rfl,zam.nil _,by simp[zu],zk.refl _ _⟩ ?_
 rintro m F wx⟨j,rfl,hj,x,rfl,hu,hfu,hcx⟩
 have k2w:zO w4 b2 67 [c,k,u,.slice po rows.length co]:=k2.chg0 c4
 have k2x:=k2w.chg0 hcx
 have k4x:=k4.chg0 hcx
 have hcw:=(c2.trans c4).trans hcx
 refine zf (zf ?_)
 by_cases hlt:j<rows.length
 ·refine za (Om U (Od zar U (Ol zc9 U (k2x.cell' (i:=3) U) (On zbZ U ?_))))
  refine Og (vt (zz U U) (by simp;omega)) U ?_
  refine E6 1 2 4 5 6 11 U (ze U (zm ?_))
  have hx:rows[j]?=some rows[j]:=by simp[hlt]
  have htk:=List.take_succ_eq_append_getElem hlt
  have hmem:=List.getElem_mem hlt
  generalize rows[j]=r at hx htk hmem
  have hfr:=h.ok.fit r hmem
  have hgr:=h.ok.rng r hmem
  obtain⟨bo,oo,cpo,vr,hve,hcell,hvr⟩:=(h.rws.chg0 hcw).at hx
  cases hve
  have hce:∀{wz:Wl},zk [] wx wz→za3 wz c k u (.slice (some ⟨bo,oo,none⟩) rows.length co) s rows∧zO wz b2 67 [c,k,u,.slice (some ⟨bo,oo,none⟩) rows.length co]∧wz.cell? ⟨bo,oo+j*1,none⟩=some vr∧ya wz vr r:=fun hc=>⟨h.chg0 (hcw.trans hc),k2x.chg0 hc,hc.cell hcell,(yl.chg0 hvr hc).arr⟩
  refine zf (zp (zf ?_))
  by_cases hk:z9 s r=key
  ·refine zH (fun wz=>zk [] wx wz) mix (by kernel_rfl) (zk.drew [] wx) ?_
   refine Tr (fun wz hz=>zh zaG yH U U (zv.of_blk0 (hce hz).2.1)) U (Td zar U (Tr (fun wz hz=>zg zc9 U ((hce hz).2.1.cell' (i:=3) U)) U (Tm U ?_)))
   refine Tp (fun _=>zi zbZ zeg U U _ U hlt) U ?_
   refine Tr (fun wz hz=>zg yU U (hce hz).2.2.1) U ?_
   refine Tc zis U U U (zdH _ _ _ _ _ s rows r _ (hce (zk.drew [] _)).1 (hce (zk.drew [] _)).2.2.2 hfr hgr) ?_
   rintro v20 w20⟨rfl,c20⟩
   refine⟨.inl ((zk.drew [] _).trans c20),?_⟩
   refine Tm U ?_
   refine Tp (fun _=>vf (zcj U U) (by simp[hk])) U ?_
   refine D6 1 2 4 5 6 22 U (zb U (zT (zl (za (Om U ?_)))))
   refine Og (zG U U (by omega)) U ?_
   refine Oa U (N5 1 2 4 5 6 U ?_)
   have e:zby s (rows.take (j+1)) key=zby s (rows.take j) key:=by unfold zby;rw[htk,List.filter_append];simp[hk]
   exact⟨rows.length-(j+1),by omega,j+1,rfl,by omega,x,rfl,e▸hu.chg0 ((zk.drew [] _).trans c20),hfu,(hcx.trans (zk.drew [] _)).trans c20⟩
  refine zH (fun wz=>zk [] wx wz) mix (by kernel_rfl) (zk.drew [] wx) ?_
  refine Tr (fun wz hz=>zh zaG yH U U (zv.of_blk0 (hce hz).2.1)) U (Td zar U (Tr (fun wz hz=>zg zc9 U ((hce hz).2.1.cell' (i:=3) U)) U (Tm U ?_)))
  refine Tp (fun _=>zi zbZ zeg U U _ U hlt) U ?_
  refine Tr (fun wz hz=>zg yU U (hce hz).2.2.1) U ?_
  refine Tc zis U U U (zdH _ _ _ _ _ s rows r _ (hce (zk.drew [] _)).1 (hce (zk.drew [] _)).2.2.2 hfr hgr) ?_
  rintro v20 w20⟨rfl,c20⟩
  refine⟨.inl ((zk.drew [] _).trans c20),?_⟩
  refine Tm U ?_
  refine Tp (fun _=>vt (zcj U U) (by simp[hk])) U ?_
  refine D6 1 2 4 5 6 22 U (ze U ?_)
  have hc20:zk [] wx w20:=(zk.drew [] _).trans c20
  obtain⟨us,hus,hls⟩:=hu.chg0 hc20
  obtain⟨pv,cv,rfl,-⟩:=yl.val hvr
  have hll:(zby s (rows.take j) key).length≤400:=by
   have:=List.length_filter_le (fun r=>decide (z9 s r≠key)) (rows.take j)
   unfold zby
   rw[List.length_take]at this
   omega
  refine za (Om U (Od zar U (Ol zc9 U ((hce hc20).2.1.cell' (i:=3) U) (Om U ?_))))
  refine Og (zi zbZ zeg U U _ U hlt) U ?_
  refine Ol yU U (hce hc20).2.2.1 ?_
  refine Oq (zA zow U (vs:=[_]) U (css:=[_]) ⟨U,Tt⟩ U U (cs:=[_]) U U ?_)
  intro b29 w29 e29 n29 c29 k29
  refine Oq (yr zow zbZ U U (zB.chg0 hus c29) (zB.of_blk (n:=1) k29 U (by simp[maxLen]) (by intro y hy;simp at hy;subst hy;rfl)) (by simp only[maxLen];omega) (by omega) U ?_)
  intro v30 w30 i30 c30 o30 z30
  refine Oa U (N5 1 2 4 5 6 U (zl (za (Om U ?_))))
  refine Og (zG U U (by omega)) U ?_
  refine Oa U (N5 1 2 4 5 6 U ?_)
  have e:zby s (rows.take (j+1)) key=zby s (rows.take j) key++[r]:=by unfold zby;rw[htk,List.filter_append];simp[hk]
  have hs1:=hcx.size
  have hs2:=hc20.size
  have hs3:=c29.size
  refine⟨rows.length-(j+1),by omega,j+1,rfl,by omega,v30,rfl,?_,yt o30 hfu (by omega),((hcx.trans hc20).trans c29).own c30 hfu⟩
  rw[e]
  exact zam.push hus hls (yl.chg0 hvr hc20) c29 i30 c30
 refine za (Om U (Od zar U (Ol zc9 U (k2x.cell' (i:=3) U) (On zbZ U ?_))))
 refine Og (vf (zz U U) (by simp;omega)) U ?_
 refine E6 1 2 4 5 6 11 U (zb U ?_)
 refine zI ?_
 repeat first|refine te ?_|refine bo rfl ?_
 refine zq _ ?_
 rw[Tl (by omega)]at hu
 obtain⟨px,cx,rfl,-⟩:=hu.val
 refine Sr (Om U (Od zar U ?_))
 refine Oq (zt zCh U U U U k2x (by simp) (by intro y hy;simp at hy;subst hy;rfl) ?_)
 intro wA nA cA kA
 refine E2 2 4 U ?_
 have kA:zO wA b2 67 [c,k,u,.slice px (zby s rows key).length cx]:=kA
 have k4A:=k4x.chg cA (by simp;omega)
 refine Sr (Og (zh zaG yH U U (zv.of_blk0 kA)) U ?_)
 refine Oq (zt yH U U U U k4A (by simp) (za3.one h.sch _ _ _) ?_)
 intro wB nB cB kB
 refine E1 4 U (zj ?_)
 refine zf0 U zaG yH U U (zv.of_blk0 kB) ?_
 have hs1:=c2.size
 have hs2:=c4.size
 have hcB:zk [] w wB:=(hcw.own cA (by intro y hy;simp at hy;omega)).own cB (by intro y hy;simp at hy;omega)
 exact⟨_,rfl,⟨h.sch.chg0 hcB,(hu.chgB k2x U U cA).chgB k4A U U cB,h.ok.less key,h.nm⟩,fun b hb=>by have:=hfu b hb;omega,hcB⟩
section
variable {α:Type} {w:Wl} {e k:Nat} {f:α→LA}
theorem yn.take:∀{vs:LA} {ls:List (List α)} (i:Nat),yn w e k f vs ls→yn w e k f (vs.take i) (ls.take i)
 |_,_,0,_=>by simp[yn]
 |[],[],_+1,_=>by simp[yn]
 |_::_,_::_,i+1,h=>⟨h.1,h.2.take i⟩
theorem yn.drop:∀{vs:LA} {ls:List (List α)} (i:Nat),yn w e k f vs ls→yn w e k f (vs.drop i) (ls.drop i)
 |_,_,0,h=>h
 |[],[],_+1,_=>by simp[yn]
 |_::_,_::_,i+1,h=>by simpa using h.2.drop i
end
theorem znC{α:Type}{p:α→Bool}:∀{l:List α} {j:Nat},j≤l.length→(l.take j).all p=true→(∀x,l[j]?=some x→p x=false)→l.takeWhile p=l.take j∧l.dropWhile p=l.drop j
 |[],j,hj,_,_=>by simp
 |a::l,0,_,_,h=>by
  have:=h a (by simp)
  simp[List.takeWhile_cons,List.dropWhile_cons,this]
 |a::l,j+1,hj,h1,h2=>by
  simp only[List.take_succ_cons,List.all_cons,Bool.and_eq_true]at h1
  have ih:=znC (l:=l) (j:=j) (by simpa using hj) h1.2 (fun x hx=>h2 x (by simpa using hx))
  simp[List.takeWhile_cons,List.dropWhile_cons,h1.1,ih.1,ih.2]
theorem zsN(c k u o v:Va)(s:yK)(rows:LV)(row:List zX)(w:Wl)(h:za3 w c k u o s rows)(hl:ya w v row)(hf:zaf s row=0)(hg:∀x∈row,x.Rng)(hcl:∀r∈rows,zax s r row=false)(h400:rows.length<400) :
 zS TP 52 #[.agg #[c,k,u,o],v] w fun r w'=>∃o',r=.agg #[c,k,u,o']∧za3 w' c k u o' s (zdr s rows row)∧zk [] w w':=by
 obtain⟨po,co,rfl,hco⟩:=h.rws.val
 obtain⟨pv,cv,rfl,hcv⟩:=zN.val hl
 refine A2 Tryz.func52 U U ?_
 refine Sr ?_
 refine Ob U U ?_
 intro b2 w2 e2 n2 c2 k2
 refine Oq (zF zg2 U U ?_)
 intro b4 w4 e4 n4 c4 k4
 refine E3 1 2 4 U ?_
 have k2w:zO w4 b2 67 [c,k,u,.slice po rows.length co]:=k2.chg0 c4
 have hcw4:=c2.trans c4
 refine Sr (Og (zh zaG yH U U (zv.of_blk0 k2w)) U (Om U ?_))
 refine Oc zis U U U (zdH _ _ _ _ _ s rows row _ (h.chg0 hcw4) (zN.chg0 hl hcw4) hf hg) ?_
 rintro v10 w10⟨rfl,c10⟩
 refine Oa U (E4 1 2 4 5 U (Sr (Oa U (E5 1 2 4 5 6 U ?_))))
 refine zR (fun F wx=>∃(j:Nat) (f5 f26:Va),F=[(1,.slice pv row.length cv),(2,Pt b2),(4,Pt b4),(5,f5),(6,Ii j),(26,f26)]∧j≤rows.length∧rows.takeWhile (fun r=>blt (z9 s r) (z9 s row))=rows.take j∧rows.dropWhile (fun r=>blt (z9 s r) (z9 s row))=rows.drop j∧zk [] w4 wx) ?_ ?_
 ·refine zp ?_
  refine zQ [1,2,4,5,6] (fun m F wx=>∃j:Nat,m=rows.length-j∧j≤rows.length∧F=[(1,.slice pv row.length cv),(2,Pt b2),(4,Pt b4),(5,.string (z9 s row)),(6,Ii j)]∧(rows.take j).all (fun r=>blt (z9 s r) (z9 s row))=true∧zk [] w4 wx) (m:=rows.length-0) ⟨0,U,Zl _,U,U,c10⟩ ?_
  rintro m F wx⟨j,rfl,hj,rfl,hok,hcx⟩
  have k2x:=k2w.chg0 hcx
  have hcw:=hcw4.trans hcx
  refine zf (zf ?_)
  have hjrow:j<rows.length→∃r,rows[j]?=some r∧rows.take (j+1)=rows.take j++[r]:=fun hlt=>⟨rows[j],by simp[hlt],List.take_succ_eq_append_getElem hlt⟩
  by_cases hgo:∃r,rows[j]?=some r∧blt (z9 s r) (z9 s row)=true
  ·obtain⟨r,hx,hb⟩:=hgo
   have hlt:j<rows.length:=(Gs hx).1
   obtain⟨r',hx',htk⟩:=hjrow hlt
   rw[hx]at hx'
   cases hx'
   have hmem:=Mg hx
   have hfr:=h.ok.fit r hmem
   have hgr:=h.ok.rng r hmem
   obtain⟨bo,oo,cpo,vr,hve,hcell,hvr⟩:=(h.rws.chg0 hcw).at hx
   cases hve
   have hce:∀{wz:Wl},zk [] wx wz→za3 wz c k u (.slice (some ⟨bo,oo,none⟩) rows.length co) s rows∧zO wz b2 67 [c,k,u,.slice (some ⟨bo,oo,none⟩) rows.length co]∧wz.cell? ⟨bo,oo+j*1,none⟩=some vr∧ya wz vr r:=fun hc=>⟨h.chg0 (hcw.trans hc),k2x.chg0 hc,hc.cell hcell,(yl.chg0 hvr hc).arr⟩
   refine zH (fun wz=>zk [] wx wz) mix (by kernel_rfl) (zk.drew [] wx) ?_
   refine Tm U (Td zar U (Tr (fun wz hz=>zg zc9 U ((hce hz).2.1.cell' (i:=3) U)) U (Tp (fun _=>zV zbZ U) U ?_)))
   refine Tp (fun _=>vt (zz U U) (by simp;omega)) U ?_
   refine Tm U (Ts U U (fun wz hz=>zh zaG yH U U (zv.of_blk0 (hce hz).2.1)) U (Tg U U (fun _=>zd zar U) U (Ts U U (fun wz hz=>zg zc9 U ((hce hz).2.1.cell' (i:=3) U)) U (Tq U U U ?_))))
   refine Tg U U (fun _=>zi zbZ zeg U U _ U hlt) U ?_
   refine Ts U U (fun wz hz=>zg yU U (hce hz).2.2.1) U ?_
   refine Tv U U zis U U U (zdH _ _ _ _ _ s rows r _ (hce (zk.drew [] _)).1 (hce (zk.drew [] _)).2.2.2 hfr hgr) ?_
   rintro v23 w23⟨rfl,c23⟩
   refine⟨.inl ((zk.drew [] _).trans c23),?_⟩
   refine Tq U U U (Tg U U (fun _=>vt (ziy U U) hb) U (Tp (fun _=>zD U U) U (D6 1 2 4 5 6 26 U (ze U (zm (zp (za (Om U ?_))))))))
   refine Og (zG U U (by omega)) U ?_
   refine Oa U (N5 1 2 4 5 6 U (zl ?_))
   exact⟨rows.length-(j+1),by omega,j+1,rfl,by omega,rfl,by rw[htk,List.all_append,hok];simp[hb],(hcx.trans (zk.drew [] _)).trans c23⟩
  rcases Lg j rows.length with hlt|hge
  ·obtain⟨r,hx,htk⟩:=hjrow hlt
   have hb:blt (z9 s r) (z9 s row)=false:=by
    cases hbb:blt (z9 s r) (z9 s row) with
    |false=>rfl
    |true=>exact absurd ⟨r,hx,hbb⟩ hgo
   have hmem:=Mg hx
   have hfr:=h.ok.fit r hmem
   have hgr:=h.ok.rng r hmem
   obtain⟨bo,oo,cpo,vr,hve,hcell,hvr⟩:=(h.rws.chg0 hcw).at hx
   cases hve
   have hce:∀{wz:Wl},zk [] wx wz→za3 wz c k u (.slice (some ⟨bo,oo,none⟩) rows.length co) s rows∧zO wz b2 67 [c,k,u,.slice (some ⟨bo,oo,none⟩) rows.length co]∧wz.cell? ⟨bo,oo+j*1,none⟩=some vr∧ya wz vr r:=fun hc=>⟨h.chg0 (hcw.trans hc),k2x.chg0 hc,hc.cell hcell,(yl.chg0 hvr hc).arr⟩
   refine zH (fun wz=>zk [] wx wz) mix (by kernel_rfl) (zk.drew [] wx) ?_
   refine Tm U (Td zar U (Tr (fun wz hz=>zg zc9 U ((hce hz).2.1.cell' (i:=3) U)) U (Tp (fun _=>zV zbZ U) U ?_)))
   refine Tp (fun _=>vt (zz U U) (by simp;omega)) U ?_
   refine Tm U (Ts U U (fun wz hz=>zh zaG yH U U (zv.of_blk0 (hce hz).2.1)) U (Tg U U (fun _=>zd zar U) U (Ts U U (fun wz hz=>zg zc9 U ((hce hz).2.1.cell' (i:=3) U)) U (Tq U U U ?_))))
   refine Tg U U (fun _=>zi zbZ zeg U U _ U hlt) U ?_
   refine Ts U U (fun wz hz=>zg yU U (hce hz).2.2.1) U ?_
   refine Tv U U zis U U U (zdH _ _ _ _ _ s rows r _ (hce (zk.drew [] _)).1 (hce (zk.drew [] _)).2.2.2 hfr hgr) ?_
   rintro v23 w23⟨rfl,c23⟩
   refine⟨.inl ((zk.drew [] _).trans c23),?_⟩
   refine Tq U U U (Tg U U (fun _=>vf (ziy U U) hb) U (Tp (fun _=>zD U U) U (D6 1 2 4 5 6 26 U (zb U ?_))))
   refine zI ?_
   repeat first|refine te ?_|refine bo rfl ?_
   refine zq _ ?_
   have e:=znC (p:=fun r=>blt (z9 s r) (z9 s row)) hj hok (fun y hy=>by rw[hx]at hy;cases hy;exact hb)
   exact⟨j,_,_,U,hj,e.1,e.2,(hcx.trans (zk.drew [] _)).trans c23⟩
  refine zH (fun wz=>zk [] wx wz) mix (by kernel_rfl) (zk.drew [] wx) ?_
  refine Tm U (Td zar U (Tr (fun wz hz=>zg zc9 U ((k2x.chg0 hz).cell' (i:=3) U)) U (Tp (fun _=>zV zbZ U) U ?_)))
  refine Tp (fun _=>vf (zz U U) (by simp;omega)) U ?_
  refine Tm U ?_
  iterate 9 refine Tk U ?_
  refine Tp (fun _=>zE U U) U (D6 1 2 4 5 6 26 U (zb U ?_))
  refine zI ?_
  repeat first|refine te ?_|refine bo rfl ?_
  refine zq _ ?_
  have e:=znC (p:=fun r=>blt (z9 s r) (z9 s row)) hj hok (fun y hy=>by rw[List.getElem?_eq_none (by omega)]at hy;cases hy)
  exact⟨j,_,_,U,hj,e.1,e.2,hcx.trans (zk.drew [] _)⟩
 rintro F wx⟨j,f5,f26,rfl,hj,hT,hD,hcx⟩
 have k2x:=k2w.chg0 hcx
 have k4x:=k4.chg0 hcx
 have hcw:=hcw4.trans hcx
 have hs1:=c2.size
 have hs2:=c4.size
 have hs3:=hcx.size
 obtain⟨vs,hvs,hls⟩:=id h.rws
 have hvl:=hvs.len_xs
 rw[Nat.mul_one]at hvl
 have hrow:row.length≤1048576:=by have:=(zas hf).2.1;have:=(zZ (zas hf).1).1.2;omega
 have hd1:∀{wz:Wl},zk [] w wz→Rd wz 1 (cut po 0 j co 1) j (vs.take j):=fun hc=>by
  have:=Rd.cut (zB.chg0 hvs hc).toRd (l:=0) (h:=j) (m:=co) (by omega) (by omega) (Nat.le_refl _) hj
  simpa using this
 have hd2:∀{wz:Wl},zk [] w wz→Rd wz 1 (cut po j rows.length co 1) (rows.length-j) (vs.drop j):=fun hc=>by
  have:=Rd.cut (zB.chg0 hvs hc).toRd (l:=j) (h:=rows.length) (m:=co) hj (by omega) (Nat.le_refl _) (Nat.le_refl _)
  rw[Nat.mul_one,Nat.mul_one,Tl (by rw[List.length_drop];omega)]at this
  exact this
 refine Sr ?_
 refine Oq (zA zow U (vs:=[]) U (css:=[]) trivial U U (cs:=[]) U U ?_)
 intro b29 w29 e29 n29 c29 k29
 refine Od zar U (Ol zc9 U ((k2x.chg0 c29).cell' (i:=3) U) (Om U ?_))
 refine Og (zbq zbZ zeg U U _ U (by omega)) U ?_
 refine Oq (zcA zow zbZ U U (zB.of_blk (n:=0) k29 (by simp) (by simp[maxLen]) (by simp)) (hd1 (hcw.trans c29)) (by simp only[maxLen];omega) (by omega) U ?_)
 intro v34 w34 i34 c34 o34 z34
 refine Oa U (E5 1 2 4 6 7 U ?_)
 have hs4:=c29.size
 have f29:∀x∈zu (.slice (some ⟨b29,0,none⟩) 0 0),wx.heap.size≤x:=by intro x hx;simp[zu]at hx;omega
 have f34:=yt o34 f29 (by omega)
 have hc34:=c29.own c34 f29
 have k2y:=k2x.chg0 hc34
 have k4y:=k4x.chg0 hc34
 have hcy:=hcw.trans hc34
 have hs5:=hc34.size
 have hdr:w34.drew.heap.size=w34.heap.size:=rfl
 refine zf ?_
 refine zH (fun wz=>zk [] wx wz) mix (by kernel_rfl) (hc34.trans (zk.drew [] _)) ?_
 refine Tm U ?_
 refine zaR U (gn U) (zA zj2 U (vs:=[]) U (css:=[]) trivial U U (cs:=[]) U U ?_)
 intro b36 w36 e36 n36 c36 k36
 refine⟨.inl ((hc34.trans (zk.drew [] _)).trans c36),?_⟩
 refine Tm U ?_
 refine zaR U (gn U) (zcA zj2 yE U U (zB.of_blk (n:=0) k36 (by simp) (by simp[maxLen]) (by simp)) (zN.chg0 hl ((hcy.trans (zk.drew [] _)).trans c36)) (by simp only[maxLen];omega) (by omega) U ?_)
 intro v38 w38 i38 c38 o38 z38
 have G38:zk [] w34 w38:=((zk.drew [] _).trans c36).own c38 (by intro x hx;simp[zu]at hx;omega)
 have i38:zcc w38 v38 row:=by have:=i38;simp only[Nat.zero_add,List.nil_append]at this;exact this
 obtain⟨p38,q38,rfl,-⟩:=yl.val i38
 have z38:=G38.size
 refine⟨.inl (hc34.trans G38),?_⟩
 refine zaR U (gn U) (zA zow U (vs:=[_]) U (css:=[_]) ⟨U,Tt⟩ U U (cs:=[_]) U U ?_)
 intro b39 w39 e39 n39 c39 k39
 refine⟨.inl ((hc34.trans G38).trans c39),?_⟩
 refine zaR U (gn U) (yr zow zbZ U U (zB.chg0 i34 (G38.trans c39)) (zB.of_blk (n:=1) k39 U (by simp[maxLen]) (by intro y hy;simp at hy;subst hy;rfl)) (by simp only[maxLen];omega) (by omega) U ?_)
 intro v40 w40 i40 c40 o40 z40
 have H40:zk [] wx w40:=((hc34.trans G38).trans c39).own c40 f34
 have z39:=c39.size
 have z40:=c40.size
 have f40:=yt o40 f34 (by omega)
 refine⟨.inl H40,?_⟩
 refine Td zar U (Tr (fun wz hz=>zg zc9 U ((k2x.chg0 hz).cell' (i:=3) U)) U (Tm U ?_))
 refine Tp (fun _=>zbe zbZ zeg U U _ U (by omega)) U ?_
 refine zaR U (gn U) (zcA zow zbZ U U i40 (hd2 (hcw.trans H40)) (by simp only[maxLen];omega) (by omega) U ?_)
 intro v45 w45 i45 c45 o45 z45
 have H45:zk [] wx w45:=H40.own c45 f40
 have f45:=yt o45 f40 (by omega)
 obtain⟨p45,q45,rfl,-⟩:=id (zB.val i45)
 refine⟨.inl H45,?_⟩
 refine Td zar U ?_
 refine zaR U (gn U) (zt zCh U U U U (k2x.chg0 H45) (by simp) (by intro y hy;simp at hy;subst hy;rfl) ?_)
 intro wA nA cA kA
 refine⟨.inr (by kernel_rfl),?_⟩
 refine D2 2 4 U ?_
 have L39:yn w39 111 4 zX.cs (vs.take j++[.slice p38 row.length q38]++vs.drop j) (rows.take j++[row]++rows.drop j):=
  yn.append (yn.append ((hls.take j).chg0 (hcw.trans ((hc34.trans G38).trans c39))) ⟨yl.chg0 i38 c39,Tt⟩) ((hls.drop j).chg0 (hcw.trans ((hc34.trans G38).trans c39)))
 have L40:=L39.chg c40 (L39.apartSl (zB.chg0 i34 (G38.trans c39)) rfl)
 have L45:=L40.chg c45 (L40.apartSl i40 rfl)
 have hwr:zdr s rows row=rows.take j++[row]++rows.drop j:=by unfold zdr;rw[hT,hD];simp
 have hlen:(zdr s rows row).length=0+j+1+(rows.length-j):=by rw[zn6];omega
 have hR45:zam w45 (.slice p45 (0+j+1+(rows.length-j)) q45) (zdr s rows row):=⟨_,by rw[hlen];exact i45,by rw[hwr];simpa using L45⟩
 have kA:zO wA b2 67 [c,k,u,.slice p45 (0+j+1+(rows.length-j)) q45]:=kA
 have hRA:=hR45.chgB (k2x.chg0 H45) rfl rfl cA
 have k4A:=(k4x.chg0 H45).chg cA (by simp;omega)
 refine Sr (Og (zh zaG yH U U (zv.of_blk0 kA)) U ?_)
 refine Oq (zt yH U U U U k4A (by simp) (za3.one h.sch _ _ _) ?_)
 intro wB nB cB kB
 refine E1 4 U (zj ?_)
 refine zf0 U zaG yH U U (zv.of_blk0 kB) ?_
 have hcB:zk [] w wB:=((hcw.trans H45).own cA (by intro y hy;simp at hy;omega)).own cB (by intro y hy;simp at hy;omega)
 exact⟨_,U,⟨h.sch.chg0 hcB,hRA.chgB k4A U U cB,h.ok.ins hf hg hcl h400,h.nm⟩,hcB⟩
section
variable {P:Program} {fn:Func} {R:Va→Wl→Prop} {n:Nat} {F:Fr} {w:Wl}
theorem zct{t u ty k b off:Nat}{y:Va}{cs:LA}(hr:fn.results = #[.cell u ty,.tmp t])(hag:zag P ty=some true)(hk:zao P ty=some k)(hu:get F u=some (.pointer (some ⟨b,off,none⟩)))(hy:get F t=some y)(hl:cs.length=k)(hc:zv w b off cs)
 (h:R (.tuple #[.agg cs.toArray,y]) w) (hm:zaj F=[]:=by rfl):zgs P fn R n .ret F w:=by
 refine⟨.tuple #[.agg cs.toArray,y],fun a ha=>?_,hm,h⟩
 subst hl
 have h1:(loadCells ⟨b,off,none⟩ cs.length).run P w=.ok cs.toArray w:=run_loadCells_list w ⟨b,off,none⟩ cs (fun j v hv=>by rw[Addr.add_lit];exact hc j v hv)
 simp[results,hr,ha.get u _ hu,ha.get t _ hy,asAddr,loadVar,zaM hag,zY hk,h1]
theorem zpH{t u s ty k b off:Nat}{x y:Va}{cs:LA}(hr:fn.results = #[.cell u ty,.tmp t,.tmp s])(hag:zag P ty=some true)(hk:zao P ty=some k)(hu:get F u=some (.pointer (some ⟨b,off,none⟩)))(hx:get F t=some x)(hy:get F s=some y)(hl:cs.length=k)(hc:zv w b off cs)
 (h:R (.tuple #[.agg cs.toArray,x,y]) w) (hm:zaj F=[]:=by rfl):zgs P fn R n .ret F w:=by
 refine⟨.tuple #[.agg cs.toArray,x,y],fun a ha=>?_,hm,h⟩
 subst hl
 have h1:(loadCells ⟨b,off,none⟩ cs.length).run P w=.ok cs.toArray w:=run_loadCells_list w ⟨b,off,none⟩ cs (fun j v hv=>by rw[Addr.add_lit];exact hc j v hv)
 simp[results,hr,ha.get u _ hu,ha.get t _ hx,ha.get s _ hy,asAddr,loadVar,zaM hag,zY hk,h1]
end
theorem ztd(c k u o v:Va)(s:yK)(rows:LV)(row:List zX)(w:Wl)(h:za3 w c k u o s rows)(hl:ya w v row)(hg:∀x∈row,x.Rng) :
 zS TP 26 #[.agg #[c,k,u,o],v] w fun r w'=>∃o',r=.tuple #[.agg #[c,k,u,o'],Ii (zeJ s rows row)]∧za3 w' c k u o' s (insR s rows row)∧zk [] w w':=by
 obtain⟨po,co,rfl,hco⟩:=h.rws.val
 have hrl:=h.ok.le
 refine A2 Tryz.func26 U U ?_
 refine Sr ?_
 refine Ob U U ?_
 intro b2 w2 e2 n2 c2 k2
 refine Oq (zF zg2 U U ?_)
 intro b4 w4 e4 n4 c4 k4
 refine Oa U (E3 1 2 4 U ?_)
 have k2w:zO w4 b2 67 [c,k,u,.slice po rows.length co]:=k2.chg0 c4
 have hcw4:=c2.trans c4
 have hs2:=c2.size
 refine zf (Sr (Od zeF U ?_))
 refine Og (zh zaX zaS U U (zv.of_blk k2w 0 [c,k,u] ⟨[_],U⟩)) U ?_
 refine Om U ?_
 refine Oc zvi U U U (zqJ _ _ _ _ s row _ (h.sch.chg0 hcw4) (zN.chg0 hl hcw4) h.nm) ?_
 rintro v10 w10⟨rfl,c10⟩
 refine Oa U (E4 1 2 4 6 U ?_)
 have k2x:=k2w.chg0 c10
 have k4x:=k4.chg0 c10
 have hcx:=hcw4.trans c10
 refine zf ?_
 by_cases hf:zaf s row=0
 ·refine za (Om U ?_)
  refine Og (vf (zJ U U) (by simp[hf])) U ?_
  refine E5 1 2 4 6 12 U (zb U (zm (zf (Sr (Og (zh zaG yH U U (zv.of_blk0 k2x)) U (Om U ?_))))))
  refine Oc zAh U U U (zpz _ _ _ _ _ s rows row e0 _ (h.chg0 hcx) (zN.chg0 hl hcx) hf) ?_
  rintro v17 w17⟨rfl,c17⟩
  refine E4 1 2 4 17 U ?_
  have k2y:=k2x.chg0 c17
  have k4y:=k4x.chg0 c17
  have hcy:=hcx.trans c17
  cases ht:zcN s rows row e0 with
  |true=>
   refine ze U (Sr (Og (zh zaG yH U U (zv.of_blk0 k2y)) U ?_))
   refine Oq (zt yH U U U U k4y (by simp) (za3.one h.sch _ _ _) ?_)
   intro wB nB cB kB
   refine Oa U (E2 4 5 U (zj ?_))
   repeat first|refine tr ?_|refine br ?_
   refine zct U zaG yH U U U (zv.of_blk0 kB) ?_
   have hcB:zk [] w wB:=hcy.own cB (by intro y hy;simp at hy;omega)
   have e:zeJ s rows row=220:=by simp[zeJ,hf,ht]
   exact⟨.slice po rows.length co,by rw[e];rfl,by simp only[insR,e];exact h.chg0 hcB,hcB⟩
  |false=>
   refine zb U (zm (zf (zf ?_)))
   by_cases h4:400≤rows.length
   ·refine za (Od zar U (Ol zc9 U (k2y.cell' (i:=3) U) (On zbZ U ?_)))
    refine Og (vt (yc U U) (by simp;omega)) U ?_
    refine E4 1 2 4 22 U (ze U (Sr (Og (zh zaG yH U U (zv.of_blk0 k2y)) U ?_)))
    refine Oq (zt yH U U U U k4y (by simp) (za3.one h.sch _ _ _) ?_)
    intro wB nB cB kB
    refine Oa U (E2 4 5 U (zj ?_))
    repeat first|refine tr ?_|refine br ?_
    refine zct U zaG yH U U U (zv.of_blk0 kB) ?_
    have hcB:zk [] w wB:=hcy.own cB (by intro y hy;simp at hy;omega)
    have e:zeJ s rows row=3:=by simp[zeJ,hf,ht,h4]
    exact⟨.slice po rows.length co,by rw[e];rfl,by simp only[insR,e];exact h.chg0 hcB,hcB⟩
   refine za (Od zar U (Ol zc9 U (k2y.cell' (i:=3) U) (On zbZ U ?_)))
   refine Og (vf (yc U U) (by simp;omega)) U ?_
   refine E4 1 2 4 22 U (zb U (zm (zf ?_)))
   have hcl:∀r∈rows,zax s r row=false:=by
    rw[zhK h.ok]at ht
    intro r hr
    have:=List.any_eq_false.1 ht r hr
    simpa using this
   refine za (Og (zh zaG yH U U (zv.of_blk0 k2y)) U (Om U ?_))
   refine Oc zCs U U U (zsN _ _ _ _ _ s rows row _ (h.chg0 hcy) (zN.chg0 hl hcy) hf hg hcl (by omega)) ?_
   rintro v26 w26⟨o',rfl,h26,c26⟩
   obtain⟨p26,q26,rfl,-⟩:=h26.rws.val
   refine Oq (zt yH U U U U (k4y.chg0 c26) (by simp) (za3.one h26.sch _ _ _) ?_)
   intro wB nB cB kB
   refine Oa U (E2 4 5 U (zj ?_))
   refine zct U zaG yH U U U (zv.of_blk0 kB) ?_
   have hcB:zk [] w wB:=(hcy.trans c26).own cB (by intro y hy;simp at hy;omega)
   have e:zeJ s rows row=0:=by simp[zeJ,hf,ht,h4]
   refine⟨.slice p26 _ q26,by rw[e];rfl,?_,hcB⟩
   simp only[insR,e,if_true]
   exact⟨h.sch.chg0 hcB,h26.rws.chgB (k4y.chg0 c26) U U cB,h26.ok,h26.nm⟩
 refine za (Om U ?_)
 refine Og (vt (zJ U U) (by simp[hf])) U ?_
 refine E5 1 2 4 6 12 U (ze U (Sr (Og (zh zaG yH U U (zv.of_blk0 k2x)) U (Om U ?_))))
 refine Oq (zt yH U U U U k4x (by simp) (za3.one h.sch _ _ _) ?_)
 intro wB nB cB kB
 refine Oa U (E2 4 5 U (zj ?_))
 repeat first|refine tr ?_|refine br ?_
 refine zct U zaG yH U U U (zv.of_blk0 kB) ?_
 have hcB:zk [] w wB:=hcx.own cB (by intro y hy;simp at hy;omega)
 have e:zeJ s rows row=zaf s row:=by simp[zeJ,hf]
 exact⟨.slice po rows.length co,by rw[e];rfl,by simp only[insR,e,if_neg hf];exact h.chg0 hcB,hcB⟩
theorem zkn(c k u o v:Va)(s:yK)(rows:LV)(key:By)(row:List zX)(w:Wl)(h:za3 w c k u o s rows)(hl:ya w v row)(hg:∀x∈row,x.Rng) :
 zS TP 80 #[.agg #[c,k,u,o],.string key,v] w fun r w'=>∃o' x,r=.tuple #[.agg #[c,k,u,o'],x,Ii (zdn s rows key row)]∧ya w' x (zj5 s rows key row)∧za3 w' c k u o' s (updR s rows key row)∧zk [] w w':=by
 obtain⟨po,co,rfl,hco⟩:=h.rws.val
 obtain⟨pv,cv,rfl,hcv⟩:=zN.val hl
 have hrl:=h.ok.le
 refine A3 Tryz.func80 U U ?_
 refine Sr ?_
 refine Ob U U ?_
 intro b3 w3 e3 n3 c3 k3
 refine Oq (zF zg2 U U ?_)
 intro b6 w6 e6 n6 c6 k6
 refine Oa U (Oa U (E4 1 2 3 6 U ?_))
 have k3w:zO w6 b3 67 [c,k,u,.slice po rows.length co]:=k3.chg0 c6
 have hcw:=c3.trans c6
 have hs2:=c3.size
 refine zf (Sr (Od zeF U ?_))
 refine Og (zh zaX zaS U U (zv.of_blk k3w 0 [c,k,u] ⟨[_],U⟩)) U ?_
 refine Om U ?_
 refine Oc zvi U U U (zqJ _ _ _ _ s row _ (h.sch.chg0 hcw) (zN.chg0 hl hcw) h.nm) ?_
 rintro v14 w14⟨rfl,c14⟩
 refine Oa U (E5 1 2 3 6 9 U ?_)
 have k3x:=k3w.chg0 c14
 have k6x:=k6.chg0 c14
 have hcx:=hcw.trans c14
 refine zf ?_
 by_cases hf:zaf s row≠0
 ·refine za (Om U ?_)
  refine Og (vt (zJ U U) (by simp[hf])) U ?_
  refine E6 1 2 3 6 9 16 U (ze U (Sr (Og (zh zaG yH U U (zv.of_blk0 k3x)) U (Om U ?_))))
  refine Oq (zt yH U U U U k6x (by simp) (za3.one h.sch _ _ _) ?_)
  intro wB nB cB kB
  refine Oa U (Oa U (E3 6 7 8 U (zj ?_)))
  repeat first|refine tr ?_|refine br ?_
  refine zpH U zaG yH U U U U (zv.of_blk0 kB) ?_
  have hcB:zk [] w wB:=(hcx).own cB (by intro y hy;simp at hy;omega)
  have e:zdn s rows key row=zaf s row:=by simp[zdn,hf]
  have e0:¬ (zdn s rows key row=0):=by rw[e];exact hf
  exact⟨.slice po rows.length co,.slice none 0 0,by rw[e];rfl,by simp only[zj5,if_neg e0];exact zN.nil _ _ _ _,by simp only[updR,if_neg e0];exact h.chg0 hcB,hcB⟩
 have hf:zaf s row=0:=by omega
 refine za (Om U ?_)
 refine Og (vf (zJ U U) (by simp[hf])) U ?_
 refine E6 1 2 3 6 9 16 U (zb U (zm (Sr (Og (zh zaG yH U U (zv.of_blk0 k3x)) U (Om U ?_)))))
 refine Oc zxL U U U (zpG _ _ _ _ s rows key _ (h.chg0 hcx)) ?_
 rintro v21 w21⟨i,rfl,hi,c21⟩
 refine Oa U (E5 1 2 3 6 10 U ?_)
 have k3y:=k3x.chg0 c21
 have k6y:=k6x.chg0 c21
 have hcy:=hcx.trans c21
 refine zf (zf ?_)
 rcases hi with⟨rfl,hget⟩|⟨j,r,rfl,hx,hget⟩
 ·refine za (Om U ?_)
  refine Og (vt (zz U U) (by simp)) U ?_
  refine E6 1 2 3 6 10 23 U (ze U (Sr (Og (zh zaG yH U U (zv.of_blk0 k3y)) U ?_)))
  refine Oq (zt yH U U U U k6y (by simp) (za3.one h.sch _ _ _) ?_)
  intro wB nB cB kB
  refine Oa U (Oa U (E3 6 7 8 U (zj ?_)))
  repeat first|refine tr ?_|refine br ?_
  refine zpH U zaG yH U U U U (zv.of_blk0 kB) ?_
  have hcB:zk [] w wB:=(hcy).own cB (by intro y hy;simp at hy;omega)
  have e:zdn s rows key row=5:=by simp[zdn,hf,hget]
  have e0:¬ (zdn s rows key row=0):=by rw[e];decide
  exact⟨.slice po rows.length co,.slice none 0 0,by rw[e];rfl,by simp only[zj5,if_neg e0];exact zN.nil _ _ _ _,by simp only[updR,if_neg e0];exact h.chg0 hcB,hcB⟩
 refine za (Om U ?_)
 refine Og (vf (zz U U) (by simp)) U ?_
 refine E6 1 2 3 6 10 23 U (zb U (zm (zf (Sr (Og (zh zaG yH U U (zv.of_blk0 k3y)) U (Om U (Om U ?_)))))))
 refine Oc zAh U U U (zpz _ _ _ _ _ s rows row key _ (h.chg0 hcy) (zN.chg0 hl hcy) hf) ?_
 rintro v28 w28⟨rfl,c28⟩
 refine E6 1 2 3 6 10 28 U ?_
 have k3z:=k3y.chg0 c28
 have k6z:=k6y.chg0 c28
 have hcz:=hcy.trans c28
 cases ht:zcN s rows row key with
 |true=>
  refine ze U (Sr (Og (zh zaG yH U U (zv.of_blk0 k3z)) U ?_))
  refine Oq (zt yH U U U U k6z (by simp) (za3.one h.sch _ _ _) ?_)
  intro wB nB cB kB
  refine Oa U (Oa U (E3 6 7 8 U (zj ?_)))
  repeat first|refine tr ?_|refine br ?_
  refine zpH U zaG yH U U U U (zv.of_blk0 kB) ?_
  have hcB:zk [] w wB:=(hcz).own cB (by intro y hy;simp at hy;omega)
  have e:zdn s rows key row=220:=by simp[zdn,hf,hget,ht]
  have e0:¬ (zdn s rows key row=0):=by rw[e];decide
  exact⟨.slice po rows.length co,.slice none 0 0,by rw[e];rfl,by simp only[zj5,if_neg e0];exact zN.nil _ _ _ _,by simp only[updR,if_neg e0];exact h.chg0 hcB,hcB⟩
 |false=>
  refine zb U (zm (zf ?_))
  have hlt:j<rows.length:=(Gs hx).1
  obtain⟨bo,oo,cpo,vr,hve,hcell,hvr⟩:=h.rws.at hx
  cases hve
  have h36:b3∉[b6]:=by simp;omega
  have e:zdn s rows key row=0:=by simp[zdn,hf,hget,ht]
  obtain⟨-,-,hfree,h400⟩:=zpg h.ok e
  refine zH (fun wz=>zk [] w wz∧zk [b6] w28 wz) mix (by kernel_rfl) ⟨hcz.trans (zk.drew [] _),zk.drew _ _⟩ ?_
  refine Tr (fun wz hz=>zh zaG yH U U (zv.of_blk0 (k3z.chg hz.2 h36))) U (Tm U ?_)
  refine Tc zz1 U U U (zla _ _ _ _ s rows key _ (h.chg0 (hcz.trans (zk.drew [] _)))) ?_
  rintro v32 w32⟨o',rfl,h32,-,c32⟩
  have G32:zk [] w28 w32:=(zk.drew [] _).trans c32
  refine⟨.inl ⟨hcz.trans G32,G32.any⟩,?_⟩
  refine Tm U ?_
  refine Tc zCs U U U (zsN _ _ _ _ _ s (zby s rows key) row _ h32 (zN.chg0 hl (hcz.trans G32)) hf hg hfree h400) ?_
  rintro v34 w34⟨o2,rfl,h34,c34⟩
  obtain⟨p34,q34,rfl,-⟩:=h34.rws.val
  refine⟨.inl ⟨hcz.trans (G32.trans c34),(G32.trans c34).any⟩,?_⟩
  refine Td zar U (Tr (fun wz hz=>zg zc9 U ((k3z.chg hz.2 h36).cell' (i:=3) U)) U (Tm U ?_))
  refine Tp (fun _=>zi zbZ zeg U U _ U hlt) U ?_
  refine Tr (fun wz hz=>zg yU U (hz.1.cell hcell)) U ?_
  refine zaR U (gn U) (zt yH U U U U (k6z.chg0 (G32.trans c34)) (by simp) (za3.one h34.sch _ _ _) ?_)
  intro wB nB cB kB
  refine⟨.inl ⟨(hcz.trans (G32.trans c34)).own cB (by intro y hy;simp at hy;omega),((G32.trans c34).any (S:=[b6])).transS cB⟩,?_⟩
  refine Ta U (Ta U (D3 6 7 8 U (zj ?_)))
  refine zpH U zaG yH U U U U (zv.of_blk0 kB) ?_
  have hcB:zk [] w wB:=(hcz.trans (G32.trans c34)).own cB (by intro y hy;simp at hy;omega)
  have eR:updR s rows key row=zdr s (zby s rows key) row:=by simp only[updR,e,if_true]
  have eW:zj5 s rows key row=r:=by simp[zj5,e,hget]
  refine⟨.slice p34 (zdr s (zby s rows key) row).length q34,vr,by rw[e];rfl,by rw[eW];exact(yl.chg0 hvr hcB).arr,?_,hcB⟩
  rw[eR]
  exact⟨h.sch.chg0 hcB,h34.rws.chgB (k6z.chg0 (G32.trans c34)) U U cB,h34.ok,h34.nm⟩
def ziJ(s:yK)(rows:LV)(k:By):LV:=rows.filter fun r => !blt (z9 s r) k
theorem zyw{s:yK}{rows:LV}{l:List Ent}(h:l=rows.map fun r=>(z9 s r,zeG s r))(k:By):zbF l k=(ziJ s rows k).map fun r=>(z9 s r,zeG s r):=by
 subst h
 unfold zbF ziJ
 rw[List.filter_map]
 rfl
theorem zpM(s:yK)(rows:LV):ziJ s rows e0=rows:=List.filter_eq_self.2 fun x _=>by simp[zsp]
def Kc(w w':Wl):Prop:=∀(k:Nat) b e f,w.heap[k]?=some (Obj.cells b e f)→w'.heap[k]?=some (Obj.cells b e f)
theorem Low.kc{w w':Wl}(h:Low w w'):Kc w w':=fun k _ _ _ hk=>(h k (Ga hk).1).trans hk
theorem Low.own{w w' w'':Wl}{S:List Nat}(h:Low w w')(hs:w.heap.size≤w'.heap.size)(hc:zk S w' w'')(hS:∀b∈S,w.heap.size≤b):Low w w'':=fun b hb=>(hc.block b (by omega) (fun hm=>by have:=hS b hm;omega)).trans (h b hb)
theorem Low.refl(w:Wl):Low w w:=fun _ _=>rfl
section
variable {α:Type} {f:α→LA} {w w':Wl} {e k:Nat}
theorem zO.kc{b:Nat}{t:TypeId}{c:LA}(h:zO w b t c)(hk:Kc w w'):zO w' b t c:=hk b _ _ _ h
theorem zB.kc{v:Va}{n:Nat}{xs:LA}(h:zB w e k v n xs)(hk:Kc w w'):zB w' e k v n xs:=by
 rcases h with h|⟨b,off,cap,c,rfl,hs⟩
 ·exact .inl h
 exact .inr ⟨b,off,cap,c,U,⟨hs.blk.kc hk,hs.le,hs.max,hs.fit,hs.xs,hs.one⟩⟩
theorem Rd.kc{v:Va}{n:Nat}{xs:LA}(h:Rd w k v n xs)(hk:Kc w w'):Rd w' k v n xs:=
 h.keep fun b off u j _ _ hc=>by
  unfold World.cell? at hc ⊢
  cases ho:w.heap[b]? with
  |none=>simp[ho]at hc
  |some o=>
   cases o with
   |cells x y z=>
    rw[hk b x y z ho]
    rw[ho]at hc
    exact hc
   |_=>simp[ho]at hc
theorem yn.kc(hk:Kc w w'):∀{vs:LA} {ls:List (List α)},yn w e k f vs ls→yn w' e k f vs ls
 |[],[],_=>trivial
 |_::_,_::_,h=>⟨zB.kc h.1 hk,yn.kc hk h.2⟩
theorem zcM.kc(hk:Kc w w'):∀{vs:LA} {ls:List (List α)},zcM w e k f vs ls→zcM w' e k f vs ls
 |[],[],_=>trivial
 |_::_,_::_,h=>⟨Rd.kc h.1 hk,zcM.kc hk h.2⟩
theorem zbY.kc(hk:Kc w w'):∀{vs:LA} {ls:LE},zbY w vs ls→zbY w' vs ls
 |[],[],_=>trivial
 |_::_,_::_,h=>⟨zB.kc h.1 hk,zbY.kc hk h.2⟩
theorem Pg.kc{p:Nat}{ls:LE}(h:Pg w p ls)(hk:Kc w w'):Pg w' p ls:=
 let ⟨v,h1,us,h2,h3⟩:=h; ⟨v,h1.kc hk,us,zB.kc h2 hk,h3.kc hk⟩
theorem PgL.kc(hk:Kc w w'):∀{ps:List Nat} {ms:List (LE)},PgL w ps ms→PgL w' ps ms
 |[],[],_=>trivial
 |_::_,_::_,h=>⟨Pg.kc h.1 hk,PgL.kc hk h.2⟩
theorem zai.kc{c k u:Va}{s:yK}(h:zai w c k u s)(hk:Kc w w'):zai w' c k u s:=
 have hl:∀b,Lo w b→Lo w' b:=fun b hb=>by
  rcases hb with h|⟨c,e,fr,h3,h4⟩
  ·exact .inl h
  exact .inr ⟨c,e,fr,hk b _ _ _ h3,h4⟩
 ⟨Rd.kc h.cols hk,Rd.kc h.key hk,let ⟨vs,h1,h2,h3⟩:=h.us; ⟨vs,h1.kc hk,h2.kc hk,fun v hv b hb=>hl b (h3 v hv b hb)⟩,fun v hv b hb=>hl b (h.lo v hv b hb)⟩
theorem zab.kc{t:Nat}{own:List Nat}{s:yK}{rows:LV}(h:zab w t own s rows)(hk:Kc w w'):zab w' t own s rows:=by
 obtain⟨pm,c,k,u,sv,xs,main,subs,h1,h2,h3⟩:=h
 exact⟨pm,c,k,u,sv,xs,main,subs,h1,⟨h2.blk.kc hk,h2.sch.kc hk,h2.pg.kc hk,zB.kc h2.sl hk,yn.kc hk h2.ats,PgL.kc hk h2.pgs,h2.nd,h2.ge⟩,h3⟩
end
section
variable {w w':Wl} {t:Nat} {own:List Nat} {s s':yK} {rows rows':LV}
theorem zab.lt(h:zab w t own s rows):∀p∈own,p<w.heap.size:=fun p hp=>by
 obtain⟨_,_,_,hb⟩:=h.pages p hp
 exact hb.lt
end
theorem zpo(c k u o c' k' u' o':Va)(s s':yK)(rows rows':LV)(w:Wl)(h:za3 w c k u o s rows)(h':za3 w c' k' u' o' s' rows') :
 zS TP 55 #[.agg #[c,k,u,o],.agg #[c',k',u',o']] w fun r w'=>r=.bool (decide (s=s')&&decide (rows=rows'))∧zk [] w w':=by
 refine A2 Tryz.func55 U U ?_
 refine Sr ?_
 refine Ob U U ?_
 intro b2 w2 e2 n2 c2 k2
 refine Ob U U ?_
 intro b3 w3 e3 n3 c3 k3
 refine Oa U (E2 2 3 U ?_)
 have k2:=k2.chg0 c3
 have hc:=c2.trans c3
 refine zf ?_
 have hlen:∀r∈rows,r.length≤1048576:=fun r hr=>by
  have h1:=(zZ h.ok.right).1
  have h2:=(zas (h.ok.fit r hr)).2.1
  omega
 by_cases hs:s=s'
 ·subst hs
  refine za (Od zeF U ?_)
  refine Og (zh zaX zaS U U (zv.of_blk k2 0 [c,k,u] ⟨[_],U⟩)) U ?_
  refine Od zeF U ?_
  refine Og (zh zaX zaS U U (zv.of_blk k3 0 [c',k',u'] ⟨[_],U⟩)) U ?_
  refine Oc zyc U U U (zlL _ _ _ _ _ _ s s _ (h.sch.chg0 hc) (h'.sch.chg0 hc)) ?_
  rintro v9 w9⟨e9,c9⟩
  rw[dt rfl]at e9
  subst e9
  refine Om U (Oi U (zd zar U) (Oi U (zg zc9 U ((k2.chg0 c9).cell' (i:=3) U)) (Oi U (zd zar U) (Oi U (zg zc9 U ((k3.chg0 c9).cell' (i:=3) U)) ?_))))
  refine Ow U U zDO U U U (zoD _ _ rows rows' _ (h.rws.chg0 (hc.trans c9)).rows (h'.rws.chg0 (hc.trans c9)).rows hlen (by have:=h.ok.le;omega)) ?_
  rintro v15 w15⟨rfl,c15⟩
  refine Ot U (Oa U (E1 4 U (zj ?_)))
  refine zw U U ?_
  exact⟨by simp,(hc.trans c9).trans c15⟩
 refine za (Od zeF U ?_)
 refine Og (zh zaX zaS U U (zv.of_blk k2 0 [c,k,u] ⟨[_],U⟩)) U ?_
 refine Od zeF U ?_
 refine Og (zh zaX zaS U U (zv.of_blk k3 0 [c',k',u'] ⟨[_],U⟩)) U ?_
 refine Oc zyc U U U (zlL _ _ _ _ _ _ s s' _ (h.sch.chg0 hc) (h'.sch.chg0 hc)) ?_
 rintro v9 w9⟨e9,c9⟩
 rw[df hs]at e9
 subst e9
 refine Om U (Ok U (Ok U (Ok U (Ok U (Ok U (Of U (Oa U (E1 4 U (zj ?_)))))))))
 refine zw U U ?_
 exact⟨by simp[hs],hc.trans c9⟩
theorem zyg(t:Nat)(own:List Nat)(s:yK)(rows:LV)(key:By)(w:Wl)(h:zab w t own s rows) :
 zS TP 43 #[Pt t,.string key] w fun r w'=>∃q5 q3 t' own',r=.func (.func 81) #[] #[Pt q5,Pt q3]∧zO w' q5 52 [Pt t']∧zO w' q3 9 [.string key]∧zab w' t' own' s rows∧w.heap.size≤q5∧w.heap.size≤q3∧(∀p∈own',w.heap.size≤p)∧zk [] w w':=by
 refine A2 Tryz.func43 U U ?_
 refine Sr ?_
 refine Ob U U ?_
 intro b3 w3 e3 n3 c3 k3
 refine Oa U (E2 0 3 U (Sr (Om U ?_)))
 refine Oc zww U U U (zoy t own s rows _ (h.chg0 c3)) ?_
 rintro v7 w7⟨t7,own7,rfl,i7,f7,g7,c7⟩
 refine Oq (zF zjP U U ?_)
 intro b5 w5 e5 n5 c5 k5
 refine Oq (zt zv4 U U U U k5 (by simp) (by simp[Value.oneCell']) ?_)
 intro wA nA cA kA
 refine E2 3 5 U ?_
 have kA:zO wA b5 52 [Pt t7]:=kA
 have hs3:=c3.size
 have hs7:=c7.size
 have hlow:Low w7 wA:=((Low.refl w7).own (Nat.le_refl _) c5 (by simp)).own c5.size cA (by intro y hy;simp at hy;omega)
 refine Sr (Og (zau U U) U (Oa U (E1 4 U (zj ?_))))
 refine zw U U ?_
 exact⟨b5,b3,t7,own7,rfl,kA,((k3.chg0 c7).chg0 c5).chg cA (by have:=k3.lt;simp;omega),i7.kc hlow.kc,by omega,by omega,fun p hp=>by have:=g7 p hp;omega,((c3.trans c7).trans c5).own cA (by intro y hy;simp at hy;omega)⟩
section
variable {P:Program} {n:Nat} {fn:Func} {R:Va→Wl→Prop} {F:Fr} {w:Wl}
theorem zxP{D:Nat}(hr:fn.results = #[])(hm:zaj F=[mkD D])(hD:w.heap[D]?=some (.deferred (some [])))(h:∀w',zk [D] w w'→R (.tuple #[]) w'):zhJ P fn R n .normal F w:=
 ⟨_,_,by rw[hm];exact⟨D,rfl,hD,rfl⟩,fun _ _=>results_none hr _ _ _,h _ (zk.put w D (.deferred none))⟩
end
def unk(S0:List Nat)(keep:TypeId→Bool)(B:Nat)(w:Wl):List Nat:=(List.range w.heap.size).filter fun k=>(decide (k<B)&&S0.contains k)||(decide (B≤k) && !(match w.heap[k]? with|some (.cells _ e _)=>keep e|_=>false))
section
variable {S0:List Nat} {keep:TypeId→Bool} {B:Nat} {w X X':Wl} {k:Nat}
theorem zvx(h:k<w.heap.size)(hn:k∉unk S0 keep B w):(k<B∧k∉S0)∨(B≤k∧∃b e f,w.heap[k]?=some (.cells b e f)∧keep e=true):=by
 have h1:((decide (k<B)&&S0.contains k)||(decide (B≤k) && !(match w.heap[k]? with|some (.cells _ e _)=>keep e|_=>false)))=false:=by
  cases hb:((decide (k<B)&&S0.contains k)||(decide (B≤k) && !(match w.heap[k]? with|some (.cells _ e _)=>keep e|_=>false))) with
  |false=>rfl
  |true=>exact absurd (List.mem_filter.2 ⟨List.mem_range.2 h,hb⟩) hn
 rw[Bool.or_eq_false_iff]at h1
 rcases Lg k B with hk|hk
 ·have h2:=h1.1
  rw[dt hk,Bool.true_and]at h2
  exact .inl ⟨hk,fun hm=>by simp[hm]at h2⟩
 have h2:=h1.2
 rw[dt hk,Bool.true_and,Bool.not_eq_false']at h2
 split at h2
 ·rename_i b e f he
  exact .inr ⟨hk,b,e,f,he,h2⟩
 cases h2
theorem zl0(h:k∈unk S0 keep B w):(k<B∧k∈S0)∨(B≤k∧∀b e f,w.heap[k]?=some (.cells b e f)→keep e=false):=by
 have h1:=(List.mem_filter.1 h).2
 rw[Bool.or_eq_true]at h1
 rcases h1 with h1|h1
 ·rw[Bool.and_eq_true]at h1
  exact .inl ⟨of_decide_eq_true h1.1,by simpa using h1.2⟩
 rw[Bool.and_eq_true]at h1
 refine .inr ⟨of_decide_eq_true h1.1,fun b e f he=>?_⟩
 have h2:=h1.2
 rw[he]at h2
 simpa using h2
theorem Kr.inner(hk:Kr S0 keep B X X')(hB:B≤w.heap.size)(hp:Kp (unk S0 keep B w) w.heap.size w X):Kr (unk S0 keep B w) keep w.heap.size X X':=by
 refine⟨hk.size,fun k h1 h2=>?_,hk.cells,fun k o h1 h2 h3=>hk.iters k o (by omega) h2 h3⟩
 rcases zvx h1 h2 with⟨h3,h4⟩|⟨_,b,e,f,h4,h5⟩
 ·exact hk.low k h3 h4
 have h6:=hp.2 k h1 h2
 rw[h6,h4]
 exact hk.cells k b e f (h6.trans h4) h5
theorem Bk.at'(h:Bk B X X')(hk:k<B)(hl:k<X.heap.size):X'.heap[k]?=X.heap[k]?:=by
 obtain⟨T,hT,hc⟩:=h
 exact hc.block k hl fun hm=>by have:=(hT k hm).1;omega
theorem Bk.sz(h:Bk B X X'):X.heap.size≤X'.heap.size:=let ⟨_,_,hc⟩:=h;hc.size
theorem Bk.put{D:Nat}(hB:B≤D)(hc:zk [D] X X')(hD:X.heap[D]?=some (.deferred (some []))):Bk B X X':=⟨[D],fun b hb=>by simp at hb;subst hb;exact⟨hB,_,hD,rfl⟩,hc⟩
end
theorem yZ.kc{w w':Wl}{t pm:Nat}{c k u sv:Va}{xs:List (Va×Nat)}{s:yK}{main:LE}{subs:List (LE)}(h:yZ w t pm c k u sv xs s main subs)(hk:Kc w w'):yZ w' t pm c k u sv xs s main subs:=
 ⟨h.blk.kc hk,h.sch.kc hk,h.pg.kc hk,zB.kc h.sl hk,yn.kc hk h.ats,PgL.kc hk h.pgs,h.nd,h.ge⟩
set_option maxHeartbeats 1000000 in
theorem zou(w0 w:Wl)(h0w:zk [] w0 w)(t q5 q3:Nat)(own:List Nat)(s:yK)(rows:LV)(key:By)(S0:List Nat)(keep:TypeId→Bool)
 (h:zab w0 t own s rows) (h5:zO w0 q5 52 [Pt t]) (h3:zO w0 q3 9 [.string key]) (hS0:∀b∈S0,w0.heap.size≤b) (hSk:∀b∈S0,∀e c,zO w b e c→keep e=false)
 (kL:keep 176=true) (kE:keep 215=true) (kP:keep 173=true) (kS:keep 9=true) (kF:keep 156=true) :
 zuP TP 81 #[Pt q5,Pt q3] (fun x:List zX×Va => #[.string (z9 s x.1),x.2]) S0 keep
  (fun x W=>zcc W x.2 x.1∧∀b∈zu x.2,w.heap.size≤b) (fun xs _=>xs.map (·.1)=ziJ s rows key) (fun _ _=>True) (fun xs=>xs.map (·.1) <+: ziJ s rows key) w:=by
 intro l J Jx W hcw hJ hJx hY h0
 obtain⟨pm,c,k,u,sv,xs,main,subs,rfl,hm,ht⟩:=h
 have h0W:=h0w.trans hcw
 have hs0:=h0w.size
 have hsW:=hcw.size
 refine callsIn_wide.2 (Calls.mono (zS.of_WM (args:=[_,_,_]) (R:=fun _ W'=>(∃xs:List (List zX×Va),xs.map (·.1)=ziJ s rows key∧J xs W')∨∃pre,True∧Jx pre W') Tryz.func81 U U U U ?_) (fun e W' ⟨u,he,hh⟩=>⟨⟨u,he⟩,hh⟩))
 refine Sr ?_
 refine Ob U U ?_
 intro b3 w3 e3 n3 c3 k3
 refine E3 1 2 3 U ?_
 refine zht ?_
 refine zf (zf ?_)
 have hc3:=h0W.trans c3
 have hm3:=hm.chg0 hc3
 refine za (Ol zio U ((h5.chg0 hc3).cell' U) (Og (y8 zky U U) U (E4 1 2 3 8 U (zb U (zm (zf ?_))))))
 refine zjc ?_
 refine zf ?_
 have hd:zk [] w3 w3.drew:=zk.drew [] _
 refine zH (fun wz=>zk [] w3 wz) mix (by kernel_rfl) hd ?_
 refine Tr (fun wz hz=>zg zio U (((h5.chg0 hc3).chg0 hz).cell' U)) U ?_
 refine Tp (fun _=>zx U) U (Td zeQ U (Tr (fun wz hz=>zg zfV U ((hm3.chg0 hz).blk.cell' U)) U ?_))
 refine Tr (fun wz hz=>zg yI U (((h3.chg0 hc3).chg0 hz).cell' U)) U ?_
 refine Tc zAk U U U (f14 pm main key _ (hm3.chg0 hd).pg (by have:=ht.le;omega)) ?_
 rintro v14 w14⟨p5,p3,vv,rfl,kp5,ip,kp3,hp3,hp5,c14⟩
 refine⟨.inl (hd.trans c14),?_⟩
 refine D3 1 3 14 U ?_
 have k3:=(k3.chg0 hd).chg0 c14
 have hcR:=((hc3.trans hd).trans c14)
 have hcWR:zk [] W w14:=(c3.trans hd).trans c14
 have hsR:=hcWR.size
 have hsd:=hd.size
 have hs3:=c3.size
 refine zp ?_
 refine zhj (α:=List zX) (gf:=119) (lb:=[Pt p5,Pt p3]) (encs:=fun r:List zX => #[.string (z9 s r),.string (zeG s r)])
  (fun pre X=>(∃outs:List (List zX×Va),outs.map (·.1)=pre∧J outs X)∧Low w0 X∧Kp (unk S0 keep w.heap.size w14) w14.heap.size w14 X)
  (fun c _ X=>c=.exit 0∧∃outs,Jx outs X)
  (fun r=>[(16,.string (zeG s r)),(15,.string (z9 s r)),(1,Pt q5),(3,Pt b3),(14,.func (.func 119) #[] #[Pt p5,Pt p3])])
  (fun r=>[(1,Pt q5),(3,Pt b3),(4,.string (z9 s r)),(15,.string (z9 s r))])
  rfl zwD
  ((zmq (fun r:List zX=>(z9 s r,zeG s r)) (ziJ s rows key) w14 w14 (zk.refl _ _) p5 p3 vv main key (unk S0 keep w.heap.size w14) kp5 ip kp3 (by have:=ht.le;omega) ht.wf.le ?_ ?_ (zyw ht.flat key)).toN keep)
  (fun _=>rfl) (fun _ _ _ _ _=>trivial) (fun _ _ _ _ hh=>hh) (fun _ _ _ _ hh=>hh) ?_ ?_ ?_ (fun pre X hI=>hI.2.2.1) ?_ ?_ ?_ ?_ ?_
 ·intro hmem
  rcases zl0 hmem with⟨g1,g2⟩|⟨g1,g2⟩
  ·omega
  rw[g2 _ _ _ kp3]at kS
  cases kS
 ·intro b hb e cs hblk
  have hke:keep e=false:=by
   rcases zl0 hb with⟨g1,g2⟩|⟨g1,g2⟩
   ·refine hSk b g2 e cs ?_
    have:=(hcw.trans hcWR).block b g1 (by simp)
    exact this.symm.trans hblk
   exact g2 _ _ _ hblk
  constructor
  ·cases hq:Nat.beq 176 e with
   |false=>rfl
   |true=>
    obtain rfl:=Nat.eq_of_beq_eq_true hq
    rw[kL]at hke
    cases hke
  cases hq:Nat.beq 215 e with
  |false=>rfl
  |true=>
   obtain rfl:=Nat.eq_of_beq_eq_true hq
   rw[kE]at hke
   cases hke
 ·rintro pre X X' hb ⟨⟨outs,ho,hj⟩,hlo,hkp⟩
  have hXs:=hkp.1
  refine⟨⟨outs,ho,hJ _ _ _ (hb.low hsR) hj⟩,fun b hlt=>(hb.at' (by omega) (by omega)).trans (hlo b hlt),Nat.le_trans hkp.1 hb.sz,fun q hq hn=>(hb.at' hq (by omega)).trans (hkp.2 q hq hn)⟩
 ·rintro cc pre X X' hb ⟨rfl,outs,hj⟩
  exact⟨U,outs,hJx _ _ _ (hb.low hsR) hj⟩
 ·exact⟨⟨[],rfl,hJ _ _ _ (Bk.of_chg hcWR) h0⟩,fun b hlt=>hcR.block b hlt (by simp),Nat.le_refl _,fun _ _ _=>rfl⟩
 ·intro x a ha
  exact ha.vars2 U U U
 ·intro l' x X
  refine yx ?_
  refine yh (gn U) U (St.vl (yg U) U U ?_)
  refine zfA [1,3,4,15] (F':=[(1,_),(3,_),(4,_),(15,_)]) U ?_
  exact⟨U,U,U⟩
 ·rintro l' pre x X ⟨⟨outs,ho,hj⟩,hlo,hkp⟩-hgo
  have hxm:x∈rows:=(List.mem_filter.1 (hgo.subset (by simp:x∈pre++[x]))).1
  have hg:zc7 s rows (z9 s x)=some x:=ht.ok.get hxm
  have hmX:yZ X t pm c k u sv xs s main subs:=hm.kc hlo.kc
  have h5X:zO X q5 52 [Pt t]:=h5.kc hlo.kc
  have h3X:zO X b3 156 [.func (.yield l) #[] #[]]:=by
   have h3lt:=k3.lt
   refine(hkp.2 b3 h3lt fun hmem=>?_).trans k3
   rcases zl0 hmem with⟨g1,g2⟩|⟨g1,g2⟩
   ·omega
   rw[g2 _ _ _ k3]at kF
   cases kF
  have hXs:=hkp.1
  refine zfO ?_
  refine zcW ?_
  refine yx ?_
  refine yh (gn U) U (St.vl (zg zio U (h5X.cell' U)) U U ?_)
  refine Xm U ?_
  refine yh (gn U) U (yX zuB U U U U (zmo (z9 s x) _ hmX ht) ?_)
  rintro v20 w20⟨o20,rfl,i20,f20,c20⟩
  rw[hg]at i20
  replace i20:zcc w20 o20 x:=i20
  refine Xm U ?_
  refine yh (gn U) U (St.vl (zM U U) U U ?_)
  refine yh (gn U) U (St.vl (zM U U) U U ?_)
  refine yh (gn U) U (St.vl (yg U) U U ?_)
  refine yh (gn U) U (St.vl (yg U) U U ?_)
  refine zcf [1,3,4,5,15] (F':=[(1,_),(3,_),(4,_),(5,_),(15,_)]) U ?_
  refine zcW ?_
  refine yx ?_
  have hys:=hY outs (x,o20) w20 (hJ _ _ _ (Bk.of_chg c20) hj) ⟨i20,fun b hb=>by have:=f20 b hb;omega⟩ (by show List.map (·.1) (outs++[(x,o20)]) <+: ziJ s rows key;rw[List.map_append,ho];exact hgo)
  refine yh (gn U) U (St.vl (zg zAG U ((h3X.chg0 c20).cell' U)) U U ?_)
  refine Xm U (Xm U ?_)
  refine zgA (gn U) U U U hys ?_
  rintro v26 w26 hR26
  obtain⟨b26,rfl,hb26⟩:=yb hR26
  refine⟨_,U,?_⟩
  refine yh (gn U) U (St.vl (zC U) U U ?_)
  refine zcf [1,3,15,27] (F':=[(1,_),(3,_),(15,_),(27,_)]) U ?_
  rcases hb26 with⟨rfl,hJ26,hk26,hf26⟩|⟨rfl,hJ26,hf26⟩
  ·refine zcG U ?_
   refine zhU ?_
   refine zl ?_
   have hkr:Kr S0 keep w.heap.size X w26:=(Kr.chg0 c20 (by omega)).trans hk26
   have hkf:KeepsFrom w14.heap.size X w26:=(KeepsFrom.chg c20 (by simp)).trans (KeepsFrom.up hf26 hsR)
   refine⟨hkf,hkr.inner (by omega) hkp,⟨outs++[(x,o20)],by rw[List.map_append,ho];rfl,hJ26⟩,fun b hlt=>?_,?_⟩
   ·exact(hkr.low b (by omega) (fun hmem=>by have:=hS0 b hmem;omega)).trans (hlo b hlt)
   exact hkp.trans (hkr.inner (by omega) hkp).kp
  refine zdT U ?_
  refine zsu ?_
  repeat first|refine te ?_|refine bo rfl ?_
  exact⟨(KeepsFrom.chg c20 (by simp)).trans (KeepsFrom.up hf26 hsR),rfl,_,hJ26⟩
 ·rintro D xs' X hD rfl ⟨⟨outs,ho,hj⟩,_,_⟩ hdf
  refine zl ?_
  refine zf1 ?_
  refine zxP (D:=D) U U hdf fun w' hc'=>?_
  exact .inl ⟨outs,ho,hJ _ _ _ (Bk.put (by omega) hc' hdf) hj⟩
 rintro D cc pre X hD-⟨rfl,outs,hj⟩ hdf
 refine zI ?_
 repeat first|refine te ?_|refine bo rfl ?_
 refine zq _ ?_
 refine zf1 ?_
 refine zxP (D:=D) U U hdf fun w' hc'=>?_
 exact .inr ⟨outs,Tt,hJx _ _ _ (Bk.put (by omega) hc' hdf) hj⟩
def fnV(f:Nat)(cap:LA):Va:=.func (.func f) #[] cap.toArray
def zfu:LA:=[fnV 153 [],fnV 155 [],fnV 156 []]
def zmv:LA:=[fnV 157 [],fnV 159 [],fnV 161 []]
def zmO:LA:=[fnV 163 [],fnV 165 [],fnV 167 []]
def zea(b:Nat):LA:=[fnV 141 [Pt b],fnV 145 [Pt b],fnV 148 [Pt b]]
theorem zjG(w:Wl):zS TP 97 #[] w fun r w'=>r=.agg zfu.toArray∧zk [] w w':=by
 refine zS.of_W (args:=[]) Tryz.func97 U U U U ?_
 refine Sr ?_
 refine Oq (zF zgj U U ?_)
 intro b0 w0 e0 n0 c0 k0
 refine E1 0 U (Sr ?_)
 refine Og (zL zp3 zgj U (vs:=[_,_,_]) U (css:=[_,_,_]) ⟨U,U,U,Tt⟩ U U (cs:=[_,_,_]) U) U ?_
 refine Oq (zt zdW U U U U k0 (by simp) (by simp[Value.oneCell']) ?_)
 intro wA nA cA kA
 refine E1 0 U (zj ?_)
 refine zf0 U zhc zdW U U (zv.of_blk0 kA) ?_
 exact⟨rfl,c0.own cA (by intro y hy;simp at hy;omega)⟩
theorem zzv(w:Wl):zS TP 98 #[] w fun r w'=>r=.agg zmv.toArray∧zk [] w w':=by
 refine zS.of_W (args:=[]) Tryz.func98 U U U U ?_
 refine Sr ?_
 refine Oq (zF zgj U U ?_)
 intro b0 w0 e0 n0 c0 k0
 refine E1 0 U (Sr ?_)
 refine Og (zL zp3 zgj U (vs:=[_,_,_]) U (css:=[_,_,_]) ⟨U,U,U,Tt⟩ U U (cs:=[_,_,_]) U) U ?_
 refine Oq (zt zdW U U U U k0 (by simp) (by simp[Value.oneCell']) ?_)
 intro wA nA cA kA
 refine E1 0 U (zj ?_)
 refine zf0 U zhc zdW U U (zv.of_blk0 kA) ?_
 exact⟨rfl,c0.own cA (by intro y hy;simp at hy;omega)⟩
theorem zzs(w:Wl):zS TP 99 #[] w fun r w'=>r=.agg zmO.toArray∧zk [] w w':=by
 refine zS.of_W (args:=[]) Tryz.func99 U U U U ?_
 refine Sr ?_
 refine Oq (zF zgj U U ?_)
 intro b0 w0 e0 n0 c0 k0
 refine E1 0 U (Sr ?_)
 refine Og (zL zp3 zgj U (vs:=[_,_,_]) U (css:=[_,_,_]) ⟨U,U,U,Tt⟩ U U (cs:=[_,_,_]) U) U ?_
 refine Oq (zt zdW U U U U k0 (by simp) (by simp[Value.oneCell']) ?_)
 intro wA nA cA kA
 refine E1 0 U (zj ?_)
 refine zf0 U zhc zdW U U (zv.of_blk0 kA) ?_
 exact⟨rfl,c0.own cA (by intro y hy;simp at hy;omega)⟩
theorem zrR(f:Nat)(w:Wl):zS TP 94 #[fnV f []] w fun r w'=>∃b,r=.agg (zea b).toArray∧zO w' b 182 [fnV f []]∧w.heap.size≤b∧zk [] w w':=by
 refine A1 Tryz.func94 U U ?_
 refine Sr ?_
 refine Ob U U ?_
 intro b1 w1 e1 n1 c1 k1
 refine Oq (zF zgj U U ?_)
 intro b2 w2 e2 n2 c2 k2
 refine E2 1 2 U (Sr (Og (zau U U) U (Og (zau U U) U (Og (zau U U) U ?_))))
 refine Og (zL zp3 zgj U (vs:=[_,_,_]) U (css:=[_,_,_]) ⟨U,U,U,Tt⟩ U U (cs:=[_,_,_]) U) U ?_
 refine Oq (zt zdW U U U U k2 (by simp) (by simp[Value.oneCell']) ?_)
 intro wA nA cA kA
 refine E1 2 U (zj ?_)
 refine zf0 U zhc zdW U U (zv.of_blk0 kA) ?_
 have h1:=k1.lt
 exact⟨b1,rfl,(k1.chg0 c2).chg cA (by simp;omega),by omega,(c1.trans c2).own cA (by intro y hy;simp at hy;omega)⟩
theorem ziz{K:Type}[DecidableEq K](k k':K)(v:Va):∀es:List (K×Va),zbb (zcU es k v) k'=if k=k' then some v else zbb es k'
 |[]=>by
  by_cases h:k=k'<;>simp[zcU,zbb,h]
 |p::r=>by
  unfold zcU
  by_cases hp:p.1=k
  ·rw[if_pos hp]
   by_cases h:k=k'
   ·simp[zbb,h]
   have:p.1≠k':=fun e=>h (hp.symm.trans e)
   simp[zbb,h,this]
  rw[if_neg hp]
  by_cases h:p.1=k'
  ·have:k≠k':=fun e=>hp (h.trans e.symm)
   simp[zbb,h,this]
  simp[zbb,h,ziz k k' v r]
theorem zmG{K:Type}[DecidableEq K]{k:K}{v:Va}:∀{es:List (K×Va)} {p:K×Va},p∈zcU es k v→p=(k,v)∨p∈es
 |[],p,h=>by simpa[zcU] using h
 |q::r,p,h=>by
  unfold zcU at h
  split at h
  ·rcases Mc h with h|h
   ·exact .inl h
   exact .inr (List.mem_cons_of_mem _ h)
  rcases Mc h with h|h
  ·exact .inr (by rw[h];exact List.mem_cons_self ..)
  rcases zmG h with h|h
  ·exact .inl h
  exact .inr (List.mem_cons_of_mem _ h)
def SL(w:Wl)(v:Va)(parts:List (LA)):Prop:=∃b,v=.slice (some ⟨b,0,none⟩) parts.length parts.length∧zO w b 137 parts.flatten
theorem SL.chg{S:List Nat}{w w':Wl}{v:Va}{ps:List (LA)}(h:SL w v ps)(hc:zk S w w')(hS:∀b e c,zO w b e c→b∉S):SL w' v ps:=let ⟨b,h1,h2⟩:=h; ⟨b,h1,h2.chg hc (hS _ _ _ h2)⟩
def Ph(bo bn m:Nat)(k:Nat)(w:Wl)(v:Va):Prop:=match k with
 |0=>v=.map (some m)
 |1=>v=.agg zfu.toArray
 |2=>v=.agg (zea bn).toArray
 |3=>SL w v [zfu,(zea bn)]
 |5=>v=.agg zfu.toArray
 |6=>v=.agg (zea bo).toArray
 |7=>v=.agg (zea bn).toArray
 |8=>SL w v [zfu,(zea bo),(zea bn)]
 |10=>v=.agg zfu.toArray
 |11=>v=.agg (zea bo).toArray
 |12=>SL w v [zfu,(zea bo)]
 |14=>v=.agg zfu.toArray
 |15=>v=.agg zmv.toArray
 |16=>SL w v [zfu,zmv]
 |18=>v=.agg zfu.toArray
 |19=>SL w v [zfu]
 |21=>v=.agg zmO.toArray
 |22=>SL w v [zmO]
 |24=>v=.map (some m)
 |25=>v=.map (some m)
 |_=>True
def zjo:List (Nat×Nat):=[(0,5),(1,6),(2,7),(3,8),(5,9),(6,10),(7,11),(8,12),(10,13),(11,14),(12,15),(14,16),(15,17),(16,18),(18,19),(19,20),(21,21),(22,22),(24,23),(25,0)]
def zoF:List (Nat×Int×Nat):=[(4,1,3),(9,2,8),(13,3,12),(17,4,16),(20,5,19),(23,6,22)]
theorem Ph.chg{bo bn m k:Nat}{S:List Nat}{w w':Wl}{v:Va}(h:Ph bo bn m k w v)(hc:zk S w w')(hS:∀b e c,zO w b e c→b∉S):Ph bo bn m k w' v:=by
 unfold Ph at *
 split at h<;>first|exact h|exact SL.chg h hc hS
theorem Ph.indep{bo bn m b k:Nat}{w:Wl}{v:Va}(h0:k≠0)(h4:k≠24)(h5:k≠25)(h:Ph bo bn m k w v):Ph bo bn b k w v:=by
 unfold Ph at *
 split at h<;>first|exact h|exact absurd rfl h0|exact absurd rfl h4|exact absurd rfl h5
theorem zuq{F:Fr}{d:Nat}{v:Va}(hd:d<1000000):get ((d,v)::F) d=some v:=zch F d v (by
 cases hb:Nat.ble 1000000 d with
 |false=>rfl
 |true=>have:=Nat.le_of_ble_eq_true hb;omega)
theorem zij{F:Fr}{d i:Nat}{v:Va}(h:d≠i):get ((d,v)::F) i=get F i:=zcu F d i v (fun e=>h e.symm)
theorem zlo{F:Fr}{d:Nat}{v:Va}(hd:d<1000000):zck ((d,v)::F)=zck F:=by
 have:Nat.ble 1000000 d=false:=by
  cases hb:Nat.ble 1000000 d with
  |false=>rfl
  |true=>have:=Nat.le_of_ble_eq_true hb;omega
 simp[zck,this]
theorem gD{listed:Array Bool}{i:Nat}(h:listed.getD i true=false):listed.getD i false≠true:=by
 rcases Lg i listed.size with h1|h1
 ·simp[h1]at h ⊢
  exact h
 simp[Array.getElem?_eq_none h1]at h
theorem zvS{listed:Array Bool}{i:Nat}(h:i<listed.size):(listed.setIfInBounds i true).getD i false=true:=by simp[h]
theorem zts{F:Fr}{a:Nat}{u:Va}(h1:get F a=some u):zgY F [(0,.tmp a)]=some (zbL 0 [u]):=by simp[zgY,ev,h1,zbL]
theorem zo5{F:Fr}{a b:Nat}{u v:Va}(h1:get F a=some u)(h2:get F b=some v):zgY F [(0,.tmp a),(1,.tmp b)]=some (zbL 0 [u,v]):=by simp[zgY,ev,h1,h2,zbL]
theorem zyM{F:Fr}{a b c:Nat}{u v x:Va}(h1:get F a=some u)(h2:get F b=some v)(h3:get F c=some x):zgY F [(0,.tmp a),(1,.tmp b),(2,.tmp c)]=some (zbL 0 [u,v,x]):=by simp[zgY,ev,h1,h2,h3,zbL]
theorem zgI(n i:Nat):¬ (Array.replicate n false).getD i false=true:=by
 rcases Lg i n with h|h
 ·simp[h]
 simp[Nat.not_lt.2 h]
def zvw:List Nat:=[4,9,13,17,20,23,24,25]
theorem zmw:∀x∈zjo,∀y∈zjo,x.1=y.1→x=y:=by decide
theorem zvI:∀x∈zoF,x.1∈zvw∧x.1≠0:=by decide
theorem znp:∀x∈zjo,∀y∈zjo,x.2=y.2→x=y:=by decide
theorem zqb:∀x∈zoF,∀y∈zoF,x.1=y.1∨x.2.1=y.2.1→x=y:=by decide
theorem zmi:∀x∈zoF,∀y∈zjo,x.1≠y.1:=by decide
structure KJ(w0:Wl)(b1 b2 bo bn m:Nat)(es:List (Int×Va))(listed:Array Bool)(F:Fr)(w:Wl):Prop where
 chg:zk [] w0 w
 mf:zck F=[]
 f1:get F 1=some (Pt b1)
 f2:get F 2=some (Pt b2)
 val:∀x∈zjo,listed.getD x.1 false=true→∃v,get F x.2=some v∧Ph bo bn m x.1 w v
 mp:listed.getD 0 false=true→yf (zaP .i64) w m es∧w0.heap.size≤m
 ent:∀x∈zoF,listed.getD x.1 false=true→∃v,zbb es x.2.1=some v∧Ph bo bn m x.2.2 w v
 keys:∀p∈es,1≤p.1∧p.1≤6
 cl:∀k∈zvw,listed.getD k false=true→listed.getD 0 false=true
section
variable {w0 w w':Wl} {b1 b2 bo bn m:Nat} {es:List (Int×Va)} {listed:Array Bool} {F:Fr}
theorem KJ.put(h:KJ w0 b1 b2 bo bn m es listed F w){i d:Nat}{v:Va}(hi:(i,d)∈zjo)(hv:Ph bo bn m i w' v)(hc:zk [] w w')(h0:i≠0)(hdep:i∈zvw→listed.getD 0 false=true)(hd:d≠1∧d≠2∧d<1000000):KJ w0 b1 b2 bo bn m es (listed.setIfInBounds i true) ((d,v)::F) w':=by
 refine⟨h.chg.trans hc,?_,?_,?_,?_,?_,?_,h.keys,?_⟩
 ·rw[←h.mf]
  exact zlo hd.2.2
 ·rw[zij hd.1]
  exact h.f1
 ·rw[zij hd.2.1]
  exact h.f2
 ·intro x hx hl
  by_cases hxi:x.1=i
  ·have:x=(i,d):=by
    by_cases hd2:x.2=d
    ·exact Prod.ext hxi hd2
    exact absurd (zmw x hx (i,d) hi hxi) (fun e=>hd2 (by rw[e]))
   subst this
   exact⟨v,zuq hd.2.2,hv⟩
  rw[getD_set_ne false (fun e=>hxi e.symm)]at hl
  obtain⟨u,h1,h2⟩:=h.val x hx hl
  have hne:d≠x.2:=fun e=>hxi (congrArg Prod.fst (znp x hx (i,d) hi e.symm))
  exact⟨u,by rw[zij hne];exact h1,h2.chg hc (by simp)⟩
 ·intro hl
  rw[getD_set_ne false h0]at hl
  exact⟨(h.mp hl).1.chg0 hc,(h.mp hl).2⟩
 ·intro x hx hl
  rw[getD_set_ne false (fun e=>zmi x hx (i,d) hi e.symm)]at hl
  obtain⟨u,h1,h2⟩:=h.ent x hx hl
  exact⟨u,h1,h2.chg hc (by simp)⟩
 intro k hk hl
 rw[getD_set_ne false h0]
 by_cases hki:k=i
 ·exact hdep (hki▸hk)
 rw[getD_set_ne false (fun e=>hki e.symm)]at hl
 exact h.cl k hk hl
theorem KJ.ins(h:KJ w0 b1 b2 bo bn m es listed F w){i so:Nat}{k:Int}{v:Va}(hi:(i,k,so)∈zoF)(hl0:listed.getD 0 false=true)(hv:Ph bo bn m so w v)(hc:zk [m] w w')(hm:yf (zaP .i64) w' m (zcU es k v))(hk:1≤k∧k≤6):KJ w0 b1 b2 bo bn m (zcU es k v) (listed.setIfInBounds i true) F w':=by
 obtain⟨hm0,hmf⟩:=h.mp hl0
 have hS:∀b e c,zO w b e c→b∉[m]:=fun b e c hb hmem=>by
  simp at hmem
  exact hm0.ne hb hmem.symm
 refine⟨h.chg.own hc (by intro y hy;simp at hy;omega),h.mf,h.f1,h.f2,?_,fun _=>⟨hm,hmf⟩,?_,?_,fun _ _ _=>getD_set_true hl0⟩
 ·intro x hx hl
  rw[getD_set_ne false (fun e=>zmi (i,k,so) hi x hx e)]at hl
  obtain⟨u,h1,h2⟩:=h.val x hx hl
  exact⟨u,h1,h2.chg hc hS⟩
 ·intro x hx hl
  by_cases hxi:x.1=i
  ·have:=zqb x hx (i,k,so) hi (.inl hxi)
   subst this
   exact⟨v,by rw[ziz,if_pos rfl],hv.chg hc hS⟩
  rw[getD_set_ne false (fun e=>hxi e.symm)]at hl
  obtain⟨u,h1,h2⟩:=h.ent x hx hl
  have hne:k≠x.2.1:=fun e=>hxi (congrArg Prod.fst (zqb x hx (i,k,so) hi (.inr e.symm)))
  exact⟨u,by rw[ziz,if_neg hne];exact h1,h2.chg hc hS⟩
 intro p hp
 rcases zmG hp with rfl|hp
 ·exact hk
 exact h.keys p hp
end
theorem aft{listed:Array Bool}{o:Oper}(h:∀e∈o.after,Region.binds .any e=true→listed.getD e.on false=true)(j:Nat)(hj:(o.after.toList.any fun e=>Region.binds .any e&&Nat.beq e.on j)=true):listed.getD j false=true:=by
 obtain⟨e,he,hb⟩:=List.any_eq_true.1 hj
 simp only[Bool.and_eq_true]at hb
 have:=Nat.eq_of_beq_eq_true hb.2
 subst this
 exact h e (Array.mem_toList_iff.1 he) hb.1
def ztO(w:Wl)(m:Nat)(es:List (Int×Va))(bo bn:Nat):Prop:=yf (zaP .i64) w m es∧(∀x∈zoF,∃v,zbb es x.2.1=some v∧Ph bo bn m x.2.2 w v)∧(∀p∈es,1≤p.1∧p.1≤6) ∧
 zO w bo 182 [fnV 95 []]∧zO w bn 182 [fnV 96 []]
set_option maxHeartbeats 1000000 in
theorem ztf(w:Wl):zS TP 57 #[] w fun r w'=>∃m es bo bn,r=.map (some m)∧ztO w' m es bo bn∧zk [] w w':=by
 refine zS.of_W (args:=[]) Tryz.func57 U U U U ?_
 refine Sr (Oa U (yO [] (F':=[]) U (Sr ?_)))
 refine Oc zCz U U U (zrR 95 _) ?_
 rintro v3 w3⟨bo,rfl,ko,ho,c3⟩
 refine Oq (zF zgj U U ?_)
 intro b1 w1 e1 n1 c1 k1
 refine Oq (zt zdW U U U U k1 (by simp[zea]) (by simp[zea,fnV,Value.oneCell']) ?_)
 intro wA nA cA kA
 refine E1 1 U ?_
 have kA:zO wA b1 137 (zea bo):=kA
 have hcA:zk [] w wA:=(c3.trans c1).own cA (by intro y hy;have:=c3.size;simp at hy;omega)
 have h1:=k1.lt
 have ho1:=ko.lt
 have ko:=(ko.chg0 c1).chg cA (by simp;omega)
 refine Sr ?_
 refine Oc zCz U U U (zrR 96 _) ?_
 rintro v4 w4⟨bn,rfl,kn,hn,c4⟩
 refine Oq (zF zgj U U ?_)
 intro b2 w2 e2 n2 c2 k2
 refine Oq (zt zdW U U U U k2 (by simp[zea]) (by simp[zea,fnV,Value.oneCell']) ?_)
 intro wB nB cB kB
 refine E2 1 2 U ?_
 have kB:zO wB b2 137 (zea bn):=kB
 have hcB:zk [] wA wB:=(c4.trans c2).own cB (by intro y hy;have:=c4.size;simp at hy;omega)
 have kA:=kA.chg0 hcB
 have ko:=ko.chg0 hcB
 have hn1:=kn.lt
 have kn:=(kn.chg0 c2).chg cB (by simp;omega)
 have hcAB:=hcA.trans hcB
 refine zf ?_
 refine zu6 (fun listed F w'=>∃m es,KJ wB b1 b2 bo bn m es listed F w') mix (by kernel_rfl) ⟨0,[],⟨zk.drew [] _,rfl,rfl,rfl,?_,?_,?_,by simp,?_⟩⟩ ?_ ?_
 ·intro x hx hl
  exact absurd hl (zgI _ _)
 ·intro hl
  exact absurd hl (zgI _ _)
 ·intro x hx hl
  exact absurd hl (zgI _ _)
 ·intro k hk hl
  exact absurd hl (zgI _ _)
 ·rintro listed F w' i o hs hoo hl haft ⟨m,es,h⟩
  have hi:i<26:=(Gs hoo).1
  have hs26:listed.size=26:=hs
  have hcs:i∈List.range 26:=List.mem_range.2 hi
  simp only[show List.range 26=[0,1,2,3,4,5,6,7,8,9,10,11,12,13,14,15,16,17,18,19,20,21,22,23,24,25] from rfl,List.mem_cons,List.not_mem_nil,or_false]at hcs
  rcases hcs with rfl|rfl|rfl|rfl|rfl|rfl|rfl|rfl|rfl|rfl|rfl|rfl|rfl|rfl|rfl|rfl|rfl|rfl|rfl|rfl|rfl|rfl|rfl|rfl|rfl|rfl
  ·obtain rfl:=Option.some.inj hoo
   refine⟨gn U,zb5 (zaP .i64) U ?_⟩
   intro b w2 e n c k
   have hno:∀k∈zvw,listed.getD k false=true→False:=fun k hk hk2=>gD hl (h.cl k hk hk2)
   refine⟨b,[],⟨h.chg.trans c,?_,?_,?_,?_,fun _=>⟨k,by have:=h.chg.size;omega⟩,?_,by simp,fun _ _ _=>zvS (by omega)⟩⟩
   ·rw[←h.mf];exact zlo (by decide)
   ·rw[zij (by decide)];exact h.f1
   ·rw[zij (by decide)];exact h.f2
   ·intro x hx hl2
    by_cases hx0:x.1=0
    ·have:x=(0,5):=zmw x hx (0,5) (by decide) hx0
     subst this
     exact⟨_,zuq (by decide),rfl⟩
    rw[getD_set_ne false (fun e=>hx0 e.symm)]at hl2
    have hne:5≠x.2:=fun e=>hx0 (congrArg Prod.fst (znp x hx (0,5) (by decide) e.symm))
    obtain⟨u,h1,h2⟩:=h.val x hx hl2
    exact⟨u,by rw[zij hne];exact h1,(Ph.indep (b:=b) hx0 (fun e=>hno 24 (by decide) (e▸hl2)) (fun e=>hno 25 (by decide) (e▸hl2)) h2).chg c (by simp)⟩
   intro x hx hl2
   obtain⟨d1,d2⟩:=zvI x hx
   rw[getD_set_ne false (fun e=>d2 e.symm)]at hl2
   exact(hno x.1 d1 hl2).elim
  ·obtain rfl:=Option.some.inj hoo
   refine⟨gn U,yX zth U U U U (zjG _) ?_⟩
   rintro v w2⟨rfl,c⟩
   exact⟨m,es,h.put (by decide) U c (by decide) (fun hh=>absurd hh (by decide)) (by decide)⟩
  ·obtain rfl:=Option.some.inj hoo
   refine⟨gn U,St.vl (zh zhc zdW h.f2 U (zv.of_blk0 (kB.chg0 h.chg))) U U ?_⟩
   exact⟨m,es,h.put (by decide) U (zk.refl _ _) (by decide) (fun hh=>absurd hh (by decide)) (by decide)⟩
  ·obtain rfl:=Option.some.inj hoo
   obtain⟨u6,g6,p6⟩:=h.val (1,6) (by decide) (aft haft 1 rfl)
   obtain rfl:u6=_:=p6
   obtain⟨u7,g7,p7⟩:=h.val (2,7) (by decide) (aft haft 2 rfl)
   obtain rfl:u7=_:=p7
   refine⟨gn U,zA zkR U (vs:=[_,_]) (zo5 g6 g7) (css:=[zfu,(zea bn)]) ⟨U,U,Tt⟩ U U U U ?_⟩
   intro b w2 e n c k
   exact⟨m,es,h.put (by decide) ⟨b,rfl,k⟩ c (by decide) (fun hh=>absurd hh (by decide)) (by decide)⟩
  ·obtain rfl:=Option.some.inj hoo
   obtain⟨u5,g5,p5⟩:=h.val (0,5) (by decide) (aft haft 0 rfl)
   obtain rfl:u5=_:=p5
   obtain⟨u,g,p⟩:=h.val (3,8) (by decide) (aft haft 3 rfl)
   refine⟨gn U,yQ (κ:=zaP .i64) zjL (z0 zbE) g5 U g (h.mp (aft haft 0 U)).1 ?_⟩
   intro w2 n c k
   exact⟨m,_,h.ins (by decide) (aft haft 0 U) p c k (by decide)⟩
  ·obtain rfl:=Option.some.inj hoo
   refine⟨gn U,yX zth U U U U (zjG _) ?_⟩
   rintro v w2⟨rfl,c⟩
   exact⟨m,es,h.put (by decide) U c (by decide) (fun hh=>absurd hh (by decide)) (by decide)⟩
  ·obtain rfl:=Option.some.inj hoo
   refine⟨gn U,St.vl (zh zhc zdW h.f1 U (zv.of_blk0 (kA.chg0 h.chg))) U U ?_⟩
   exact⟨m,es,h.put (by decide) U (zk.refl _ _) (by decide) (fun hh=>absurd hh (by decide)) (by decide)⟩
  ·obtain rfl:=Option.some.inj hoo
   refine⟨gn U,St.vl (zh zhc zdW h.f2 U (zv.of_blk0 (kB.chg0 h.chg))) U U ?_⟩
   exact⟨m,es,h.put (by decide) U (zk.refl _ _) (by decide) (fun hh=>absurd hh (by decide)) (by decide)⟩
  ·obtain rfl:=Option.some.inj hoo
   obtain⟨u9,g9,p9⟩:=h.val (5,9) (by decide) (aft haft 5 rfl)
   obtain rfl:u9=_:=p9
   obtain⟨u10,g10,p10⟩:=h.val (6,10) (by decide) (aft haft 6 rfl)
   obtain rfl:u10=_:=p10
   obtain⟨u11,g11,p11⟩:=h.val (7,11) (by decide) (aft haft 7 rfl)
   obtain rfl:u11=_:=p11
   refine⟨gn U,zA zkR U (vs:=[_,_,_]) (zyM g9 g10 g11) (css:=[zfu,(zea bo),(zea bn)]) ⟨U,U,U,Tt⟩ U U U U ?_⟩
   intro b w2 e n c k
   exact⟨m,es,h.put (by decide) ⟨b,rfl,k⟩ c (by decide) (fun hh=>absurd hh (by decide)) (by decide)⟩
  ·obtain rfl:=Option.some.inj hoo
   obtain⟨u5,g5,p5⟩:=h.val (0,5) (by decide) (aft haft 0 rfl)
   obtain rfl:u5=_:=p5
   obtain⟨u,g,p⟩:=h.val (8,12) (by decide) (aft haft 8 rfl)
   refine⟨gn U,yQ (κ:=zaP .i64) zjL (z0 zbE) g5 U g (h.mp (aft haft 0 U)).1 ?_⟩
   intro w2 n c k
   exact⟨m,_,h.ins (by decide) (aft haft 0 U) p c k (by decide)⟩
  ·obtain rfl:=Option.some.inj hoo
   refine⟨gn U,yX zth U U U U (zjG _) ?_⟩
   rintro v w2⟨rfl,c⟩
   exact⟨m,es,h.put (by decide) U c (by decide) (fun hh=>absurd hh (by decide)) (by decide)⟩
  ·obtain rfl:=Option.some.inj hoo
   refine⟨gn U,St.vl (zh zhc zdW h.f1 U (zv.of_blk0 (kA.chg0 h.chg))) U U ?_⟩
   exact⟨m,es,h.put (by decide) U (zk.refl _ _) (by decide) (fun hh=>absurd hh (by decide)) (by decide)⟩
  ·obtain rfl:=Option.some.inj hoo
   obtain⟨u13,g13,p13⟩:=h.val (10,13) (by decide) (aft haft 10 rfl)
   obtain rfl:u13=_:=p13
   obtain⟨u14,g14,p14⟩:=h.val (11,14) (by decide) (aft haft 11 rfl)
   obtain rfl:u14=_:=p14
   refine⟨gn U,zA zkR U (vs:=[_,_]) (zo5 g13 g14) (css:=[zfu,(zea bo)]) ⟨U,U,Tt⟩ U U U U ?_⟩
   intro b w2 e n c k
   exact⟨m,es,h.put (by decide) ⟨b,rfl,k⟩ c (by decide) (fun hh=>absurd hh (by decide)) (by decide)⟩
  ·obtain rfl:=Option.some.inj hoo
   obtain⟨u5,g5,p5⟩:=h.val (0,5) (by decide) (aft haft 0 rfl)
   obtain rfl:u5=_:=p5
   obtain⟨u,g,p⟩:=h.val (12,15) (by decide) (aft haft 12 rfl)
   refine⟨gn U,yQ (κ:=zaP .i64) zjL (z0 zbE) g5 U g (h.mp (aft haft 0 U)).1 ?_⟩
   intro w2 n c k
   exact⟨m,_,h.ins (by decide) (aft haft 0 U) p c k (by decide)⟩
  ·obtain rfl:=Option.some.inj hoo
   refine⟨gn U,yX zth U U U U (zjG _) ?_⟩
   rintro v w2⟨rfl,c⟩
   exact⟨m,es,h.put (by decide) U c (by decide) (fun hh=>absurd hh (by decide)) (by decide)⟩
  ·obtain rfl:=Option.some.inj hoo
   refine⟨gn U,yX zDx U U U U (zzv _) ?_⟩
   rintro v w2⟨rfl,c⟩
   exact⟨m,es,h.put (by decide) U c (by decide) (fun hh=>absurd hh (by decide)) (by decide)⟩
  ·obtain rfl:=Option.some.inj hoo
   obtain⟨u16,g16,p16⟩:=h.val (14,16) (by decide) (aft haft 14 rfl)
   obtain rfl:u16=_:=p16
   obtain⟨u17,g17,p17⟩:=h.val (15,17) (by decide) (aft haft 15 rfl)
   obtain rfl:u17=_:=p17
   refine⟨gn U,zA zkR U (vs:=[_,_]) (zo5 g16 g17) (css:=[zfu,zmv]) ⟨U,U,Tt⟩ U U U U ?_⟩
   intro b w2 e n c k
   exact⟨m,es,h.put (by decide) ⟨b,rfl,k⟩ c (by decide) (fun hh=>absurd hh (by decide)) (by decide)⟩
  ·obtain rfl:=Option.some.inj hoo
   obtain⟨u5,g5,p5⟩:=h.val (0,5) (by decide) (aft haft 0 rfl)
   obtain rfl:u5=_:=p5
   obtain⟨u,g,p⟩:=h.val (16,18) (by decide) (aft haft 16 rfl)
   refine⟨gn U,yQ (κ:=zaP .i64) zjL (z0 zbE) g5 U g (h.mp (aft haft 0 U)).1 ?_⟩
   intro w2 n c k
   exact⟨m,_,h.ins (by decide) (aft haft 0 U) p c k (by decide)⟩
  ·obtain rfl:=Option.some.inj hoo
   refine⟨gn U,yX zth U U U U (zjG _) ?_⟩
   rintro v w2⟨rfl,c⟩
   exact⟨m,es,h.put (by decide) U c (by decide) (fun hh=>absurd hh (by decide)) (by decide)⟩
  ·obtain rfl:=Option.some.inj hoo
   obtain⟨u19,g19,p19⟩:=h.val (18,19) (by decide) (aft haft 18 rfl)
   obtain rfl:u19=_:=p19
   refine⟨gn U,zA zkR U (vs:=[_]) (zts g19) (css:=[zfu]) ⟨U,Tt⟩ U U U U ?_⟩
   intro b w2 e n c k
   exact⟨m,es,h.put (by decide) ⟨b,rfl,k⟩ c (by decide) (fun hh=>absurd hh (by decide)) (by decide)⟩
  ·obtain rfl:=Option.some.inj hoo
   obtain⟨u5,g5,p5⟩:=h.val (0,5) (by decide) (aft haft 0 rfl)
   obtain rfl:u5=_:=p5
   obtain⟨u,g,p⟩:=h.val (19,20) (by decide) (aft haft 19 rfl)
   refine⟨gn U,yQ (κ:=zaP .i64) zjL (z0 zbE) g5 U g (h.mp (aft haft 0 U)).1 ?_⟩
   intro w2 n c k
   exact⟨m,_,h.ins (by decide) (aft haft 0 U) p c k (by decide)⟩
  ·obtain rfl:=Option.some.inj hoo
   refine⟨gn U,yX zDj U U U U (zzs _) ?_⟩
   rintro v w2⟨rfl,c⟩
   exact⟨m,es,h.put (by decide) U c (by decide) (fun hh=>absurd hh (by decide)) (by decide)⟩
  ·obtain rfl:=Option.some.inj hoo
   obtain⟨u21,g21,p21⟩:=h.val (21,21) (by decide) (aft haft 21 rfl)
   obtain rfl:u21=_:=p21
   refine⟨gn U,zA zkR U (vs:=[_]) (zts g21) (css:=[zmO]) ⟨U,Tt⟩ U U U U ?_⟩
   intro b w2 e n c k
   exact⟨m,es,h.put (by decide) ⟨b,rfl,k⟩ c (by decide) (fun hh=>absurd hh (by decide)) (by decide)⟩
  ·obtain rfl:=Option.some.inj hoo
   obtain⟨u5,g5,p5⟩:=h.val (0,5) (by decide) (aft haft 0 rfl)
   obtain rfl:u5=_:=p5
   obtain⟨u,g,p⟩:=h.val (22,22) (by decide) (aft haft 22 rfl)
   refine⟨gn U,yQ (κ:=zaP .i64) zjL (z0 zbE) g5 U g (h.mp (aft haft 0 U)).1 ?_⟩
   intro w2 n c k
   exact⟨m,_,h.ins (by decide) (aft haft 0 U) p c k (by decide)⟩
  ·obtain rfl:=Option.some.inj hoo
   obtain⟨u,g,p⟩:=h.val (0,5) (by decide) (aft haft 0 rfl)
   obtain rfl:u=_:=p
   refine⟨gn U,St.vl (zav g) U U ?_⟩
   exact⟨m,es,h.put (by decide) U (zk.refl _ _) (by decide) (fun _=>aft haft 0 U) (by decide)⟩
  obtain rfl:=Option.some.inj hoo
  obtain⟨u,g,p⟩:=h.val (24,23) (by decide) (aft haft 24 rfl)
  obtain rfl:u=_:=p
  refine⟨gn U,St.vl (yg g) U U ?_⟩
  exact⟨m,es,h.put (by decide) U (zk.refl _ _) (by decide) (fun _=>h.cl 24 (by decide) (aft haft 24 U)) (by decide)⟩
 rintro listed F w' hall⟨m,es,h⟩
 obtain⟨v,g,p⟩:=h.val (25,0) (by decide) (hall 25 (by decide))
 obtain rfl:v=_:=p
 have hF:prune [0] F=[(0,.map (some m))]:=by
  show (match get F 0 with|some v=>(0,v)::prune [] F|none=>prune [] F)=_
  rw[g]
  show (0,Value.map (some m))::zck F=_
  rw[h.mf]
 refine zae [0] hF ?_
 refine zj ?_
 refine zw U U ?_
 exact⟨m,es,bo,bn,rfl,⟨(h.mp (hall 0 (by decide))).1,fun x hx=>h.ent x hx (hall x.1 (by revert x;decide)),h.keys,ko.chg0 h.chg,kn.chg0 h.chg⟩,hcAB.trans h.chg⟩
end Go.Wk
