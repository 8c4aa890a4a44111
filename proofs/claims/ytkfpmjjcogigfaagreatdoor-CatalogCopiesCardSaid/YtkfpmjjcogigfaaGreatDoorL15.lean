/- joined texts -/
import Derived.Test.YtkfpmjjcogigfaaGreatDoorL14
set_option linter.all false
namespace Go.Wk
open Go.Proofs
set_option linter.unusedSectionVars false
variable [Lw]
set_option maxRecDepth 10000
section
theorem zsT{l:List zX}{j:Nat}{x:zX}(hx:l[j]?=some x)(h:za2 x≠0):zex l=false:=by
 have:(l.all fun x=>decide (za2 x=0))=false:=by
  rw[List.all_eq_false]
  exact⟨x,Mg hx,by simp[h]⟩
 simp[zex,this]
theorem zvz{l:List zX}(h:∀(i:Nat) x,l[i]?=some x→za2 x=0):zex l=decide (1≤l.length∧l.length≤8):=by
 have:(l.all fun x=>decide (za2 x=0))=true:=by
  rw[List.all_eq_true]
  intro x hx
  obtain⟨i,hi⟩:=List.getElem?_of_mem hx
  simp[h i x hi]
 simp[zex,this]
theorem zj9{m:List (By×By)}{j:Nat}{p:By×By}(hx:m[j]?=some p)(h:(yT p.1&&yT p.2)=false):zdk m=false:=by
 have:(m.all fun p=>yT p.1&&yT p.2)=false:=by
  rw[List.all_eq_false]
  exact⟨p,Mg hx,by simp[h]⟩
 simp[zdk,this]
theorem zrk{m:List (By×By)}(h:∀(i:Nat) p,m[i]?=some p→(yT p.1&&yT p.2)=true):zdk m=decide (1≤m.length∧m.length≤4):=by
 have:(m.all fun p=>yT p.1&&yT p.2)=true:=by
  rw[List.all_eq_true]
  intro x hx
  obtain⟨i,hi⟩:=List.getElem?_of_mem hx
  exact h i x hi
 simp[zdk,this]
theorem zwt:yT e0=false:=by decide +kernel
structure zyC(x:EvT):Prop where
 k:1≤x.k∧x.k≤6
 t:x.k=6↔x.t=e0
 n:x.k≠6→yT x.t=true∧x.m=[]
 s:x.k≠4→x.s=zfW
 o:x.k=2∨x.k=3→zex x.o=true
 no:¬(x.k=2∨x.k=3)→x.o=[]
 w:x.k=1∨x.k=2→zex x.w=true
 nw:¬(x.k=1∨x.k=2)→x.w=[]
 e:x.k=2→x.o.length=x.w.length
 r:x.k=4→yJ x.s=true
 m:x.k=6→zdk x.m=true
theorem za6{x:EvT}:z6 x=true↔zyC x:=by
 constructor
 ·intro h
  obtain⟨h1,h2,h3,h4⟩:=zfE h
  obtain⟨k,t,s,o,w,m⟩:=x
  simp only[zaI,EvT.mk.injEq]at h2
  obtain⟨-,e1,e2,e3,e4,e5⟩:=h2
  simp only[zgZ]at h3
  simp only at h1 h4
  have hk:k=1∨k=2∨k=3∨k=4∨k=5∨k=6:=by omega
  rcases hk with rfl|rfl|rfl|rfl|rfl|rfl<;>simp at h3 e1 e2 e3 e4 e5 h4<;>constructor<;>simp_all<;>intro h<;>rw[h,zwt]at h3<;>simp at h3
 intro h
 obtain⟨h1,h2,h3,h4,h5,h6,h7,h8,h9,h10,h11⟩:=h
 obtain⟨k,t,s,o,w,m⟩:=x
 simp only at *
 have hk:k=1∨k=2∨k=3∨k=4∨k=5∨k=6:=by omega
 rcases hk with rfl|rfl|rfl|rfl|rfl|rfl<;>simp at h2 h3 h4 h5 h6 h7 h8 h9 h10 h11<;>refine zjS (by simp) ?_ ?_ ?_<;>simp_all[zaI,zgZ]
theorem zeX(v:Va)(l:List zX)(w:Wl)(hl:ya w v l):zS TP 75 #[v] w fun r w'=>r=.bool (zex l)∧zk [] w w':=by
 obtain⟨pv,cv,rfl,hcv⟩:=zN.val hl
 have hml:=zN.max hl
 simp only[maxLen]at hml
 refine A1 Tryz.func75 U U ?_
 refine Sr (Oa U (E1 0 U ?_))
 refine zR (fun F wx=>prune [0] F=[(0,.slice pv l.length cv)]∧zk [] w wx∧∀(i:Nat) x,l[i]?=some x→za2 x=0) ?_ ?_
 ·refine Sr (Oa U (E2 0 3 U (zp ?_)))
  refine zQ [0,3] (fun m F wx=>∃j:Nat,m=l.length-j∧j≤l.length∧F=[(0,.slice pv l.length cv),(3,Ii j)]∧zk [] w wx∧(∀(i:Nat) x,i<j→l[i]?=some x→za2 x=0)) (m:=l.length-0) ⟨0,rfl,Zl _,rfl,zk.refl _ _,by omega⟩ ?_
  rintro m F wx⟨j,rfl,hj,rfl,hcx,hall⟩
  refine zf (zf ?_)
  by_cases hlt:j<l.length
  ·refine za (Om U (Om U (On yE U ?_)))
   refine Og (vt (zz U U) (by simp;omega)) U ?_
   refine E3 0 3 7 U (ze U (zm ?_))
   have hx:l[j]?=some l[j]:=by simp[hlt]
   generalize l[j]=x at hx
   obtain⟨b,off,cap,hve,hcell⟩:=zN.at zbr (zN.chg0 hl hcx) hx
   cases hve
   refine zf (zp (zf ?_))
   by_cases hf:za2 x≠0
   ·refine za (Om U (Om U ?_))
    refine Og (zi yE ym U U _ U hlt) U ?_
    refine Og (zh zaJ ym U U hcell) U ?_
    refine Oc zsr U U U (zlN x _) ?_
    rintro v14 w14⟨rfl,c14⟩
    refine Og (vt (zJ U U) (by simp[hf])) U ?_
    refine E3 0 3 15 U (ze U (Sr (Oa U (E1 2 U (zj ?_)))))
    repeat first|refine tr ?_|refine br ?_
    refine zw U U ?_
    exact⟨by rw[zsT hx hf],hcx.trans c14⟩
   have hf:za2 x=0:=by omega
   refine za (Om U (Om U ?_))
   refine Og (zi yE ym U U _ U hlt) U ?_
   refine Og (zh zaJ ym U U hcell) U ?_
   refine Oc zsr U U U (zlN x _) ?_
   rintro v14 w14⟨rfl,c14⟩
   refine Og (vf (zJ U U) (by simp[hf])) U ?_
   refine E3 0 3 15 U (zb U (zT (zl (za (Om U ?_)))))
   refine Og (zG U U (by omega)) U ?_
   refine Oa U ?_
   refine zcJ [0,3] (F':=[(0,_),(3,_)]) U ?_
   refine⟨l.length-(j+1),by omega,j+1,rfl,by omega,rfl,hcx.trans c14,fun i x' hi h1=>?_⟩
   rcases Lg i j with h|h
   ·exact hall i x' h h1
   have:i=j:=by omega
   subst this
   rw[hx]at h1
   cases h1;exact hf
  refine za (Om U (Om U (On yE U ?_)))
  refine Og (vf (zz U U) (by simp;omega)) U ?_
  refine E3 0 3 7 U (zb U ?_)
  refine zI ?_
  repeat first|refine te ?_|refine bo rfl ?_
  refine zq _ ?_
  exact⟨rfl,hcx,fun i x h=>hall i x (by have:=(Gs h).1;omega) h⟩
 rintro F wx⟨hF,hcx,hall⟩
 refine zae [0] hF ?_
 refine Sr (Om U (On yE U (Og (yc U U) U (Om U ?_))))
 apply zc0 (t:=23)
 case h0=>
  intro H
  refine Ok U (Ok U (Ok U (Of U ?_)))
  exact yL [20,21,22] U H
 case h1=>
  intro hc H
  refine Ov U (Oi U (zV yE U) (Oi U (za7 U U) (Ot U ?_)))
  exact yL [20,21,22] U H
 refine Oa U (E1 2 U (zj ?_))
 refine zw U U ?_
 refine⟨?_,hcx⟩
 rw[zvz hall]
 congr 1
 rw[Bool.decide_and]
 congr 1<;>rw[decide_eq_decide]<;>omega
theorem zho(c k u:Va)(s:yK)(w:Wl)(hs:zai w c k u s)(hm:s.Sm):zS TP 74 #[.agg #[c,k,u]] w fun r w'=>r=.bool (decide (s=zfW))∧zk [] w w':=by
 obtain⟨pc,dc,rfl,hdc⟩:=zN.val hs.cols
 obtain⟨pk,dk,rfl,hdk⟩:=zN.val hs.key
 obtain⟨pu,du,rfl,hdu⟩:=zbT.val hs.uq
 have hmc:=hm.cols
 have hmk:=hm.key
 have hmu:=hm.uq
 refine A1 Tryz.func74 U U ?_
 refine Sr ?_
 refine Ob U U ?_
 intro b1 w1 e1 n1 c1 k1
 refine Oa U (E1 1 U (Sr (Od yp U (Ol za9 U (k1.cell' (i:=0) U) (On zaO U (Od zbp U (Ol zci U (k1.cell' (i:=1) U) (On zaH U ?_))))))))
 refine Og (yv (v':=Ii ((s.cols.length+s.key.length:Nat):Int)) (zG U U (by omega)) (by congr 1)) U ?_
 refine Od zay U (Ol zcL U (k1.cell' (i:=2) U) (On zbd U ?_))
 refine Og (yv (v':=Ii ((s.cols.length+s.key.length+s.uq.length:Nat):Int)) (zG U U (by omega)) (by congr 1)) U ?_
 refine Og (zy U U) U (Oa U (E1 2 U (zj ?_)))
 refine zw U U ?_
 refine⟨?_,c1⟩
 congr 1
 rw[decide_eq_decide]
 constructor
 ·intro h
  have h1:s.cols=[]:=List.eq_nil_of_length_eq_zero (by omega)
  have h2:s.key=[]:=List.eq_nil_of_length_eq_zero (by omega)
  have h3:s.uq=[]:=List.eq_nil_of_length_eq_zero (by omega)
  obtain⟨cols,key,uq⟩:=s
  simp only at h1 h2 h3
  rw[h1,h2,h3];rfl
 rintro rfl
 rfl
set_option maxHeartbeats 2000000 in
theorem zmY(e:EvV)(x:EvT)(w:Wl)(hx:zbj w e x)(hm:zcY x):zS TP 38 #[.agg (evC x e).toArray] w fun r w'=>r=.bool (z6 x)∧zk [] w w':=by
 obtain⟨c,ky,u,o,n,m⟩:=e
 obtain⟨po,co,rfl,-⟩:∃p q,o=.slice p x.o.length q∧x.o.length≤q:=zN.val hx.old
 obtain⟨pn,cn,rfl,-⟩:∃p q,n=.slice p x.w.length q∧x.w.length≤q:=zN.val hx.new
 obtain⟨pm,cm,rfl,-⟩:∃p q,m=.slice p x.m.length q∧x.m.length≤q:=zN.val hx.nm
 refine A1 Tryz.func38 U U ?_
 refine Sr ?_
 refine Ob U U ?_
 intro b1 w1 e1 n1 c1 k1
 refine Oa U (E1 1 U ?_)
 have k1:zO w1 b1 39 (evC x ⟨c,ky,u,.slice po x.o.length co,.slice pn x.w.length cn,.slice pm x.m.length cm⟩):=k1
 have hx:=hx.chg0 c1
 refine Sr (Od zbA U (Ol zeI U (k1.cell' (i:=0) U) (Oa U (E2 1 3 U ?_))))
 have kt:w1.cell? ⟨b1,1,none⟩=some (.string x.t):=k1.cell' (i:=1) rfl
 have km:w1.cell? ⟨b1,7,none⟩=some (.slice pm x.m.length cm):=k1.cell' (i:=7) rfl
 have ks:zv w1 b1 2 [c,ky,u]:=zv.of_blk k1 2 [c,ky,u] ⟨[_,_,_],rfl⟩
 refine zR (fun F wx=>prune [1,3] F=[(1,Pt b1),(3,Ii x.k)]∧zk [] w1 wx∧((1≤x.k∧x.k≤6)∧(x.k=6↔x.t=e0)∧(x.k≠6→yT x.t=true∧x.m=[])∧(x.k≠4→x.s=zfW))) ?_ ?_
 ·refine zf ?_
  by_cases h1:x.k<1
  ·refine za (Om U (Og (vt (zz U U) (dt h1)) U (Om U (Ok U (Ok U (Ot U (Om U ?_)))))))
   iterate 6 refine Ok U ?_
   refine Ot U (Om U (Ok U (Ok U (Ok U ?_))))
   iterate 10 refine Oh U U ?_
   refine Ok U (Ot U (Om U (Ok U (Ok U (Ok U (Oh U U (Oh U U (Oh U U (Oh U U (Ok U ?_))))))))))
   refine Ot U (E3 1 3 48 U (ze U (Sr (Oa U (E1 2 U (zj ?_))))))
   repeat first|refine tr ?_|refine br ?_
   refine zw U U ?_
   exact⟨by rw[yR (a:=z6 x) fun h=>by have:=(za6.1 h).k;omega],c1⟩
  by_cases h2:6<x.k
  ·refine za (Om U (Og (vf (zz U U) (df h1)) U (Om U (Ov U (Oi U (vt (zU U U) (dt h2)) (Of U (Om U ?_)))))))
   iterate 6 refine Ok U ?_
   refine Ot U (Om U (Ok U (Ok U (Ok U ?_))))
   iterate 10 refine Oh U U ?_
   refine Ok U (Ot U (Om U (Ok U (Ok U (Ok U (Oh U U (Oh U U (Oh U U (Oh U U (Ok U ?_))))))))))
   refine Ot U (E3 1 3 48 U (ze U (Sr (Oa U (E1 2 U (zj ?_))))))
   repeat first|refine tr ?_|refine br ?_
   refine zw U U ?_
   exact⟨by rw[yR (a:=z6 x) fun h=>by have:=(za6.1 h).k;omega],c1⟩
  cases hs:decide (x.s=zfW) with
  |false=>
   by_cases h3:x.k=6
   ·by_cases h4:x.t=e0
    ·refine za (Om U (Og (vf (zz U U) (df h1)) U (Om U (Ov U (Oi U (vf (zU U U) (df h2)) (Of U (Om U (Ov U (Oi U (vt (zy U U) (dt h3)) (Oi U (zd yd U) (Oi U (zg yI U kt) (Oi U (vt (zaQ U U) (dt h4)) (Oi U (zdh bo4 U U) (Of U (Om U (Ov U ?_))))))))))))))))
     refine Oi U (vf (zJ U U) (by simp[h3])) ?_
     refine Ov U (Ok U (Ok U (Ok U (Ok U (Ok U (Oh U U (Oh U U (Oh U U (Oh U U (Ok U (Oi U (zE U U) (Of U (Om U (Ov U ?_))))))))))))))
     refine Oi U (vt (zJ U U) (by simp[h3])) ?_
     refine Ov U (Oi U (zd zbc U) (Oi U (zh zaX zaS U U ks) ?_))
     refine Ow U U zwn U U U (zho _ _ _ x.s _ hx.sch hm.s) ?_
     rintro v45 w45⟨e45,c45⟩
     rw[hs]at e45
     subst e45
     refine Oi U (zC U) (Oi U (zD U U) (Of U (E3 1 3 48 U (ze U (Sr (Oa U (E1 2 U (zj ?_))))))))
     repeat first|refine tr ?_|refine br ?_
     refine zw U U ?_
     exact⟨by rw[yR (a:=z6 x) fun h=>of_decide_eq_false hs ((za6.1 h).s (by omega))],c1.trans c45⟩
    refine za (Om U (Og (vf (zz U U) (df h1)) U (Om U (Ov U (Oi U (vf (zU U U) (df h2)) (Of U (Om U (Ov U (Oi U (vt (zy U U) (dt h3)) (Oi U (zd yd U) (Oi U (zg yI U kt) (Oi U (vf (zaQ U U) (df h4)) (Oi U (zdh bo4 U U) (Of U (Om U (Ok U (Ok U (Ok U ?_))))))))))))))))))
    iterate 10 refine Oh U U ?_
    refine Ok U (Ot U (Om U (Ok U (Ok U (Ok U (Oh U U (Oh U U (Oh U U (Oh U U (Ok U ?_))))))))))
    refine Ot U (E3 1 3 48 U (ze U (Sr (Oa U (E1 2 U (zj ?_))))))
    repeat first|refine tr ?_|refine br ?_
    refine zw U U ?_
    exact⟨by rw[yR (a:=z6 x) fun h=>h4 ((za6.1 h).t.1 h3)],c1⟩
   by_cases h4:x.t=e0
   ·refine za (Om U (Og (vf (zz U U) (df h1)) U (Om U (Ov U (Oi U (vf (zU U U) (df h2)) (Of U (Om U (Ov U (Oi U (vf (zy U U) (df h3)) (Oi U (zd yd U) (Oi U (zg yI U kt) (Oi U (vt (zaQ U U) (dt h4)) (Oi U (zdh bo4 U U) (Of U (Om U (Ok U (Ok U (Ok U ?_))))))))))))))))))
    iterate 10 refine Oh U U ?_
    refine Ok U (Ot U (Om U (Ok U (Ok U (Ok U (Oh U U (Oh U U (Oh U U (Oh U U (Ok U ?_))))))))))
    refine Ot U (E3 1 3 48 U (ze U (Sr (Oa U (E1 2 U (zj ?_))))))
    repeat first|refine tr ?_|refine br ?_
    refine zw U U ?_
    exact⟨by rw[yR (a:=z6 x) fun h=>h3 ((za6.1 h).t.2 h4)],c1⟩
   cases hn:yT x.t with
   |false=>
    refine za (Om U (Og (vf (zz U U) (df h1)) U (Om U (Ov U (Oi U (vf (zU U U) (df h2)) (Of U (Om U (Ov U (Oi U (vf (zy U U) (df h3)) (Oi U (zd yd U) (Oi U (zg yI U kt) (Oi U (vf (zaQ U U) (df h4)) (Oi U (zdh bo4 U U) (Of U (Om U (Ov U ?_))))))))))))))))
    refine Oi U (vt (zJ U U) (by simp[h3])) ?_
    refine Ov U (Oi U (zd yd U) (Oi U (zg yI U kt) ?_))
    refine Ow U U zgn U U U (zd7 x.t _ hm.t) ?_
    rintro v29 w29⟨e29,rfl⟩
    rw[hn]at e29
    subst e29
    refine Oi U (zC U) (Ov U (Ok U (Ok U (Ok U (Ok U (Oi U (zD U U) (Oi U (zD U U) (Of U (Om U (Ok U (Ok U (Ok U (Oh U U (Oh U U (Oh U U (Oh U U (Ok U (Ot U (E3 1 3 48 U (ze U (Sr (Oa U (E1 2 U (zj ?_))))))))))))))))))))))))
    repeat first|refine tr ?_|refine br ?_
    refine zw U U ?_
    exact⟨by rw[yR (a:=z6 x) fun h=>by have:=((za6.1 h).n h3).1;simp[hn]at this],c1⟩
   |true=>
    by_cases h5:0<x.m.length
    ·refine za (Om U (Og (vf (zz U U) (df h1)) U (Om U (Ov U (Oi U (vf (zU U U) (df h2)) (Of U (Om U (Ov U (Oi U (vf (zy U U) (df h3)) (Oi U (zd yd U) (Oi U (zg yI U kt) (Oi U (vf (zaQ U U) (df h4)) (Oi U (zdh bo4 U U) (Of U (Om U (Ov U ?_))))))))))))))))
     refine Oi U (vt (zJ U U) (by simp[h3])) ?_
     refine Ov U (Oi U (zd yd U) (Oi U (zg yI U kt) ?_))
     refine Ow U U zgn U U U (zd7 x.t _ hm.t) ?_
     rintro v29 w29⟨e29,rfl⟩
     rw[hn]at e29
     subst e29
     refine Oi U (zC U) (Ov U (Oi U (zd zaa U) (Oi U (zg zcC U km) (Oi U (zV zaF U) ?_))))
     refine Oi U (vt (zU U U) (dt (by omega))) ?_
     refine Oi U (zE U U) (Oi U (zD U U) (Of U (Om U (Ok U (Ok U (Ok U (Oh U U (Oh U U (Oh U U (Oh U U (Ok U (Ot U (E3 1 3 48 U (ze U (Sr (Oa U (E1 2 U (zj ?_))))))))))))))))))
     repeat first|refine tr ?_|refine br ?_
     refine zw U U ?_
     exact⟨by rw[yR (a:=z6 x) fun h=>by have:=((za6.1 h).n h3).2;simp[this]at h5],c1⟩
    by_cases h6:x.k=4
    ·refine za (Om U (Og (vf (zz U U) (df h1)) U (Om U (Ov U (Oi U (vf (zU U U) (df h2)) (Of U (Om U (Ov U (Oi U (vf (zy U U) (df h3)) (Oi U (zd yd U) (Oi U (zg yI U kt) (Oi U (vf (zaQ U U) (df h4)) (Oi U (zdh bo4 U U) (Of U (Om U (Ov U ?_))))))))))))))))
     refine Oi U (vt (zJ U U) (by simp[h3])) ?_
     refine Ov U (Oi U (zd yd U) (Oi U (zg yI U kt) ?_))
     refine Ow U U zgn U U U (zd7 x.t _ hm.t) ?_
     rintro v29 w29⟨e29,rfl⟩
     rw[hn]at e29
     subst e29
     refine Oi U (zC U) (Ov U (Oi U (zd zaa U) (Oi U (zg zcC U km) (Oi U (zV zaF U) ?_))))
     refine Oi U (vf (zU U U) (df (by omega))) ?_
     refine Oi U (zE U U) (Oi U (zD U U) (Of U (Om U (Ov U ?_))))
     refine Oi U (vf (zJ U U) (by simp[h6])) ?_
     refine Ov U (Ok U (Ok U (Ok U (Ok U (Oi U (zE U U) (Of U (E3 1 3 48 U (zb U (zT ?_)))))))))
     exact⟨rfl,zk.refl _ _,⟨by omega,by simp[h3,h4],fun _=>⟨rfl,List.eq_nil_of_length_eq_zero (by omega)⟩,fun h=>absurd h6 h⟩⟩
    refine za (Om U (Og (vf (zz U U) (df h1)) U (Om U (Ov U (Oi U (vf (zU U U) (df h2)) (Of U (Om U (Ov U (Oi U (vf (zy U U) (df h3)) (Oi U (zd yd U) (Oi U (zg yI U kt) (Oi U (vf (zaQ U U) (df h4)) (Oi U (zdh bo4 U U) (Of U (Om U (Ov U ?_))))))))))))))))
    refine Oi U (vt (zJ U U) (by simp[h3])) ?_
    refine Ov U (Oi U (zd yd U) (Oi U (zg yI U kt) ?_))
    refine Ow U U zgn U U U (zd7 x.t _ hm.t) ?_
    rintro v29 w29⟨e29,rfl⟩
    rw[hn]at e29
    subst e29
    refine Oi U (zC U) (Ov U (Oi U (zd zaa U) (Oi U (zg zcC U km) (Oi U (zV zaF U) ?_))))
    refine Oi U (vf (zU U U) (df (by omega))) ?_
    refine Oi U (zE U U) (Oi U (zD U U) (Of U (Om U (Ov U ?_))))
    refine Oi U (vt (zJ U U) (by simp[h6])) ?_
    refine Ov U (Oi U (zd zbc U) (Oi U (zh zaX zaS U U ks) ?_))
    refine Ow U U zwn U U U (zho _ _ _ x.s _ hx.sch hm.s) ?_
    rintro v45 w45⟨e45,c45⟩
    rw[hs]at e45
    subst e45
    refine Oi U (zC U) (Oi U (zD U U) (Of U (E3 1 3 48 U (ze U (Sr (Oa U (E1 2 U (zj ?_))))))))
    repeat first|refine tr ?_|refine br ?_
    refine zw U U ?_
    exact⟨by rw[yR (a:=z6 x) fun h=>of_decide_eq_false hs ((za6.1 h).s h6)],c1.trans c45⟩
  |true=>
   by_cases h3:x.k=6
   ·by_cases h4:x.t=e0
    ·refine za (Om U (Og (vf (zz U U) (df h1)) U (Om U (Ov U (Oi U (vf (zU U U) (df h2)) (Of U (Om U (Ov U (Oi U (vt (zy U U) (dt h3)) (Oi U (zd yd U) (Oi U (zg yI U kt) (Oi U (vt (zaQ U U) (dt h4)) (Oi U (zdh bo4 U U) (Of U (Om U (Ov U ?_))))))))))))))))
     refine Oi U (vf (zJ U U) (by simp[h3])) ?_
     refine Ov U (Ok U (Ok U (Ok U (Ok U (Ok U (Oh U U (Oh U U (Oh U U (Oh U U (Ok U (Oi U (zE U U) (Of U (Om U (Ov U ?_))))))))))))))
     refine Oi U (vt (zJ U U) (by simp[h3])) ?_
     refine Ov U (Oi U (zd zbc U) (Oi U (zh zaX zaS U U ks) ?_))
     refine Ow U U zwn U U U (zho _ _ _ x.s _ hx.sch hm.s) ?_
     rintro v45 w45⟨e45,c45⟩
     rw[hs]at e45
     subst e45
     refine Oi U (zC U) (Oi U (zD U U) (Of U (E3 1 3 48 U (zb U (zT ?_)))))
     exact⟨rfl,c45,⟨by omega,by simp[h3,h4],fun h=>absurd h3 h,fun _=>of_decide_eq_true hs⟩⟩
    refine za (Om U (Og (vf (zz U U) (df h1)) U (Om U (Ov U (Oi U (vf (zU U U) (df h2)) (Of U (Om U (Ov U (Oi U (vt (zy U U) (dt h3)) (Oi U (zd yd U) (Oi U (zg yI U kt) (Oi U (vf (zaQ U U) (df h4)) (Oi U (zdh bo4 U U) (Of U (Om U (Ok U (Ok U (Ok U ?_))))))))))))))))))
    iterate 10 refine Oh U U ?_
    refine Ok U (Ot U (Om U (Ok U (Ok U (Ok U (Oh U U (Oh U U (Oh U U (Oh U U (Ok U ?_))))))))))
    refine Ot U (E3 1 3 48 U (ze U (Sr (Oa U (E1 2 U (zj ?_))))))
    repeat first|refine tr ?_|refine br ?_
    refine zw U U ?_
    exact⟨by rw[yR (a:=z6 x) fun h=>h4 ((za6.1 h).t.1 h3)],c1⟩
   by_cases h4:x.t=e0
   ·refine za (Om U (Og (vf (zz U U) (df h1)) U (Om U (Ov U (Oi U (vf (zU U U) (df h2)) (Of U (Om U (Ov U (Oi U (vf (zy U U) (df h3)) (Oi U (zd yd U) (Oi U (zg yI U kt) (Oi U (vt (zaQ U U) (dt h4)) (Oi U (zdh bo4 U U) (Of U (Om U (Ok U (Ok U (Ok U ?_))))))))))))))))))
    iterate 10 refine Oh U U ?_
    refine Ok U (Ot U (Om U (Ok U (Ok U (Ok U (Oh U U (Oh U U (Oh U U (Oh U U (Ok U ?_))))))))))
    refine Ot U (E3 1 3 48 U (ze U (Sr (Oa U (E1 2 U (zj ?_))))))
    repeat first|refine tr ?_|refine br ?_
    refine zw U U ?_
    exact⟨by rw[yR (a:=z6 x) fun h=>h3 ((za6.1 h).t.2 h4)],c1⟩
   cases hn:yT x.t with
   |false=>
    refine za (Om U (Og (vf (zz U U) (df h1)) U (Om U (Ov U (Oi U (vf (zU U U) (df h2)) (Of U (Om U (Ov U (Oi U (vf (zy U U) (df h3)) (Oi U (zd yd U) (Oi U (zg yI U kt) (Oi U (vf (zaQ U U) (df h4)) (Oi U (zdh bo4 U U) (Of U (Om U (Ov U ?_))))))))))))))))
    refine Oi U (vt (zJ U U) (by simp[h3])) ?_
    refine Ov U (Oi U (zd yd U) (Oi U (zg yI U kt) ?_))
    refine Ow U U zgn U U U (zd7 x.t _ hm.t) ?_
    rintro v29 w29⟨e29,rfl⟩
    rw[hn]at e29
    subst e29
    refine Oi U (zC U) (Ov U (Ok U (Ok U (Ok U (Ok U (Oi U (zD U U) (Oi U (zD U U) (Of U (Om U (Ok U (Ok U (Ok U (Oh U U (Oh U U (Oh U U (Oh U U (Ok U (Ot U (E3 1 3 48 U (ze U (Sr (Oa U (E1 2 U (zj ?_))))))))))))))))))))))))
    repeat first|refine tr ?_|refine br ?_
    refine zw U U ?_
    exact⟨by rw[yR (a:=z6 x) fun h=>by have:=((za6.1 h).n h3).1;simp[hn]at this],c1⟩
   |true=>
    by_cases h5:0<x.m.length
    ·refine za (Om U (Og (vf (zz U U) (df h1)) U (Om U (Ov U (Oi U (vf (zU U U) (df h2)) (Of U (Om U (Ov U (Oi U (vf (zy U U) (df h3)) (Oi U (zd yd U) (Oi U (zg yI U kt) (Oi U (vf (zaQ U U) (df h4)) (Oi U (zdh bo4 U U) (Of U (Om U (Ov U ?_))))))))))))))))
     refine Oi U (vt (zJ U U) (by simp[h3])) ?_
     refine Ov U (Oi U (zd yd U) (Oi U (zg yI U kt) ?_))
     refine Ow U U zgn U U U (zd7 x.t _ hm.t) ?_
     rintro v29 w29⟨e29,rfl⟩
     rw[hn]at e29
     subst e29
     refine Oi U (zC U) (Ov U (Oi U (zd zaa U) (Oi U (zg zcC U km) (Oi U (zV zaF U) ?_))))
     refine Oi U (vt (zU U U) (dt (by omega))) ?_
     refine Oi U (zE U U) (Oi U (zD U U) (Of U (Om U (Ok U (Ok U (Ok U (Oh U U (Oh U U (Oh U U (Oh U U (Ok U (Ot U (E3 1 3 48 U (ze U (Sr (Oa U (E1 2 U (zj ?_))))))))))))))))))
     repeat first|refine tr ?_|refine br ?_
     refine zw U U ?_
     exact⟨by rw[yR (a:=z6 x) fun h=>by have:=((za6.1 h).n h3).2;simp[this]at h5],c1⟩
    by_cases h6:x.k=4
    ·refine za (Om U (Og (vf (zz U U) (df h1)) U (Om U (Ov U (Oi U (vf (zU U U) (df h2)) (Of U (Om U (Ov U (Oi U (vf (zy U U) (df h3)) (Oi U (zd yd U) (Oi U (zg yI U kt) (Oi U (vf (zaQ U U) (df h4)) (Oi U (zdh bo4 U U) (Of U (Om U (Ov U ?_))))))))))))))))
     refine Oi U (vt (zJ U U) (by simp[h3])) ?_
     refine Ov U (Oi U (zd yd U) (Oi U (zg yI U kt) ?_))
     refine Ow U U zgn U U U (zd7 x.t _ hm.t) ?_
     rintro v29 w29⟨e29,rfl⟩
     rw[hn]at e29
     subst e29
     refine Oi U (zC U) (Ov U (Oi U (zd zaa U) (Oi U (zg zcC U km) (Oi U (zV zaF U) ?_))))
     refine Oi U (vf (zU U U) (df (by omega))) ?_
     refine Oi U (zE U U) (Oi U (zD U U) (Of U (Om U (Ov U ?_))))
     refine Oi U (vf (zJ U U) (by simp[h6])) ?_
     refine Ov U (Ok U (Ok U (Ok U (Ok U (Oi U (zE U U) (Of U (E3 1 3 48 U (zb U (zT ?_)))))))))
     exact⟨rfl,zk.refl _ _,⟨by omega,by simp[h3,h4],fun _=>⟨rfl,List.eq_nil_of_length_eq_zero (by omega)⟩,fun h=>absurd h6 h⟩⟩
    refine za (Om U (Og (vf (zz U U) (df h1)) U (Om U (Ov U (Oi U (vf (zU U U) (df h2)) (Of U (Om U (Ov U (Oi U (vf (zy U U) (df h3)) (Oi U (zd yd U) (Oi U (zg yI U kt) (Oi U (vf (zaQ U U) (df h4)) (Oi U (zdh bo4 U U) (Of U (Om U (Ov U ?_))))))))))))))))
    refine Oi U (vt (zJ U U) (by simp[h3])) ?_
    refine Ov U (Oi U (zd yd U) (Oi U (zg yI U kt) ?_))
    refine Ow U U zgn U U U (zd7 x.t _ hm.t) ?_
    rintro v29 w29⟨e29,rfl⟩
    rw[hn]at e29
    subst e29
    refine Oi U (zC U) (Ov U (Oi U (zd zaa U) (Oi U (zg zcC U km) (Oi U (zV zaF U) ?_))))
    refine Oi U (vf (zU U U) (df (by omega))) ?_
    refine Oi U (zE U U) (Oi U (zD U U) (Of U (Om U (Ov U ?_))))
    refine Oi U (vt (zJ U U) (by simp[h6])) ?_
    refine Ov U (Oi U (zd zbc U) (Oi U (zh zaX zaS U U ks) ?_))
    refine Ow U U zwn U U U (zho _ _ _ x.s _ hx.sch hm.s) ?_
    rintro v45 w45⟨e45,c45⟩
    rw[hs]at e45
    subst e45
    refine Oi U (zC U) (Oi U (zD U U) (Of U (E3 1 3 48 U (zb U (zT ?_)))))
    exact⟨rfl,c45,⟨by omega,by simp[h3,h4],fun _=>⟨rfl,List.eq_nil_of_length_eq_zero (by omega)⟩,fun _=>of_decide_eq_true hs⟩⟩
 rintro F wx⟨hF,hcx,hk,ht,hn,hs⟩
 have k1:=k1.chg0 hcx
 have hx:=hx.chg0 hcx
 have hc1:=c1.trans hcx
 refine zae [1,3] hF ?_
 refine zR (fun F wy=>prune [1,3,4,5] F=[(1,Pt b1),(3,Ii x.k),(4,.bool (decide (x.k=2∨x.k=3))),(5,.bool (decide (x.k=1∨x.k=2)))]∧wy=wx) ?_ ?_
 ·by_cases q1:x.k=1
  ·refine za (Om U ?_)
   refine Og (vf (zy U U) (df (by omega))) U ?_
   refine Om U (Ov U ?_)
   refine Oi U (vf (zy U U) (df (by omega))) ?_
   refine Of U (Om U (Og (vt (zy U U) (dt q1)) U (Om U (Ok U (Ok U (Ot U (Oa U (Oa U (E4 1 3 4 5 U ?_)))))))))
   refine⟨?_,U⟩
   rw[show decide (x.k=2∨x.k=3)=false from df (by omega),show decide (x.k=1∨x.k=2)=true from dt (by omega)]
   rfl
  by_cases q2:x.k=2
  ·refine za (Om U (Og (vt (zy U U) (dt q2)) U (Om U (Ok U (Ok U (Ot U (Om U ?_)))))))
   refine Og (vf (zy U U) (df (by omega))) U ?_
   refine Om U (Ov U (Oi U (vt (zy U U) (dt q2)) (Of U (Oa U (Oa U (E4 1 3 4 5 U ?_))))))
   refine⟨?_,U⟩
   rw[show decide (x.k=2∨x.k=3)=true from dt (by omega),show decide (x.k=1∨x.k=2)=true from dt (by omega)]
   rfl
  by_cases q3:x.k=3
  ·refine za (Om U ?_)
   refine Og (vf (zy U U) (df (by omega))) U ?_
   refine Om U (Ov U (Oi U (vt (zy U U) (dt q3)) (Of U (Om U ?_))))
   refine Og (vf (zy U U) (df (by omega))) U ?_
   refine Om U (Ov U ?_)
   refine Oi U (vf (zy U U) (df (by omega))) ?_
   refine Of U (Oa U (Oa U (E4 1 3 4 5 U ?_)))
   refine⟨?_,U⟩
   rw[show decide (x.k=2∨x.k=3)=true from dt (by omega),show decide (x.k=1∨x.k=2)=false from df (by omega)]
   rfl
  refine za (Om U ?_)
  refine Og (vf (zy U U) (df (by omega))) U ?_
  refine Om U (Ov U ?_)
  refine Oi U (vf (zy U U) (df (by omega))) ?_
  refine Of U (Om U ?_)
  refine Og (vf (zy U U) (df (by omega))) U ?_
  refine Om U (Ov U ?_)
  refine Oi U (vf (zy U U) (df (by omega))) ?_
  refine Of U (Oa U (Oa U (E4 1 3 4 5 U ?_)))
  refine⟨?_,U⟩
  rw[show decide (x.k=2∨x.k=3)=false from df (by omega),show decide (x.k=1∨x.k=2)=false from df (by omega)]
  rfl
 rintro F wy⟨hF,rfl⟩
 refine zae [1,3,4,5] hF ?_
 have ko:wy.cell? ⟨b1,5,none⟩=some (.slice po x.o.length co):=k1.cell' (i:=5) rfl
 have kn:wy.cell? ⟨b1,6,none⟩=some (.slice pn x.w.length cn):=k1.cell' (i:=6) rfl
 refine zR (fun F wz=>prune [1,3] F=[(1,Pt b1),(3,Ii x.k)]∧zk [] wy wz∧((x.k=2∨x.k=3→zex x.o=true)∧(¬(x.k=2∨x.k=3)→x.o=[])∧(x.k=1∨x.k=2→zex x.w=true)∧(¬(x.k=1∨x.k=2)→x.w=[]))) ?_ ?_
 ·refine zf ?_
  by_cases p1:x.k=2∨x.k=3
  ·rw[dt p1]
   by_cases p2:x.k=1∨x.k=2
   ·rw[dt p2]
    cases ho:zex x.o with
    |false=>
     refine za (Om U (Om U (Oi U (zd y6 U) (Oi U (zg yU U ko) ?_))))
     refine Ow U U zkI U U U (zeX _ x.o _ hx.old) ?_
     rintro v65 w65⟨e65,c65⟩
     rw[ho]at e65
     subst e65
     refine Oi U (zC U) (Ot U (Om U (Ok U (Ok U (Ok U (Oh U U (Oh U U (Oh U U (Oh U U (Ok U (Ot U (Om U (Ok U (Ok U (Oh U U (Oh U U (Oh U U (Oh U U (Ok U (Ot U (Om U (Ok U (Ok U (Ok U (Oh U U (Oh U U (Oh U U (Oh U U (Ok U (Ot U (E3 1 3 96 U (ze U (Sr (Oa U (E1 2 U (zj ?_))))))))))))))))))))))))))))))))))))
     repeat first|refine tr ?_|refine br ?_
     refine zw U U ?_
     exact⟨by rw[yR (a:=z6 x) fun h=>by have:=(za6.1 h).o p1;simp[ho]at this],hc1.trans c65⟩
    |true=>
     cases hw:zex x.w with
     |false=>
      refine za (Om U (Om U (Oi U (zd y6 U) (Oi U (zg yU U ko) ?_))))
      refine Ow U U zkI U U U (zeX _ x.o _ hx.old) ?_
      rintro v65 w65⟨e65,c65⟩
      rw[ho]at e65
      subst e65
      refine Oi U (zC U) (Ot U (Om U (Ov U (Oi U (zC U) (Ov U (Ok U (Ok U (Ok U (Ok U (Oi U (zE U U) (Of U (Om U (Ov U (Ov U (Oi U (zd zaY U) (Oi U (zg yU U ((k1.chg0 c65).cell' (i:=6) U)) ?_))))))))))))))))
      refine Ow U U zkI U U U (zeX _ x.w _ (hx.chg0 c65).new) ?_
      rintro v83 w83⟨e83,c83⟩
      rw[hw]at e83
      subst e83
      refine Oi U (zC U) (Oi U (zD U U) (Of U (Om U (Ok U (Ok U (Ok U (Oh U U (Oh U U (Oh U U (Oh U U (Ok U (Ot U (E3 1 3 96 U (ze U (Sr (Oa U (E1 2 U (zj ?_))))))))))))))))))
      repeat first|refine tr ?_|refine br ?_
      refine zw U U ?_
      exact⟨by rw[yR (a:=z6 x) fun h=>by have:=(za6.1 h).w p2;simp[hw]at this],(hc1.trans c65).trans c83⟩
     |true=>
      refine za (Om U (Om U (Oi U (zd y6 U) (Oi U (zg yU U ko) ?_))))
      refine Ow U U zkI U U U (zeX _ x.o _ hx.old) ?_
      rintro v65 w65⟨e65,c65⟩
      rw[ho]at e65
      subst e65
      refine Oi U (zC U) (Ot U (Om U (Ov U (Oi U (zC U) (Ov U (Ok U (Ok U (Ok U (Ok U (Oi U (zE U U) (Of U (Om U (Ov U (Ov U (Oi U (zd zaY U) (Oi U (zg yU U ((k1.chg0 c65).cell' (i:=6) U)) ?_))))))))))))))))
      refine Ow U U zkI U U U (zeX _ x.w _ (hx.chg0 c65).new) ?_
      rintro v83 w83⟨e83,c83⟩
      rw[hw]at e83
      subst e83
      refine Oi U (zC U) (Oi U (zD U U) (Of U (Om U (Ov U (Oi U (zC U) (Ov U (Ok U (Ok U (Ok U (Ok U (Oi U (zE U U) (Of U (E3 1 3 96 U (zb U (zT ?_)))))))))))))))
      exact⟨U,c65.trans c83,⟨fun _=>rfl,fun h=>absurd p1 h,fun _=>rfl,fun h=>absurd p2 h⟩⟩
   rw[df p2]
   cases ho:zex x.o with
   |false=>
    refine za (Om U (Om U (Oi U (zd y6 U) (Oi U (zg yU U ko) ?_))))
    refine Ow U U zkI U U U (zeX _ x.o _ hx.old) ?_
    rintro v65 w65⟨e65,c65⟩
    rw[ho]at e65
    subst e65
    refine Oi U (zC U) (Ot U (Om U (Ok U (Ok U (Ok U (Oh U U (Oh U U (Oh U U (Oh U U (Ok U (Ot U (Om U (Ok U (Ok U (Oh U U (Oh U U (Oh U U (Oh U U (Ok U (Ot U (Om U (Ok U (Ok U (Ok U (Oh U U (Oh U U (Oh U U (Oh U U (Ok U (Ot U (E3 1 3 96 U (ze U (Sr (Oa U (E1 2 U (zj ?_))))))))))))))))))))))))))))))))))))
    repeat first|refine tr ?_|refine br ?_
    refine zw U U ?_
    exact⟨by rw[yR (a:=z6 x) fun h=>by have:=(za6.1 h).o p1;simp[ho]at this],hc1.trans c65⟩
   |true=>
    by_cases hl:0<x.w.length
    ·refine za (Om U (Om U (Oi U (zd y6 U) (Oi U (zg yU U ko) ?_))))
     refine Ow U U zkI U U U (zeX _ x.o _ hx.old) ?_
     rintro v65 w65⟨e65,c65⟩
     rw[ho]at e65
     subst e65
     refine Oi U (zC U) (Ot U (Om U (Ov U (Oi U (zC U) (Ov U (Ok U (Ok U (Ok U (Ok U (Oi U (zE U U) (Of U (Om U (Ov U (Ov U (Ok U (Ok U (Ok U (Ok U (Oi U (zE U U) (Of U (Om U (Ov U (Oi U (zC U) (Ov U (Oi U (zd zaY U) (Oi U (zg yU U ((k1.chg0 c65).cell' (i:=6) U)) (Oi U (zV yE U) ?_)))))))))))))))))))))))))))
     refine Oi U (vt (zU U U) (dt (by omega))) ?_
     refine Oi U (zD U U) (Of U (E3 1 3 96 U (ze U (Sr (Oa U (E1 2 U (zj ?_)))))))
     repeat first|refine tr ?_|refine br ?_
     refine zw U U ?_
     exact⟨by rw[yR (a:=z6 x) fun h=>by have:=(za6.1 h).nw p2;simp[this]at hl],hc1.trans c65⟩
    refine za (Om U (Om U (Oi U (zd y6 U) (Oi U (zg yU U ko) ?_))))
    refine Ow U U zkI U U U (zeX _ x.o _ hx.old) ?_
    rintro v65 w65⟨e65,c65⟩
    rw[ho]at e65
    subst e65
    refine Oi U (zC U) (Ot U (Om U (Ov U (Oi U (zC U) (Ov U (Ok U (Ok U (Ok U (Ok U (Oi U (zE U U) (Of U (Om U (Ov U (Ov U (Ok U (Ok U (Ok U (Ok U (Oi U (zE U U) (Of U (Om U (Ov U (Oi U (zC U) (Ov U (Oi U (zd zaY U) (Oi U (zg yU U ((k1.chg0 c65).cell' (i:=6) U)) (Oi U (zV yE U) ?_)))))))))))))))))))))))))))
    refine Oi U (vf (zU U U) (df (by omega))) ?_
    refine Oi U (zD U U) (Of U (E3 1 3 96 U (zb U (zT ?_))))
    exact⟨rfl,c65,⟨fun _=>rfl,fun h=>absurd p1 h,fun h=>absurd h p2,fun _=>List.eq_nil_of_length_eq_zero (by omega)⟩⟩
  rw[df p1]
  by_cases hl:0<x.o.length
  ·by_cases p2:x.k=1∨x.k=2
   ·rw[dt p2]
    refine za (Om U (Om U (Ok U (Ok U (Ok U (Ok U (Of U (Om U (Ov U (Oi U (zC U) (Ov U (Oi U (zd y6 U) (Oi U (zg yU U ko) (Oi U (zV yE U) ?_))))))))))))))
    refine Oi U (vt (zU U U) (dt (by omega))) ?_
    refine Oi U (zD U U) (Of U (Om U (Ok U (Ok U (Oh U U (Oh U U (Oh U U (Oh U U (Ok U (Ot U (Om U (Ok U (Ok U (Ok U (Oh U U (Oh U U (Oh U U (Oh U U (Ok U (Ot U (E3 1 3 96 U (ze U (Sr (Oa U (E1 2 U (zj ?_))))))))))))))))))))))))))
    repeat first|refine tr ?_|refine br ?_
    refine zw U U ?_
    exact⟨by rw[yR (a:=z6 x) fun h=>by have:=(za6.1 h).no p1;simp[this]at hl],hc1⟩
   rw[df p2]
   refine za (Om U (Om U (Ok U (Ok U (Ok U (Ok U (Of U (Om U (Ov U (Oi U (zC U) (Ov U (Oi U (zd y6 U) (Oi U (zg yU U ko) (Oi U (zV yE U) ?_))))))))))))))
   refine Oi U (vt (zU U U) (dt (by omega))) ?_
   refine Oi U (zD U U) (Of U (Om U (Ok U (Ok U (Oh U U (Oh U U (Oh U U (Oh U U (Ok U (Ot U (Om U (Ok U (Ok U (Ok U (Oh U U (Oh U U (Oh U U (Oh U U (Ok U (Ot U (E3 1 3 96 U (ze U (Sr (Oa U (E1 2 U (zj ?_))))))))))))))))))))))))))
   repeat first|refine tr ?_|refine br ?_
   refine zw U U ?_
   exact⟨by rw[yR (a:=z6 x) fun h=>by have:=(za6.1 h).no p1;simp[this]at hl],hc1⟩
  have ho:x.o=[]:=List.eq_nil_of_length_eq_zero (by omega)
  by_cases p2:x.k=1∨x.k=2
  ·rw[dt p2]
   cases hw:zex x.w with
   |false=>
    refine za (Om U (Om U (Ok U (Ok U (Ok U (Ok U (Of U (Om U (Ov U (Oi U (zC U) (Ov U (Oi U (zd y6 U) (Oi U (zg yU U ko) (Oi U (zV yE U) ?_))))))))))))))
    refine Oi U (vf (zU U U) (df (by omega))) ?_
    refine Oi U (zD U U) (Of U (Om U (Ov U (Ov U (Oi U (zd zaY U) (Oi U (zg yU U kn) ?_))))))
    refine Ow U U zkI U U U (zeX _ x.w _ hx.new) ?_
    rintro v83 w83⟨e83,c83⟩
    rw[hw]at e83
    subst e83
    refine Oi U (zC U) (Oi U (zD U U) (Of U (Om U (Ok U (Ok U (Ok U (Oh U U (Oh U U (Oh U U (Oh U U (Ok U (Ot U (E3 1 3 96 U (ze U (Sr (Oa U (E1 2 U (zj ?_))))))))))))))))))
    repeat first|refine tr ?_|refine br ?_
    refine zw U U ?_
    exact⟨by rw[yR (a:=z6 x) fun h=>by have:=(za6.1 h).w p2;simp[hw]at this],hc1.trans c83⟩
   |true=>
    refine za (Om U (Om U (Ok U (Ok U (Ok U (Ok U (Of U (Om U (Ov U (Oi U (zC U) (Ov U (Oi U (zd y6 U) (Oi U (zg yU U ko) (Oi U (zV yE U) ?_))))))))))))))
    refine Oi U (vf (zU U U) (df (by omega))) ?_
    refine Oi U (zD U U) (Of U (Om U (Ov U (Ov U (Oi U (zd zaY U) (Oi U (zg yU U kn) ?_))))))
    refine Ow U U zkI U U U (zeX _ x.w _ hx.new) ?_
    rintro v83 w83⟨e83,c83⟩
    rw[hw]at e83
    subst e83
    refine Oi U (zC U) (Oi U (zD U U) (Of U (Om U (Ov U (Oi U (zC U) (Ov U (Ok U (Ok U (Ok U (Ok U (Oi U (zE U U) (Of U (E3 1 3 96 U (zb U (zT ?_)))))))))))))))
    exact⟨U,c83,⟨fun h=>absurd h p1,fun _=>ho,fun _=>rfl,fun h=>absurd p2 h⟩⟩
  rw[df p2]
  by_cases hl2:0<x.w.length
  ·refine za (Om U (Om U (Ok U (Ok U (Ok U (Ok U (Of U (Om U (Ov U (Oi U (zC U) (Ov U (Oi U (zd y6 U) (Oi U (zg yU U ko) (Oi U (zV yE U) ?_))))))))))))))
   refine Oi U (vf (zU U U) (df (by omega))) ?_
   refine Oi U (zD U U) (Of U (Om U (Ov U (Ov U (Ok U (Ok U (Ok U (Ok U (Oi U (zE U U) (Of U (Om U (Ov U (Oi U (zC U) (Ov U (Oi U (zd zaY U) (Oi U (zg yU U kn) (Oi U (zV yE U) ?_)))))))))))))))))
   refine Oi U (vt (zU U U) (dt (by omega))) ?_
   refine Oi U (zD U U) (Of U (E3 1 3 96 U (ze U (Sr (Oa U (E1 2 U (zj ?_)))))))
   repeat first|refine tr ?_|refine br ?_
   refine zw U U ?_
   exact⟨by rw[yR (a:=z6 x) fun h=>by have:=(za6.1 h).nw p2;simp[this]at hl2],hc1⟩
  refine za (Om U (Om U (Ok U (Ok U (Ok U (Ok U (Of U (Om U (Ov U (Oi U (zC U) (Ov U (Oi U (zd y6 U) (Oi U (zg yU U ko) (Oi U (zV yE U) ?_))))))))))))))
  refine Oi U (vf (zU U U) (df (by omega))) ?_
  refine Oi U (zD U U) (Of U (Om U (Ov U (Ov U (Ok U (Ok U (Ok U (Ok U (Oi U (zE U U) (Of U (Om U (Ov U (Oi U (zC U) (Ov U (Oi U (zd zaY U) (Oi U (zg yU U kn) (Oi U (zV yE U) ?_)))))))))))))))))
  refine Oi U (vf (zU U U) (df (by omega))) ?_
  refine Oi U (zD U U) (Of U (E3 1 3 96 U (zb U (zT ?_))))
  exact⟨rfl,zk.refl _ _,⟨fun h=>absurd h p1,fun _=>ho,fun h=>absurd h p2,fun _=>List.eq_nil_of_length_eq_zero (by omega)⟩⟩
 rintro F wz⟨hF,hcz,ho,hno,hw,hnw⟩
 refine zae [1,3] hF ?_
 have k1:=k1.chg0 hcz
 have hx:=hx.chg0 hcz
 have hcz:=hc1.trans hcz
 have hall:(x.k=2→x.o.length=x.w.length)→(x.k=4→yJ x.s=true)→(x.k=6→zdk x.m=true)→z6 x=true:=fun h1 h2 h3=>za6.2 ⟨hk,ht,hn,hs,ho,hno,hw,hnw,h1,h2,h3⟩
 refine zR (fun F wy=>prune [0] F=[]∧wy=wz∧x.k≠2∧x.k≠4∧x.k≠6) ?_ ?_
 ·refine Sr (Om U (E2 1 97 U (zp (zf ?_))))
  by_cases q2:x.k=2
  ·refine za (Og (vt (zy U U) (dt q2)) U (Oa U (E3 1 97 98 U (ze U (Sr (Od y6 U (Ol yU U (k1.cell' (i:=5) U) (On yE U (Od zaY U (Ol yU U (k1.cell' (i:=6) U) (On yE U (Og (zy U U) U (Oa U (E1 2 U (zj ?_)))))))))))))))
   repeat first|refine tr ?_|refine br ?_
   refine zw U U ?_
   refine⟨?_,hcz⟩
   congr 1
   cases hr:z6 x with
   |true=>exact dt (by have:=(za6.1 hr).e q2;omega)
   |false=>
    refine df fun h=>?_
    rw[hall (fun _=>by omega) (by omega) (by omega)]at hr
    cases hr
  refine za (Og (vf (zy U U) (df q2)) U (Oa U (E3 1 97 98 U (zb U (zf ?_)))))
  by_cases q4:x.k=4
  ·refine za (Og (vt (zy U U) (dt q4)) U (Oa U (E3 1 97 107 U (ze U (Sr (Od zbc U ?_))))))
   refine Og (zh zaX zaS U U (zv.of_blk k1 2 [c,ky,u] ⟨[_,_,_],U⟩)) U ?_
   refine Oc zv3 U U U (zjh _ _ _ x.s _ hx.sch hm.cn) ?_
   rintro v111 w111⟨rfl,c111⟩
   refine Oa U (E1 2 U (zj ?_))
   repeat first|refine tr ?_|refine br ?_
   refine zw U U ?_
   refine⟨?_,hcz.trans c111⟩
   congr 1
   cases hr:z6 x with
   |true=>exact(za6.1 hr).r q4
   |false=>
    refine yR fun h=>?_
    rw[hall (by omega) (fun _=>h) (by omega)]at hr
    cases hr
  refine za (Og (vf (zy U U) (df q4)) U (Oa U (E3 1 97 107 U (zb U (zf ?_)))))
  by_cases q6:x.k=6
  ·refine za (Og (vt (zy U U) (dt q6)) U (Oa U (E2 1 112 U (ze U ?_))))
   have hrn:z6 x=zdk x.m:=by
    cases hr:z6 x with
    |true=>exact((za6.1 hr).m q6).symm
    |false=>
     refine(yR fun h=>?_).symm
     rw[hall (by omega) (by omega) (fun _=>h)]at hr
     cases hr
   have hmm:=hm.m
   refine zR (fun F wx=>prune [1] F=[(1,Pt b1)]∧zk [] wz wx∧∀(i:Nat) p,x.m[i]?=some p→(yT p.1&&yT p.2)=true) ?_ ?_
   ·refine Sr (Oa U (E2 1 6 U (zp ?_)))
    refine zQ [1,6] (fun m F wx=>∃j:Nat,m=x.m.length-j∧j≤x.m.length∧F=[(1,Pt b1),(6,Ii j)]∧zk [] wz wx∧(∀(i:Nat) p,i<j→x.m[i]?=some p→(yT p.1&&yT p.2)=true)) (m:=x.m.length-0) ⟨0,rfl,Zl _,rfl,zk.refl _ _,by omega⟩ ?_
    rintro m F wx⟨j,rfl,hj,rfl,hcx,hall⟩
    have k1:=k1.chg0 hcx
    refine zf (zf ?_)
    by_cases hlt:j<x.m.length
    ·refine za (Om U (Od zaa U (Ol zcC U (k1.cell' (i:=7) U) (On zaF U ?_))))
     refine Og (vt (zz U U) (dt (by omega))) U ?_
     refine E3 1 6 118 U (ze U (zm ?_))
     have hp:x.m[j]?=some x.m[j]:=by simp[hlt]
     generalize x.m[j]=p at hp
     have hps:=hm.mn p (Mg hp)
     obtain⟨b,off,cap,hve,hcell⟩:=zN.at zbu (zN.chg0 hx.nm hcx) hp
     cases hve
     have hp0:wx.cell? ⟨b,off+j*2,none⟩=some (.string p.1):=hcell 0 _ rfl
     have hp1:wx.cell? ⟨b,off+j*2+1,none⟩=some (.string p.2):=hcell 1 _ rfl
     have hkm:wx.cell? ⟨b1,7,none⟩=some (.slice (some ⟨b,off,none⟩) x.m.length cm):=k1.cell' (i:=7) rfl
     refine zf (zp (zf ?_))
     cases n1:yT p.1 with
     |false=>
      refine za (Od zaa U (Ol zcC U hkm (Om U ?_)))
      refine Og (zi zaF zcn U U _ U hlt) U ?_
      refine Og (zK zco sz9 U U 0 U (by decide)) U ?_
      refine Ol yI U hp0 ?_
      refine Oc zgn U U U (zgv p.1 _ hps.1) ?_
      rintro v127 w127⟨e127,rfl⟩
      rw[n1]at e127
      subst e127
      refine Og (zC U) U (Om U ?_)
      iterate 8 refine Ok U ?_
      refine Ot U (E3 1 6 138 U (ze U (Sr (Oa U (E1 2 U (zj ?_))))))
      repeat first|refine tr ?_|refine br ?_
      refine zw U U ?_
      exact⟨by rw[hrn,zj9 hp (by rw[n1];rfl)],hcz.trans hcx⟩
     |true=>
      cases n2:yT p.2 with
      |false=>
       refine za (Od zaa U (Ol zcC U hkm (Om U ?_)))
       refine Og (zi zaF zcn U U _ U hlt) U ?_
       refine Og (zK zco sz9 U U 0 U (by decide)) U ?_
       refine Ol yI U hp0 ?_
       refine Oc zgn U U U (zgv p.1 _ hps.1) ?_
       rintro v127 w127⟨e127,rfl⟩
       rw[n1]at e127
       subst e127
       refine Og (zC U) U (Om U (Oi U (zd zaa U) (Oi U (zg zcC U hkm) (Ov U ?_))))
       refine Oi U (zi zaF zcn U U _ U hlt) ?_
       refine Oi U (zK zco sz9 U U 1 U (by decide)) ?_
       refine Oi U (zg yI U hp1) ?_
       refine Ow U U zgn U U U (zgv p.2 _ hps.2) ?_
       rintro v136 w136⟨e136,rfl⟩
       rw[n2]at e136
       subst e136
       refine Oi U (zC U) (Of U (E3 1 6 138 U (ze U (Sr (Oa U (E1 2 U (zj ?_)))))))
       repeat first|refine tr ?_|refine br ?_
       refine zw U U ?_
       exact⟨by rw[hrn,zj9 hp (by rw[n1,n2];rfl)],hcz.trans hcx⟩
      |true=>
       refine za (Od zaa U (Ol zcC U hkm (Om U ?_)))
       refine Og (zi zaF zcn U U _ U hlt) U ?_
       refine Og (zK zco sz9 U U 0 U (by decide)) U ?_
       refine Ol yI U hp0 ?_
       refine Oc zgn U U U (zgv p.1 _ hps.1) ?_
       rintro v127 w127⟨e127,rfl⟩
       rw[n1]at e127
       subst e127
       refine Og (zC U) U (Om U (Oi U (zd zaa U) (Oi U (zg zcC U hkm) (Ov U ?_))))
       refine Oi U (zi zaF zcn U U _ U hlt) ?_
       refine Oi U (zK zco sz9 U U 1 U (by decide)) ?_
       refine Oi U (zg yI U hp1) ?_
       refine Ow U U zgn U U U (zgv p.2 _ hps.2) ?_
       rintro v136 w136⟨e136,rfl⟩
       rw[n2]at e136
       subst e136
       refine Oi U (zC U) (Of U (E3 1 6 138 U (zb U (zT (zl (za (Om U ?_)))))))
       refine Og (zG U U (by omega)) U ?_
       refine Oa U ?_
       refine zcJ [1,6] (F':=[(1,_),(6,_)]) U ?_
       refine⟨x.m.length-(j+1),by omega,j+1,rfl,by omega,rfl,hcx,fun i p' hi h1=>?_⟩
       rcases Lg i j with h|h
       ·exact hall i p' h h1
       have:i=j:=by omega
       subst this
       rw[hp]at h1
       cases h1
       rw[n1,n2];rfl
    refine za (Om U (Od zaa U (Ol zcC U (k1.cell' (i:=7) U) (On zaF U ?_))))
    refine Og (vf (zz U U) (df (by omega))) U ?_
    refine E3 1 6 118 U (zb U ?_)
    refine zI ?_
    repeat first|refine te ?_|refine bo rfl ?_
    refine zq _ ?_
    exact⟨rfl,hcx,fun i p h=>hall i p (by have:=(Gs h).1;omega) h⟩
   rintro F wx⟨hF,hcx,hall⟩
   refine zae [1] hF ?_
   have k1:=k1.chg0 hcx
   refine Sr (Od zaa U (Ol zcC U (k1.cell' (i:=7) U) (On zaF U (Og (yc U U) U (Om U ?_)))))
   apply zc0 (t:=148)
   case h0=>
    intro H
    refine Ok U (Ok U (Ok U (Ok U (Of U ?_))))
    exact yL [144,145,146,147] U H
   case h1=>
    intro hc H
    refine Oi U (zd zaa U) (Oi U (zg zcC U (k1.cell' (i:=7) U)) (Oi U (zV zaF U) (Oi U (za7 U U) (Ot U ?_))))
    exact yL [144,145,146,147] U H
   refine Oa U (E1 2 U (zj ?_))
   repeat first|refine tr ?_|refine br ?_
   refine zw U U ?_
   refine⟨?_,hcz.trans hcx⟩
   rw[hrn,zrk hall]
   congr 1
   rw[Bool.decide_and]
   congr 1<;>rw[decide_eq_decide]<;>omega
  refine za (Og (vf (zy U U) (df q6)) U (Oa U (E2 1 112 U (zb U (zT (zl ?_))))))
  exact⟨U,U,q2,q4,q6⟩
 rintro F wy⟨hF,rfl,q2,q4,q6⟩
 refine zae [0] hF ?_
 refine Sr (Oa U (E1 2 U (zj ?_)))
 refine zw U U ?_
 exact⟨by rw[hall (fun h=>absurd h q2) (fun h=>absurd h q4) (fun h=>absurd h q6)],hcz⟩
end
structure RV where
 c:Va
 k:Va
 u:Va
 o:Va
def rtC(p:Tb×RV):LA:=[.string p.1.n,p.2.c,p.2.k,p.2.u,p.2.o]
theorem zgH(p:Tb×RV):(rtC p).length=5:=rfl
def RT(w:Wl)(p:Tb×RV):Prop:=za3 w p.2.c p.2.k p.2.u p.2.o p.1.s p.1.r
def zbX(w:Wl)(v:Va)(c:Cat):Prop:=∃L:List (Tb×RV),yl w 98 5 rtC v L∧(∀p∈L,RT w p)∧c=L.map (·.1)
section
variable {w w':Wl} {v:Va} {c:Cat} {S:List Nat}
theorem RT.chg0{p:Tb×RV}(h:RT w p)(hc:zk [] w w'):RT w' p:=za3.chg0 h hc
theorem zbX.chg0(h:zbX w v c)(hc:zk [] w w'):zbX w' v c:=let ⟨L,h1,h2,h3⟩:=h; ⟨L,h1.chg0 hc,fun p hp=>(h2 p hp).chg0 hc,h3⟩
theorem zbX.hm(g:zbX w v c)(h:Hm w S)(hc:zk S w w'):zbX w' v c:=let ⟨L,h1,h2,h3⟩:=g; ⟨L,zB.hm h1 h rfl hc,fun p hp=>za3.hm (h2 p hp) h hc,h3⟩
theorem zbX.val(h:zbX w v c):∃p q,v=.slice p c.length q∧c.length≤q:=by
 obtain⟨L,h1,_,rfl⟩:=h
 rw[List.length_map]
 exact h1.val
theorem zbX.nil(w:Wl):zbX w (.slice none 0 0) []:=⟨[],yl.nil _ _ _ _,by simp,rfl⟩
theorem zbX.at(h:zbX w v c){i:Nat}{t:Tb}(hi:c[i]?=some t):∃b off cap r,v=.slice (some ⟨b,off,none⟩) c.length cap∧zv w b (off+i*5) (rtC (t,r))∧RT w (t,r):=by
 obtain⟨L,h1,h2,rfl⟩:=h
 rw[List.getElem?_map]at hi
 cases hL:L[i]? with
 |none=>simp[hL]at hi
 |some p=>
  simp[hL]at hi
  subst hi
  obtain⟨b,off,cap,hv,hc⟩:=yl.at zgH h1 hL
  exact⟨b,off,cap,p.2,by rw[List.length_map];exact hv,hc,h2 p (Mg hL)⟩
theorem RT.one{p:Tb×RV}(h:RT w p):∀u∈rtC p,u.oneCell'=true:=by
 intro y hy
 obtain⟨q,r,hq,_⟩:=h.rws.val
 have:=za3.one h.sch q p.1.r.length r
 rw[←hq]at this
 rcases Mc hy with rfl|hy
 ·rfl
 exact this y hy
theorem RT.cells{p:Tb×RV}{b off:Nat}(h:zv w b off (rtC p)):zv w b (off+1) [p.2.c,p.2.k,p.2.u,p.2.o]:=fun j x hx=>by
 have:=h (j+1) x (by simpa[rtC] using hx)
 rwa [show off+(j+1)=off+1+j by omega]at this
end
theorem zjT(v:Va)(c:Cat)(n:By)(w:Wl)(h:zbX w v c)(hl:c.length≤1000) :
 zS TP 21 #[.agg #[v],.string n] w fun r w'=>∃i:Int,r=Ii i∧((i = -1∧atC c n=none)∨∃(j:Nat) (t:Tb),i=j∧c[j]?=some t∧atC c n=some t)∧zk [] w w':=by
 obtain⟨pv,cv,rfl,hcv⟩:=h.val
 refine A2 Tryz.func21 U U ?_
 refine Sr ?_
 refine Ob U U ?_
 intro b2 w2 e2 n2 c2 k2
 refine Oa U (E2 1 2 U ?_)
 refine zR (fun F wx=>prune [2] F=[(2,Pt b2)]∧zk [] w2 wx∧c.any (fun t=>decide (t.n=n))=false) ?_ ?_
 ·refine Sr (Oa U (E3 1 2 5 U (zp ?_)))
  refine zQ [1,2,5] (fun m F wx=>∃j:Nat,m=c.length-j∧j≤c.length∧F=[(1,.string n),(2,Pt b2),(5,Ii j)]∧zk [] w2 wx∧(c.take j).any (fun t=>decide (t.n=n))=false) (m:=c.length-0) ⟨0,U,Zl _,U,zk.refl _ _,U⟩ ?_
  rintro m F wx⟨j,rfl,hj,rfl,hcx,hok⟩
  have k2x:=k2.chg0 hcx
  refine zf (zf ?_)
  by_cases hlt:j<c.length
  ·refine za (Om U (Od yw U (Ol zbz U (k2x.cell' (i:=0) U) (On zbg U ?_))))
   refine Og (vt (zz U U) (dt (by omega))) U ?_
   refine E4 1 2 5 10 U (ze U (zm ?_))
   have hx:c[j]?=some c[j]:=by simp[hlt]
   have htk:=List.take_succ_eq_append_getElem hlt
   generalize c[j]=t at hx htk
   obtain⟨b,off,cap,r,hve,hcell,hrt⟩:=(h.chg0 (c2.trans hcx)).at hx
   cases hve
   have hn:wx.cell? ⟨b,off+j*5,none⟩=some (.string t.n):=hcell 0 _ rfl
   refine zf (zp (zf ?_))
   by_cases hk:t.n=n
   ·refine za (Od yw U (Ol zbz U (k2x.cell' (i:=0) U) (Om U ?_)))
    refine Og (zi zbg zdp U U _ U hlt) U ?_
    refine Od zdb U (Ol yI U hn (Om U (Og (vt (zaQ U U) (dt hk)) U (E4 1 2 5 20 U (ze U (Sr (Om U (Oa U (E1 4 U (zj ?_))))))))))
    repeat first|refine tr ?_|refine br ?_
    refine zw U U ?_
    exact⟨_,rfl,.inr ⟨j,t,rfl,hx,zuo hx hok (by simp[hk])⟩,c2.trans hcx⟩
   refine za (Od yw U (Ol zbz U (k2x.cell' (i:=0) U) (Om U ?_)))
   refine Og (zi zbg zdp U U _ U hlt) U ?_
   refine Od zdb U (Ol yI U hn (Om U (Og (vf (zaQ U U) (df hk)) U (E4 1 2 5 20 U (zb U (zT (zl (za (Om U ?_)))))))))
   refine Og (zG U U (by omega)) U ?_
   refine Oa U (N3 1 2 5 U ?_)
   exact⟨c.length-(j+1),by omega,j+1,rfl,by omega,rfl,hcx,by rw[htk,List.any_append,hok];simp[hk]⟩
  refine za (Om U (Od yw U (Ol zbz U (k2x.cell' (i:=0) U) (On zbg U ?_))))
  refine Og (vf (zz U U) (df (by omega))) U ?_
  refine E4 1 2 5 10 U (zb U ?_)
  refine zI ?_
  repeat first|refine te ?_|refine bo rfl ?_
  refine zq _ ?_
  rw[Tl (by omega)]at hok
  exact⟨U,hcx,hok⟩
 rintro F wx⟨hF,hcx,hok⟩
 refine zae [2] hF ?_
 refine Sr (Oa U (E1 4 U (zj ?_)))
 refine zw U U ?_
 exact⟨_,U,.inl ⟨U,znt hok⟩,c2.trans hcx⟩
def zvQ(L:List (Tb×RV))(n:By)(c k u o:Va):Prop:=
 (∃t,atC (L.map (·.1)) n=some t∧(t,(⟨c,k,u,o⟩:RV))∈L)∨(atC (L.map (·.1)) n=none∧c=zaV∧k=zaV∧u=zaV∧o=zaV)
theorem zix(v:Va)(L:List (Tb×RV))(n:By)(w:Wl)(hA:yl w 98 5 rtC v L)(hR:∀p∈L,RT w p)(hl:L.length≤1000) :
 zS TP 25 #[.agg #[v],.string n] w fun r w'=>∃a k u o,r=.tuple #[.agg #[a,k,u,o],.bool (atC (L.map (·.1)) n).isSome]∧zvQ L n a k u o∧zk [] w w':=by
 obtain⟨pv,cv,rfl,hcv⟩:=hA.val
 have h:zbX w (.slice pv L.length cv) (L.map (·.1)):=⟨L,hA,hR,rfl⟩
 refine A2 Tryz.func25 U U ?_
 refine Sr ?_
 refine Ob U U ?_
 intro b2 w2 e2 n2 c2 k2
 refine Oq (zF zg2 U U ?_)
 intro b4 w4 e4 n4 c4 k4
 refine Oa U (E3 1 2 4 U ?_)
 have k2w:zO w4 b2 48 [.slice pv L.length cv]:=k2.chg0 c4
 have hcw4:=c2.trans c4
 have hs2:=c2.size
 refine zf (Sr (Og (zh zbv zah U U (zv.of_blk0 k2w)) U (Om U ?_)))
 refine Oc ztR U U U (zjT _ _ n _ (h.chg0 hcw4) (by rw[List.length_map];exact hl)) ?_
 rintro v9 w9⟨i,rfl,hi,c9⟩
 refine Oa U (E3 2 4 6 U ?_)
 have k2x:=k2w.chg0 c9
 have k4x:=k4.chg0 c9
 have hcx:=hcw4.trans c9
 refine zf ?_
 rcases hi with⟨rfl,hat⟩|⟨j,t,rfl,hj,hat⟩
 ·refine za (Om U (Og (vf (yc U U) U) U (E4 2 4 6 11 U (zb U (zm (Sr ?_))))))
  refine Og (zL zBW zg2 U (vs:=[]) U (css:=[]) trivial U U (cs:=[_,_,_,_]) U) U ?_
  refine Oq (zt yH U U U U k4x (by simp) (by intro y hy;simp at hy;subst hy;rfl) ?_)
  intro wB nB cB kB
  refine Oa U (E2 4 5 U (zj ?_))
  refine zct U zaG yH U U U (zv.of_blk0 kB) ?_
  exact⟨_,_,_,_,by rw[hat];rfl,.inr ⟨hat,rfl,rfl,rfl,rfl⟩,hcx.own cB (by intro y hy;simp at hy;omega)⟩
 rw[List.getElem?_map]at hj
 obtain⟨p,hp,rfl⟩:=Option.map_eq_some_iff.1 hj
 have hlt:j<L.length:=(Gs hp).1
 obtain⟨b,off,cap,hve,hcell⟩:=yl.at zgH (hA.chg0 hcx) hp
 cases hve
 have hmem:=Mg hp
 refine za (Om U ?_)
 refine Og (vt (yc U U) (dt (by omega))) U ?_
 refine E4 2 4 6 11 U (ze U (Sr (Od yw U (Ol zbz U (k2x.cell' (i:=0) U) (Om U ?_)))))
 refine Og (zi zbg zdp U U _ U hlt) U ?_
 refine Od zfK U (Og (zh zaG yH U U (RT.cells hcell)) U ?_)
 refine Oq (zt yH U U U U k4x (by simp) (fun y hy=>RT.one (hR p hmem) y (List.mem_cons_of_mem _ hy)) ?_)
 intro wB nB cB kB
 refine Oa U (E2 4 5 U (zj ?_))
 repeat first|refine tr ?_|refine br ?_
 refine zct U zaG yH U U U (zv.of_blk0 kB) ?_
 exact⟨p.2.c,p.2.k,p.2.u,p.2.o,by rw[hat];rfl,.inl ⟨p.1,hat,hmem⟩,hcx.own cB (by intro y hy;simp at hy;omega)⟩
theorem yl.of{α:Type}{w:Wl}{e k n:Nat}{f:α→LA}{v:Va}{l:List α}{xs:LA}(h:zB w e k v n xs)(hn:n=l.length)(hx:xs=fl f l):yl w e k f v l:=by
 subst hn hx
 exact h
def zd1(L:List (Tb×RV))(n:By):List (Tb×RV):=L.filter fun p=>decide (p.1.n≠n)
theorem zn8(L:List (Tb×RV))(n:By):(zd1 L n).map (·.1)=zb4 (L.map (·.1)) n:=by
 unfold zd1 zb4
 rw[List.filter_map]
 rfl
theorem zhn(v:Va)(L:List (Tb×RV))(n:By)(w:Wl)(hA:yl w 98 5 rtC v L)(hR:∀p∈L,RT w p)(hl:L.length≤1000) :
 zS TP 41 #[.agg #[v],.string n] w fun r w'=>∃v',r=.agg #[v']∧yl w' 98 5 rtC v' (zd1 L n)∧zk [] w w':=by
 obtain⟨pv,cv,rfl,hcv⟩:=hA.val
 refine A2 Tryz.func41 U U ?_
 refine Sr ?_
 refine Ob U U ?_
 intro b2 w2 e2 n2 c2 k2
 refine Oq (zF zkf U U ?_)
 intro b4 w4 e4 n4 c4 k4
 refine E3 1 2 4 U ?_
 have k2w:zO w4 b2 48 [.slice pv L.length cv]:=k2.chg0 c4
 have hcw4:=c2.trans c4
 refine Sr (Oa U (E4 1 2 4 5 U ?_))
 refine zR (fun F wx=>∃x,prune [4,5] F=[(4,Pt b4),(5,x)]∧yl wx 98 5 rtC x (zd1 L n)∧(∀b∈zu x,w4.heap.size≤b)∧zk [] w4 wx) ?_ ?_
 ·refine Sr (Oa U (E5 1 2 4 5 6 U (zp ?_)))
  refine zQ [1,2,4,5,6] (fun m F wx=>∃j:Nat,m=L.length-j∧j≤L.length∧∃x:Va,F=[(1,.string n),(2,Pt b2),(4,Pt b4),(5,x),(6,Ii j)]∧yl wx 98 5 rtC x (zd1 (L.take j) n)∧(∀b∈zu x,w4.heap.size≤b)∧zk [] w4 wx) (m:=L.length-0) ⟨0,rfl,Zl _,_,rfl,yl.nil _ _ _ _,by simp[zu],zk.refl _ _⟩ ?_
  rintro m F wx⟨j,rfl,hj,x,rfl,hu,hfu,hcx⟩
  have k2x:=k2w.chg0 hcx
  have k4x:=k4.chg0 hcx
  have hcw:=hcw4.trans hcx
  refine zf (zf ?_)
  by_cases hlt:j<L.length
  ·refine za (Om U (Od yw U (Ol zbz U (k2x.cell' (i:=0) U) (On zbg U ?_))))
   refine Og (vt (zz U U) (dt (by omega))) U ?_
   refine E6 1 2 4 5 6 11 U (ze U (zm ?_))
   have hx:L[j]?=some L[j]:=by simp[hlt]
   have htk:=List.take_succ_eq_append_getElem hlt
   have hmem:=List.getElem_mem hlt
   generalize L[j]=p at hx htk hmem
   obtain⟨b,off,cap,hve,hcell⟩:=yl.at zgH (hA.chg0 hcw) hx
   cases hve
   have hn:wx.cell? ⟨b,off+j*5,none⟩=some (.string p.1.n):=hcell 0 _ rfl
   refine zf (zp (zf ?_))
   by_cases hk:p.1.n=n
   ·refine za (Od yw U (Ol zbz U (k2x.cell' (i:=0) U) (Om U ?_)))
    refine Og (zi zbg zdp U U _ U hlt) U ?_
    refine Od zdb U (Ol yI U hn (Om U ?_))
    refine Og (vf (zcj U U) (by simp[hk])) U ?_
    refine E6 1 2 4 5 6 21 U (zb U (zT (zl (za (Om U ?_)))))
    refine Og (zG U U (by omega)) U ?_
    refine Oa U (N5 1 2 4 5 6 U ?_)
    have e:zd1 (L.take (j+1)) n=zd1 (L.take j) n:=by unfold zd1;rw[htk,List.filter_append];simp[hk]
    exact⟨L.length-(j+1),by omega,j+1,rfl,by omega,x,rfl,e▸hu,hfu,hcx⟩
   refine za (Od yw U (Ol zbz U (k2x.cell' (i:=0) U) (Om U ?_)))
   refine Og (zi zbg zdp U U _ U hlt) U ?_
   refine Od zdb U (Ol yI U hn (Om U ?_))
   refine Og (vt (zcj U U) (by simp[hk])) U ?_
   refine E6 1 2 4 5 6 21 U (ze U ?_)
   have hll:(zd1 (L.take j) n).length≤1000:=by
    have:=List.length_filter_le (fun p:Tb×RV=>decide (p.1.n≠n)) (L.take j)
    unfold zd1
    rw[List.length_take]at this
    omega
   refine za (Om U (Od yw U (Ol zbz U (k2x.cell' (i:=0) U) (Om U ?_))))
   refine Og (zi zbg zdp U U _ U hlt) U ?_
   refine Og (zh zDy zdp U U hcell) U ?_
   refine Oq (zA zog U (vs:=[_]) U (css:=[_]) ⟨U,Tt⟩ U U (cs:=[_,_,_,_,_]) U U ?_)
   intro b28 w28 e28 n28 c28 k28
   refine Oq (yr zog zbg U U (zB.chg0 hu c28) (zB.of_blk (n:=1) k28 U (by simp[maxLen]) (fun y hy=>RT.one (hR p hmem) y hy)) (by simp only[maxLen];omega) (by omega) U ?_)
   intro v29 w29 i29 c29 o29 z29
   refine Oa U (N5 1 2 4 5 6 U (zl (za (Om U ?_))))
   refine Og (zG U U (by omega)) U ?_
   refine Oa U (N5 1 2 4 5 6 U ?_)
   have e:zd1 (L.take (j+1)) n=zd1 (L.take j) n++[p]:=by unfold zd1;rw[htk,List.filter_append];simp[hk]
   have hs1:=hcx.size
   have hs3:=c28.size
   refine⟨L.length-(j+1),by omega,j+1,rfl,by omega,v29,rfl,?_,yt o29 hfu (by omega),?_⟩
   ·rw[e]
    exact zN.push i29 U U
   exact(hcx.trans c28).own c29 hfu
  refine za (Om U (Od yw U (Ol zbz U (k2x.cell' (i:=0) U) (On zbg U ?_))))
  refine Og (vf (zz U U) (df (by omega))) U ?_
  refine E6 1 2 4 5 6 11 U (zb U ?_)
  refine zI ?_
  repeat first|refine te ?_|refine bo rfl ?_
  refine zq _ ?_
  rw[Tl (by omega)]at hu
  exact⟨x,U,hu,hfu,hcx⟩
 rintro F wx⟨x,hF,hu,hfu,hcx⟩
 have k4x:=k4.chg0 hcx
 have hcw:=hcw4.trans hcx
 have hs1:=c2.size
 have hs2:=hcx.size
 obtain⟨pu,qu,rfl,-⟩:=hu.val
 refine zae [4,5] hF ?_
 refine Sr (Om U ?_)
 refine Og (zL zzJ zkf U (vs:=[_]) U (css:=[_]) ⟨U,Tt⟩ U U (cs:=[_]) U) U ?_
 refine Oq (zt zah U U U U k4x (by simp) (by intro y hy;simp at hy;subst hy;rfl) ?_)
 intro wB nB cB kB
 refine E1 4 U (zj ?_)
 refine zf0 U zbv zah U U (zv.of_blk0 kB) ?_
 have hcB:zk [] w wB:=hcw.own cB (by intro y hy;simp at hy;omega)
 exact⟨_,U,hu.chg cB (zB.apart hu k4x U),hcB⟩
theorem ziQ(v:Va)(c:Cat)(n:By)(w:Wl)(h:zbX w v c)(hl:c.length≤1000) :
 zS TP 41 #[.agg #[v],.string n] w fun r w'=>∃v',r=.agg #[v']∧zbX w' v' (zb4 c n)∧zk [] w w':=by
 obtain⟨L,hA,hR,rfl⟩:=h
 rw[List.length_map]at hl
 refine zS.mono (zhn v L n w hA hR hl) ?_
 rintro r w'⟨v',rfl,h1,h2⟩
 exact⟨v',U,⟨zd1 L n,h1,fun p hp=>(hR p (List.mem_filter.1 hp).1).chg0 h2,(zn8 L n).symm⟩,h2⟩
theorem zjn(v:Va)(c:Cat)(t:Tb)(r:RV)(w:Wl)(h:zbX w v c)(hl:c.length≤1000)(ht:RT w (t,r)) :
 zS TP 40 #[.agg #[v],.string t.n,.agg #[r.c,r.k,r.u,r.o]] w fun r w'=>∃v',r=.agg #[v']∧zbX w' v' (zcy c t)∧zk [] w w':=by
 obtain⟨L0,hA0,hR0,rfl⟩:=h
 rw[List.length_map]at hl
 obtain⟨pv,cv,rfl,hcv⟩:=hA0.val
 obtain⟨a,k,u,o⟩:=r
 refine A3 Tryz.func40 U U ?_
 refine Sr ?_
 refine Ob U U ?_
 intro b3 w3 e3 n3 c3 k3
 refine Ob U U ?_
 intro b5 w5 e5 n5 c5 k5
 refine Oq (zF zkf U U ?_)
 intro b6 w6 e6 n6 c6 k6
 refine E4 1 3 5 6 U ?_
 have k3w:zO w6 b3 48 [.slice pv L0.length cv]:=(k3.chg0 c5).chg0 c6
 have k5w:zO w6 b5 67 [a,k,u,o]:=k5.chg0 c6
 have hcw6:=(c3.trans c5).trans c6
 have hs3:=c3.size
 have hs5:=c5.size
 have hs6:=c6.size
 refine Sr (Og (zh zbv zah U U (zv.of_blk0 k3w)) U (Om U ?_))
 refine Oc zyO U U U (zhn _ L0 t.n _ (hA0.chg0 hcw6) (fun p hp=>(hR0 p hp).chg0 hcw6) hl) ?_
 rintro v12 w12⟨v1,rfl,h12,c12⟩
 obtain⟨p1,q1,rfl,hq1⟩:=h12.val
 refine Oq (zF zkf U U ?_)
 intro b7 w7 e7 n7 c7 k7
 refine Oq (zt zah U U U U k7 (by simp) (by intro y hy;simp at hy;subst hy;rfl) ?_)
 intro wA nA cA kA
 refine E4 1 5 6 7 U ?_
 have hs12:=c12.size
 have hs7:=c7.size
 have hcA:zk [] w6 wA:=(c12.trans c7).own cA (by intro y hy;simp at hy;omega)
 have hwA:zk [] w12 wA:=c7.own cA (by intro y hy;simp at hy;omega)
 have hA:=h12.chg0 hwA
 have hL:=zn8 L0 t.n
 have hl1:(zd1 L0 t.n).length≤1000:=Nat.le_trans (List.length_filter_le _ _) hl
 have hR:∀p∈zd1 L0 t.n,RT w p:=fun p hp=>hR0 p (List.mem_filter.1 hp).1
 generalize zd1 L0 t.n=L at hA kA hq1 hL hl1 hR
 have kA:zO wA b7 48 [.slice p1 L.length q1]:=kA
 refine Sr (Oa U (E5 1 5 6 7 8 U ?_))
 refine zR (fun F wx=>∃j:Nat,prune [1,5,6,7,8] F=[(1,.string t.n),(5,Pt b5),(6,Pt b6),(7,Pt b7),(8,Ii j)]∧j≤L.length∧L.takeWhile (fun p=>blt p.1.n t.n)=L.take j∧L.dropWhile (fun p=>blt p.1.n t.n)=L.drop j∧zk [] wA wx) ?_ ?_
 ·refine zp ?_
  refine zQ [1,5,6,7,8] (fun m F wx=>∃j:Nat,m=L.length-j∧j≤L.length∧F=[(1,.string t.n),(5,Pt b5),(6,Pt b6),(7,Pt b7),(8,Ii j)]∧(L.take j).all (fun p=>blt p.1.n t.n)=true∧zk [] wA wx) (m:=L.length-0) ⟨0,U,Zl _,U,U,zk.refl _ _⟩ ?_
  rintro m F wx⟨j,rfl,hj,rfl,hok,hcx⟩
  have k7x:=kA.chg0 hcx
  refine zf (zf ?_)
  by_cases hlt:j<L.length
  ·have hx:L[j]?=some L[j]:=by simp[hlt]
   have htk:=List.take_succ_eq_append_getElem hlt
   generalize L[j]=p at hx htk
   obtain⟨b,off,cap,hve,hcell⟩:=yl.at zgH (hA.chg0 hcx) hx
   cases hve
   have hn:wx.cell? ⟨b,off+j*5,none⟩=some (.string p.1.n):=hcell 0 _ rfl
   cases hb:blt p.1.n t.n with
   |true=>
    refine za (Om U (Od yw U (Ol zbz U (k7x.cell' (i:=0) U) (On zbg U ?_))))
    refine Og (vt (zz U U) (dt (by omega))) U ?_
    refine Om U (Oi U (zd yw U) (Oi U (zg zbz U (k7x.cell' (i:=0) U)) (Ov U ?_)))
    refine Oi U (zi zbg zdp U U _ U hlt) ?_
    refine Oi U (zd zdb U) (Oi U (zg yI U hn) (Ov U (Oi U (vt (ziy U U) hb) (Ot U (E6 1 5 6 7 8 27 U (ze U (zm (zp (za (Om U ?_))))))))))
    refine Og (zG U U (by omega)) U ?_
    refine Oa U (N5 1 5 6 7 8 U (zl ?_))
    exact⟨L.length-(j+1),by omega,j+1,rfl,by omega,rfl,by rw[htk,List.all_append,hok];simp[hb],hcx⟩
   |false=>
    refine za (Om U (Od yw U (Ol zbz U (k7x.cell' (i:=0) U) (On zbg U ?_))))
    refine Og (vt (zz U U) (dt (by omega))) U ?_
    refine Om U (Oi U (zd yw U) (Oi U (zg zbz U (k7x.cell' (i:=0) U)) (Ov U ?_)))
    refine Oi U (zi zbg zdp U U _ U hlt) ?_
    refine Oi U (zd zdb U) (Oi U (zg yI U hn) (Ov U (Oi U (vf (ziy U U) hb) (Ot U (E6 1 5 6 7 8 27 U (zb U ?_))))))
    refine zI ?_
    repeat first|refine te ?_|refine bo rfl ?_
    refine zq _ ?_
    have e:=znC (p:=fun p:Tb×RV=>blt p.1.n t.n) hj hok (fun y hy=>by rw[hx]at hy;cases hy;exact hb)
    exact⟨j,U,hj,e.1,e.2,hcx⟩
  refine za (Om U (Od yw U (Ol zbz U (k7x.cell' (i:=0) U) (On zbg U ?_))))
  refine Og (vf (zz U U) (df (by omega))) U ?_
  refine Om U ?_
  iterate 8 refine Ok U ?_
  refine Of U (E6 1 5 6 7 8 27 U (zb U ?_))
  refine zI ?_
  repeat first|refine te ?_|refine bo rfl ?_
  refine zq _ ?_
  have e:=znC (p:=fun p:Tb×RV=>blt p.1.n t.n) hj hok (fun y hy=>by rw[List.getElem?_eq_none (by omega)]at hy;cases hy)
  exact⟨j,U,hj,e.1,e.2,hcx⟩
 rintro F wx⟨j,hF,hj,hT,hD,hcx⟩
 refine zae [1,5,6,7,8] hF ?_
 have k7x:=kA.chg0 hcx
 have k5x:=(k5w.chg0 hcA).chg0 hcx
 have k6x:=(k6.chg0 hcA).chg0 hcx
 have hcw:=(hcw6.trans hcA).trans hcx
 have hsA:=hcA.size
 have hsx:=hcx.size
 have hd1:∀{wz:Wl},zk [] wA wz→Rd wz 5 (cut p1 0 j q1 5) j (fl rtC (L.take j)):=fun hc=>by
  have h2:=zN.take (m:=q1) zgH (yl.chg0 hA hc).arr hj (by omega) (Nat.le_refl _)
  unfold zN at h2
  rw[List.length_take,Nat.min_eq_left hj]at h2
  exact h2
 have hd2:∀{wz:Wl},zk [] wA wz→Rd wz 5 (cut p1 j L.length q1 5) (L.length-j) (fl rtC (L.drop j)):=fun hc=>by
  have h2:=zN.drop zgH (yl.chg0 hA hc).arr hj hq1
  unfold zN at h2
  rw[List.length_drop]at h2
  exact h2
 refine Sr ?_
 refine Oq (zA zog U (vs:=[]) U (css:=[]) trivial U U (cs:=[]) U U ?_)
 intro b30 w30 e30 n30 c30 k30
 refine Od yw U (Ol zbz U ((k7x.chg0 c30).cell' (i:=0) U) (Om U ?_))
 refine Og (zbq zbg zdp U U _ U (by omega)) U ?_
 refine Oq (zcA zog zbg U U (zB.of_blk (n:=0) k30 (by simp) (by simp[maxLen]) (by simp)) (hd1 (hcx.trans c30)) (by simp only[maxLen];omega) (by omega) U ?_)
 intro v35 w35 i35 c35 o35 z35
 refine Oa U (E6 1 5 6 7 8 9 U ?_)
 have hs4:=c30.size
 have f30:∀x∈zu (.slice (some ⟨b30,0,none⟩) 0 0),wx.heap.size≤x:=by intro x hx;simp[zu]at hx;omega
 have f35:=yt o35 f30 (by omega)
 have hc35:=c30.own c35 f30
 have hs5':=hc35.size
 have hdr:w35.drew.heap.size=w35.heap.size:=rfl
 refine zf ?_
 refine zH (fun wz=>zk [] wx wz) mix (by kernel_rfl) (hc35.trans (zk.drew [] _)) ?_
 refine Tm U (Tm U (Tr (fun wz hz=>zh zaG yH U U (zv.of_blk0 (k5x.chg0 hz))) U ?_))
 refine Tp (fun _=>zL zC5 zB3 U (vs:=[_,_]) U (css:=[_,_]) ⟨U,U,Tt⟩ U U (cs:=[_,_,_,_,_]) U) U ?_
 refine zaR U (gn U) (zA zog U (vs:=[_]) U (css:=[_]) ⟨U,Tt⟩ U U (cs:=[_,_,_,_,_]) U U ?_)
 intro b40 w40 e40 n40 c40 k40
 refine⟨.inl ((hc35.trans (zk.drew [] _)).trans c40),?_⟩
 refine zaR U (gn U) (yr zog zbg U U (zB.chg0 i35 ((zk.drew [] _).trans c40)) (zB.of_blk (n:=1) k40 U (by simp[maxLen]) (fun y hy=>RT.one ht y hy)) (by simp only[maxLen];omega) (by omega) U ?_)
 intro v41 w41 i41 c41 o41 z41
 have z40:=c40.size
 have H41:zk [] wx w41:=((hc35.trans (zk.drew [] _)).trans c40).own c41 f35
 have z41:=c41.size
 have f41:=yt o41 f35 (by omega)
 refine⟨.inl H41,?_⟩
 refine Td yw U (Tr (fun wz hz=>zg zbz U ((k7x.chg0 hz).cell' (i:=0) U)) U (Tm U ?_))
 refine Tp (fun _=>zbe zbg zdp U U _ U (by omega)) U ?_
 refine zaR U (gn U) (zcA zog zbg U U i41 (hd2 (hcx.trans H41)) (by simp only[maxLen];omega) (by omega) U ?_)
 intro v46 w46 i46 c46 o46 z46
 have H46:zk [] wx w46:=H41.own c46 f41
 have f46:=yt o46 f41 (by omega)
 obtain⟨p46,q46,rfl,-⟩:=id (zB.val i46)
 refine⟨.inl H46,?_⟩
 refine Tp (fun _=>zL zzJ zkf U (vs:=[_]) U (css:=[_]) ⟨U,Tt⟩ U U (cs:=[_]) U) U ?_
 refine zaR U (gn U) (zt zah U U U U (k6x.chg0 H46) (by simp) (by intro y hy;simp at hy;subst hy;rfl) ?_)
 intro wB nB cB kB
 refine⟨.inr (by kernel_rfl),?_⟩
 refine D1 6 U (zj ?_)
 refine zf0 U zbv zah U U (zv.of_blk0 kB) ?_
 have hcB:zk [] w wB:=(hcw.trans H46).own cB (by intro y hy;simp at hy;omega)
 have hS:yl w46 98 5 rtC (.slice p46 (0+j+1+(L.length-j)) q46) (L.take j++[(t,⟨a,k,u,o⟩)]++L.drop j):=yl.of i46 (by simp;omega) (by rw[zik,zik,show fl rtC [(t,(⟨a,k,u,o⟩:RV))]=rtC (t,⟨a,k,u,o⟩) by simp[fl],List.nil_append];rfl)
 refine⟨_,U,⟨_,hS.chg cB (zB.apart i46 (k6x.chg0 H46) U),fun p hp=>?_,?_⟩,hcB⟩
 ·rcases List.mem_append.1 hp with hp|hp
  ·rcases List.mem_append.1 hp with hp|hp
   ·exact(hR p (List.mem_of_mem_take hp)).chg0 hcB
   rw[List.mem_singleton]at hp
   subst hp
   exact RT.chg0 ht hcB
  exact(hR p (List.mem_of_mem_drop hp)).chg0 hcB
 unfold zcy zrd
 rw[←hL,List.takeWhile_map,List.dropWhile_map]
 rw[show ((fun x:Tb=>blt x.n t.n) ∘ fun x:Tb×RV=>x.1)=fun p=>blt p.1.n t.n from rfl,hT,hD]
 simp
theorem zpP(t:Tb)(r:RV)(v:Va)(l:List zX)(w:Wl)(h:RT w (t,r))(hl:ya w v l)(hg:∀x∈l,x.Rng) :
 zS TP 77 #[.agg #[r.c,r.k,r.u,r.o],v] w fun r w'=>r=.bool (zft t l)∧zk [] w w':=by
 obtain⟨c,k,u,o⟩:=r
 have h:za3 w c k u o t.s t.r:=h
 obtain⟨po,co,rfl,hco⟩:=h.rws.val
 refine A2 Tryz.func77 U U ?_
 refine Sr ?_
 refine Ob U U ?_
 intro b2 w2 e2 n2 c2 k2
 refine Oa U (E2 1 2 U ?_)
 have k2:zO w2 b2 67 [c,k,u,.slice po t.r.length co]:=k2
 refine zf (zf ?_)
 by_cases hf:zaf t.s l=0
 ·refine za (Od zeF U ?_)
  refine Og (zh zaX zaS U U (zv.of_blk k2 0 [c,k,u] ⟨[_],U⟩)) U ?_
  refine Om U ?_
  refine Oc zvi U U U (zqJ _ _ _ _ t.s l _ (h.sch.chg0 c2) (zN.chg0 hl c2) h.nm) ?_
  rintro v9 w9⟨rfl,c9⟩
  refine Og (vf (zJ U U) (by simp[hf])) U ?_
  refine E3 1 2 10 U (zb U (zm ?_))
  have k2x:=k2.chg0 c9
  have hcx:=c2.trans c9
  have hce:∀{wz:Wl},zk [] w9 wz→za3 wz c k u (.slice po t.r.length co) t.s t.r∧ya wz v l:=fun hc=>⟨h.chg0 (hcx.trans hc),zN.chg0 hl (hcx.trans hc)⟩
  refine zf ?_
  refine zH (fun wz=>zk [] w9 wz) mix (by kernel_rfl) (zk.drew [] w9) ?_
  refine Tr (fun wz hz=>zh zaG yH U U (zv.of_blk0 (k2x.chg0 hz))) U (Tr (fun wz hz=>zh zaG yH U U (zv.of_blk0 (k2x.chg0 hz))) U (Tm U ?_))
  refine Tc zis U U U (zdH _ _ _ _ _ t.s t.r l _ (hce (zk.drew [] _)).1 (hce (zk.drew [] _)).2 hf hg) ?_
  rintro v14 w14⟨rfl,c14⟩
  refine⟨.inl ((zk.drew [] _).trans c14),?_⟩
  refine Tc zxL U U U (zpG _ _ _ _ t.s t.r (z9 t.s l) _ (hce ((zk.drew [] _).trans c14)).1) ?_
  rintro v15 w15⟨i,rfl,hi,c15⟩
  refine⟨.inl (((zk.drew [] _).trans c14).trans c15),?_⟩
  refine Ta U (D3 1 2 5 U ?_)
  have hc15:zk [] w9 w15:=((zk.drew [] _).trans c14).trans c15
  have k2y:=k2x.chg0 hc15
  refine zf ?_
  rcases hi with⟨rfl,hat⟩|⟨j,x,rfl,hj,hat⟩
  ·refine za (Om U (Og (vf (yc U U) U) U (Om U ?_)))
   iterate 7 refine Ok U ?_
   refine Of U (Oa U (E1 4 U (zj ?_)))
   refine zw U U ?_
   exact⟨by simp[zft,hat],hcx.trans hc15⟩
  have hlt:j<t.r.length:=(Gs hj).1
  obtain⟨b,off,cap,vr,hve,hcell,hvr⟩:=((hce hc15).1.rws).at hj
  cases hve
  have hxl:x.length≤1048576:=by
   have h1:=(zas (h.ok.fit x (Mg hj))).2.1
   have:=(zZ (zas hf).1).1.2
   omega
  refine za (Om U ?_)
  refine Og (vt (yc U U) (dt (by omega))) U ?_
  refine Om U (Oi U (zd zar U) (Oi U (zg zc9 U (k2y.cell' (i:=3) U)) (Ov U ?_)))
  refine Oi U (zi zbZ zeg U U _ U hlt) ?_
  refine Oi U (zg yU U hcell) (Ov U ?_)
  refine Ow U U zzy U U U (zoz _ _ x l _ (yl.arr hvr) (hce hc15).2 hxl) ?_
  rintro v25 w25⟨rfl,c25⟩
  refine Ot U (Oa U (E1 4 U (zj ?_)))
  refine zw U U ?_
  exact⟨by simp[zft,hat,hf],(hcx.trans hc15).trans c25⟩
 refine za (Od zeF U ?_)
 refine Og (zh zaX zaS U U (zv.of_blk k2 0 [c,k,u] ⟨[_],U⟩)) U ?_
 refine Om U ?_
 refine Oc zvi U U U (zqJ _ _ _ _ t.s l _ (h.sch.chg0 c2) (zN.chg0 hl c2) h.nm) ?_
 rintro v9 w9⟨rfl,c9⟩
 refine Og (vt (zJ U U) (by simp[hf])) U ?_
 refine E3 1 2 10 U (ze U (Sr (Oa U (E1 4 U (zj ?_)))))
 repeat first|refine tr ?_|refine br ?_
 refine zw U U ?_
 exact⟨by simp[zft,hf],c2.trans c9⟩
theorem zuI{t:Tb}{l:List zX}(h:zft t l=true):zaf t.s l=0:=by
 simp only[zft,Bool.and_eq_true,decide_eq_true_eq]at h
 exact h.1
theorem zrW(t:Tb)(r:RV)(e:EvV)(x:EvT)(w:Wl)(h:RT w (t,r))(hx:zbj w e x) :
 zS TP 42 #[.agg #[r.c,r.k,r.u,r.o],.agg (evC x e).toArray] w fun q w'=>∃o',q=.tuple #[.agg #[r.c,r.k,r.u,o'],Ii (zcR t x)]∧za3 w' r.c r.k r.u o' t.s (zcd t x)∧zk [] w w':=by
 obtain⟨c,k,u,o⟩:=r
 have h:za3 w c k u o t.s t.r:=h
 obtain⟨po,co,rfl,hco⟩:=h.rws.val
 refine A2 Tryz.func42 U U ?_
 refine Sr ?_
 refine Ob U U ?_
 intro b2 w2 e2 n2 c2 k2
 refine Ob U U ?_
 intro b3 w3 e3 n3 c3 k3
 refine Oq (zF zg2 U U ?_)
 intro b4 w4 e4 n4 c4 k4
 refine Oa U (E3 2 3 4 U ?_)
 have hs2:=c2.size
 have hs3:=c3.size
 have hs4:=c4.size
 have hcw:=(c2.trans c3).trans c4
 have k2:zO w4 b2 67 [c,k,u,.slice po t.r.length co]:=(k2.chg0 c3).chg0 c4
 have k3:zO w4 b3 39 (evC x e):=k3.chg0 c4
 refine Sr (Od zbA U (Ol zeI U (k3.cell' (i:=0) U) (Oa U (E4 2 3 4 6 U (zf (zf ?_))))))
 by_cases h1:x.k=1
 ·refine za (Om U (Og (vt (zy U U) (dt h1)) U (E5 2 3 4 6 13 U (ze U (Sr (Og (zh zaG yH U U (zv.of_blk0 k2)) U (Od zaY U (Ol yU U (k3.cell' (i:=6) U) ?_))))))))
  refine Oc zDr U U U (ztd _ _ _ _ _ t.s t.r x.w _ (h.chg0 hcw) (hx.chg0 hcw).new hx.rw) ?_
  rintro v17 w17⟨o',rfl,h17,c17⟩
  obtain⟨p17,q17,rfl,-⟩:=h17.rws.val
  refine Oe U U (Oe U U ?_)
  refine Oq (zt yH U U U U (k4.chg0 c17) (by simp) (za3.one h17.sch _ _ _) ?_)
  intro wB nB cB kB
  refine Oa U (E2 4 5 U (zj ?_))
  repeat first|refine tr ?_|refine br ?_
  refine zct U zaG yH U U U (zv.of_blk0 kB) ?_
  have hcB:zk [] w wB:=(hcw.trans c17).own cB (by intro y hy;simp at hy;omega)
  exact⟨_,by simp only[zcR,if_pos h1];rfl,⟨h.sch.chg0 hcB,by simp only[zcd,if_pos h1];exact h17.rws.chgB (k4.chg0 c17) U U cB,by simp only[zcd,if_pos h1];exact h17.ok,h.nm⟩,hcB⟩
 refine za (Om U (Og (vf (zy U U) (df h1)) U (E5 2 3 4 6 13 U (zb U (zm (zf (zf ?_)))))))
 cases ho:zft t x.o with
 |false=>
  refine za (Og (zh zaG yH U U (zv.of_blk0 k2)) U (Od y6 U (Ol yU U (k3.cell' (i:=5) U) ?_)))
  refine Oc zAs U U U (zpP t ⟨c,k,u,_⟩ _ x.o _ (h.chg0 hcw) (hx.chg0 hcw).old hx.ro) ?_
  rintro v23 w23⟨e23,c23⟩
  rw[ho]at e23
  subst e23
  refine Og (zC U) U (E5 2 3 4 6 24 U (ze U (Sr (Og (zh zaG yH U U (zv.of_blk0 (k2.chg0 c23))) U ?_))))
  refine Oq (zt yH U U U U (k4.chg0 c23) (by simp) (za3.one h.sch _ _ _) ?_)
  intro wB nB cB kB
  refine Oa U (E2 4 5 U (zj ?_))
  repeat first|refine tr ?_|refine br ?_
  refine zct U zaG yH U U U (zv.of_blk0 kB) ?_
  have hcB:zk [] w wB:=(hcw.trans c23).own cB (by intro y hy;simp at hy;omega)
  exact⟨.slice po t.r.length co,by simp only[zcR,if_neg h1,ho,if_true];rfl,by simp only[zcd,if_neg h1,ho,if_true];exact h.chg0 hcB,hcB⟩
 |true=>
 refine za (Og (zh zaG yH U U (zv.of_blk0 k2)) U (Od y6 U (Ol yU U (k3.cell' (i:=5) U) ?_)))
 refine Oc zAs U U U (zpP t ⟨c,k,u,_⟩ _ x.o _ (h.chg0 hcw) (hx.chg0 hcw).old hx.ro) ?_
 rintro v23 w23⟨e23,c23⟩
 rw[ho]at e23
 subst e23
 refine Og (zC U) U (E5 2 3 4 6 24 U (zb U (zm ?_)))
 have hf:=zuI ho
 have k2:=k2.chg0 c23
 have k3:=k3.chg0 c23
 have k4:=k4.chg0 c23
 have hcw:=hcw.trans c23
 have hs23:=c23.size
 have hce:∀{wz:Wl},zk [] w23 wz→za3 wz c k u (.slice po t.r.length co) t.s t.r∧zbj wz e x:=fun hc=>⟨h.chg0 (hcw.trans hc),hx.chg0 (hcw.trans hc)⟩
 refine zf (zf ?_)
 by_cases h3:x.k=3
 ·refine za (Om U (Og (vt (zy U U) (dt h3)) U (E4 2 3 4 27 U (ze U (zf ?_)))))
  refine zH (fun wz=>zk [] w23 wz) mix (by kernel_rfl) (zk.drew [] w23) ?_
  refine Tr (fun wz hz=>zh zaG yH U U (zv.of_blk0 (k2.chg0 hz))) U (Tr (fun wz hz=>zh zaG yH U U (zv.of_blk0 (k2.chg0 hz))) U (Td y6 U (Tr (fun wz hz=>zg yU U ((k3.chg0 hz).cell' (i:=5) U)) U ?_)))
  refine Tc zis U U U (zdH _ _ _ _ _ t.s t.r x.o _ (hce (zk.drew [] _)).1 (hce (zk.drew [] _)).2.old hf hx.ro) ?_
  rintro v32 w32⟨rfl,c32⟩
  refine⟨.inl ((zk.drew [] _).trans c32),?_⟩
  refine Tc zz1 U U U (zla _ _ _ _ t.s t.r (z9 t.s x.o) _ (hce ((zk.drew [] _).trans c32)).1) ?_
  rintro v33 w33⟨o',rfl,h33,f33,c33⟩
  have H33:zk [] w23 w33:=((zk.drew [] _).trans c32).trans c33
  obtain⟨p33,q33,rfl,-⟩:=h33.rws.val
  refine⟨.inl H33,?_⟩
  refine zaR U (gn U) (zt yH U U U U (k4.chg0 H33) (by simp) (za3.one h33.sch _ _ _) ?_)
  intro wB nB cB kB
  refine⟨.inr (by kernel_rfl),?_⟩
  refine Ta U (D2 4 5 U (zj ?_))
  repeat first|refine tr ?_|refine br ?_
  refine zct U zaG yH U U U (zv.of_blk0 kB) ?_
  have hcB:zk [] w wB:=(hcw.trans H33).own cB (by intro y hy;simp at hy;omega)
  exact⟨_,by simp only[zcR,if_neg h1,ho,if_pos h3];rfl,⟨h.sch.chg0 hcB,by simp only[zcd,if_neg h1,ho,if_pos h3];exact h33.rws.chgB (k4.chg0 H33) U U cB,by simp only[zcd,if_neg h1,ho,if_pos h3];exact h33.ok,h.nm⟩,hcB⟩
 refine za (Om U (Og (vf (zy U U) (df h3)) U (E4 2 3 4 27 U (zb U (zm ?_)))))
 refine zR (fun F wx=>∃(b7:Nat) (p q:_),F=[(4,Pt b4),(7,Pt b7),(9,Ii (zdn t.s t.r (z9 t.s x.o) x.w))]∧zO wx b7 67 [c,k,u,.slice p (updR t.s t.r (z9 t.s x.o) x.w).length q]∧zam wx (.slice p (updR t.s t.r (z9 t.s x.o) x.w).length q) (updR t.s t.r (z9 t.s x.o) x.w)∧yW t.s (updR t.s t.r (z9 t.s x.o) x.w)∧zk [] w23 wx) ?_ ?_
 ·have hC:=(zk.drew [] w23)
  refine zgC (fun wz=>zk [] w23 wz) (zbK.seq [0,1,2,3,5,6] (.two 4 (zbK.seq [] (.two 7 (zbK.seq [8,9,10,11,12,13,14,15] .done) 12 (zbK.seq [7,8,9,10,11,13,14,15] .done))) 12 (zbK.seq [4,7,8,9,10,11,13,14,15] .done))) mix (by kernel_rfl) hC ?_
  refine ze0 U U (gn U) (fun wz hz=>zh zaG yH U U (zv.of_blk0 (k2.chg0 hz))) U U ?_
  refine ze0 U U (gn U) (fun wz hz=>zh zaG yH U U (zv.of_blk0 (k2.chg0 hz))) U U ?_
  refine ye U U (gn U) (fun _=>zd y6 U) U U ?_
  refine ze0 U U (gn U) (fun wz hz=>zg yU U ((k3.chg0 hz).cell' (i:=5) U)) U U ?_
  refine ye U U (gn U) (fun _=>zd zaY U) U U ?_
  refine ze0 U U (gn U) (fun wz hz=>zg yU U ((k3.chg0 hz).cell' (i:=6) U)) U U ?_
  refine zge ?_ ?_
  ·refine zaC U U (gn U) (yX zis U U U U (zdH _ _ _ _ _ t.s t.r x.o _ (hce hC).1 (hce hC).2.old hf hx.ro) ?_)
   rintro v39 w39⟨rfl,c39⟩
   have hN39:=hC.size
   have hC:=hC.trans c39
   refine⟨.inl hC,?_⟩
   refine zge ?_ ?_
   ·refine zaC U U (gn U) (yX zx1 U U U U (zkn _ _ _ _ _ t.s t.r (z9 t.s x.o) x.w _ (hce hC).1 (hce hC).2.new hx.rw) ?_)
    rintro v42 w42⟨o',x',rfl,g42,h42,c42⟩
    obtain⟨p42,q42,rfl,-⟩:=h42.rws.val
    have hN42:=hC.size
    have hC:=hC.trans c42
    refine⟨.inl hC,?_⟩
    refine ye U U (gn U) (fun _=>zav U) U U ?_
    refine ye U U (gn U) (fun _=>zM U U) U U ?_
    refine ye U U (gn U) (fun _=>zM U U) U U ?_
    refine ye U U (gn U) (fun _=>zM U U) U U ?_
    refine zaC U U (gn U) (zF zg2 U U ?_)
    intro b7 w7 e7 n7 c7 k7
    have hN7:=hC.size
    have hC:=hC.trans c7
    have h42:=h42.chg0 c7
    refine⟨.inl hC,?_⟩
    refine zaC U U (gn U) (zt yH U U U U k7 (by simp) (za3.one h42.sch _ _ _) ?_)
    intro wA nA cA kA
    have hC:=hC.own cA (by intro y hy;simp at hy;omega)
    refine⟨.inl hC,?_⟩
    refine ye U U (gn U) (fun _=>yg U) U U ?_
    refine ye U U (gn U) (fun _=>yg U) U U ?_
    refine zd2 [4,7,9] (F':=[(4,_),(7,_),(9,_)]) U ?_
    exact⟨b7,p42,q42,U,kA,h42.rws.chgB k7 U U cA,h42.ok,hC⟩
   refine zaC U U (gn U) (zF zg2 U U ?_)
   intro b7 w7 e7 n7 c7 k7
   have hN7:=hC.size
   have hC:=hC.trans c7
   refine⟨.inl hC,?_⟩
   refine zaC U U (gn U) (yX zx1 U U U U (zkn _ _ _ _ _ t.s t.r (z9 t.s x.o) x.w _ (hce hC).1 (hce hC).2.new hx.rw) ?_)
   rintro v42 w42⟨o',x',rfl,g42,h42,c42⟩
   obtain⟨p42,q42,rfl,-⟩:=h42.rws.val
   have hN42:=hC.size
   have hC:=hC.trans c42
   have k7:=k7.chg0 c42
   refine⟨.inl hC,?_⟩
   refine ye U U (gn U) (fun _=>zav U) U U ?_
   refine ye U U (gn U) (fun _=>zM U U) U U ?_
   refine ye U U (gn U) (fun _=>zM U U) U U ?_
   refine ye U U (gn U) (fun _=>zM U U) U U ?_
   refine zaC U U (gn U) (zt yH U U U U k7 (by simp) (za3.one h42.sch _ _ _) ?_)
   intro wA nA cA kA
   have hC:=hC.own cA (by intro y hy;simp at hy;omega)
   refine⟨.inl hC,?_⟩
   refine ye U U (gn U) (fun _=>yg U) U U ?_
   refine ye U U (gn U) (fun _=>yg U) U U ?_
   refine zd2 [4,7,9] (F':=[(4,_),(7,_),(9,_)]) U ?_
   exact⟨b7,p42,q42,U,kA,h42.rws.chgB k7 U U cA,h42.ok,hC⟩
  refine zaC U U (gn U) (zF zg2 U U ?_)
  intro b7 w7 e7 n7 c7 k7
  have hN7:=hC.size
  have hC:=hC.trans c7
  refine⟨.inl hC,?_⟩
  refine zaC U U (gn U) (yX zis U U U U (zdH _ _ _ _ _ t.s t.r x.o _ (hce hC).1 (hce hC).2.old hf hx.ro) ?_)
  rintro v39 w39⟨rfl,c39⟩
  have hN39:=hC.size
  have hC:=hC.trans c39
  have k7:=k7.chg0 c39
  refine⟨.inl hC,?_⟩
  refine zaC U U (gn U) (yX zx1 U U U U (zkn _ _ _ _ _ t.s t.r (z9 t.s x.o) x.w _ (hce hC).1 (hce hC).2.new hx.rw) ?_)
  rintro v42 w42⟨o',x',rfl,g42,h42,c42⟩
  obtain⟨p42,q42,rfl,-⟩:=h42.rws.val
  have hN42:=hC.size
  have hC:=hC.trans c42
  have k7:=k7.chg0 c42
  refine⟨.inl hC,?_⟩
  refine ye U U (gn U) (fun _=>zav U) U U ?_
  refine ye U U (gn U) (fun _=>zM U U) U U ?_
  refine ye U U (gn U) (fun _=>zM U U) U U ?_
  refine ye U U (gn U) (fun _=>zM U U) U U ?_
  refine zaC U U (gn U) (zt yH U U U U k7 (by simp) (za3.one h42.sch _ _ _) ?_)
  intro wA nA cA kA
  have hC:=hC.own cA (by intro y hy;simp at hy;omega)
  refine⟨.inl hC,?_⟩
  refine ye U U (gn U) (fun _=>yg U) U U ?_
  refine ye U U (gn U) (fun _=>yg U) U U ?_
  refine zd2 [4,7,9] (F':=[(4,_),(7,_),(9,_)]) U ?_
  exact⟨b7,p42,q42,U,kA,h42.rws.chgB k7 U U cA,h42.ok,hC⟩
 rintro F wx⟨b7,p42,q42,rfl,kA,hv42,ok42,H7⟩
 have hs7:=H7.size
 refine Sr (Og (zh zaG yH U U (zv.of_blk0 kA)) U (Om U ?_))
 refine Oq (zt yH U U U U (k4.chg0 H7) (by simp) (za3.one h.sch _ _ _) ?_)
 intro wC nC cC kC
 refine Oa U (E2 4 5 U (zj ?_))
 refine zct U zaG yH U U U (zv.of_blk0 kC) ?_
 have hcB:zk [] w wC:=(hcw.trans H7).own cC (by intro y hy;simp at hy;omega)
 exact⟨_,by simp only[zcR,if_neg h1,ho,if_neg h3];rfl,⟨h.sch.chg0 hcB,by simp only[zcd,if_neg h1,ho,if_neg h3];exact hv42.chgB (k4.chg0 H7) U U cC,by simp only[zcd,if_neg h1,ho,if_neg h3];exact ok42,h.nm⟩,hcB⟩
theorem zkz{m:List (By×By)}{i:Nat}{p q:By×By}(hp:m[i]?=some p)(h:(m.take i).any (fun o=>decide (o.1=q.1))=false)(hne:q.1≠p.1):(m.take (i+1)).any (fun o=>decide (o.1=q.1))=false:=by
 obtain⟨hl,rfl⟩:=Gs hp
 rw[List.take_succ_eq_append_getElem hl,List.any_append,h]
 simp only[List.any_cons,List.any_nil,Bool.or_false,Bool.false_or,decide_eq_false_iff_not]
 exact fun e=>hne e.symm
theorem zoc{c:Cat}{m:List (By×By)}{p:By×By}:za1 c (m++[p])=zb4 (za1 c m) p.1:=by
 unfold za1 zb4
 rw[List.filter_filter]
 refine List.filter_congr fun t _=>?_
 rw[List.any_append]
 by_cases e:p.1=t.n
 ·simp[e]
 have e':t.n≠p.1:=fun h=>e h.symm
 simp[e,e']
theorem zrm{c:Cat}:za1 c []=c:=List.filter_eq_self.2 fun _ _=>rfl
set_option maxHeartbeats 2000000 in
theorem zov(v vm:Va)(c:Cat)(m:List (By×By))(w:Wl)(h:zbX w v c)(hok:za0 c)(hm:zdm w vm m)(h4:m.length≤4)(hN:Lw.n≤w.heap.size) :
 zS TP 39 #[.agg #[v],vm] w fun r w'=>∃v',r=.tuple #[.agg #[v'],Ii (zeh c m)]∧zbX w' v' (if zeh c m=0 then zh0 c m else c)∧zk [] w w':=by
 obtain⟨L0,hA0,hR0,rfl⟩:=h
 have hl0:L0.length≤12:=by have:=hok.le;rwa [List.length_map]at this
 obtain⟨pv,cv,rfl,hcv⟩:=hA0.val
 obtain⟨pm,cm,rfl,hcm⟩:∃q r,vm=.slice q m.length r∧m.length≤r:=zN.val hm
 have h:zbX w (.slice pv L0.length cv) (L0.map (·.1)):=⟨L0,hA0,hR0,rfl⟩
 generalize hcc:L0.map (·.1)=c at h hok
 have hcl:=hok.le
 refine A2 Tryz.func39 U U ?_
 refine Sr ?_
 refine Ob U U ?_
 intro b2 w2 e2 n2 c2 k2
 refine Oq (zF zkf U U ?_)
 intro b4 w4 e4 n4 c4 k4
 refine Oa U (E3 1 2 4 U ?_)
 have k2:zO w4 b2 48 [.slice pv L0.length cv]:=k2.chg0 c4
 have hcw4:=c2.trans c4
 have hs2:=c2.size
 have hs4:=c4.size
 have hno:∀{wy wB:Wl} {z:Int},zk [] w4 wy→zk [b4] wy wB→zeh c m=z→z≠0→zO wB b4 48 [.slice pv L0.length cv]→∃v',Value.tuple #[.agg #[.slice pv L0.length cv],Ii z]=.tuple #[.agg #[v'],Ii (zeh c m)]∧zbX wB v' (if zeh c m=0 then zh0 c m else c)∧zk [] w wB:=fun hc hB hz h0 _=>by
  have hcB:zk [] w _:=(hcw4.trans hc).own hB (by intro y hy;simp at hy;omega)
  refine⟨_,by rw[hz],?_,hcB⟩
  rw[hz,if_neg h0]
  exact h.chg0 hcB
 refine zR (fun F wx=>prune [1,2,4] F=[(1,.slice pm m.length cm),(2,Pt b2),(4,Pt b4)]∧zk [] w4 wx∧(m.map Prod.fst).Nodup) ?_ ?_
 ·refine Sr (Oa U (E4 1 2 4 6 U (zp ?_)))
  refine zQ [1,2,4,6] (fun k F wx=>∃j:Nat,k=m.length-j∧j≤m.length∧F=[(1,.slice pm m.length cm),(2,Pt b2),(4,Pt b4),(6,Ii j)]∧((m.take j).map Prod.fst).Nodup∧zk [] w4 wx) (m:=m.length-0) ⟨0,rfl,Zl _,rfl,by simp,zk.refl _ _⟩ ?_
  rintro k F wx⟨j,rfl,hj,rfl,hnd,hcx⟩
  refine zf (zf ?_)
  by_cases hlt:j<m.length
  ·refine za (Om U (Om U (On zaF U ?_)))
   refine Og (vt (zz U U) (dt (by omega))) U ?_
   refine E5 1 2 4 6 16 U (ze U (zm ?_))
   have hq:m[j]?=some m[j]:=by simp[hlt]
   generalize m[j]=q at hq
   refine zf (zp (Sr (Oa U (E5 1 2 4 6 7 U (zp ?_)))))
   refine zQ [1,2,4,6,7] (fun k F wy=>∃i:Nat,k=j-i∧i≤j∧F=[(1,.slice pm m.length cm),(2,Pt b2),(4,Pt b4),(6,Ii j),(7,Ii i)]∧(m.take i).any (fun o=>decide (o.1=q.1))=false∧zk [] w4 wy) (m:=j-0) ⟨0,U,Zl _,U,U,hcx⟩ ?_
   rintro k F wy⟨i,rfl,hi,rfl,hany,hcy⟩
   refine zf (zf ?_)
   by_cases hlt2:i<j
   ·refine za (Om U (Om U ?_))
    refine Og (vt (zz U U) (dt (by omega))) U ?_
    refine E6 1 2 4 6 7 21 U (ze U (zm ?_))
    have hli:i<m.length:=by omega
    have hp:m[i]?=some m[i]:=by simp[hli]
    generalize m[i]=p at hp
    obtain⟨b,off,cap,hve,hcq⟩:=zN.at zbu (zN.chg0 hm (hcw4.trans hcy)) hq
    cases hve
    obtain⟨b',off',cap',hve,hcp⟩:=zN.at zbu (zN.chg0 hm (hcw4.trans hcy)) hp
    cases hve
    have q0:wy.cell? ⟨b,off+j*2,none⟩=some (.string q.1):=hcq 0 _ rfl
    have p0:wy.cell? ⟨b,off+i*2,none⟩=some (.string p.1):=hcp 0 _ rfl
    refine zf (zp (zf ?_))
    by_cases he:q.1=p.1
    ·refine zH (fun wz=>zk [] wy wz) mix (by kernel_rfl) (zk.drew [] wy) ?_
     refine Tm U (Tm U ?_)
     refine Tp (fun _=>zi zaF zcn U U _ U hlt) U ?_
     refine Tp (fun _=>zK zco sz9 U U 0 U (by decide)) U ?_
     refine Tr (fun wz hz=>zg yI U (hz.cell q0)) U (Tm U (Tm U ?_))
     refine Tp (fun _=>zi zaF zcn U U _ U hli) U ?_
     refine Tp (fun _=>zK zco sz9 U U 0 U (by decide)) U ?_
     refine Tr (fun wz hz=>zg yI U (hz.cell p0)) U (Tp (fun _=>vt (zaQ U U) (dt he)) U (D6 1 2 4 6 7 34 U (ze U (zf ?_))))
     have hcz:zk [] w4 wy.drew:=hcy.trans (zk.drew [] wy)
     refine za (Og (zh zbv zah U U (zv.of_blk0 (k2.chg0 hcz))) U ?_)
     refine Oq (zt zah U U U U (k4.chg0 hcz) (by simp) (by intro y hy;simp at hy;subst hy;rfl) ?_)
     intro wB nB cB kB
     refine Oa U (E2 4 5 U (zj ?_))
     repeat first|refine tr ?_|refine br ?_
     refine zct U zbv zah U U U (zv.of_blk0 kB) ?_
     exact hno hcz cB (zwS (znu hq (List.any_eq_true.2 ⟨p,List.mem_take_iff_getElem.2 ⟨i,by omega,(Gs hp).2⟩,dt he.symm⟩))) (by decide) kB
    refine zH (fun wz=>zk [] wy wz) mix (by kernel_rfl) (zk.drew [] wy) ?_
    refine Tm U (Tm U ?_)
    refine Tp (fun _=>zi zaF zcn U U _ U hlt) U ?_
    refine Tp (fun _=>zK zco sz9 U U 0 U (by decide)) U ?_
    refine Tr (fun wz hz=>zg yI U (hz.cell q0)) U (Tm U (Tm U ?_))
    refine Tp (fun _=>zi zaF zcn U U _ U hli) U ?_
    refine Tp (fun _=>zK zco sz9 U U 0 U (by decide)) U ?_
    refine Tr (fun wz hz=>zg yI U (hz.cell p0)) U (Tp (fun _=>vf (zaQ U U) (df he)) U (D6 1 2 4 6 7 34 U (zb U (zT (zl (za (Om U ?_)))))))
    refine Og (zG U U (by omega)) U ?_
    refine Oa U (N5 1 2 4 6 7 U ?_)
    exact⟨j-(i+1),by omega,i+1,rfl,by omega,rfl,zkz hp hany he,hcy.trans (zk.drew [] wy)⟩
   refine za (Om U (Om U ?_))
   refine Og (vf (zz U U) (df (by omega))) U ?_
   refine E6 1 2 4 6 7 21 U (zb U ?_)
   refine zI ?_
   repeat first|refine te ?_|refine bo rfl ?_
   refine zq _ ?_
   refine zl (za (Om U ?_))
   refine Og (zG U U (by omega)) U ?_
   refine Oa U (N4 1 2 4 6 U ?_)
   have:i=j:=by omega
   subst this
   exact⟨m.length-(i+1),by omega,i+1,rfl,by omega,rfl,zj7 hq hany hnd,hcy⟩
  refine za (Om U (Om U (On zaF U ?_)))
  refine Og (vf (zz U U) (df (by omega))) U ?_
  refine E5 1 2 4 6 16 U (zb U ?_)
  refine zI ?_
  repeat first|refine te ?_|refine bo rfl ?_
  refine zq _ ?_
  exact⟨rfl,hcx,by rwa [Tl (by omega)]at hnd⟩
 rintro F wx⟨hF,hcx,hND⟩
 refine zae [1,2,4] hF ?_
 have hsx:=hcx.size
 refine Sr (Og (zh zbv zah U U (zv.of_blk0 (k2.chg0 hcx))) U ?_)
 refine Oq (zF zkf U U ?_)
 intro b8 w8 e8 n8 c8 k8
 refine Oq (zt zah U U U U k8 (by simp) (by intro y hy;simp at hy;subst hy;rfl) ?_)
 intro wA nA cA kA
 refine E4 1 2 4 8 U ?_
 have hs8:=c8.size
 have kA:zO wA b8 48 [.slice pv L0.length cv]:=kA
 have hcA:zk [] w4 wA:=(hcx.trans c8).own cA (by intro y hy;simp at hy;omega)
 have hA8:zk [] wx wA:=c8.own cA (by intro y hy;simp at hy;omega)
 refine zR (fun F wy=>∃v',prune [1,2,4,8] F=[(1,.slice pm m.length cm),(2,Pt b2),(4,Pt b4),(8,Pt b8)]∧zk [] wx wy∧zO wy b8 48 [v']∧zbX wy v' (za1 c m)∧∀p∈m,(atC c p.1).isSome=true) ?_ ?_
 ·refine Sr (Oa U (E5 1 2 4 8 9 U (zp ?_)))
  refine zQ [1,2,4,8,9] (fun k F wy=>∃(j:Nat) (v':Va),k=m.length-j∧j≤m.length∧F=[(1,.slice pm m.length cm),(2,Pt b2),(4,Pt b4),(8,Pt b8),(9,Ii j)]∧zk [] wx wy∧zO wy b8 48 [v']∧zbX wy v' (za1 c (m.take j))∧∀p∈m.take j,(atC c p.1).isSome=true) (m:=m.length-0) ⟨0,_,rfl,Zl _,rfl,hA8,kA,by rw[List.take_zero,zrm];exact h.chg0 (hcw4.trans hcA),by simp⟩ ?_
  rintro k F wy⟨j,v',rfl,hj,rfl,hcy,k8,hv',hall⟩
  have hcwy:=(hcw4.trans hcx).trans hcy
  have k2y:=k2.chg0 (hcx.trans hcy)
  have k4y:=k4.chg0 (hcx.trans hcy)
  refine zf (zf ?_)
  by_cases hlt:j<m.length
  ·refine za (Om U (Om U (On zaF U ?_)))
   refine Og (vt (zz U U) (dt (by omega))) U ?_
   refine E6 1 2 4 8 9 40 U (ze U (zm ?_))
   have hq:m[j]?=some m[j]:=by simp[hlt]
   have htk:=List.take_succ_eq_append_getElem hlt
   generalize m[j]=q at hq htk
   obtain⟨b,off,cap,hve,hcq⟩:=zN.at zbu (zN.chg0 hm hcwy) hq
   cases hve
   have q0:wy.cell? ⟨b,off+j*2,none⟩=some (.string q.1):=hcq 0 _ rfl
   refine zf (zp (zf (zf ?_)))
   have hd:zk [] wy wy.drew:=zk.drew [] wy
   cases hat:atC c q.1 with
   |none=>
    refine zH (fun wz=>zk [] wy wz) mix (by kernel_rfl) hd ?_
    refine Tr (fun wz hz=>zh zbv zah U U (zv.of_blk0 (k2y.chg0 hz))) U (Tm U (Tm U ?_))
    refine Tp (fun _=>zi zaF zcn U U _ U hlt) U ?_
    refine Tp (fun _=>zK zco sz9 U U 0 U (by decide)) U ?_
    refine Tr (fun wz hz=>zg yI U (hz.cell q0)) U ?_
    refine Tc ztR U U U (zjT _ c q.1 _ ((h.chg0 hcwy).chg0 hd) (by omega)) ?_
    rintro v49 w49⟨i,rfl,hi,c49⟩
    refine⟨.inl (hd.trans c49),?_⟩
    refine Tp (fun _=>vt (zz U U) (by rcases hi with⟨rfl,_⟩|⟨_,_,_,_,h2⟩;rfl;rw[hat]at h2;cases h2)) U ?_
    refine D6 1 2 4 8 9 50 U (ze U (zf ?_))
    have hcz:zk [] wy w49:=hd.trans c49
    refine za (Og (zh zbv zah U U (zv.of_blk0 (k2y.chg0 hcz))) U ?_)
    refine Oq (zt zah U U U U (k4y.chg0 hcz) (by simp) (by intro y hy;simp at hy;subst hy;rfl) ?_)
    intro wB nB cB kB
    refine Oa U (E2 4 5 U (zj ?_))
    repeat first|refine tr ?_|refine br ?_
    refine zct U zbv zah U U U (zv.of_blk0 kB) ?_
    exact hno ((hcx.trans hcy).trans hcz) cB (zxe hND hq hat) (by decide) kB
   |some t=>
    refine zH (fun wz=>zk [] wy wz) mix (by kernel_rfl) hd ?_
    refine Tr (fun wz hz=>zh zbv zah U U (zv.of_blk0 (k2y.chg0 hz))) U (Tm U (Tm U ?_))
    refine Tp (fun _=>zi zaF zcn U U _ U hlt) U ?_
    refine Tp (fun _=>zK zco sz9 U U 0 U (by decide)) U ?_
    refine Tr (fun wz hz=>zg yI U (hz.cell q0)) U ?_
    refine Tc ztR U U U (zjT _ c q.1 _ ((h.chg0 hcwy).chg0 hd) (by omega)) ?_
    rintro v49 w49⟨i,rfl,hi,c49⟩
    refine⟨.inl (hd.trans c49),?_⟩
    refine Tp (fun _=>vf (zz U U) (by rcases hi with⟨rfl,h2⟩|⟨k,_,rfl,_,h2⟩;rw[hat]at h2;cases h2;exact df (by omega))) U ?_
    refine D6 1 2 4 8 9 50 U (zb U (zm ?_))
    have hcz:zk [] wy w49:=hd.trans c49
    have hd2:zk [] w49 w49.drew:=zk.drew [] w49
    have hrl:(za1 c (m.take j)).length≤1000:=Nat.le_trans (List.length_filter_le _ _) (by omega)
    obtain⟨pr,cr,rfl,-⟩:=hv'.val
    refine zH (fun wz=>zk [] wy wz) mix (by kernel_rfl) (hcz.trans hd2) ?_
    refine Tr (fun wz hz=>zh zbv zah U U (zv.of_blk0 (k8.chg0 hz))) U (Tm U (Tm U ?_))
    refine Tp (fun _=>zi zaF zcn U U _ U hlt) U ?_
    refine Tp (fun _=>zK zco sz9 U U 0 U (by decide)) U ?_
    refine Tr (fun wz hz=>zg yI U (hz.cell q0)) U ?_
    refine Tc zyO U U U (ziQ _ (za1 c (m.take j)) q.1 _ (hv'.chg0 (hcz.trans hd2)) hrl) ?_
    rintro v58 w58⟨v2,rfl,h58,c58⟩
    obtain⟨p58,q58,rfl,-⟩:=h58.val
    have H58:zk [] wy w58:=(hcz.trans hd2).trans c58
    refine⟨.inl H58,?_⟩
    refine zaR U (gn U) (zt zah U U U U (k8.chg0 H58) (by simp) (by intro y hy;simp at hy;subst hy;rfl) ?_)
    intro wB nB cB kB
    refine⟨.inr (by kernel_rfl),?_⟩
    refine zdI [1,2,4,8,9] (F':=[(1,_),(2,_),(4,_),(8,_),(9,_)]) U ?_
    refine zl (za (Om U ?_))
    refine Og (zG U U (by omega)) U ?_
    refine Oa U (N5 1 2 4 8 9 U ?_)
    have hB:zk [] wx wB:=(hcy.trans H58).own cB (by intro y hy;simp at hy;omega)
    have kB:zO wB b8 48 [.slice p58 (zb4 (za1 c (m.take j)) q.1).length q58]:=kB
    refine⟨m.length-(j+1),by omega,j+1,_,rfl,by omega,rfl,hB,kB,?_,fun p hp=>?_⟩
    ·rw[htk,zoc]
     exact h58.hm (Hm.rcat (k8.chg0 H58)) cB
    rw[htk]at hp
    rcases List.mem_append.1 hp with hp|hp
    ·exact hall p hp
    rw[List.mem_singleton]at hp
    subst hp
    rw[hat];rfl
  refine za (Om U (Om U (On zaF U ?_)))
  refine Og (vf (zz U U) (df (by omega))) U ?_
  refine E6 1 2 4 8 9 40 U (zb U ?_)
  refine zI ?_
  repeat first|refine te ?_|refine bo rfl ?_
  refine zq _ ?_
  rw[Tl (by omega)]at hv' hall
  exact⟨v',U,hcy,k8,hv',hall⟩
 rintro F wy⟨v1,hF,hcy,k8,hv1,hall⟩
 refine zae [1,2,4,8] hF ?_
 refine zR (fun F wz=>∃v',prune [4,8] F=[(4,Pt b4),(8,Pt b8)]∧zk [] wx wz∧zO wz b8 48 [v']∧zbX wz v' (zh0 c m)∧zeh c m=0) ?_ ?_
 ·refine Sr (Oa U (E5 1 2 4 8 10 U (zp ?_)))
  refine zQ [1,2,4,8,10] (fun k F wz=>∃(j:Nat) (v':Va),k=m.length-j∧j≤m.length∧F=[(1,.slice pm m.length cm),(2,Pt b2),(4,Pt b4),(8,Pt b8),(10,Ii j)]∧zk [] wx wz∧zO wz b8 48 [v']∧zbX wz v' (zcK c (za1 c m) (m.take j))∧∀i p,i<j→m[i]?=some p→atC (zcK c (za1 c m) (m.take i)) p.2=none) (m:=m.length-0) ⟨0,_,rfl,Zl _,rfl,hcy,k8,by rw[List.take_zero];exact hv1,by omega⟩ ?_
  rintro k F wy⟨j,v',rfl,hj,rfl,hcy,k8,hv',hfree⟩
  have hcwy:=(hcw4.trans hcx).trans hcy
  have k2y:=k2.chg0 (hcx.trans hcy)
  have k4y:=k4.chg0 (hcx.trans hcy)
  refine zf (zf ?_)
  by_cases hlt:j<m.length
  ·refine za (Om U (Om U (On zaF U ?_)))
   refine Og (vt (zz U U) (dt (by omega))) U ?_
   refine E6 1 2 4 8 10 62 U (ze U (zm ?_))
   have hq:m[j]?=some m[j]:=by simp[hlt]
   have htk:=List.take_succ_eq_append_getElem hlt
   have hmem:=List.getElem_mem hlt
   generalize m[j]=q at hq htk hmem
   obtain⟨b,off,cap,hve,hcq⟩:=zN.at zbu (zN.chg0 hm hcwy) hq
   cases hve
   have q0:wy.cell? ⟨b,off+j*2,none⟩=some (.string q.1):=hcq 0 _ rfl
   have q1:wy.cell? ⟨b,off+j*2+1,none⟩=some (.string q.2):=hcq 1 _ rfl
   have hrl:(zcK c (za1 c m) (m.take j)).length≤1000:=by
    have h1:=zmC (c:=c) (q:=za1 c m) (m:=m.take j)
    have h2:(za1 c m).length≤c.length:=List.length_filter_le _ _
    rw[List.length_take]at h1
    omega
   obtain⟨pr,cr,rfl,-⟩:=hv'.val
   refine zf (zp (zf (zf ?_)))
   have hd:zk [] wy wy.drew:=zk.drew [] wy
   cases hat:atC (zcK c (za1 c m) (m.take j)) q.2 with
   |some t=>
    refine zH (fun wz=>zk [] wy wz) mix (by kernel_rfl) hd ?_
    refine Tr (fun wz hz=>zh zbv zah U U (zv.of_blk0 (k8.chg0 hz))) U (Tm U (Tm U ?_))
    refine Tp (fun _=>zi zaF zcn U U _ U hlt) U ?_
    refine Tp (fun _=>zK zco sz9 U U 1 U (by decide)) U ?_
    refine Tr (fun wz hz=>zg yI U (hz.cell q1)) U ?_
    refine Tc ztR U U U (zjT _ _ q.2 _ (hv'.chg0 hd) hrl) ?_
    rintro v71 w71⟨i,rfl,hi,c71⟩
    refine⟨.inl (hd.trans c71),?_⟩
    refine Tp (fun _=>vt (yc U U) (by rcases hi with⟨rfl,h2⟩|⟨k,_,rfl,_,h2⟩;rw[hat]at h2;cases h2;exact dt (by omega))) U ?_
    refine D6 1 2 4 8 10 72 U (ze U (zf ?_))
    have hcz:zk [] wy w71:=hd.trans c71
    refine za (Og (zh zbv zah U U (zv.of_blk0 (k2y.chg0 hcz))) U ?_)
    refine Oq (zt zah U U U U (k4y.chg0 hcz) (by simp) (by intro y hy;simp at hy;subst hy;rfl) ?_)
    intro wB nB cB kB
    refine Oa U (E2 4 5 U (zj ?_))
    repeat first|refine tr ?_|refine br ?_
    refine zct U zbv zah U U U (zv.of_blk0 kB) ?_
    exact hno ((hcx.trans hcy).trans hcz) cB (zqy hND hall hq (by rw[hat];simp)) (by decide) kB
   |none=>
    refine zH (fun wz=>zk [] wy wz) mix (by kernel_rfl) hd ?_
    refine Tr (fun wz hz=>zh zbv zah U U (zv.of_blk0 (k8.chg0 hz))) U (Tm U (Tm U ?_))
    refine Tp (fun _=>zi zaF zcn U U _ U hlt) U ?_
    refine Tp (fun _=>zK zco sz9 U U 1 U (by decide)) U ?_
    refine Tr (fun wz hz=>zg yI U (hz.cell q1)) U ?_
    refine Tc ztR U U U (zjT _ _ q.2 _ (hv'.chg0 hd) hrl) ?_
    rintro v71 w71⟨i,rfl,hi,c71⟩
    refine⟨.inl (hd.trans c71),?_⟩
    refine Tp (fun _=>vf (yc U U) (by rcases hi with⟨rfl,_⟩|⟨_,_,_,_,h2⟩;rfl;rw[hat]at h2;cases h2)) U ?_
    refine D6 1 2 4 8 10 72 U (zb U (zm ?_))
    have hcz:zk [] wy w71:=hd.trans c71
    obtain⟨t,ht⟩:=Option.isSome_iff_exists.1 (hall q hmem)
    refine zR (fun F wz=>∃(b11:Nat) (a k u o:Va),F=[(1,.slice (some ⟨b,off,none⟩) m.length cm),(2,Pt b2),(4,Pt b4),(8,Pt b8),(10,Ii j),(11,Pt b11)]∧zO wz b11 67 [a,k,u,o]∧(t,(⟨a,k,u,o⟩:RV))∈L0∧zk [] w71 wz) ?_ ?_
    ·have hR71:∀{wz:Wl},zk [] w71 wz→∀p∈L0,RT wz p:=fun hc p hp=>(hR0 p hp).chg0 ((hcwy.trans hcz).trans hc)
     have hC:=(zk.drew [] w71)
     refine zgC (fun wz=>zk [] w71 wz) (zbK.seq [0,1,2,3,4,5] (.two 6 (zbK.seq [7,8,9,10,11,12] .done) 10 (zbK.seq [6,7,8,9,11,12] .done))) mix (by kernel_rfl) hC ?_
     refine ze0 U U (gn U) (fun wz hz=>zh zbv zah U U (zv.of_blk0 ((k2y.chg0 hcz).chg0 hz))) U U ?_
     refine ye U U (gn U) (fun _=>zav U) U U ?_
     refine ye U U (gn U) (fun _=>zav U) U U ?_
     refine ye U U (gn U) (fun _=>zi zaF zcn U U _ U hlt) U U ?_
     refine ye U U (gn U) (fun _=>zK zco sz9 U U 0 U (by decide)) U U ?_
     refine ze0 U U (gn U) (fun wz hz=>zg yI U ((hcz.trans hz).cell q0)) U U ?_
     refine zge ?_ ?_
     ·refine zaC U U (gn U) (yX zyQ U U U U (zix _ L0 q.1 _ (yl.chg0 hA0 ((hcwy.trans hcz).trans hC)) (hR71 hC) (by omega)) ?_)
      rintro v81 w81⟨a,k,u,o,rfl,hrp,c81⟩
      unfold zvQ at hrp
      rw[hcc,ht]at hrp
      have hrp:(t,(⟨a,k,u,o⟩:RV))∈L0:=by
       rcases hrp with⟨t',e,hm'⟩|⟨e,_⟩
       ·cases e;exact hm'
       cases e
      have hN81:=hC.size
      have hC:=hC.trans c81
      refine⟨.inl hC,?_⟩
      refine ye U U (gn U) (fun _=>zav U) U U ?_
      refine ye U U (gn U) (fun _=>zM U U) U U ?_
      refine ye U U (gn U) (fun _=>zM U U) U U ?_
      refine zaC U U (gn U) (zF zg2 U U ?_)
      intro b11 w11 e11 n11 c11 k11
      have hN11:=hC.size
      have hC:=hC.trans c11
      refine⟨.inl hC,?_⟩
      refine zaC U U (gn U) (zt yH U U U U k11 (by simp) (fun y hy=>RT.one (hR0 _ hrp) y (List.mem_cons_of_mem _ hy)) ?_)
      intro wB nB cB kB
      have hC:=hC.own cB (by intro y hy;simp at hy;omega)
      refine⟨.inl hC,?_⟩
      refine ye U U (gn U) (fun _=>yg U) U U ?_
      refine zd2 [1,2,4,8,10,11] (F':=[(1,_),(2,_),(4,_),(8,_),(10,_),(11,_)]) U ?_
      exact⟨b11,a,k,u,o,U,kB,hrp,hC⟩
     refine zaC U U (gn U) (zF zg2 U U ?_)
     intro b11 w11 e11 n11 c11 k11
     have hN11:=hC.size
     have hC:=hC.trans c11
     refine⟨.inl hC,?_⟩
     refine zaC U U (gn U) (yX zyQ U U U U (zix _ L0 q.1 _ (yl.chg0 hA0 ((hcwy.trans hcz).trans hC)) (hR71 hC) (by omega)) ?_)
     rintro v81 w81⟨a,k,u,o,rfl,hrp,c81⟩
     unfold zvQ at hrp
     rw[hcc,ht]at hrp
     have hrp:(t,(⟨a,k,u,o⟩:RV))∈L0:=by
      rcases hrp with⟨t',e,hm'⟩|⟨e,_⟩
      ·cases e;exact hm'
      cases e
     have hN81:=hC.size
     have hC:=hC.trans c81
     have k11:=k11.chg0 c81
     refine⟨.inl hC,?_⟩
     refine ye U U (gn U) (fun _=>zav U) U U ?_
     refine ye U U (gn U) (fun _=>zM U U) U U ?_
     refine ye U U (gn U) (fun _=>zM U U) U U ?_
     refine zaC U U (gn U) (zt yH U U U U k11 (by simp) (fun y hy=>RT.one (hR0 _ hrp) y (List.mem_cons_of_mem _ hy)) ?_)
     intro wB nB cB kB
     have hC:=hC.own cB (by intro y hy;simp at hy;omega)
     refine⟨.inl hC,?_⟩
     refine ye U U (gn U) (fun _=>yg U) U U ?_
     refine zd2 [1,2,4,8,10,11] (F':=[(1,_),(2,_),(4,_),(8,_),(10,_),(11,_)]) U ?_
     exact⟨b11,a,k,u,o,U,kB,hrp,hC⟩
    rintro F wq⟨b11,a,kk,u,o,rfl,k11,hmemL,hcq2⟩
    have H1:zk [] wy wq:=hcz.trans hcq2
    have hd3:zk [] wq wq.drew:=zk.drew [] wq
    have H2:=H1.trans hd3
    have hrt:RT wq.drew ((⟨q.2,t.s,t.r⟩:Tb),(⟨a,kk,u,o⟩:RV)):=(hR0 _ hmemL).chg0 (hcwy.trans H2)
    refine zH (fun wz=>zk [] wq wz) mix (by kernel_rfl) hd3 ?_
    refine Tr (fun wz hz=>zh zbv zah U U (zv.of_blk0 ((k8.chg0 H1).chg0 hz))) U ?_
    refine Tm U (Tm U ?_)
    refine Tp (fun _=>zi zaF zcn U U _ U hlt) U ?_
    refine Tp (fun _=>zK zco sz9 U U 1 U (by decide)) U ?_
    refine Tr (fun wz hz=>zg yI U ((H1.trans hz).cell q1)) U (Tr (fun wz hz=>zh zaG yH U U (zv.of_blk0 (k11.chg0 hz))) U ?_)
    refine Tc zzj U U U (zjn _ _ ⟨q.2,t.s,t.r⟩ ⟨a,kk,u,o⟩ _ (hv'.chg0 H2) hrl hrt) ?_
    rintro v91 w91⟨v2,rfl,h91,c91⟩
    obtain⟨p91,q91,rfl,-⟩:=h91.val
    have H91:zk [] wy w91:=H2.trans c91
    refine⟨.inl (hd3.trans c91),?_⟩
    refine zaR U (gn U) (zt zah U U U U (k8.chg0 H91) (by simp) (by intro y hy;simp at hy;subst hy;rfl) ?_)
    intro wC nC cC kC
    refine⟨.inr (by kernel_rfl),?_⟩
    refine zdI [1,2,4,8,10] (F':=[(1,_),(2,_),(4,_),(8,_),(10,_)]) U ?_
    refine zl (za (Om U ?_))
    refine Og (zG U U (by omega)) U ?_
    refine Oa U (N5 1 2 4 8 10 U ?_)
    have hC:zk [] wx wC:=(hcy.trans H91).own cC (by intro y hy;simp at hy;omega)
    refine⟨m.length-(j+1),by omega,j+1,_,rfl,by omega,rfl,hC,kC,?_,fun i p hi hp=>?_⟩
    ·rw[htk,zk3,zmX ht]
     exact h91.hm (Hm.rcat (k8.chg0 H91)) cC
    rcases Lg i j with h|h
    ·exact hfree i p h hp
    have:i=j:=by omega
    subst this
    rw[hq]at hp
    cases hp
    exact hat
  refine za (Om U (Om U (On zaF U ?_)))
  refine Og (vf (zz U U) (df (by omega))) U ?_
  refine E6 1 2 4 8 10 62 U (zb U ?_)
  refine zI ?_
  repeat first|refine te ?_|refine bo rfl ?_
  refine zq _ ?_
  rw[Tl (by omega)]at hv'
  exact⟨v',rfl,hcy,k8,hv',zxN hND hall fun i p hp=>hfree i p (by have:=(Gs hp).1;omega) hp⟩
 rintro F wz⟨v',hF,hcz,k8,hv',he⟩
 refine zae [4,8] hF ?_
 obtain⟨pr,cr,rfl,-⟩:=hv'.val
 have k4z:=k4.chg0 (hcx.trans hcz)
 refine Sr (Og (zh zbv zah U U (zv.of_blk0 k8)) U ?_)
 refine Oq (zt zah U U U U k4z (by simp) (by intro y hy;simp at hy;subst hy;rfl) ?_)
 intro wB nB cB kB
 refine Oa U (E2 4 5 U (zj ?_))
 refine zct U zbv zah U U U (zv.of_blk0 kB) ?_
 have hcB:zk [] w wB:=((hcw4.trans hcx).trans hcz).own cB (by intro y hy;simp at hy;omega)
 refine⟨_,by rw[he];rfl,?_,hcB⟩
 rw[if_pos he]
 exact hv'.hm (Hm.rcat k4z) cB
end Go.Wk
