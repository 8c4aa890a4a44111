/- joined texts -/
import Derived.Test.YtkfpmjjcogigfaaGreatDoorI16
import Derived.Test.YtkfpmjjcogigfaaGreatDoorRows
import Derived.ProofKit
import Derived.OpenShut
import Derived.Deep.Slices
import Derived.LaidMore
import Derived.ChangeSame
import Derived.LaidHandle
import Derived.Stop.Joined
import Derived.SevenTiedAt
set_option linter.all false
namespace Go.Wk
open Go.Proofs
set_option linter.unusedSectionVars false
variable [Lw]
set_option maxRecDepth 10000
def tT:By:=⟨#[116]⟩
def uU:By:=⟨#[117]⟩
def wW:By:=⟨#[119]⟩
def zfa(n:By)(l:List zX):EvT:=⟨1,n,zfG,[],l,[]⟩
def ze9(n:By)(l:List zX):EvT:=⟨3,n,zfG,l,[],[]⟩
def zoF:List (By×By):=[(tT,uU),(uU,tT)]
def zn8:List (By×By):=[(tT,uU)]
def wc1:Cat:=doC [] (zbF tT)
def wc2:Cat:=doC wc1 (zbF uU)
def wc3:Cat:=doC wc2 (zek zoF)
def wc4:Cat:=doC wc3 (zek zn8)
def wc5:Cat:=doC wc4 (zaZ wW)
def wc6:Cat:=doC wc5 (zfa tT (zeh 1))
def wc7:Cat:=doC wc6 (ze9 tT (zeh 2))
def wc8:Cat:=zof wc7 [zaZ tT,zaZ tT]
theorem wk1:doE [] (zbF tT)=0:=by decide +kernel
theorem wk2:doE wc1 (zbF uU)=0:=by decide +kernel
theorem wk3:doE wc2 (zek zoF)=0:=by decide +kernel
theorem wk4:doE wc3 (zek zn8)=220:=by decide +kernel
theorem wk5:doE wc4 (zaZ wW)=5:=by decide +kernel
theorem wk6:doE wc5 (zfa tT (zeh 1))=0:=by decide +kernel
theorem wk7:doE wc6 (ze9 tT (zeh 2))=230:=by decide +kernel
theorem wk8:zid wc7 [zaZ tT,zaZ tT] 0=(1,5):=by decide +kernel
theorem wk9:(atC wc8 tT).isSome=true:=by decide +kernel
theorem wq1:doC [] (zbF tT)=wc1:=rfl
theorem wq2:doC wc1 (zbF uU)=wc2:=rfl
theorem wq3:doC wc2 (zek zoF)=wc3:=rfl
theorem wq4:doC wc3 (zek zn8)=wc4:=rfl
theorem wq5:doC wc4 (zaZ wW)=wc5:=rfl
theorem wq6:doC wc5 (zfa tT (zeh 1))=wc6:=rfl
theorem wq7:doC wc6 (ze9 tT (zeh 2))=wc7:=rfl
theorem wq8:zof wc7 [zaZ tT,zaZ tT]=wc8:=rfl
attribute [irreducible] wc1 wc2 wc3 wc4 wc5 wc6 wc7 wc8
attribute [local irreducible] doE doC zid zof atC
theorem zlD:zfG.Sm:=⟨by decide,by decide,by decide,by simp[zfG]⟩
theorem zk6{n:By}(h:n.size≤1048576):zcP (zaZ n):=⟨zlD,by simp[zaZ],by simp[zaZ],by simp[zaZ],h,by simp[zaZ,zfG],by simp[zaZ]⟩
theorem zkJ{n:By}(h:n.size≤1048576):zcP (zbF n):=⟨⟨by simp[zbF,zkq],by simp[zbF,zkq],by simp[zbF,zkq],by simp[zkq,zbF]⟩,by simp[zbF],by simp[zbF],by simp[zbF],h,by intro c hc;simp[zbF,zkq]at hc;subst hc;decide,by simp[zbF]⟩
theorem zmO{m:List (By×By)}(h:m.length≤1048576)(hm:∀p∈m,p.1.size≤9223372036854775807∧p.2.size≤9223372036854775807):zcP (zek m):=⟨zlD,by simp[zek],by simp[zek],h,by show e0.size≤1048576;decide,by simp[zek,zfG],hm⟩
theorem zrR{n:By}{i:Int}(h:n.size≤1048576):zcP (zfa n (zeh i)):=⟨zlD,by simp[zfa],by simp[zfa,zeh],by simp[zfa],h,by simp[zfa,zfG],by simp[zfa]⟩
theorem zsm{n:By}{i:Int}(h:n.size≤1048576):zcP (ze9 n (zeh i)):=⟨zlD,by simp[ze9,zeh],by simp[ze9],by simp[ze9],h,by simp[ze9,zfG],by simp[ze9]⟩
theorem zmm{i:Int}(h : -9223372036854775808≤i∧i≤9223372036854775807):∀y∈zeh i,y.Rng:=by
 intro y hy
 simp[zeh]at hy
 subst hy
 exact⟨by simp,h,by simp⟩
theorem zrI{n:By}{i:Int}{v:Va}{w:Wl}(h:ya w v (zeh i))(hi : -9223372036854775808≤i∧i≤9223372036854775807):zbv w { ziS with n:=v } (zfa n (zeh i)):=⟨zg4 w,zN.nil _ _ _ _,h,zN.nil _ _ _ _,by simp[zfa],by simp[zfa],zmm hi⟩
theorem zs6{n:By}{i:Int}{v:Va}{w:Wl}(h:ya w v (zeh i))(hi : -9223372036854775808≤i∧i≤9223372036854775807):zbv w { ziS with o:=v } (ze9 n (zeh i)):=⟨zg4 w,h,zN.nil _ _ _ _,zN.nil _ _ _ _,by simp[ze9],zmm hi,by simp[ze9]⟩
theorem zuf(n:By){b:Nat}{w:Wl}(k:zO w b 39 (fl (fun p:EvT×EvV=>evC p.1 p.2) [(zaZ n,ziS),(zaZ n,ziS)])):zej w (.slice (some ⟨b,0,none⟩) 2 2) [zaZ n,zaZ n]:=
 ⟨[(zaZ n,ziS),(zaZ n,ziS)],(zA.of_blk (n:=2) k rfl (by simp[maxLen]) (by
  intro u hu
  simp only[fl,List.flatMap_cons,List.flatMap_nil,List.append_nil,List.mem_append]at hu
  rcases hu with h|h<;>exact(zhS n w).one u h)).toRd,by
  intro p hp
  simp at hp
  subst hp
  exact zhS n w,U⟩
set_option maxHeartbeats 1000000 in
theorem zgo(w:Wl)(hE:EOk w)(hN:Lw.n≤w.heap.size):zT TP 9 #[] w fun r w'=>r=.bool true∧zk [] w w':=by
 refine zT.of_W (args:=[]) Tryz.func9 U U U U ?_
 refine Sr (Oa U (yQ [] (F':=[]) U (Sr ?_)))
 refine Oc zxW U U U (zwA hE hN) ?_
 rintro v11 w11⟨p,rfl,K,c11⟩
 refine Oa U (E1 1 U ?_)
 have st:tT.size≤1048576:=by decide
 have su:uU.size≤1048576:=by decide
 have sw:wW.size≤1048576:=by decide
 have m1:∀q∈zoF,q.1.size≤9223372036854775807∧q.2.size≤9223372036854775807:=by decide
 have m2:∀q∈zn8,q.1.size≤9223372036854775807∧q.2.size≤9223372036854775807:=by decide
 refine Sr (Om U ?_)
 refine Oc zBH U U U (zjy tT _) ?_
 rintro v13 w13⟨e13,rfl,h13,c13⟩
 refine Oc zkt U U U (znZ (K.chg0 c13) h13 (zkJ st)) ?_
 rintro v14 w14⟨e14,K14,n14⟩
 rw[wk1]at e14
 subst e14
 rw[wq1]at K14
 refine Oc zlA U U U (zd9 _ _) ?_
 rintro v15 w15⟨rfl,rfl⟩
 refine Om U ?_
 refine Oc zBH U U U (zjy uU _) ?_
 rintro v17 w17⟨e17,rfl,h17,c17⟩
 refine Oc zkt U U U (znZ (K14.chg0 c17) h17 (zkJ su)) ?_
 rintro v18 w18⟨e18,K18,n18⟩
 rw[wk2]at e18
 subst e18
 rw[wq2]at K18
 refine Oc zlA U U U (zd9 _ _) ?_
 rintro v19 w19⟨rfl,rfl⟩
 refine Og (yr (v':=Ii ((0:Nat):Int)) (zG U U (by omega)) (by congr 1)) U ?_
 refine Om U ?_
 refine Og (zee zcf sz9 zoz U (vs:=[_,_]) U (css:=[_,_]) ⟨U,U,trivial⟩ U U (cs:=[_,_]) U) U ?_
 refine Og (zee zcf sz9 zoz U (vs:=[_,_]) U (css:=[_,_]) ⟨U,U,trivial⟩ U U (cs:=[_,_]) U) U ?_
 refine Oq (zz zzb U (vs:=[_,_]) U (css:=[_,_]) ⟨U,U,trivial⟩ U U (cs:=[_,_,_,_]) U U ?_)
 intro b24 w24 e24 n24 c24 k24
 refine Oc zAq U U U (zjp _ zoF _ (zN.of_blk (l:=zoF) zbo zlz k24 (by simp[zoF,maxLen]))) ?_
 rintro v25 w25⟨rfl,h25,c25⟩
 refine Oc zkt U U U (znZ ((K18.chg0 c24).chg0 c25) h25 (zmO (by decide) m1)) ?_
 rintro v26 w26⟨e26,K26,n26⟩
 rw[wk3]at e26
 subst e26
 rw[wq3]at K26
 refine Oc zlA U U U (zd9 _ _) ?_
 rintro v27 w27⟨rfl,rfl⟩
 refine Og (yr (v':=Ii ((0:Nat):Int)) (zG U U (by omega)) (by congr 1)) U ?_
 refine Oa U (E2 1 2 U (Sr (Om U ?_)))
 refine Og (zee zcf sz9 zoz U (vs:=[_,_]) U (css:=[_,_]) ⟨U,U,trivial⟩ U U (cs:=[_,_]) U) U ?_
 refine Oq (zz zzb U (vs:=[_]) U (css:=[_]) ⟨U,trivial⟩ U U (cs:=[_,_]) U U ?_)
 intro b31 w31 e31 n31 c31 k31
 refine Oc zAq U U U (zjp _ zn8 _ (zN.of_blk (l:=zn8) zbo zlz k31 (by simp[zn8,maxLen]))) ?_
 rintro v32 w32⟨rfl,h32,c32⟩
 refine Oc zkt U U U (znZ ((K26.chg0 c31).chg0 c32) h32 (zmO (by decide) m2)) ?_
 rintro v33 w33⟨e33,K33,n33⟩
 rw[wk4]at e33
 subst e33
 rw[wq4]at K33
 refine Om U ?_
 refine Oc zxv U U U (zkf wW _) ?_
 rintro v35 w35⟨rfl,c35⟩
 refine Oc zkt U U U (znZ (K33.chg0 c35) (zhS wW _) (zk6 sw)) ?_
 rintro v36 w36⟨e36,K36,n36⟩
 rw[wk5]at e36
 subst e36
 rw[wq5]at K36
 refine Oa U (Oa U (E4 1 2 3 4 U (Sr (Om U ?_))))
 refine Oc zBc U U U (zp7 1 _) ?_
 rintro v38 w38⟨b38,rfl,f38,k38,c38⟩
 have i38:zbv w38 { ziS with n:=.slice (some ⟨b38,0,none⟩) 1 1 } (zfa tT (zeh 1)):=zrI (n:=tT) (zo5 k38) (by omega)
 have d38:=znZ (K36.chg0 c38) i38 (zrR st)
 refine Og (zeb zq5 zh9 U (qs:=[(0,_),(1,_),(4,_)]) U (css:=[_,_,_]) ⟨U,U,U,trivial⟩ (cs:=[_,_,_,_,_,_,_,_]) U) U ?_
 refine Oc zkt U U U d38 ?_
 rintro v40 w40⟨e40,K40,n40⟩
 rw[wk6]at e40
 subst e40
 rw[wq6]at K40
 refine Om U ?_
 refine Oc zBc U U U (zp7 2 _) ?_
 rintro v42 w42⟨b42,rfl,f42,k42,c42⟩
 have i42:zbv w42 { ziS with o:=.slice (some ⟨b42,0,none⟩) 1 1 } (ze9 tT (zeh 2)):=zs6 (n:=tT) (zo5 k42) (by omega)
 have d42:=znZ (K40.chg0 c42) i42 (zsm st)
 refine Og (zeb zq5 zh9 U (qs:=[(0,_),(1,_),(3,_)]) U (css:=[_,_,_]) ⟨U,U,U,trivial⟩ (cs:=[_,_,_,_,_,_,_,_]) U) U ?_
 refine Oc zkt U U U d42 ?_
 rintro v44 w44⟨e44,K44,n44⟩
 rw[wk7]at e44
 subst e44
 rw[wq7]at K44
 refine Oa U (Oa U (E6 1 2 3 4 5 6 U (Sr (Om U ?_))))
 refine Oc zxv U U U (zkf tT _) ?_
 rintro v47 w47⟨rfl,c47⟩
 refine Oc zxv U U U (zkf tT _) ?_
 rintro v48 w48⟨rfl,c48⟩
 refine Oq (zz zCS U (vs:=[_,_]) U (css:=[_,_]) ⟨U,U,trivial⟩ U U (cs:=[_,_,_,_,_,_,_,_,_,_,_,_,_,_,_,_]) U U ?_)
 intro b49 w49 e49 n49 c49 k49
 refine Oc zCA U U U (zBK (((K44.chg0 c47).chg0 c48).chg0 c49) (zuf tT k49) (by intro x hx;simp at hx;subst hx;exact zk6 st) (by decide)) ?_
 rintro v50 w50⟨e50,K50,n50⟩
 rw[wk8]at e50
 subst e50
 rw[wq8]at K50
 refine Om U (Oe U U (Oe U U (Oa U (Oa U (E8 1 2 3 4 5 6 7 8 U (Sr (Om U ?_)))))))
 refine Oc zyn U U U (zpY (n:=tT) K50) ?_
 rintro v55 w55⟨u55,e55,-,c55⟩
 rw[wk9]at e55
 subst e55
 refine Om U (Oe U U (Oe U U (Oa U (Oa U (E8 2 3 4 5 6 7 8 10 U ?_)))))
 have hc:=(K50.chg0 c55).ch
 refine Sr (Om U (Og (vt (zv U U) U) U (Om U (Oj U U ?_))))
 refine Ow U U zlA U U U (zd9 _ _) ?_
 rintro v62 w62⟨rfl,rfl⟩
 refine Oy U U (vt (zv U U) U) (Ot U (Om U (Oj U U ?_)))
 refine Ow U U zlA U U U (zd9 _ _) ?_
 rintro v67 w67⟨rfl,rfl⟩
 refine Oy U U (vt (zv U U) U) (Ot U (Om U (Oj U U ?_)))
 refine Ow U U zlA U U U (zd9 _ _) ?_
 rintro v72 w72⟨rfl,rfl⟩
 refine Oy U U (vt (zv U U) U) (Ot U (Om U (Oj U U ?_)))
 refine Ow U U zlA U U U (zd9 _ _) ?_
 rintro v77 w77⟨rfl,rfl⟩
 refine Oy U U (vt (zv U U) U) (Ot U (Om U (Oj U U (Oy U U (vt (zv U U) U) (Ot U (Om U (Oj U U ?_)))))))
 refine Ow U U zlA U U U (zd9 _ _) ?_
 rintro v86 w86⟨rfl,rfl⟩
 refine Oy U U (vt (zv U U) U) (Ot U (Om U (Oj U U (Ot U (Oa U (E1 0 U (zj ?_)))))))
 refine zw U U ?_
 exact⟨U,hc⟩
theorem KS.box{w0 w w':Wl}{l:List (Nat×Cat)}{b:Nat}{q:Option Addr}{n m:Nat}(h:KS w0 w l)(hb:zO w b 48 [.slice q n m])(hc:zk [b] w w')(hf:w0.heap.size≤b)(hN:Lw.n≤w0.heap.size):KS w0 w' l:=by
 obtain⟨T,hT,hE,hw,h1,h2⟩:=h
 refine⟨T,hT,hE.hm (Hm.rcat hb) hc,hw.own hc (by intro y hy;simp at hy;omega),fun x hx=>⟨(h1 x hx).1.other (fun y hy hm=>?_) (Hm.rcat hb) hc,(h1 x hx).2⟩,h2⟩
 simp at hm
 subst hm
 exact(h1 x hx).1.notR y hy _ hb
theorem ztz{L:List (EvT×EvV)}{j:Nat}{q:EvT×EvV}(h:L[j]? = some q)(c:Cat):zd8 c ((L.take (j+1)).map (·.1))=doC (zd8 c ((L.take j).map (·.1))) q.1:=by
 obtain⟨hl,rfl⟩:=Gs h
 rw[List.take_succ_eq_append_getElem hl,List.map_append]
 exact zk5 _ _ _
theorem zsj{w:Wl}{L:List (EvT×EvV)}(hI:∀q∈L,zbv w q.2 q.1)(j:Nat):za6 (zd8 [] ((L.take j).map (·.1))):=za6.nil.all fun x hx=>by
 obtain⟨q,hq,rfl⟩:=List.mem_map.1 hx
 exact(hI q (List.mem_of_mem_take hq)).rw
set_option maxHeartbeats 1000000 in
theorem ziQ(va:Va)(xs:List EvT)(e:EvV)(x:EvT)(w:Wl)(hE:EOk w)(hN:Lw.n≤w.heap.size)(ha:zej w va xs)(hx:zbv w e x)(na:∀x∈xs,zln x)(nx:zln x) :
 zT TP 6 #[va,.agg (evC x e).toArray] w fun r w'=>r=.bool true∧zk [] w w':=by
 obtain⟨L,hA,hI,rfl⟩:=ha
 have ha:zej w va (L.map (·.1)):=⟨L,hA,hI,rfl⟩
 obtain⟨pa,ca,rfl,hca⟩:=zN.val hA
 refine A2 Tryz.func6 U U ?_
 refine Sr ?_
 refine Ob U U ?_
 intro b3 w3 e3 n3 c3 k3
 refine Oa U (E2 0 3 U ?_)
 have k3:zO w3 b3 39 (evC x e):=k3
 have ha:=ha.chg0 c3
 have hE:=hE.hm (Hm.nil w) c3
 refine zf (zf ?_)
 cases h20:zq2 (L.map (·.1)) 20 with
 |false=>
  refine za (Om U ?_)
  refine Oc bd8 U U U (zlt _ _ 20 _ ha (by decide)) ?_
  rintro v16 w16⟨e16,c16⟩
  rw[h20]at e16
  subst e16
  refine Og (zC U) U (Om U (Oz U U (Oz U U (Oz U U (Ot U (E3 0 3 22 U (ze U (Sr ?_))))))))
  refine Oc bd9 U U U (zgo _ (hE.hm (Hm.nil w3) c16) (Nat.le_trans hN (c3.trans c16).size)) ?_
  rintro v23 w23⟨rfl,c23⟩
  refine Oa U (E1 4 U (zj ?_))
  repeat first|refine tr ?_|refine br ?_
  refine zw U U ?_
  exact⟨U,(c3.trans c16).trans c23⟩
 |true=>
 cases h10:ziT x with
 |false=>
  refine za (Om U ?_)
  refine Oc bd8 U U U (zlt _ _ 20 _ ha (by decide)) ?_
  rintro v16 w16⟨e16,c16⟩
  rw[h20]at e16
  subst e16
  refine Og (zC U) U (Om U (Oy U U (zh zbK za2 U U (zx.of_blk0 (k3.chg0 c16))) ?_))
  refine Ow U U zuG U U U (zi1 _ x _ ((hx.chg0 c3).chg0 c16)) ?_
  rintro v20 w20⟨e20,c20⟩
  rw[h10]at e20
  subst e20
  refine Oy U U (zC U) (Of U (E3 0 3 22 U (ze U (Sr ?_))))
  refine Oc bd9 U U U (zgo _ (hE.hm (Hm.nil w3) (c16.trans c20)) (Nat.le_trans hN ((c3.trans c16).trans c20).size)) ?_
  rintro v23 w23⟨rfl,c23⟩
  refine Oa U (E1 4 U (zj ?_))
  repeat first|refine tr ?_|refine br ?_
  refine zw U U ?_
  exact⟨U,((c3.trans c16).trans c20).trans c23⟩
 |true=>
 refine za (Om U ?_)
 refine Oc bd8 U U U (zlt _ _ 20 _ ha (by decide)) ?_
 rintro v16 w16⟨e16,c16⟩
 rw[h20]at e16
 subst e16
 refine Og (zC U) U (Om U (Oy U U (zh zbK za2 U U (zx.of_blk0 (k3.chg0 c16))) ?_))
 refine Ow U U zuG U U U (zi1 _ x _ ((hx.chg0 c3).chg0 c16)) ?_
 rintro v20 w20⟨e20,c20⟩
 rw[h10]at e20
 subst e20
 refine Oy U U (zC U) (Of U (E3 0 3 22 U (zb U (zm ?_))))
 obtain⟨hl20,hs20⟩:=zuZ h20 na
 have hsx:=ztK h10 nx
 rw[List.length_map]at hl20
 have ha':∀q∈L,zcP q.1:=fun q hq=>hs20 q.1 (List.mem_map.2 ⟨q,hq,rfl⟩)
 have hc20:=(c3.trans c16).trans c20
 have hE:=hE.hm (Hm.nil w3) (c16.trans c20)
 have hNw:=Nat.le_trans hN hc20.size
 have k3:=k3.chg0 (c16.trans c20)
 have hx:=hx.chg0 hc20
 have hA:=zN.chg0 hA hc20
 have hI:∀q∈L,zbv w20 q.2 q.1:=fun q hq=>(hI q hq).chg0 hc20
 refine Sr ?_
 refine Oc zxW U U U (zwA hE hNw) ?_
 rintro v24 w24⟨p,rfl,K,c24⟩
 refine Oa U (E3 0 3 5 U (Sr ?_))
 refine Oq (zF zlr U U ?_)
 intro b6 w6 e6 n6 c6 k6
 refine E4 0 3 5 6 U ?_
 have hs24:=c24.size
 have hb6:w20.heap.size≤b6:=by omega
 have K6:=K.chg0 c6
 refine zR (fun F wx=>∃v',prune [0,3,5,6] F=[(0,.slice pa L.length ca),(3,Pt b3),(5,Pt p),(6,Pt b6)]∧KS w20 wx [(p,zd8 [] (L.map (·.1)))]∧zO wx b6 48 [v']∧zbP wx v' (zd8 [] (L.map (·.1)))) ?_ ?_
 ·refine Sr (Oa U (E5 0 3 5 6 7 U (zp ?_)))
  refine zQ [0,3,5,6,7] (fun k F wx=>∃(j:Nat) (v':Va),k=L.length-j∧j≤L.length∧F=[(0,.slice pa L.length ca),(3,Pt b3),(5,Pt p),(6,Pt b6),(7,Ii j)]∧KS w20 wx [(p,zd8 [] ((L.take j).map (·.1)))]∧zO wx b6 48 [v']∧zbP wx v' (zd8 [] ((L.take j).map (·.1)))) (m:=L.length-0) ⟨0,_,U,Nat.zero_le _,U,K6,k6,zbP.nil _⟩ ?_
  rintro k F wx⟨j,v',rfl,hj,rfl,Kx,k6,hv'⟩
  refine zf (zf ?_)
  by_cases hlt:j<L.length
  ·refine za (Om U (Om U (On zh1 U ?_)))
   refine Og (vt (zy U U) (dt (by omega))) U ?_
   refine E6 0 3 5 6 7 28 U (ze U (zm ?_))
   have hq:L[j]? = some L[j]:=by simp[hlt]
   have hmem:=List.getElem_mem hlt
   generalize L[j]=q at hq hmem
   obtain⟨b,off,cap,hve,hcell⟩:=zN.at (fun p:EvT×EvV=>zi8 p.1 p.2) hA hq
   cases hve
   have hokj:=zsj hI j
   have hatk:=ztz hq []
   have hsm:=ha' q hmem
   generalize zd8 [] ((L.take j).map (·.1))=cj at Kx hv' hokj hatk
   refine zf (zp (Sr (Om U (Om U (Om U ?_)))))
   refine Og (zi zh1 za2 U U _ U hlt) U ?_
   refine Og (zh zbK za2 U U (zx.chg0 hcell Kx.ch)) U ?_
   refine Oc zkt U U U (znZ Kx ((hI q hmem).chg0 Kx.ch) hsm) ?_
   rintro v36 w36⟨rfl,K1,n1⟩
   refine E5 0 3 5 6 7 U ?_
   have hd:zk [] w36 w36.drew:=zk.drew [] _
   have k6a:=k6.tnR n1
   have hva:=hv'.tn n1
   refine zI (fun wz=>zk [] w36 wz) mix (by kernel_rfl) hd ?_
   refine Tr (fun wz hz=>zh zbI zar U U (zx.of_blk0 (k6a.chg0 hz))) U (Tm U (Tm U ?_))
   refine Tp (fun _=>zi zh1 za2 U U _ U hlt) U ?_
   refine Tr (fun wz hz=>zh zbK za2 U U (zx.chg0 hcell (K1.ch.trans hz))) U ?_
   refine Tc zCG U U U (zxQ _ cj q.2 q.1 _ (hva.chg0 hd) hokj ((hI q hmem).chg0 (K1.ch.trans hd)) hsm (K1.chg0 hd).nn) ?_
   rintro v43 w43⟨v2,rfl,h2,c2x⟩
   obtain⟨p2,q2,rfl,-⟩:=h2.val
   have H2:zk [] w36 w43:=hd.trans c2x
   refine⟨.inl H2,?_⟩
   refine Tm U (Tp (fun _=>zM U U) U (Tp (fun _=>zM U U) U ?_))
   refine zaK U (gn U) (zt zar U U U U (k6a.chg0 H2) (by simp) (by intro y hy;simp at hy;subst hy;rfl) ?_)
   intro wB nB cB kB
   refine⟨.inr (by kernel_rfl),?_⟩
   refine zdw [0,3,5,6,7] (F':=[(0,_),(3,_),(5,_),(6,_),(7,_)]) U ?_
   refine zl (za (Om U ?_))
   refine Og (zG U U (by omega)) U ?_
   refine Oa U (N5 0 3 5 6 7 U ?_)
   obtain⟨pz,qz,ez,-⟩:=hva.val
   subst ez
   refine⟨L.length-(j+1),by omega,j+1,_,rfl,by omega,rfl,?_,kB,?_⟩
   ·rw[hatk]
    exact(K1.chg0 H2).box (k6a.chg0 H2) cB hb6 hNw
   rw[hatk]
   exact h2.hm (Hm.rcat (k6a.chg0 H2)) cB
  refine za (Om U (Om U (On zh1 U ?_)))
  refine Og (vf (zy U U) (df (by omega))) U ?_
  refine E6 0 3 5 6 7 28 U (zb U ?_)
  refine zH ?_
  repeat first|refine te ?_|refine bo rfl ?_
  refine zq _ ?_
  rw[Tl (by omega)]at Kx hv'
  exact⟨v',U,Kx,k6,hv'⟩
 rintro F wx⟨v',hF,Kx,k6,hv'⟩
 refine zag [0,3,5,6] hF ?_
 have hokx:za6 (zd8 [] (L.map (·.1))):=by have:=zsj hI L.length;rwa [List.take_length]at this
 generalize zd8 [] (L.map (·.1))=c0 at Kx hv' hokx
 have hle:=hokx.le
 have k3x:=k3.chg0 Kx.ch
 have hxx:=hx.chg0 Kx.ch
 obtain⟨L',hA',hR',hL'⟩:=hv'
 have hl12:L'.length≤12:=by rw[hL',List.length_map]at hle;exact hle
 obtain⟨pl,cl,rfl,-⟩:=hA'.val
 refine Sr (Om U (Od z9 U (Ol yH U (k3x.cell' (i:=1) U) ?_)))
 refine Oc zyn U U U (zpY (n:=x.t) Kx) ?_
 rintro v50 w50⟨u50,rfl,hu50,c50⟩
 refine Om U (Oe U U (Oe U U (Oa U (Oa U (E5 3 5 6 8 9 U ?_)))))
 have k3y:=k3x.chg0 c50
 have k6y:=k6.chg0 c50
 have hR50:∀q∈L',RT w50 q:=fun q hq=>(hR' q hq).chg0 c50
 refine zf ?_
 have hone10:∀a k u o,zrl L' x.t a k u o→∀y∈[a,k,u,o],y.oneCell'=true:=by
  rintro a k u o (⟨t,-,hm⟩|⟨-,rfl,rfl,rfl,rfl⟩) y hy
  ·exact RT.one (hR' _ hm) y (List.mem_cons_of_mem _ hy)
  simp at hy;subst hy;rfl
 refine za (Og (zh zbI zar U U (zx.of_blk0 k6y)) U (Od z9 U (Ol yH U (k3y.cell' (i:=1) U) ?_)))
 refine Oc zux U U U (zgg _ L' x.t _ (hA'.chg0 c50) hR50 (by omega)) ?_
 rintro v57 w57⟨a,kk,u,o,rfl,hrp,c57⟩
 refine Om U (Oe U U (Oe U U ?_))
 refine Oq (zF zfK U U ?_)
 intro b10 w10 e10 n10 c10 k10
 refine Oq (zt yF U U U U k10 (by simp) (hone10 _ _ _ _ hrp) ?_)
 intro wB nB cB kB
 refine Oa U (E7 3 5 6 8 9 10 11 U ?_)
 have kB:zO wB b10 67 [a,kk,u,o]:=kB
 have hs57:=c57.size
 have hB:zk [] w50 wB:=(c57.trans c10).own cB (by intro y hy;simp at hy;omega)
 have hBx:=c50.trans hB
 have hsB:=hB.size
 rw[←hL']
 unfold zrl at hrp
 rw[←hL']at hrp
 have KB:=Kx.chg0 hBx
 have k3B:=k3x.chg0 hBx
 have k6B:=k6.chg0 hBx
 have hxB:=hxx.chg0 hBx
 have hRCB:zbP wB (.slice pl L'.length cl) c0:=⟨L',hA'.chg0 hBx,fun q hq=>(hR' q hq).chg0 hBx,hL'⟩
 have hTc:∀{W:Wl},KS w20 W [(p,c0)]→zk [] w W:=fun K=>hc20.trans K.ch
 refine zf (zf ?_)
 cases hat:atC c0 x.t with
 |none=>
  refine za (Om U (Om U (Og (zcD bo4 U U) U (E7 3 5 6 8 9 10 62 U (zb U (zm (zf (Sr (Om U (Og (zC U) U (E6 3 5 6 8 10 64 U (ze U (Sr ?_)))))))))))))
  refine Oc bd9 U U U (zgo _ KB.eo KB.nn) ?_
  rintro v65 w65⟨rfl,c65⟩
  refine Oa U (E1 4 U (zj ?_))
  repeat first|refine tr ?_|refine br ?_
  refine zw U U ?_
  exact⟨U,(hTc KB).trans c65⟩
 |some t=>
  rw[hat]at hu50 hrp
  obtain⟨q,ow,rfl,hT,how⟩:=hu50
  have hmem:(t,(⟨a,kk,u,o⟩:RV))∈L':=by
   rcases hrp with⟨t',h1,h2⟩|⟨h1,_⟩
   ·cases h1;exact h2
   cases h1
  have hrtB:zaW wB a kk u o t.s t.r:=(hR' _ hmem).chg0 hBx
  obtain⟨po,co,rfl,-⟩:=hrtB.rws.val
  refine za (Om U (Om U (Og (zcD bo4 U U) U (E7 3 5 6 8 9 10 62 U (zb U (zm (zf (Sr (Om U (Og (zC U) U (E6 3 5 6 8 10 64 U (zb U (zm (zf ?_))))))))))))))
  refine za (Og (zh zaO yF U U (zx.of_blk0 kB)) U (Od zaD U (Ol yR U (k3B.cell' (i:=6) U) ?_)))
  refine Oc zAt U U U (zm3 _ _ _ _ _ t.s t.r x.w _ hrtB hxB.new hxB.rw) ?_
  rintro v70 w70⟨o',rfl,h70,c70⟩
  obtain⟨p70,q70,rfl,-⟩:=h70.rws.val
  refine Om U (Oe U U (Oe U U ?_))
  refine Oq (zF zfK U U ?_)
  intro b12 w12 e12 n12 c12 k12
  refine Oq (zt yF U U U U k12 (by simp) (zaW.one h70.sch _ _ _) ?_)
  intro wC nC cC kC
  refine Oa U (E5 3 5 6 8 13 U ?_)
  have hs70:=c70.size
  have hC:zk [] wB wC:=(c70.trans c12).own cC (by intro y hy;simp at hy;omega)
  have hTC:=(hT.chg0 hB).chg0 hC
  have KC:=KB.chg0 hC
  refine Sr (Om U (Od zaD U (Ol yR U ((k3B.chg0 hC).cell' (i:=6) U) ?_)))
  refine Oc zzp U U U (zl2 q ow t.s t.r _ x.w _ KC.eo hTC (hxB.chg0 hC).new hxB.rw hsx.w) ?_
  rintro v76 w76⟨rfl,hT76,c76⟩
  refine Oa U (E4 5 6 13 14 U ?_)
  have hx76:zk [] wx w76:=(hBx.trans hC).own c76 how
  have K76:=Kx.chg0 hx76
  have k6z:=k6.chg0 hx76
  have hRC:zbP w76 (.slice pl L'.length cl) c0:=⟨L',hA'.chg0 hx76,fun q hq=>(hR' q hq).chg0 hx76,hL'⟩
  refine Sr (Om U ?_)
  refine Oc zlA U U U (zd9 _ _) ?_
  rintro v78 w78⟨rfl,rfl⟩
  refine Om U ?_
  refine Og (vt (zv U U) (by simp)) U ?_
  refine Om U (Oj U U (Oy U U (zh zbI zar U U (zx.of_blk0 k6z)) ?_))
  refine Ow U U zCM U U U (zCD K76 hRC) ?_
  rintro v84 w84⟨rfl,c84⟩
  refine Ot U (Om U ?_)
  refine Ow U U bd9 U U U (zgo _ (K76.chg0 c84).eo (K76.chg0 c84).nn) ?_
  rintro v87 w87⟨rfl,c87⟩
  refine Ot U (Oa U (E1 4 U (zj ?_)))
  refine zw U U ?_
  exact⟨U,hTc ((K76.chg0 c84).chg0 c87)⟩
end Go.Wk
namespace Go.Proofs.YtkfpmjjcogigfaaGreatDoor
open Go.ChangeShapes Go.WideShapes Go.ChangeAt Go.RowKit Go.Deep
set_option maxRecDepth 100000
theorem zyX:Tryz.prog.funcs.any Func.goes=false:=by kernel_rfl
theorem zvb{P:Program}(h:P.funcs.any Func.goes=false)(c:OpenClaim)(hs:c.start=.entering):false=c.goesBy P:=by
 have h1:∀f,P.goes f=false:=fun f=>by
  unfold Program.goes
  rw[h,Bool.and_false,Bool.or_false,List.any_eq_false]
  intro g _
  cases hg:P.funcs[g]? with
  |none=>simp
  |some fn=>
   obtain⟨hlt,rfl⟩:=Array.getElem?_eq_some_iff.1 hg
   have:=Array.any_eq_false.1 h g hlt
   simpa using this
 unfold OpenClaim.goesBy Program.goesAt Program.goesFrom
 rw[hs]
 cases P.funcNamed c.func with
 |none=>rfl
 |some f=>simp[h1]
theorem zDg:ownKnob Tryz.prog.godebug=none:=by kernel_rfl
theorem zny:laidOutB Tryz.prog=true:=by kernel_rfl
abbrev zkK : List (String × DataW Unit) := [("math/bits.deBruijn32tab", Rows.laid_math_bits_deBruijn32tab), ("math/bits.deBruijn64tab", Rows.laid_math_bits_deBruijn64tab), ("internal/strconv.uint64pow10", Rows.laid_internal_strconv_uint64pow10), ("errors.errorType", Rows.laid_errors_errorType)]
theorem etT : Tryz.prog.globalNamed "errors.errorType" = some 0 := by kernel_rfl
theorem rtT : (Tryz.prog.cutTypes.find? (·.1 == "internal/reflectlite.rtype")).map (·.2) = some 255 := by kernel_rfl
theorem zCp:Tryz.prog.types.size=481:=by kernel_rfl
theorem zu4:((List.range 481).filter fun t=>Tryz.prog.rowNamed t [101,114,114,111,114])=[87]:=by kernel_rfl
theorem zub(os:Os)(args:Array Value):laidMetH Tryz.prog zkK ((World.doorLaid Tryz.prog 31 os).forCall (fun _ _=>0) ⟨#[],args,[]⟩).memory:=
 laidMetH_of_parts3 (fuel:=8) (laidMet_of_run' 8 (by kernel_rfl) (by kernel_rfl)) (by kernel_rfl) (by kernel_rfl)
set_option linter.unusedSectionVars false
variable [Wk.Lw]
theorem zmu{W:World}(h:laidMetH Tryz.prog zkK W):Wk.EOk W:=by
 have h' : laidMet Tryz.prog (zkK.filter fun x => x.2.handleName?.isNone) W ∧ handlesMet Tryz.prog [("errors.errorType", Rows.laid_errors_errorType)] W := h
 obtain⟨name,u,ty,e1,e2,e3,e4,e5⟩:=h'.2 _ (List.mem_singleton.2 rfl)
 have en:name=[101,114,114,111,114]:=(Option.some.inj e1).symm
 subst en
 obtain rfl:=Option.some.inj (rtT.symm.trans e2)
 have hm:ty∈(List.range 481).filter fun t=>Tryz.prog.rowNamed t [101,114,114,111,114]:=List.mem_filter.2 ⟨List.mem_range.2 (by rw[←zCp];exact e3),e4⟩
 rw[zu4]at hm
 obtain rfl:=List.mem_singleton.1 hm
 have hh:typeHandle Tryz.prog 87=Wk.hnd 87:=by kernel_rfl
 rw[hh]at e5
 have h0:=World.var?_cell etT e5 0
 have h1:W.cell? ⟨0,0,none⟩=some (Value.iface 255 (Value.agg #[Wk.hnd 87])):=by simpa using h0
 exact h1
theorem zpl{α:Type}{R:Nat→α→Prop}:∀n:Nat,(∀i,i<n→∃y,R i y)→∃l:List α,l.length=n∧∀i y,l[i]? = some y→R i y
 |0,_=>⟨[],rfl,fun i y h=>by simp at h⟩
 |n+1,h=>by
  obtain⟨l,hl,hr⟩:=zpl n fun i hi=>h i (by omega)
  obtain⟨y,hy⟩:=h n (by omega)
  refine⟨l++[y],by simp[hl],fun i z hz=>?_⟩
  rcases Nat.lt_or_ge i l.length with hi|hi
  ·rw[List.getElem?_append_left hi]at hz
   exact hr i z hz
  rw[List.getElem?_append_right hi]at hz
  have:i-l.length=0:=by
   rcases Nat.eq_zero_or_pos (i-l.length) with h0|h0
   ·exact h0
   rw[List.getElem?_eq_none (by simp;omega)]at hz;cases hz
  rw[this]at hz
  simp at hz
  subst hz
  have:i=n:=by omega
  subst this;exact hy
section
variable {P:Program} {H:Type} {enc:TypeId×Value→H} {W:World} {b:Nat} {sp:Nat→Bool} {hd:Bool}
theorem zgv{t e:TypeId}{k:Nat}{α:Type}{f:α→List Value}{Q:α→Prop}(ht:P.underlying t=some (.slice e))(hk:P.cellsOf e=k)(hk0:0<k)(hf:∀x,(f x).length=k)(ho:∀x,Q x→∀u∈f x,u.oneCell'=true)
 (each:∀n cs x,DataW.trod enc P W b sp hd n e cs=some x→∃y,cs=f y∧Q y) {fuel:Nat} {cs:List Value} {x:DataW H×List MemPlace} (h:DataW.trod enc P W b sp hd fuel t cs=some x) :
 ∃v l,cs=[v]∧Wk.zN W e k f v l∧∀y∈l,Q y:=by
 rcases open_slice ht h with⟨rfl,_⟩|⟨a,len,cap,m,n,D,Pl,rfl,_,hl,hcm,hm,_,hx⟩
 ·exact⟨_,[],rfl,Wk.zN.nil _ _ _ _,by simp⟩
 have hlm:len≤m:=by rw[hm];split<;>omega
 obtain⟨l,hll,hR⟩:=zpl (R:=fun i y=>W.cells? b (a.add (i*k)) k=some (f y)∧Q y) len fun i hi=>by
  obtain⟨cs',h1,h2⟩:=hx i (by omega)
  rw[hk]at h1
  obtain⟨y,rfl,hq⟩:=each _ _ _ h2
  exact⟨y,h1,hq⟩
 have hQ:∀y∈l,Q y:=fun y hy=>by
  obtain⟨i,hi⟩:=List.getElem?_of_mem hy
  exact(hR i y hi).2
 refine⟨_,l,rfl,?_,hQ⟩
 subst hll
 refine⟨some a,cap,rfl,hl,hcm,Wk.zjT hf l,fun u hu=>?_,fun hp=>?_⟩
 ·obtain⟨y,hy,hu'⟩:=List.mem_flatMap.1 hu
  exact ho y (hQ y hy) u hu'
 have hspot:a.spot=none:=by
  have h0:l[0]? = some l[0]:=by simp[hp]
  obtain⟨h1,_⟩:=hR 0 _ h0
  obtain⟨_,hl3,hcell⟩:=World.cells?_some h1
  have h3:=hcell 0 hk0
  have h4:(f l[0])[0]? = some ((f l[0])[0]'(by rw[hf];exact hk0)):=by simp[hf,hk0]
  rw[h4]at h3
  simpa[Addr.add] using World.cell?_spot h3
 obtain⟨bb,oo,ss⟩:=a
 dsimp only at hspot
 subst hspot
 refine⟨bb,oo,rfl,fun j u hj=>?_⟩
 have hlen:=Wk.zjT (k:=k) hf l
 have hjl:j<l.length*k:=by have:=(List.getElem?_eq_some_iff.1 hj).1;omega
 have hi:j / k<l.length:=(Nat.div_lt_iff_lt_mul hk0).2 hjl
 have hr:j % k<k:=Nat.mod_lt _ hk0
 have hy:l[j / k]? = some l[j / k]:=by simp[hi]
 generalize l[j / k]=y at hy
 obtain⟨h1,_⟩:=hR _ _ hy
 rw[Addr.add_lit]at h1
 obtain⟨_,_,hcell⟩:=World.cells?_some h1
 have h3:=hcell (j % k) hr
 rw[Addr.add_lit]at h3
 have hdm:j / k*k+j % k=j:=Nat.div_add_mod' j k
 have h5:(f y)[j % k]? = some u:=by
  rw[←Wk.zt5 hf hy,List.getElem?_take,if_pos hr,List.getElem?_drop,hdm]
  exact hj
 rw[h5]at h3
 rw[←h3]
 congr 2
 omega
end
section
variable {H:Type} {enc:TypeId×Value→H} {W:World} {b:Nat} {sp:Nat→Bool} {hd:Bool}
theorem cV:Tryz.prog.cellsOf 111=4:=by kernel_rfl
theorem c1a:Tryz.prog.cellsOf 3=1:=by kernel_rfl
theorem c1b:Tryz.prog.cellsOf 2=1:=by kernel_rfl
theorem c1c:Tryz.prog.cellsOf 109=1:=by kernel_rfl
theorem c1d:Tryz.prog.cellsOf 9=1:=by kernel_rfl
theorem c1e:Tryz.prog.cellsOf 108=1:=by kernel_rfl
theorem c1f:Tryz.prog.cellsOf 36=1:=by kernel_rfl
theorem zxt{n:Int}(h:(Lit.int .i64 n).wf=true) : -9223372036854775808≤n∧n≤9223372036854775807:=by
 simp only[Lit.wf,Bool.and_eq_true,decide_eq_true_eq]at h
 have e1:IntKind.i64.min = -9223372036854775808:=by decide
 have e2:IntKind.i64.max=9223372036854775807:=by decide
 rw[e1,e2]at h
 exact h
theorem zAr{n:Int}(h:(Lit.int .u64 n).wf=true):0≤n∧n<18446744073709551616:=by
 simp only[Lit.wf,Bool.and_eq_true,decide_eq_true_eq]at h
 have e1:IntKind.u64.min=0:=by decide
 have e2:IntKind.u64.max=18446744073709551615:=by decide
 rw[e1,e2]at h
 omega
theorem zrz{n:Nat}{cs:List Value}{x:DataW H×List MemPlace}(h:DataW.trod enc Tryz.prog W b sp hd n 111 cs=some x):∃y:Wk.zX,cs=y.cs∧y.Rng:=by
 obtain⟨xs,m,_,_,hlen,hxl,hf⟩:=DataW.trod_struct Tryz.underlying111 h
 rw[cV]at hlen
 match cs,hlen with
 |[c0,c1,c2,c3],_=>
  have g0:DataW.trod enc Tryz.prog W b sp hd m 108 (([c0,c1,c2,c3].drop 0).take (Tryz.prog.cellsOf 108))=xs[0]? := hf 0 _ rfl
  have g1:DataW.trod enc Tryz.prog W b sp hd m 2 (([c0,c1,c2,c3].drop 1).take (Tryz.prog.cellsOf 2))=xs[1]? := hf 1 _ rfl
  have g2:DataW.trod enc Tryz.prog W b sp hd m 109 (([c0,c1,c2,c3].drop 2).take (Tryz.prog.cellsOf 109))=xs[2]? := hf 2 _ rfl
  have g3:DataW.trod enc Tryz.prog W b sp hd m 9 (([c0,c1,c2,c3].drop 3).take (Tryz.prog.cellsOf 9))=xs[3]? := hf 3 _ rfl
  rw[c1e]at g0
  rw[c1b]at g1
  rw[c1c]at g2
  rw[c1d]at g3
  have hx4:xs.length=4:=hxl
  match xs,hx4 with
  |[y0,y1,y2,y3],_=>
   have g0:DataW.trod enc Tryz.prog W b sp hd m 108 [c0]=some y0:=g0
   have g1:DataW.trod enc Tryz.prog W b sp hd m 2 [c1]=some y1:=g1
   have g2:DataW.trod enc Tryz.prog W b sp hd m 109 [c2]=some y2:=g2
   have g3:DataW.trod enc Tryz.prog W b sp hd m 9 [c3]=some y3:=g3
   obtain⟨i0,e0,_,w0⟩:=DataW.trod_int (k:=.i64) (by kernel_rfl) g0
   obtain⟨i1,e1,_,w1⟩:=DataW.trod_int (k:=.i64) (by kernel_rfl) g1
   obtain⟨i2,e2,_,w2⟩:=DataW.trod_int (k:=.u64) (by kernel_rfl) g2
   obtain⟨s,e3,_,_⟩:=DataW.trod_string (by kernel_rfl) g3
   simp only[List.cons.injEq,and_true]at e0 e1 e2 e3
   subst e0 e1 e2 e3
   have h2:=zAr w2
   obtain⟨u,rfl⟩:=Int.eq_ofNat_of_zero_le h2.1
   exact⟨⟨i0,i1,u,s⟩,rfl,zxt w0,zxt w1,by have:=h2.2;simp only at this ⊢;omega⟩
theorem zkO{n:Nat}{cs:List Value}{x:DataW H×List MemPlace}(h:DataW.trod enc Tryz.prog W b sp hd n 36 cs=some x):∃v l,cs=[v]∧Wk.ya W v l∧∀y∈l,y.Rng:=
 zgv (f:=Wk.zX.cs) (Q:=Wk.zX.Rng) Tryz.underlying36 cV (by decide) Wk.zbl (fun x _=>Wk.zX.one x) (fun _ _ _ h=>zrz h) h
end
theorem cC:Tryz.prog.cellsOf 114=4:=by kernel_rfl
theorem cS:Tryz.prog.cellsOf 35=3:=by kernel_rfl
theorem cE:Tryz.prog.cellsOf 39=8:=by kernel_rfl
theorem cN2:Tryz.prog.cellsOf 78=2:=by kernel_rfl
theorem c1g:Tryz.prog.cellsOf 112=1:=by kernel_rfl
theorem c1h:Tryz.prog.cellsOf 4=1:=by kernel_rfl
theorem c1i:Tryz.prog.cellsOf 31=1:=by kernel_rfl
theorem c1j:Tryz.prog.cellsOf 32=1:=by kernel_rfl
theorem c1k:Tryz.prog.cellsOf 33=1:=by kernel_rfl
theorem c1l:Tryz.prog.cellsOf 30=1:=by kernel_rfl
theorem c1m:Tryz.prog.cellsOf 37=1:=by kernel_rfl
theorem zpu{w:World}{k len:Nat}{v:Value}{xs:List Value}(h:Wk.Rd w k v len xs)(hk:0<k):∀b∈Wk.zg7 v,b<w.heap.size:=by
 intro b hb
 have hl:=h.len_xs
 obtain⟨p,cap,rfl,_,_,_,_,h6⟩:=h
 cases p with
 |none=>simp[Wk.zg7]at hb
 |some a=>
  cases len with
  |zero=>simp[Wk.zg7]at hb
  |succ m=>
   simp[Wk.zg7]at hb
   obtain⟨bb,off,e,hc⟩:=h6 (by omega)
   cases e
   have hp:0<xs.length:=by rw[hl];exact Nat.mul_pos (by omega) hk
   rw[hb]
   exact Wk.ztC hc (j:=0) (by rw[List.getElem?_eq_getElem hp])
section
variable {H:Type} {enc:TypeId×Value→H} {W:World} {b:Nat} {sp:Nat→Bool} {hd:Bool}
theorem zo3{k len:Nat}{v:Value}{xs:List Value}(hn:W.heap.size≤Wk.Lw.n)(h:Wk.Rd W k v len xs)(hk:0<k):∀b∈Wk.zg7 v,Wk.Lo W b:=fun b hb=>.inl (Nat.lt_of_lt_of_le (zpu h hk b hb) hn)
theorem zrK{n:Nat}{cs:List Value}{x:DataW H×List MemPlace}(h:DataW.trod enc Tryz.prog W b sp hd n 114 cs=some x):∃y:Wk.Col,cs=y.cs:=by
 obtain⟨xs,m,_,_,hlen,hxl,hf⟩:=DataW.trod_struct Tryz.underlying114 h
 rw[cC]at hlen
 match cs,hlen with
 |[c0,c1,c2,c3],_=>
  have g0:DataW.trod enc Tryz.prog W b sp hd m 9 (([c0,c1,c2,c3].drop 0).take (Tryz.prog.cellsOf 9))=xs[0]? := hf 0 _ rfl
  have g1:DataW.trod enc Tryz.prog W b sp hd m 112 (([c0,c1,c2,c3].drop 1).take (Tryz.prog.cellsOf 112))=xs[1]? := hf 1 _ rfl
  have g2:DataW.trod enc Tryz.prog W b sp hd m 3 (([c0,c1,c2,c3].drop 2).take (Tryz.prog.cellsOf 3))=xs[2]? := hf 2 _ rfl
  have g3:DataW.trod enc Tryz.prog W b sp hd m 4 (([c0,c1,c2,c3].drop 3).take (Tryz.prog.cellsOf 4))=xs[3]? := hf 3 _ rfl
  rw[c1d]at g0
  rw[c1g]at g1
  rw[c1a]at g2
  rw[c1h]at g3
  have hx4:xs.length=4:=hxl
  match xs,hx4 with
  |[y0,y1,y2,y3],_=>
   have g0:DataW.trod enc Tryz.prog W b sp hd m 9 [c0]=some y0:=g0
   have g1:DataW.trod enc Tryz.prog W b sp hd m 112 [c1]=some y1:=g1
   have g2:DataW.trod enc Tryz.prog W b sp hd m 3 [c2]=some y2:=g2
   have g3:DataW.trod enc Tryz.prog W b sp hd m 4 [c3]=some y3:=g3
   obtain⟨s,e0,_,_⟩:=DataW.trod_string (by kernel_rfl) g0
   obtain⟨i1,e1,_,_⟩:=DataW.trod_int (k:=.i64) (by kernel_rfl) g1
   obtain⟨i2,e2,_,_⟩:=DataW.trod_int (k:=.i64) (by kernel_rfl) g2
   obtain⟨z,e3,_⟩:=DataW.trod_bool (by kernel_rfl) g3
   simp only[List.cons.injEq,and_true]at e0 e1 e2 e3
   subst e0 e1 e2 e3
   exact⟨⟨s,i1,i2,z⟩,rfl⟩
theorem zqC{n:Nat}{cs:List Value}{x:DataW H×List MemPlace}(h:DataW.trod enc Tryz.prog W b sp hd n 31 cs=some x):∃v l,cs=[v]∧Wk.zil W v l:=by
 obtain⟨v,l,h1,h2,_⟩:=zgv (f:=Wk.Col.cs) (Q:=fun _=>True) Tryz.underlying31 cC (by decide) Wk.zaz (fun x _=>Wk.Col.one x) (fun _ _ _ h=>let ⟨y,hy⟩:=zrK h; ⟨y,hy,trivial⟩) h
 exact⟨v,l,h1,h2⟩
theorem zk1{n:Nat}{cs:List Value}{x:DataW H×List MemPlace}(h:DataW.trod enc Tryz.prog W b sp hd n 32 cs=some x):∃v l,cs=[v]∧Wk.yw W v l:=by
 obtain⟨v,l,h1,h2,_⟩:=zgv (f:=Wk.ics) (Q:=fun _=>True) Tryz.underlying32 c1a (by decide) Wk.zhs (fun x _=>Wk.zv7 x) (fun _ cs _ h=>by
  obtain⟨i,e,_,_⟩:=DataW.trod_int (k:=.i64) (by kernel_rfl) h
  exact⟨i,e,trivial⟩) h
 exact⟨v,l,h1,h2⟩
def vcs(p:Value×List Int):List Value:=[p.1]
theorem ztZ:∀l:List (Value×List Int),Wk.fl vcs l=l.map (·.1)
 |[]=>rfl
 |p::l=>by rw[Wk.zgA,ztZ l];rfl
theorem zpL:∀l:List (Value×List Int),(∀p∈l,Wk.yw W p.1 p.2)→Wk.zcJ W 3 1 Wk.ics (l.map (·.1)) (l.map (·.2))
 |[],_=>trivial
 |p::l,h=>⟨h p (by simp),zpL l (fun q hq=>h q (by simp[hq]))⟩
theorem zoQ{n:Nat}{cs:List Value}{x:DataW H×List MemPlace}(h:DataW.trod enc Tryz.prog W b sp hd n 33 cs=some x):∃(v:Value) (vs:List Value) (l:List (List Int)),cs=[v]∧Wk.Rd W 1 v l.length vs∧Wk.zcJ W 3 1 Wk.ics vs l∧∀u∈vs,∃n xs,Wk.Rd W 1 u n xs:=by
 obtain⟨v,l,h1,h2,h3⟩:=zgv (f:=vcs) (Q:=fun p=>Wk.yw W p.1 p.2) Tryz.underlying33 c1j (by decide) (fun _=>rfl) (fun p hp u hu=>by simp[vcs]at hu;subst hu;exact Wk.zN.one1 hp) (fun _ cs _ h=>by
  obtain⟨v,l,e,hl⟩:=zk1 h
  exact⟨(v,l),e,hl⟩) h
 have h2':Wk.Rd W 1 v l.length (Wk.fl vcs l):=h2
 rw[ztZ]at h2'
 refine⟨v,l.map (·.1),l.map (·.2),h1,by rwa [List.length_map],zpL l h3,fun u hu=>?_⟩
 obtain⟨p,hp,rfl⟩:=List.mem_map.1 hu
 exact⟨_,_,h3 p hp⟩
theorem zrP{n:Nat}{cs:List Value}{x:DataW H×List MemPlace}(hn:W.heap.size≤Wk.Lw.n)(h:DataW.trod enc Tryz.prog W b sp hd n 35 cs=some x):∃c k u s,cs=[c,k,u]∧Wk.zaa W c k u s:=by
 obtain⟨xs,m,_,_,hlen,hxl,hf⟩:=DataW.trod_struct Tryz.underlying35 h
 rw[cS]at hlen
 match cs,hlen with
 |[c0,c1,c2],_=>
  have g0:DataW.trod enc Tryz.prog W b sp hd m 31 (([c0,c1,c2].drop 0).take (Tryz.prog.cellsOf 31))=xs[0]? := hf 0 _ rfl
  have g1:DataW.trod enc Tryz.prog W b sp hd m 32 (([c0,c1,c2].drop 1).take (Tryz.prog.cellsOf 32))=xs[1]? := hf 1 _ rfl
  have g2:DataW.trod enc Tryz.prog W b sp hd m 33 (([c0,c1,c2].drop 2).take (Tryz.prog.cellsOf 33))=xs[2]? := hf 2 _ rfl
  rw[c1i]at g0
  rw[c1j]at g1
  rw[c1k]at g2
  have hx3:xs.length=3:=hxl
  match xs,hx3 with
  |[y0,y1,y2],_=>
   have g0:DataW.trod enc Tryz.prog W b sp hd m 31 [c0]=some y0:=g0
   have g1:DataW.trod enc Tryz.prog W b sp hd m 32 [c1]=some y1:=g1
   have g2:DataW.trod enc Tryz.prog W b sp hd m 33 [c2]=some y2:=g2
   obtain⟨v0,l0,e0,h0⟩:=zqC g0
   obtain⟨v1,l1,e1,h1⟩:=zk1 g1
   obtain⟨v2,vs,l2,e2,h2,h3,h4⟩:=zoQ g2
   cases e0;cases e1;cases e2
   refine⟨_,_,_,⟨l0,l1,l2⟩,rfl,h0,h1,⟨vs,h2,h3,fun v hv=>?_⟩,fun v hv=>?_⟩
   ·obtain⟨n,xs,hr⟩:=h4 v hv
    exact zo3 hn hr (by decide)
   simp only[List.mem_cons,List.not_mem_nil,or_false]at hv
   rcases hv with rfl|rfl|rfl
   ·exact zo3 hn h0 (by decide)
   ·exact zo3 hn h1 (by decide)
   exact zo3 hn h2 (by decide)
theorem zqy{n:Nat}{cs:List Value}{x:DataW H×List MemPlace}(h:DataW.trod enc Tryz.prog W b sp hd n 78 cs=some x):∃p:ByteArray×ByteArray,cs=Wk.pcs p∧p.1.size≤9223372036854775807∧p.2.size≤9223372036854775807:=by
 obtain⟨xs,m,_,_,hlen,hxl,hf⟩:=DataW.trod_array Tryz.underlying78 h
 rw[cN2]at hlen
 have g0:=hf 0 (by decide)
 have g1:=hf 1 (by decide)
 rw[c1d]at g0 g1
 match cs,hlen,xs,hxl with
 |[c0,c1],_,[y0,y1],_=>
  have g0:DataW.trod enc Tryz.prog W b sp hd m 9 [c0]=some y0:=g0
  have g1:DataW.trod enc Tryz.prog W b sp hd m 9 [c1]=some y1:=g1
  obtain⟨s,e0,_,m0⟩:=DataW.trod_string (by kernel_rfl) g0
  obtain⟨t,e1,_,m1⟩:=DataW.trod_string (by kernel_rfl) g1
  cases e0;cases e1
  exact⟨(s,t),rfl,m0,m1⟩
theorem zn5{n:Nat}{cs:List Value}{x:DataW H×List MemPlace}(h:DataW.trod enc Tryz.prog W b sp hd n 37 cs=some x):∃v l,cs=[v]∧Wk.zc5 W v l∧∀p∈l,p.1.size≤9223372036854775807∧p.2.size≤9223372036854775807:=
 zgv (f:=Wk.pcs) (Q:=fun p=>p.1.size≤9223372036854775807∧p.2.size≤9223372036854775807) Tryz.underlying37 cN2 (by decide) Wk.zbo (fun x _=>Wk.zlz x) (fun _ _ _ h=>zqy h) h
theorem zpV{n:Nat}{cs:List Value}{x:DataW H×List MemPlace}(hn:W.heap.size≤Wk.Lw.n)(h:DataW.trod enc Tryz.prog W b sp hd n 39 cs=some x):∃(y:Wk.EvT) (e:Wk.EvV),cs=Wk.evC y e∧Wk.zbv W e y∧Wk.zln y:=by
 obtain⟨xs,m,_,_,hlen,hxl,hf⟩:=DataW.trod_struct Tryz.underlying39 h
 rw[cE]at hlen
 match cs,hlen with
 |[c0,c1,c2,c3,c4,c5,c6,c7],_=>
  have g0:DataW.trod enc Tryz.prog W b sp hd m 30 (([c0,c1,c2,c3,c4,c5,c6,c7].drop 0).take (Tryz.prog.cellsOf 30))=xs[0]? := hf 0 _ rfl
  have g1:DataW.trod enc Tryz.prog W b sp hd m 9 (([c0,c1,c2,c3,c4,c5,c6,c7].drop 1).take (Tryz.prog.cellsOf 9))=xs[1]? := hf 1 _ rfl
  have g2:DataW.trod enc Tryz.prog W b sp hd m 35 (([c0,c1,c2,c3,c4,c5,c6,c7].drop 2).take (Tryz.prog.cellsOf 35))=xs[2]? := hf 2 _ rfl
  have g3:DataW.trod enc Tryz.prog W b sp hd m 36 (([c0,c1,c2,c3,c4,c5,c6,c7].drop 5).take (Tryz.prog.cellsOf 36))=xs[3]? := hf 3 _ rfl
  have g4:DataW.trod enc Tryz.prog W b sp hd m 36 (([c0,c1,c2,c3,c4,c5,c6,c7].drop 6).take (Tryz.prog.cellsOf 36))=xs[4]? := hf 4 _ rfl
  have g5:DataW.trod enc Tryz.prog W b sp hd m 37 (([c0,c1,c2,c3,c4,c5,c6,c7].drop 7).take (Tryz.prog.cellsOf 37))=xs[5]? := hf 5 _ rfl
  rw[c1l]at g0
  rw[c1d]at g1
  rw[cS]at g2
  rw[c1f]at g3
  rw[c1f]at g4
  rw[c1m]at g5
  have hx6:xs.length=6:=hxl
  match xs,hx6 with
  |[y0,y1,y2,y3,y4,y5],_=>
   have g0:DataW.trod enc Tryz.prog W b sp hd m 30 [c0]=some y0:=g0
   have g1:DataW.trod enc Tryz.prog W b sp hd m 9 [c1]=some y1:=g1
   have g2:DataW.trod enc Tryz.prog W b sp hd m 35 [c2,c3,c4]=some y2:=g2
   have g3:DataW.trod enc Tryz.prog W b sp hd m 36 [c5]=some y3:=g3
   have g4:DataW.trod enc Tryz.prog W b sp hd m 36 [c6]=some y4:=g4
   have g5:DataW.trod enc Tryz.prog W b sp hd m 37 [c7]=some y5:=g5
   obtain⟨k,e0,_,w0⟩:=DataW.trod_int (k:=.i64) (by kernel_rfl) g0
   obtain⟨t,e1,_,_⟩:=DataW.trod_string (by kernel_rfl) g1
   obtain⟨sc,sk,su,s,e2,hs⟩:=zrP hn g2
   obtain⟨v3,l3,e3,h3,r3⟩:=zkO g3
   obtain⟨v4,l4,e4,h4,r4⟩:=zkO g4
   obtain⟨v5,l5,e5,h5,r5⟩:=zn5 g5
   cases e0;cases e1;cases e2;cases e3;cases e4;cases e5
   exact⟨⟨k,t,s,l3,l4,l5⟩,⟨_,_,_,_,_,_⟩,rfl,⟨hs,h3,h4,h5,zxt w0,r3,r4⟩,r5⟩
theorem ztI{n:Nat}{cs:List Value}{x:DataW H×List MemPlace}(hn:W.heap.size≤Wk.Lw.n)(h:DataW.trod enc Tryz.prog W b sp hd n 22 cs=some x):∃v l,cs=[v]∧Wk.zej W v l∧∀y∈l,Wk.zln y:=by
 obtain⟨v,l,h1,h2,h3⟩:=zgv (f:=fun p:Wk.EvT×Wk.EvV=>Wk.evC p.1 p.2) (Q:=fun p=>Wk.zbv W p.2 p.1∧Wk.zln p.1) Tryz.underlying22 cE (by decide) (fun p=>Wk.zi8 p.1 p.2) (fun _ hx=>hx.1.one) (fun _ _ _ h=>by
  obtain⟨y,e,h1,h2,h3⟩:=zpV hn h
  exact⟨(y,e),h1,h2,h3⟩) h
 refine⟨v,l.map (·.1),h1,⟨l,h2,fun p hp=>(h3 p hp).1,rfl⟩,fun y hy=>?_⟩
 obtain⟨p,hp,rfl⟩:=List.mem_map.1 hy
 exact(h3 p hp).2
end
end Go.Proofs.YtkfpmjjcogigfaaGreatDoor
