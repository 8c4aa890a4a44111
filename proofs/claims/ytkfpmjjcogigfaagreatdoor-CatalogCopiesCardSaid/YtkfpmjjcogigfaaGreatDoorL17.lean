/- joined texts -/
import Derived.Test.YtkfpmjjcogigfaaGreatDoorL16
import Derived.Test.YtkfpmjjcogigfaaGreatDoorRows
import Derived.ProofKit
import Derived.OpenShut
import Derived.Deep.Slices
import Derived.LaidMore
import Derived.ChangeSame
import Derived.LaidHandle
import Derived.Stop.Joined
import Derived.SevenTiedAt
set_option linter.all false
namespace Go.Wk
open Go.Proofs
set_option linter.unusedSectionVars false
variable [Lw]
set_option maxRecDepth 10000
def tT:By:=⟨#[116]⟩
def uU:By:=⟨#[117]⟩
def wW:By:=⟨#[119]⟩
def zfb(n:By)(l:List zX):EvT:=⟨1,n,zfW,[],l,[]⟩
def zff(n:By)(l:List zX):EvT:=⟨3,n,zfW,l,[],[]⟩
def zoE:List (By×By):=[(tT,uU),(uU,tT)]
def zoW:List (By×By):=[(tT,uU)]
def wc1:Cat:=doC [] (zbP tT)
def wc2:Cat:=doC wc1 (zbP uU)
def wc3:Cat:=doC wc2 (zeA zoE)
def wc4:Cat:=doC wc3 (zeA zoW)
def wc5:Cat:=doC wc4 (za8 wW)
def wc6:Cat:=doC wc5 (zfb tT (zez 1))
def wc7:Cat:=doC wc6 (zff tT (zez 2))
def wc8:Cat:=zoP wc7 [za8 tT,za8 tT]
theorem wk1:doE [] (zbP tT)=0:=by decide +kernel
theorem wk2:doE wc1 (zbP uU)=0:=by decide +kernel
theorem wk3:doE wc2 (zeA zoE)=0:=by decide +kernel
theorem wk4:doE wc3 (zeA zoW)=220:=by decide +kernel
theorem wk5:doE wc4 (za8 wW)=5:=by decide +kernel
theorem wk6:doE wc5 (zfb tT (zez 1))=0:=by decide +kernel
theorem wk7:doE wc6 (zff tT (zez 2))=230:=by decide +kernel
theorem wk8:zh3 wc7 [za8 tT,za8 tT] 0=(1,5):=by decide +kernel
theorem wk9:(atC wc8 tT).isSome=true:=by decide +kernel
theorem wq1:doC [] (zbP tT)=wc1:=rfl
theorem wq2:doC wc1 (zbP uU)=wc2:=rfl
theorem wq3:doC wc2 (zeA zoE)=wc3:=rfl
theorem wq4:doC wc3 (zeA zoW)=wc4:=rfl
theorem wq5:doC wc4 (za8 wW)=wc5:=rfl
theorem wq6:doC wc5 (zfb tT (zez 1))=wc6:=rfl
theorem wq7:doC wc6 (zff tT (zez 2))=wc7:=rfl
theorem wq8:zoP wc7 [za8 tT,za8 tT]=wc8:=rfl
attribute [irreducible] wc1 wc2 wc3 wc4 wc5 wc6 wc7 wc8
attribute [local irreducible] doE doC zh3 zoP atC
theorem zlJ:zfW.Sm:=⟨by decide,by decide,by decide,by simp[zfW]⟩
theorem zlw{n:By}(h:n.size≤1048576):zcY (za8 n):=⟨zlJ,by simp[za8],by simp[za8],by simp[za8],h,by simp[za8,zfW],by simp[za8]⟩
theorem zlg{n:By}(h:n.size≤1048576):zcY (zbP n):=⟨⟨by simp[zbP,zkB],by simp[zbP,zkB],by simp[zbP,zkB],by simp[zkB,zbP]⟩,by simp[zbP],by simp[zbP],by simp[zbP],h,by intro c hc;simp[zbP,zkB]at hc;subst hc;decide,by simp[zbP]⟩
theorem zmb{m:List (By×By)}(h:m.length≤1048576)(hm:∀p∈m,p.1.size≤9223372036854775807∧p.2.size≤9223372036854775807):zcY (zeA m):=⟨zlJ,by simp[zeA],by simp[zeA],h,by show e0.size≤1048576;decide,by simp[zeA,zfW],hm⟩
theorem ztv{n:By}{i:Int}(h:n.size≤1048576):zcY (zfb n (zez i)):=⟨zlJ,by simp[zfb],by simp[zfb,zez],by simp[zfb],h,by simp[zfb,zfW],by simp[zfb]⟩
theorem zsD{n:By}{i:Int}(h:n.size≤1048576):zcY (zff n (zez i)):=⟨zlJ,by simp[zff,zez],by simp[zff],by simp[zff],h,by simp[zff,zfW],by simp[zff]⟩
theorem zmc{i:Int}(h : -9223372036854775808≤i∧i≤9223372036854775807):∀y∈zez i,y.Rng:=by
 intro y hy
 simp[zez]at hy
 subst hy
 exact⟨by simp,h,by simp⟩
theorem zun{n:By}{i:Int}{v:Va}{w:Wl}(h:ya w v (zez i))(hi : -9223372036854775808≤i∧i≤9223372036854775807):zbj w { zi5 with n:=v } (zfb n (zez i)):=⟨zhp w,zN.nil _ _ _ _,h,zN.nil _ _ _ _,by simp[zfb],by simp[zfb],zmc hi⟩
theorem zuA{n:By}{i:Int}{v:Va}{w:Wl}(h:ya w v (zez i))(hi : -9223372036854775808≤i∧i≤9223372036854775807):zbj w { zi5 with o:=v } (zff n (zez i)):=⟨zhp w,h,zN.nil _ _ _ _,zN.nil _ _ _ _,by simp[zff],zmc hi,by simp[zff]⟩
theorem zs1(n:By){b:Nat}{w:Wl}(k:zO w b 39 (fl (fun p:EvT×EvV=>evC p.1 p.2) [(za8 n,zi5),(za8 n,zi5)])):zed w (.slice (some ⟨b,0,none⟩) 2 2) [za8 n,za8 n]:=
 ⟨[(za8 n,zi5),(za8 n,zi5)],(zB.of_blk (n:=2) k rfl (by simp[maxLen]) (by
  intro u hu
  simp only[fl,List.flatMap_cons,List.flatMap_nil,List.append_nil,List.mem_append]at hu
  rcases hu with h|h<;>exact(zh2 n w).one u h)).toRd,by
  intro p hp
  simp at hp
  subst hp
  exact zh2 n w,U⟩
set_option maxHeartbeats 1000000 in
theorem zh4(w:Wl)(hE:EOk w)(hN:Lw.n≤w.heap.size):zS TP 9 #[] w fun r w'=>r=.bool true∧zk [] w w':=by
 refine zS.of_W (args:=[]) Tryz.func9 U U U U ?_
 refine Sr (Oa U (yO [] (F':=[]) U (Sr ?_)))
 refine Oc zxX U U U (zxD hE hN) ?_
 rintro v11 w11⟨p,rfl,K,c11⟩
 refine Oa U (E1 1 U ?_)
 have st:tT.size≤1048576:=by decide
 have su:uU.size≤1048576:=by decide
 have sw:wW.size≤1048576:=by decide
 have m1:∀q∈zoE,q.1.size≤9223372036854775807∧q.2.size≤9223372036854775807:=by decide
 have m2:∀q∈zoW,q.1.size≤9223372036854775807∧q.2.size≤9223372036854775807:=by decide
 refine Sr (Om U ?_)
 refine Oc zzz U U U (zka tT _) ?_
 rintro v13 w13⟨e13,rfl,h13,c13⟩
 refine Oc zi2 U U U (zkJ (K.chg0 c13) h13 (zlg st)) ?_
 rintro v14 w14⟨e14,K14,n14⟩
 rw[wk1]at e14
 subst e14
 rw[wq1]at K14
 refine Oc znS U U U (zeS _ _) ?_
 rintro v15 w15⟨rfl,rfl⟩
 refine Om U ?_
 refine Oc zzz U U U (zka uU _) ?_
 rintro v17 w17⟨e17,rfl,h17,c17⟩
 refine Oc zi2 U U U (zkJ (K14.chg0 c17) h17 (zlg su)) ?_
 rintro v18 w18⟨e18,K18,n18⟩
 rw[wk2]at e18
 subst e18
 rw[wq2]at K18
 refine Oc znS U U U (zeS _ _) ?_
 rintro v19 w19⟨rfl,rfl⟩
 refine Og (yv (v':=Ii ((0:Nat):Int)) (zG U U (by omega)) (by congr 1)) U ?_
 refine Om U ?_
 refine Og (zer zco sz9 zoo U (vs:=[_,_]) U (css:=[_,_]) ⟨U,U,Tt⟩ U U (cs:=[_,_]) U) U ?_
 refine Og (zer zco sz9 zoo U (vs:=[_,_]) U (css:=[_,_]) ⟨U,U,Tt⟩ U U (cs:=[_,_]) U) U ?_
 refine Oq (zA zAC U (vs:=[_,_]) U (css:=[_,_]) ⟨U,U,Tt⟩ U U (cs:=[_,_,_,_]) U U ?_)
 intro b24 w24 e24 n24 c24 k24
 refine Oc zB2 U U U (zjp _ zoE _ (zN.of_blk (l:=zoE) zbu zl4 k24 (by simp[zoE,maxLen]))) ?_
 rintro v25 w25⟨rfl,h25,c25⟩
 refine Oc zi2 U U U (zkJ ((K18.chg0 c24).chg0 c25) h25 (zmb (by decide) m1)) ?_
 rintro v26 w26⟨e26,K26,n26⟩
 rw[wk3]at e26
 subst e26
 rw[wq3]at K26
 refine Oc znS U U U (zeS _ _) ?_
 rintro v27 w27⟨rfl,rfl⟩
 refine Og (yv (v':=Ii ((0:Nat):Int)) (zG U U (by omega)) (by congr 1)) U ?_
 refine Oa U (E2 1 2 U (Sr (Om U ?_)))
 refine Og (zer zco sz9 zoo U (vs:=[_,_]) U (css:=[_,_]) ⟨U,U,Tt⟩ U U (cs:=[_,_]) U) U ?_
 refine Oq (zA zAC U (vs:=[_]) U (css:=[_]) ⟨U,Tt⟩ U U (cs:=[_,_]) U U ?_)
 intro b31 w31 e31 n31 c31 k31
 refine Oc zB2 U U U (zjp _ zoW _ (zN.of_blk (l:=zoW) zbu zl4 k31 (by simp[zoW,maxLen]))) ?_
 rintro v32 w32⟨rfl,h32,c32⟩
 refine Oc zi2 U U U (zkJ ((K26.chg0 c31).chg0 c32) h32 (zmb (by decide) m2)) ?_
 rintro v33 w33⟨e33,K33,n33⟩
 rw[wk4]at e33
 subst e33
 rw[wq4]at K33
 refine Om U ?_
 refine Oc zyB U U U (zkx wW _) ?_
 rintro v35 w35⟨rfl,c35⟩
 refine Oc zi2 U U U (zkJ (K33.chg0 c35) (zh2 wW _) (zlw sw)) ?_
 rintro v36 w36⟨e36,K36,n36⟩
 rw[wk5]at e36
 subst e36
 rw[wq5]at K36
 refine Oa U (Oa U (E4 1 2 3 4 U (Sr (Om U ?_))))
 refine Oc zB6 U U U (zqh 1 _) ?_
 rintro v38 w38⟨b38,rfl,f38,k38,c38⟩
 have i38:zbj w38 { zi5 with n:=.slice (some ⟨b38,0,none⟩) 1 1 } (zfb tT (zez 1)):=zun (n:=tT) (zqz k38) (by omega)
 have d38:=zkJ (K36.chg0 c38) i38 (ztv st)
 refine Og (zem zq0 zh6 U (qs:=[(0,_),(1,_),(4,_)]) U (css:=[_,_,_]) ⟨U,U,U,Tt⟩ (cs:=[_,_,_,_,_,_,_,_]) U) U ?_
 refine Oc zi2 U U U d38 ?_
 rintro v40 w40⟨e40,K40,n40⟩
 rw[wk6]at e40
 subst e40
 rw[wq6]at K40
 refine Om U ?_
 refine Oc zB6 U U U (zqh 2 _) ?_
 rintro v42 w42⟨b42,rfl,f42,k42,c42⟩
 have i42:zbj w42 { zi5 with o:=.slice (some ⟨b42,0,none⟩) 1 1 } (zff tT (zez 2)):=zuA (n:=tT) (zqz k42) (by omega)
 have d42:=zkJ (K40.chg0 c42) i42 (zsD st)
 refine Og (zem zq0 zh6 U (qs:=[(0,_),(1,_),(3,_)]) U (css:=[_,_,_]) ⟨U,U,U,Tt⟩ (cs:=[_,_,_,_,_,_,_,_]) U) U ?_
 refine Oc zi2 U U U d42 ?_
 rintro v44 w44⟨e44,K44,n44⟩
 rw[wk7]at e44
 subst e44
 rw[wq7]at K44
 refine Oa U (Oa U (E6 1 2 3 4 5 6 U (Sr (Om U ?_))))
 refine Oc zyB U U U (zkx tT _) ?_
 rintro v47 w47⟨rfl,c47⟩
 refine Oc zyB U U U (zkx tT _) ?_
 rintro v48 w48⟨rfl,c48⟩
 refine Oq (zA zDe U (vs:=[_,_]) U (css:=[_,_]) ⟨U,U,Tt⟩ U U (cs:=[_,_,_,_,_,_,_,_,_,_,_,_,_,_,_,_]) U U ?_)
 intro b49 w49 e49 n49 c49 k49
 refine Oc zDc U U U (zCx (((K44.chg0 c47).chg0 c48).chg0 c49) (zs1 tT k49) (by intro x hx;simp at hx;subst hx;exact zlw st) (by decide)) ?_
 rintro v50 w50⟨e50,K50,n50⟩
 rw[wk8]at e50
 subst e50
 rw[wq8]at K50
 refine Om U (Oe U U (Oe U U (Oa U (Oa U (E8 1 2 3 4 5 6 7 8 U (Sr (Om U ?_)))))))
 refine Oc zAW U U U (zwd (n:=tT) K50) ?_
 rintro v55 w55⟨u55,e55,-,c55⟩
 rw[wk9]at e55
 subst e55
 refine Om U (Oe U U (Oe U U (Oa U (Oa U (E8 2 3 4 5 6 7 8 10 U ?_)))))
 have hc:=(K50.chg0 c55).ch
 refine Sr (Om U (Og (vt (zy U U) U) U (Om U (Ov U ?_))))
 refine Ow U U znS U U U (zeS _ _) ?_
 rintro v62 w62⟨rfl,rfl⟩
 refine Oi U (vt (zy U U) U) (Ot U (Om U (Ov U ?_)))
 refine Ow U U znS U U U (zeS _ _) ?_
 rintro v67 w67⟨rfl,rfl⟩
 refine Oi U (vt (zy U U) U) (Ot U (Om U (Ov U ?_)))
 refine Ow U U znS U U U (zeS _ _) ?_
 rintro v72 w72⟨rfl,rfl⟩
 refine Oi U (vt (zy U U) U) (Ot U (Om U (Ov U ?_)))
 refine Ow U U znS U U U (zeS _ _) ?_
 rintro v77 w77⟨rfl,rfl⟩
 refine Oi U (vt (zy U U) U) (Ot U (Om U (Ov U (Oi U (vt (zy U U) U) (Ot U (Om U (Ov U ?_)))))))
 refine Ow U U znS U U U (zeS _ _) ?_
 rintro v86 w86⟨rfl,rfl⟩
 refine Oi U (vt (zy U U) U) (Ot U (Om U (Ov U (Ot U (Oa U (E1 0 U (zj ?_)))))))
 refine zw U U ?_
 exact⟨U,hc⟩
theorem KS.box{w0 w w':Wl}{l:List (Nat×Cat)}{b:Nat}{q:Option Addr}{n m:Nat}(h:KS w0 w l)(hb:zO w b 48 [.slice q n m])(hc:zk [b] w w')(hf:w0.heap.size≤b)(hN:Lw.n≤w0.heap.size):KS w0 w' l:=by
 obtain⟨T,hT,hE,hw,h1,h2⟩:=h
 refine⟨T,hT,hE.hm (Hm.rcat hb) hc,hw.own hc (by intro y hy;simp at hy;omega),fun x hx=>⟨(h1 x hx).1.other (fun y hy hm=>?_) (Hm.rcat hb) hc,(h1 x hx).2⟩,h2⟩
 simp at hm
 subst hm
 exact(h1 x hx).1.notR y hy _ hb
theorem zuj{L:List (EvT×EvV)}{j:Nat}{q:EvT×EvV}(h:L[j]?=some q)(c:Cat):zee c ((L.take (j+1)).map (·.1))=doC (zee c ((L.take j).map (·.1))) q.1:=by
 obtain⟨hl,rfl⟩:=Gs h
 rw[List.take_succ_eq_append_getElem hl,List.map_append]
 exact zlm _ _ _
theorem zus{w:Wl}{L:List (EvT×EvV)}(hI:∀q∈L,zbj w q.2 q.1)(j:Nat):za0 (zee [] ((L.take j).map (·.1))):=za0.nil.all fun x hx=>by
 obtain⟨q,hq,rfl⟩:=List.mem_map.1 hx
 exact(hI q (List.mem_of_mem_take hq)).rw
def evP(a b:EvT×EvV):LA:=evC a.1 a.2++evC b.1 b.2
set_option maxHeartbeats 1000000 in
theorem zi0(va:Va)(xs:List EvT)(y1 y2:EvT×EvV)(w:Wl)(hE:EOk w)(hN:Lw.n≤w.heap.size)(ha:zed w va xs)(h1:zbj w y1.2 y1.1)(h2:zbj w y2.2 y2.1)(na:∀x∈xs,zie x)(n1:zie y1.1)(n2:zie y2.1) :
 zS TP 7 #[va,.agg (evP y1 y2).toArray] w fun r w'=>r=.bool true∧zk [] w w':=by
 obtain⟨L,hA,hI,rfl⟩:=ha
 have ha:zed w va (L.map (·.1)):=⟨L,hA,hI,rfl⟩
 obtain⟨pa,ca,rfl,hca⟩:=zN.val hA
 refine A2 Tryz.func7 U U ?_
 refine Sr ?_
 refine Ob U U ?_
 intro b3 w3 e3 n3 c3 k3
 refine Oa U (E2 0 3 U ?_)
 have k3:zO w3 b3 74 (evP y1 y2):=k3
 have ha:=ha.chg0 c3
 have hE:=hE.hm (Hm.nil w) c3
 have hpair:∀{W:Wl},zk [] w3 W→zed W (.slice (some ⟨b3,0,none⟩) 2 2) [y1.1,y2.1]:=fun hc=>⟨[y1,y2],(zB.of_blk (n:=2) (k3.chg0 hc) rfl (by simp[maxLen]) (by
  intro u hu
  rcases List.mem_append.1 hu with hu|hu
  ·exact h1.one u hu
  ·exact h2.one u hu)).toRd,by
  intro q hq
  simp at hq
  rcases hq with rfl|rfl
  ·exact h1.chg0 (c3.trans hc)
  exact h2.chg0 (c3.trans hc),U⟩
 refine zf (zf ?_)
 cases h20:zol (L.map (·.1)) 20 with
 |false=>
  refine za (Om U ?_)
  refine Oc bd8 U U U (zhb _ _ 20 _ ha (by decide)) ?_
  rintro v15 w15⟨e15,c15⟩
  rw[h20]at e15
  subst e15
  refine Og (zC U) U (Om U (Ok U (Ok U (Ok U (Ot U (E3 0 3 21 U (ze U (Sr ?_))))))))
  refine Oc bd9 U U U (zh4 _ (hE.hm (Hm.nil w3) c15) (Nat.le_trans hN (c3.trans c15).size)) ?_
  rintro v22 w22⟨rfl,c22⟩
  refine Oa U (E1 4 U (zj ?_))
  repeat first|refine tr ?_|refine br ?_
  refine zw U U ?_
  exact⟨U,(c3.trans c15).trans c22⟩
 |true=>
 cases h10:zol [y1.1,y2.1] 2 with
 |false=>
  refine za (Om U ?_)
  refine Oc bd8 U U U (zhb _ _ 20 _ ha (by decide)) ?_
  rintro v15 w15⟨e15,c15⟩
  rw[h20]at e15
  subst e15
  refine Og (zC U) U (Om U (Oi U (zi6 zqU zaD U) ?_))
  refine Ow U U bd8 U U U (zhb _ _ 2 _ (hpair c15) (by decide)) ?_
  rintro v19 w19⟨e19,c19⟩
  rw[h10]at e19
  subst e19
  refine Oi U (zC U) (Of U (E3 0 3 21 U (ze U (Sr ?_))))
  refine Oc bd9 U U U (zh4 _ (hE.hm (Hm.nil w3) (c15.trans c19)) (Nat.le_trans hN ((c3.trans c15).trans c19).size)) ?_
  rintro v22 w22⟨rfl,c22⟩
  refine Oa U (E1 4 U (zj ?_))
  repeat first|refine tr ?_|refine br ?_
  refine zw U U ?_
  exact⟨U,((c3.trans c15).trans c19).trans c22⟩
 |true=>
 refine za (Om U ?_)
 refine Oc bd8 U U U (zhb _ _ 20 _ ha (by decide)) ?_
 rintro v15 w15⟨e15,c15⟩
 rw[h20]at e15
 subst e15
 refine Og (zC U) U (Om U (Oi U (zi6 zqU zaD U) ?_))
 refine Ow U U bd8 U U U (zhb _ _ 2 _ (hpair c15) (by decide)) ?_
 rintro v19 w19⟨e19,c19⟩
 rw[h10]at e19
 subst e19
 refine Oi U (zC U) (Of U (E3 0 3 21 U (zb U (zm ?_))))
 obtain⟨hl20,hs20⟩:=zqx h20 na
 obtain⟨-,hs2⟩:=zqx h10 (by
  intro x hx
  simp at hx
  rcases hx with rfl|rfl<;>assumption)
 have s1:=hs2 y1.1 (by simp)
 have s2:=hs2 y2.1 (by simp)
 rw[List.length_map]at hl20
 have ha':∀q∈L,zcY q.1:=fun q hq=>hs20 q.1 (List.mem_map.2 ⟨q,hq,rfl⟩)
 have hc19:=(c3.trans c15).trans c19
 have hE:=hE.hm (Hm.nil w3) (c15.trans c19)
 have hNw:=Nat.le_trans hN hc19.size
 have k3:=k3.chg0 (c15.trans c19)
 have h1:=h1.chg0 hc19
 have h2:=h2.chg0 hc19
 have hA:=zN.chg0 hA hc19
 have hI:∀q∈L,zbj w19 q.2 q.1:=fun q hq=>(hI q hq).chg0 hc19
 have e1c:∀{W:Wl},zk [] w19 W→zv W b3 (0+0*8) (evC y1.1 y1.2):=fun hc=>zv.of_blk (k3.chg0 hc) 0 _ ⟨evC y2.1 y2.2,rfl⟩
 have e2c:∀{W:Wl},zk [] w19 W→zv W b3 (0+1*8) (evC y2.1 y2.2):=fun hc=>zv.of_blk (k3.chg0 hc) 8 _ ⟨[],rfl⟩
 refine Sr ?_
 refine Oc zxX U U U (zxD hE hNw) ?_
 rintro v23 w23⟨p,rfl,K,c23⟩
 refine Oa U (E3 0 3 5 U (Sr ?_))
 refine Oq (zF zkf U U ?_)
 intro b6 w6 e6 n6 c6 k6
 refine E4 0 3 5 6 U ?_
 have hs23:=c23.size
 have hb6:w19.heap.size≤b6:=by omega
 have K6:=K.chg0 c6
 refine zR (fun F wx=>∃v',prune [0,3,5,6] F=[(0,.slice pa L.length ca),(3,Pt b3),(5,Pt p),(6,Pt b6)]∧KS w19 wx [(p,zee [] (L.map (·.1)))]∧zO wx b6 48 [v']∧zbX wx v' (zee [] (L.map (·.1)))) ?_ ?_
 ·refine Sr (Oa U (E5 0 3 5 6 7 U (zp ?_)))
  refine zQ [0,3,5,6,7] (fun k F wx=>∃(j:Nat) (v':Va),k=L.length-j∧j≤L.length∧F=[(0,.slice pa L.length ca),(3,Pt b3),(5,Pt p),(6,Pt b6),(7,Ii j)]∧KS w19 wx [(p,zee [] ((L.take j).map (·.1)))]∧zO wx b6 48 [v']∧zbX wx v' (zee [] ((L.take j).map (·.1)))) (m:=L.length-0) ⟨0,_,U,Zl _,U,K6,k6,zbX.nil _⟩ ?_
  rintro k F wx⟨j,v',rfl,hj,rfl,Kx,k6,hv'⟩
  refine zf (zf ?_)
  by_cases hlt:j<L.length
  ·refine za (Om U (Om U (On zhV U ?_)))
   refine Og (vt (zz U U) (dt (by omega))) U ?_
   refine E6 0 3 5 6 7 27 U (ze U (zm ?_))
   have hq:L[j]?=some L[j]:=by simp[hlt]
   have hmem:=List.getElem_mem hlt
   generalize L[j]=q at hq hmem
   obtain⟨b,off,cap,hve,hcell⟩:=zN.at (fun p:EvT×EvV=>zjk p.1 p.2) hA hq
   cases hve
   have hokj:=zus hI j
   have hatk:=zuj hq []
   have hsm:=ha' q hmem
   generalize zee [] ((L.take j).map (·.1))=cj at Kx hv' hokj hatk
   refine zf (zp (Sr (Om U (Om U (Om U ?_)))))
   refine Og (zi zhV zaD U U _ U hlt) U ?_
   refine Og (zh zbO zaD U U (zv.chg0 hcell Kx.ch)) U ?_
   refine Oc zi2 U U U (zkJ Kx ((hI q hmem).chg0 Kx.ch) hsm) ?_
   rintro v35 w35⟨rfl,K1,n1⟩
   refine E5 0 3 5 6 7 U ?_
   have hd:zk [] w35 w35.drew:=zk.drew [] _
   have k6a:=k6.tnR n1
   have hva:=hv'.tn n1
   refine zH (fun wz=>zk [] w35 wz) mix (by kernel_rfl) hd ?_
   refine Tr (fun wz hz=>zh zbv zah U U (zv.of_blk0 (k6a.chg0 hz))) U (Tm U (Tm U ?_))
   refine Tp (fun _=>zi zhV zaD U U _ U hlt) U ?_
   refine Tr (fun wz hz=>zh zbO zaD U U (zv.chg0 hcell (K1.ch.trans hz))) U ?_
   refine Tc zyD U U U (zof _ cj q.2 q.1 _ (hva.chg0 hd) hokj ((hI q hmem).chg0 (K1.ch.trans hd)) hsm (K1.chg0 hd).nn) ?_
   rintro v42 w42⟨v2,rfl,h2,c2x⟩
   obtain⟨p2,q2,rfl,-⟩:=h2.val
   have H2:zk [] w35 w42:=hd.trans c2x
   refine⟨.inl H2,?_⟩
   refine Tm U (Tp (fun _=>zM U U) U (Tp (fun _=>zM U U) U ?_))
   refine zaR U (gn U) (zt zah U U U U (k6a.chg0 H2) (by simp) (by intro y hy;simp at hy;subst hy;rfl) ?_)
   intro wB nB cB kB
   refine⟨.inr (by kernel_rfl),?_⟩
   refine zdI [0,3,5,6,7] (F':=[(0,_),(3,_),(5,_),(6,_),(7,_)]) U ?_
   refine zl (za (Om U ?_))
   refine Og (zG U U (by omega)) U ?_
   refine Oa U (N5 0 3 5 6 7 U ?_)
   obtain⟨pz,qz,ez,-⟩:=hva.val
   subst ez
   refine⟨L.length-(j+1),by omega,j+1,_,rfl,by omega,rfl,?_,kB,?_⟩
   ·rw[hatk]
    exact(K1.chg0 H2).box (k6a.chg0 H2) cB hb6 hNw
   rw[hatk]
   exact h2.hm (Hm.rcat (k6a.chg0 H2)) cB
  refine za (Om U (Om U (On zhV U ?_)))
  refine Og (vf (zz U U) (df (by omega))) U ?_
  refine E6 0 3 5 6 7 27 U (zb U ?_)
  refine zI ?_
  repeat first|refine te ?_|refine bo rfl ?_
  refine zq _ ?_
  rw[Tl (by omega)]at Kx hv'
  exact⟨v',U,Kx,k6,hv'⟩
 rintro F wx⟨v',hF,Kx,k6,hv'⟩
 refine zae [0,3,5,6] hF ?_
 have hokx:za0 (zee [] (L.map (·.1))):=by have:=zus hI L.length;rwa [List.take_length]at this
 generalize zee [] (L.map (·.1))=c0 at Kx hv' hokx
 have hle:=hokx.le
 obtain⟨pz,qz,rfl,-⟩:=hv'.val
 refine Sr (Om U ?_)
 refine Oc zAj U U U (zyb Kx) ?_
 rintro v46 w46⟨p8,rfl,K46,c46⟩
 refine Oa U (E4 3 5 6 8 U ?_)
 have k6a:=k6.chg0 c46
 have ra:=hv'.chg0 c46
 refine Sr (Om U ?_)
 refine Og (zK zqU zaD U U 0 U (by decide)) U ?_
 refine Og (zh zbO zaD U U (e1c K46.ch)) U ?_
 refine Oc zi2 U U U (zkJ K46.swap (h1.chg0 K46.ch) s1) ?_
 rintro v50 w50⟨rfl,K50,n50⟩
 refine E4 3 5 6 8 U ?_
 have k6b:=k6a.tnR n50
 have rb:=ra.tn n50
 refine Sr (Om U ?_)
 refine Og (zK zqU zaD U U 1 U (by decide)) U ?_
 refine Og (zh zbO zaD U U (e2c K50.ch)) U ?_
 refine Oc zi2 U U U (zkJ K50.swap (h2.chg0 K50.ch) s2) ?_
 rintro v54 w54⟨rfl,K54,n54⟩
 refine E4 3 5 6 8 U ?_
 have k6c:=k6b.tnR n54
 have rc:=rb.tn n54
 refine Sr (Og (zh zbv zah U U (zv.of_blk0 k6c)) U ?_)
 refine Og (zK zqU zaD U U 0 U (by decide)) U ?_
 refine Og (zh zbO zaD U U (e1c K54.ch)) U ?_
 refine Oc zyD U U U (zof _ c0 y1.2 y1.1 _ rc hokx (h1.chg0 K54.ch) s1 K54.nn) ?_
 rintro v59 w59⟨v59,rfl,r59,c59⟩
 obtain⟨p59,q59,rfl,-⟩:=r59.val
 refine Om U (Oe U U (Oe U U ?_))
 refine Oq (zF zkf U U ?_)
 intro b9 w9 e9 n9 c9 k9
 refine Oq (zt zah U U U U k9 (by simp) (by intro y hy;simp at hy;subst hy;rfl) ?_)
 intro wA nA cA kA
 refine Oa U (E5 3 5 6 8 9 U ?_)
 have k9:zO wA b9 48 [.slice p59 (doC c0 y1.1).length q59]:=kA
 have hs59:=c59.size
 have hA59:zk [] w59 wA:=c9.own cA (by intro y hy;simp at hy;omega)
 have hA54:zk [] w54 wA:=c59.trans hA59
 have r9:=r59.chg0 hA59
 have KA:=K54.chg0 hA54
 have k6d:=k6c.chg0 hA54
 have rd:=rc.chg0 hA54
 refine Sr (Og (zh zbv zah U U (zv.of_blk0 k6d)) U ?_)
 refine Og (zK zqU zaD U U 1 U (by decide)) U ?_
 refine Og (zh zbO zaD U U (e2c KA.ch)) U ?_
 refine Oc zyD U U U (zof _ c0 y2.2 y2.1 _ rd hokx (h2.chg0 KA.ch) s2 KA.nn) ?_
 rintro v66 w66⟨v66,rfl,r66,c66⟩
 obtain⟨p66,q66,rfl,-⟩:=r66.val
 refine Om U (Oe U U (Oe U U ?_))
 refine Oq (zF zkf U U ?_)
 intro b11 w11 e11 n11 c11 k11
 refine Oq (zt zah U U U U k11 (by simp) (by intro y hy;simp at hy;subst hy;rfl) ?_)
 intro wB nB cB kB
 refine Oa U (E4 5 8 9 11 U ?_)
 have k11:zO wB b11 48 [.slice p66 (doC c0 y2.1).length q66]:=kB
 have hs66:=c66.size
 have hB66:zk [] w66 wB:=c11.own cB (by intro y hy;simp at hy;omega)
 have hBA:zk [] wA wB:=c66.trans hB66
 have r11:=r66.chg0 hB66
 have r9:=r9.chg0 hBA
 have k9:=k9.chg0 hBA
 have KB:=KA.chg0 hBA
 have ok1:=KB.swap.ok
 have ok2:=KB.ok
 have l1:=ok1.le
 have l2:=ok2.le
 generalize doC c0 y1.1=d1 at *
 generalize doC c0 y2.1=d2 at *
 refine Sr (Og (zh zbv zah U U (zv.of_blk0 k9)) U (Og (zh zbv zah U U (zv.of_blk0 k11)) U ?_))
 refine Oc zC8 U U U (zrS _ _ d1 d2 _ r9 r11 (by omega) (by omega)) ?_
 rintro v71 w71⟨rfl,c71⟩
 refine Oa U (E5 5 8 9 11 13 U ?_)
 have K1:=KB.chg0 c71
 have k9:=k9.chg0 c71
 have k11:=k11.chg0 c71
 have r9:=r9.chg0 c71
 have r11:=r11.chg0 c71
 refine Sr (Om U (Og (zh zbv zah U U (zv.of_blk0 k9)) U ?_))
 refine Oc zCJ U U U (zBp K1.swap r9) ?_
 rintro v74 w74⟨rfl,c74⟩
 have K2:=K1.chg0 c74
 refine Om U (Ov U (Oi U (zh zbv zah U U (zv.of_blk0 (k11.chg0 c74))) ?_))
 refine Ow U U zCJ U U U (zBp K2 (r11.chg0 c74)) ?_
 rintro v78 w78⟨rfl,c78⟩
 have K3:=K2.chg0 c78
 refine Ot U (Om U (Ov U (Ov U ?_)))
 refine Ow U U zu3 U U U (ztI K3.swap) ?_
 rintro v83 w83⟨rfl,c83⟩
 have K4:=K3.chg0 c83
 refine Ov U ?_
 refine Oi U (vt (zoY bo4 U U) (by simp)) ?_
 refine Ot U (Om U (Ov U (Ov U ?_)))
 refine Ow U U zu3 U U U (ztI K4) ?_
 rintro v90 w90⟨rfl,c90⟩
 have K5:=K4.chg0 c90
 refine Ov U ?_
 refine Oi U (vt (zoY bo4 U U) (by simp[eq_comm])) ?_
 refine Ot U (Om U ?_)
 refine Ow U U zu3 U U U (zrE _) ?_
 rintro v95 w95⟨rfl,c95⟩
 have K6:=K5.chg0 c95
 refine Ot U (Om U (Ov U ?_))
 refine Ow U U zu3 U U U (ztJ _ _) ?_
 rintro v99 w99⟨rfl,c99⟩
 have K7:=K6.chg0 c99
 refine Oi U (zC U) (Ot U (Om U ?_))
 refine Ow U U bd9 U U U (zh4 _ K7.eo K7.nn) ?_
 rintro v103 w103⟨rfl,c103⟩
 refine Ot U (Oa U (E1 4 U (zj ?_)))
 refine zw U U ?_
 exact⟨U,hc19.trans (K7.chg0 c103).ch⟩
end Go.Wk
namespace Go.Proofs.YtkfpmjjcogigfaaGreatDoor
open Go.ChangeShapes Go.WideShapes Go.ChangeAt Go.RowKit Go.Deep
set_option maxRecDepth 100000
def zzu:Tryz.prog.funcs.any Func.goes=false:=by kernel_rfl
theorem zuR{P:Program}(h:P.funcs.any Func.goes=false)(c:OpenClaim)(hs:c.start=.entering):false=c.goesBy P:=by
 have h1:∀f,P.goes f=false:=fun f=>by
  unfold Program.goes
  rw[h,Bool.and_false,Bool.or_false,List.any_eq_false]
  intro g _
  cases hg:P.funcs[g]? with
  |none=>simp
  |some fn=>
   obtain⟨hlt,rfl⟩:=Array.getElem?_eq_some_iff.1 hg
   have:=Array.any_eq_false.1 h g hlt
   simpa using this
 unfold OpenClaim.goesBy Program.goesAt Program.goesFrom
 rw[hs]
 cases P.funcNamed c.func with
 |none=>rfl
 |some f=>simp[h1]
def zDB:ownKnob Tryz.prog.godebug=none:=by kernel_rfl
def zmu:laidOutB Tryz.prog=true:=by kernel_rfl
abbrev zkV : List (String × DataW Unit) := [("math/bits.deBruijn32tab", Rows.laid_math_bits_deBruijn32tab), ("math/bits.deBruijn64tab", Rows.laid_math_bits_deBruijn64tab), ("internal/strconv.uint64pow10", Rows.laid_internal_strconv_uint64pow10), ("errors.errorType", Rows.laid_errors_errorType)]
theorem etT : Tryz.prog.globalNamed "errors.errorType" = some 0 := by kernel_rfl
theorem rtT : (Tryz.prog.cutTypes.find? (·.1 == "internal/reflectlite.rtype")).map (·.2) = some 255 := by kernel_rfl
def zCQ:Tryz.prog.types.size=481:=by kernel_rfl
def zvG:((List.range 481).filter fun t=>Tryz.prog.rowNamed t [101,114,114,111,114])=[87]:=by kernel_rfl
theorem ztF(os:Os)(args:Array Value):laidMetH Tryz.prog zkV ((World.doorLaid Tryz.prog 31 os).forCall (fun _ _=>0) ⟨#[],args,[]⟩).memory:=
 laidMetH_of_parts3 (fuel:=8) (laidMet_of_run' 8 (by kernel_rfl) (by kernel_rfl)) (by kernel_rfl) (by kernel_rfl)
set_option linter.unusedSectionVars false
variable [Wk.Lw]
theorem zm2{W:World}(h:laidMetH Tryz.prog zkV W):Wk.EOk W:=by
 have h' : laidMet Tryz.prog (zkV.filter fun x => x.2.handleName?.isNone) W ∧ handlesMet Tryz.prog [("errors.errorType", Rows.laid_errors_errorType)] W := h
 obtain⟨name,u,ty,e1,e2,e3,e4,e5⟩:=h'.2 _ (List.mem_singleton.2 rfl)
 have en:name=[101,114,114,111,114]:=(Option.some.inj e1).symm
 subst en
 obtain rfl:=Option.some.inj (rtT.symm.trans e2)
 have hm:ty∈(List.range 481).filter fun t=>Tryz.prog.rowNamed t [101,114,114,111,114]:=List.mem_filter.2 ⟨List.mem_range.2 (by rw[←zCQ];exact e3),e4⟩
 rw[zvG]at hm
 obtain rfl:=List.mem_singleton.1 hm
 have hh:typeHandle Tryz.prog 87=Wk.hnd 87:=by kernel_rfl
 rw[hh]at e5
 have h0:=World.var?_cell etT e5 0
 have h1:W.cell? ⟨0,0,none⟩=some (Value.iface 255 (Value.agg #[Wk.hnd 87])):=by simpa using h0
 exact h1
theorem zpR{α:Type}{R:Nat→α→Prop}:∀n:Nat,(∀i,i<n→∃y,R i y)→∃l:List α,l.length=n∧∀i y,l[i]?=some y→R i y
 |0,_=>⟨[],rfl,fun i y h=>by simp at h⟩
 |n+1,h=>by
  obtain⟨l,hl,hr⟩:=zpR n fun i hi=>h i (by omega)
  obtain⟨y,hy⟩:=h n (by omega)
  refine⟨l++[y],by simp[hl],fun i z hz=>?_⟩
  rcases Nat.lt_or_ge i l.length with hi|hi
  ·rw[List.getElem?_append_left hi]at hz
   exact hr i z hz
  rw[List.getElem?_append_right hi]at hz
  have:i-l.length=0:=by
   rcases Nat.eq_zero_or_pos (i-l.length) with h0|h0
   ·exact h0
   rw[List.getElem?_eq_none (by simp;omega)]at hz;cases hz
  rw[this]at hz
  simp at hz
  subst hz
  have:i=n:=by omega
  subst this;exact hy
section
variable {P:Program} {H:Type} {enc:TypeId×Value→H} {W:World} {b:Nat} {sp:Nat→Bool} {hd:Bool}
theorem zgJ{t e:TypeId}{k:Nat}{α:Type}{f:α→List Value}{Q:α→Prop}(ht:P.underlying t=some (.slice e))(hk:P.cellsOf e=k)(hk0:0<k)(hf:∀x,(f x).length=k)(ho:∀x,Q x→∀u∈f x,u.oneCell'=true)
 (each:∀n cs x,DataW.trod enc P W b sp hd n e cs=some x→∃y,cs=f y∧Q y) {fuel:Nat} {cs:List Value} {x:DataW H×List MemPlace} (h:DataW.trod enc P W b sp hd fuel t cs=some x) :
 ∃v l,cs=[v]∧Wk.zN W e k f v l∧∀y∈l,Q y:=by
 rcases open_slice ht h with⟨rfl,_⟩|⟨a,len,cap,m,n,D,Pl,rfl,_,hl,hcm,hm,_,hx⟩
 ·exact⟨_,[],rfl,Wk.zN.nil _ _ _ _,by simp⟩
 have hlm:len≤m:=by rw[hm];split<;>omega
 obtain⟨l,hll,hR⟩:=zpR (R:=fun i y=>W.cells? b (a.add (i*k)) k=some (f y)∧Q y) len fun i hi=>by
  obtain⟨cs',h1,h2⟩:=hx i (by omega)
  rw[hk]at h1
  obtain⟨y,rfl,hq⟩:=each _ _ _ h2
  exact⟨y,h1,hq⟩
 have hQ:∀y∈l,Q y:=fun y hy=>by
  obtain⟨i,hi⟩:=List.getElem?_of_mem hy
  exact(hR i y hi).2
 refine⟨_,l,rfl,?_,hQ⟩
 subst hll
 refine⟨some a,cap,rfl,hl,hcm,Wk.zj3 hf l,fun u hu=>?_,fun hp=>?_⟩
 ·obtain⟨y,hy,hu'⟩:=List.mem_flatMap.1 hu
  exact ho y (hQ y hy) u hu'
 have hspot:a.spot=none:=by
  have h0:l[0]?=some l[0]:=by simp[hp]
  obtain⟨h1,_⟩:=hR 0 _ h0
  obtain⟨_,hl3,hcell⟩:=World.cells?_some h1
  have h3:=hcell 0 hk0
  have h4:(f l[0])[0]?=some ((f l[0])[0]'(by rw[hf];exact hk0)):=by simp[hf,hk0]
  rw[h4]at h3
  simpa[Addr.add] using World.cell?_spot h3
 obtain⟨bb,oo,ss⟩:=a
 dsimp only at hspot
 subst hspot
 refine⟨bb,oo,rfl,fun j u hj=>?_⟩
 have hlen:=Wk.zj3 (k:=k) hf l
 have hjl:j<l.length*k:=by have:=(List.getElem?_eq_some_iff.1 hj).1;omega
 have hi:j/k<l.length:=(Nat.div_lt_iff_lt_mul hk0).2 hjl
 have hr:j%k<k:=Nat.mod_lt _ hk0
 have hy:l[j/k]?=some l[j/k]:=by simp[hi]
 generalize l[j/k]=y at hy
 obtain⟨h1,_⟩:=hR _ _ hy
 rw[Addr.add_lit]at h1
 obtain⟨_,_,hcell⟩:=World.cells?_some h1
 have h3:=hcell (j%k) hr
 rw[Addr.add_lit]at h3
 have hdm:j/k*k+j%k=j:=Nat.div_add_mod' j k
 have h5:(f y)[j%k]?=some u:=by
  rw[←Wk.zsQ hf hy,List.getElem?_take,if_pos hr,List.getElem?_drop,hdm]
  exact hj
 rw[h5]at h3
 rw[←h3]
 congr 2
 omega
end
section
variable {H:Type} {enc:TypeId×Value→H} {W:World} {b:Nat} {sp:Nat→Bool} {hd:Bool}
def cV:Tryz.prog.cellsOf 111=4:=by kernel_rfl
def c1a:Tryz.prog.cellsOf 3=1:=by kernel_rfl
def c1b:Tryz.prog.cellsOf 2=1:=by kernel_rfl
def c1c:Tryz.prog.cellsOf 109=1:=by kernel_rfl
def c1d:Tryz.prog.cellsOf 9=1:=by kernel_rfl
def c1e:Tryz.prog.cellsOf 108=1:=by kernel_rfl
def c1f:Tryz.prog.cellsOf 36=1:=by kernel_rfl
theorem zya{n:Int}(h:(Lit.int .i64 n).wf=true) : -9223372036854775808≤n∧n≤9223372036854775807:=by
 simp only[Lit.wf,Bool.and_eq_true,decide_eq_true_eq]at h
 have e1:IntKind.i64.min = -9223372036854775808:=by decide
 have e2:IntKind.i64.max=9223372036854775807:=by decide
 rw[e1,e2]at h
 exact h
theorem zA5{n:Int}(h:(Lit.int .u64 n).wf=true):0≤n∧n<18446744073709551616:=by
 simp only[Lit.wf,Bool.and_eq_true,decide_eq_true_eq]at h
 have e1:IntKind.u64.min=0:=by decide
 have e2:IntKind.u64.max=18446744073709551615:=by decide
 rw[e1,e2]at h
 omega
theorem zum{n:Nat}{cs:List Value}{x:DataW H×List MemPlace}(h:DataW.trod enc Tryz.prog W b sp hd n 111 cs=some x):∃y:Wk.zX,cs=y.cs∧y.Rng:=by
 obtain⟨xs,m,_,_,hlen,hxl,hf⟩:=DataW.trod_struct Tryz.underlying111 h
 rw[cV]at hlen
 match cs,hlen with
 |[c0,c1,c2,c3],_=>
  have g0:DataW.trod enc Tryz.prog W b sp hd m 108 (([c0,c1,c2,c3].drop 0).take (Tryz.prog.cellsOf 108))=xs[0]?:=hf 0 _ rfl
  have g1:DataW.trod enc Tryz.prog W b sp hd m 2 (([c0,c1,c2,c3].drop 1).take (Tryz.prog.cellsOf 2))=xs[1]?:=hf 1 _ rfl
  have g2:DataW.trod enc Tryz.prog W b sp hd m 109 (([c0,c1,c2,c3].drop 2).take (Tryz.prog.cellsOf 109))=xs[2]?:=hf 2 _ rfl
  have g3:DataW.trod enc Tryz.prog W b sp hd m 9 (([c0,c1,c2,c3].drop 3).take (Tryz.prog.cellsOf 9))=xs[3]?:=hf 3 _ rfl
  rw[c1e]at g0
  rw[c1b]at g1
  rw[c1c]at g2
  rw[c1d]at g3
  have hx4:xs.length=4:=hxl
  match xs,hx4 with
  |[y0,y1,y2,y3],_=>
   have g0:DataW.trod enc Tryz.prog W b sp hd m 108 [c0]=some y0:=g0
   have g1:DataW.trod enc Tryz.prog W b sp hd m 2 [c1]=some y1:=g1
   have g2:DataW.trod enc Tryz.prog W b sp hd m 109 [c2]=some y2:=g2
   have g3:DataW.trod enc Tryz.prog W b sp hd m 9 [c3]=some y3:=g3
   obtain⟨i0,e0,_,w0⟩:=DataW.trod_int (k:=.i64) (by kernel_rfl) g0
   obtain⟨i1,e1,_,w1⟩:=DataW.trod_int (k:=.i64) (by kernel_rfl) g1
   obtain⟨i2,e2,_,w2⟩:=DataW.trod_int (k:=.u64) (by kernel_rfl) g2
   obtain⟨s,e3,_,_⟩:=DataW.trod_string (by kernel_rfl) g3
   simp only[List.cons.injEq,and_true]at e0 e1 e2 e3
   subst e0 e1 e2 e3
   have h2:=zA5 w2
   obtain⟨u,rfl⟩:=Int.eq_ofNat_of_zero_le h2.1
   exact⟨⟨i0,i1,u,s⟩,rfl,zya w0,zya w1,by have:=h2.2;simp only at this ⊢;omega⟩
theorem zlj{n:Nat}{cs:List Value}{x:DataW H×List MemPlace}(h:DataW.trod enc Tryz.prog W b sp hd n 36 cs=some x):∃v l,cs=[v]∧Wk.ya W v l∧∀y∈l,y.Rng:=
 zgJ (f:=Wk.zX.cs) (Q:=Wk.zX.Rng) Tryz.underlying36 cV (by decide) Wk.zbr (fun x _=>Wk.zX.one x) (fun _ _ _ h=>zum h) h
end
def cC:Tryz.prog.cellsOf 114=4:=by kernel_rfl
def cS:Tryz.prog.cellsOf 35=3:=by kernel_rfl
def cE:Tryz.prog.cellsOf 39=8:=by kernel_rfl
def cE2:Tryz.prog.cellsOf 74=16:=by kernel_rfl
def cN2:Tryz.prog.cellsOf 78=2:=by kernel_rfl
def c1g:Tryz.prog.cellsOf 112=1:=by kernel_rfl
def c1h:Tryz.prog.cellsOf 4=1:=by kernel_rfl
def c1i:Tryz.prog.cellsOf 31=1:=by kernel_rfl
def c1j:Tryz.prog.cellsOf 32=1:=by kernel_rfl
def c1k:Tryz.prog.cellsOf 33=1:=by kernel_rfl
def c1l:Tryz.prog.cellsOf 30=1:=by kernel_rfl
def c1m:Tryz.prog.cellsOf 37=1:=by kernel_rfl
theorem zpZ{w:World}{k len:Nat}{v:Value}{xs:List Value}(h:Wk.Rd w k v len xs)(hk:0<k):∀b∈Wk.zhg v,b<w.heap.size:=by
 intro b hb
 have hl:=h.len_xs
 obtain⟨p,cap,rfl,_,_,_,_,h6⟩:=h
 cases p with
 |none=>simp[Wk.zhg]at hb
 |some a=>
  cases len with
  |zero=>simp[Wk.zhg]at hb
  |succ m=>
   simp[Wk.zhg]at hb
   obtain⟨bb,off,e,hc⟩:=h6 (by omega)
   cases e
   have hp:0<xs.length:=by rw[hl];exact Nat.mul_pos (by omega) hk
   rw[hb]
   exact Wk.zuf hc (j:=0) (by rw[List.getElem?_eq_getElem hp])
section
variable {H:Type} {enc:TypeId×Value→H} {W:World} {b:Nat} {sp:Nat→Bool} {hd:Bool}
theorem zqM{k len:Nat}{v:Value}{xs:List Value}(hn:W.heap.size≤Wk.Lw.n)(h:Wk.Rd W k v len xs)(hk:0<k):∀b∈Wk.zhg v,Wk.Lo W b:=fun b hb=>.inl (Nat.lt_of_lt_of_le (zpZ h hk b hb) hn)
theorem ztH{n:Nat}{cs:List Value}{x:DataW H×List MemPlace}(h:DataW.trod enc Tryz.prog W b sp hd n 114 cs=some x):∃y:Wk.Col,cs=y.cs:=by
 obtain⟨xs,m,_,_,hlen,hxl,hf⟩:=DataW.trod_struct Tryz.underlying114 h
 rw[cC]at hlen
 match cs,hlen with
 |[c0,c1,c2,c3],_=>
  have g0:DataW.trod enc Tryz.prog W b sp hd m 9 (([c0,c1,c2,c3].drop 0).take (Tryz.prog.cellsOf 9))=xs[0]?:=hf 0 _ rfl
  have g1:DataW.trod enc Tryz.prog W b sp hd m 112 (([c0,c1,c2,c3].drop 1).take (Tryz.prog.cellsOf 112))=xs[1]?:=hf 1 _ rfl
  have g2:DataW.trod enc Tryz.prog W b sp hd m 3 (([c0,c1,c2,c3].drop 2).take (Tryz.prog.cellsOf 3))=xs[2]?:=hf 2 _ rfl
  have g3:DataW.trod enc Tryz.prog W b sp hd m 4 (([c0,c1,c2,c3].drop 3).take (Tryz.prog.cellsOf 4))=xs[3]?:=hf 3 _ rfl
  rw[c1d]at g0
  rw[c1g]at g1
  rw[c1a]at g2
  rw[c1h]at g3
  have hx4:xs.length=4:=hxl
  match xs,hx4 with
  |[y0,y1,y2,y3],_=>
   have g0:DataW.trod enc Tryz.prog W b sp hd m 9 [c0]=some y0:=g0
   have g1:DataW.trod enc Tryz.prog W b sp hd m 112 [c1]=some y1:=g1
   have g2:DataW.trod enc Tryz.prog W b sp hd m 3 [c2]=some y2:=g2
   have g3:DataW.trod enc Tryz.prog W b sp hd m 4 [c3]=some y3:=g3
   obtain⟨s,e0,_,_⟩:=DataW.trod_string (by kernel_rfl) g0
   obtain⟨i1,e1,_,_⟩:=DataW.trod_int (k:=.i64) (by kernel_rfl) g1
   obtain⟨i2,e2,_,_⟩:=DataW.trod_int (k:=.i64) (by kernel_rfl) g2
   obtain⟨z,e3,_⟩:=DataW.trod_bool (by kernel_rfl) g3
   simp only[List.cons.injEq,and_true]at e0 e1 e2 e3
   subst e0 e1 e2 e3
   exact⟨⟨s,i1,i2,z⟩,rfl⟩
theorem zro{n:Nat}{cs:List Value}{x:DataW H×List MemPlace}(h:DataW.trod enc Tryz.prog W b sp hd n 31 cs=some x):∃v l,cs=[v]∧Wk.zim W v l:=by
 obtain⟨v,l,h1,h2,_⟩:=zgJ (f:=Wk.Col.cs) (Q:=fun _=>True) Tryz.underlying31 cC (by decide) Wk.zaE (fun x _=>Wk.Col.one x) (fun _ _ _ h=>let ⟨y,hy⟩:=ztH h; ⟨y,hy,trivial⟩) h
 exact⟨v,l,h1,h2⟩
theorem zlu{n:Nat}{cs:List Value}{x:DataW H×List MemPlace}(h:DataW.trod enc Tryz.prog W b sp hd n 32 cs=some x):∃v l,cs=[v]∧Wk.yA W v l:=by
 obtain⟨v,l,h1,h2,_⟩:=zgJ (f:=Wk.ics) (Q:=fun _=>True) Tryz.underlying32 c1a (by decide) Wk.zhT (fun x _=>Wk.zvC x) (fun _ cs _ h=>by
  obtain⟨i,e,_,_⟩:=DataW.trod_int (k:=.i64) (by kernel_rfl) h
  exact⟨i,e,trivial⟩) h
 exact⟨v,l,h1,h2⟩
def vcs(p:Value×List Int):List Value:=[p.1]
theorem ztQ:∀l:List (Value×List Int),Wk.fl vcs l=l.map (·.1)
 |[]=>rfl
 |p::l=>by rw[Wk.zgD,ztQ l];rfl
theorem zqe:∀l:List (Value×List Int),(∀p∈l,Wk.yA W p.1 p.2)→Wk.zcM W 3 1 Wk.ics (l.map (·.1)) (l.map (·.2))
 |[],_=>trivial
 |p::l,h=>⟨h p (by simp),zqe l (fun q hq=>h q (by simp[hq]))⟩
theorem zoQ{n:Nat}{cs:List Value}{x:DataW H×List MemPlace}(h:DataW.trod enc Tryz.prog W b sp hd n 33 cs=some x):∃(v:Value) (vs:List Value) (l:List (List Int)),cs=[v]∧Wk.Rd W 1 v l.length vs∧Wk.zcM W 3 1 Wk.ics vs l∧∀u∈vs,∃n xs,Wk.Rd W 1 u n xs:=by
 obtain⟨v,l,h1,h2,h3⟩:=zgJ (f:=vcs) (Q:=fun p=>Wk.yA W p.1 p.2) Tryz.underlying33 c1j (by decide) (fun _=>rfl) (fun p hp u hu=>by simp[vcs]at hu;subst hu;exact Wk.zN.one1 hp) (fun _ cs _ h=>by
  obtain⟨v,l,e,hl⟩:=zlu h
  exact⟨(v,l),e,hl⟩) h
 have h2':Wk.Rd W 1 v l.length (Wk.fl vcs l):=h2
 rw[ztQ]at h2'
 refine⟨v,l.map (·.1),l.map (·.2),h1,by rwa [List.length_map],zqe l h3,fun u hu=>?_⟩
 obtain⟨p,hp,rfl⟩:=List.mem_map.1 hu
 exact⟨_,_,h3 p hp⟩
theorem zsZ{n:Nat}{cs:List Value}{x:DataW H×List MemPlace}(hn:W.heap.size≤Wk.Lw.n)(h:DataW.trod enc Tryz.prog W b sp hd n 35 cs=some x):∃c k u s,cs=[c,k,u]∧Wk.zai W c k u s:=by
 obtain⟨xs,m,_,_,hlen,hxl,hf⟩:=DataW.trod_struct Tryz.underlying35 h
 rw[cS]at hlen
 match cs,hlen with
 |[c0,c1,c2],_=>
  have g0:DataW.trod enc Tryz.prog W b sp hd m 31 (([c0,c1,c2].drop 0).take (Tryz.prog.cellsOf 31))=xs[0]?:=hf 0 _ rfl
  have g1:DataW.trod enc Tryz.prog W b sp hd m 32 (([c0,c1,c2].drop 1).take (Tryz.prog.cellsOf 32))=xs[1]?:=hf 1 _ rfl
  have g2:DataW.trod enc Tryz.prog W b sp hd m 33 (([c0,c1,c2].drop 2).take (Tryz.prog.cellsOf 33))=xs[2]?:=hf 2 _ rfl
  rw[c1i]at g0
  rw[c1j]at g1
  rw[c1k]at g2
  have hx3:xs.length=3:=hxl
  match xs,hx3 with
  |[y0,y1,y2],_=>
   have g0:DataW.trod enc Tryz.prog W b sp hd m 31 [c0]=some y0:=g0
   have g1:DataW.trod enc Tryz.prog W b sp hd m 32 [c1]=some y1:=g1
   have g2:DataW.trod enc Tryz.prog W b sp hd m 33 [c2]=some y2:=g2
   obtain⟨v0,l0,e0,h0⟩:=zro g0
   obtain⟨v1,l1,e1,h1⟩:=zlu g1
   obtain⟨v2,vs,l2,e2,h2,h3,h4⟩:=zoQ g2
   cases e0;cases e1;cases e2
   refine⟨_,_,_,⟨l0,l1,l2⟩,rfl,h0,h1,⟨vs,h2,h3,fun v hv=>?_⟩,fun v hv=>?_⟩
   ·obtain⟨n,xs,hr⟩:=h4 v hv
    exact zqM hn hr (by decide)
   simp only[List.mem_cons,List.not_mem_nil,or_false]at hv
   rcases hv with rfl|rfl|rfl
   ·exact zqM hn h0 (by decide)
   ·exact zqM hn h1 (by decide)
   exact zqM hn h2 (by decide)
theorem zq3{n:Nat}{cs:List Value}{x:DataW H×List MemPlace}(h:DataW.trod enc Tryz.prog W b sp hd n 78 cs=some x):∃p:ByteArray×ByteArray,cs=Wk.pcs p∧p.1.size≤9223372036854775807∧p.2.size≤9223372036854775807:=by
 obtain⟨xs,m,_,_,hlen,hxl,hf⟩:=DataW.trod_array Tryz.underlying78 h
 rw[cN2]at hlen
 have g0:=hf 0 (by decide)
 have g1:=hf 1 (by decide)
 rw[c1d]at g0 g1
 match cs,hlen,xs,hxl with
 |[c0,c1],_,[y0,y1],_=>
  have g0:DataW.trod enc Tryz.prog W b sp hd m 9 [c0]=some y0:=g0
  have g1:DataW.trod enc Tryz.prog W b sp hd m 9 [c1]=some y1:=g1
  obtain⟨s,e0,_,m0⟩:=DataW.trod_string (by kernel_rfl) g0
  obtain⟨t,e1,_,m1⟩:=DataW.trod_string (by kernel_rfl) g1
  cases e0;cases e1
  exact⟨(s,t),rfl,m0,m1⟩
theorem zoS{n:Nat}{cs:List Value}{x:DataW H×List MemPlace}(h:DataW.trod enc Tryz.prog W b sp hd n 37 cs=some x):∃v l,cs=[v]∧Wk.zdm W v l∧∀p∈l,p.1.size≤9223372036854775807∧p.2.size≤9223372036854775807:=
 zgJ (f:=Wk.pcs) (Q:=fun p=>p.1.size≤9223372036854775807∧p.2.size≤9223372036854775807) Tryz.underlying37 cN2 (by decide) Wk.zbu (fun x _=>Wk.zl4 x) (fun _ _ _ h=>zq3 h) h
theorem zlV{n:Nat}{cs:List Value}{x:DataW H×List MemPlace}(hn:W.heap.size≤Wk.Lw.n)(h:DataW.trod enc Tryz.prog W b sp hd n 39 cs=some x):∃(y:Wk.EvT) (e:Wk.EvV),cs=Wk.evC y e∧Wk.zbj W e y∧Wk.zie y:=by
 obtain⟨xs,m,_,_,hlen,hxl,hf⟩:=DataW.trod_struct Tryz.underlying39 h
 rw[cE]at hlen
 match cs,hlen with
 |[c0,c1,c2,c3,c4,c5,c6,c7],_=>
  have g0:DataW.trod enc Tryz.prog W b sp hd m 30 (([c0,c1,c2,c3,c4,c5,c6,c7].drop 0).take (Tryz.prog.cellsOf 30))=xs[0]?:=hf 0 _ rfl
  have g1:DataW.trod enc Tryz.prog W b sp hd m 9 (([c0,c1,c2,c3,c4,c5,c6,c7].drop 1).take (Tryz.prog.cellsOf 9))=xs[1]?:=hf 1 _ rfl
  have g2:DataW.trod enc Tryz.prog W b sp hd m 35 (([c0,c1,c2,c3,c4,c5,c6,c7].drop 2).take (Tryz.prog.cellsOf 35))=xs[2]?:=hf 2 _ rfl
  have g3:DataW.trod enc Tryz.prog W b sp hd m 36 (([c0,c1,c2,c3,c4,c5,c6,c7].drop 5).take (Tryz.prog.cellsOf 36))=xs[3]?:=hf 3 _ rfl
  have g4:DataW.trod enc Tryz.prog W b sp hd m 36 (([c0,c1,c2,c3,c4,c5,c6,c7].drop 6).take (Tryz.prog.cellsOf 36))=xs[4]?:=hf 4 _ rfl
  have g5:DataW.trod enc Tryz.prog W b sp hd m 37 (([c0,c1,c2,c3,c4,c5,c6,c7].drop 7).take (Tryz.prog.cellsOf 37))=xs[5]?:=hf 5 _ rfl
  rw[c1l]at g0
  rw[c1d]at g1
  rw[cS]at g2
  rw[c1f]at g3
  rw[c1f]at g4
  rw[c1m]at g5
  have hx6:xs.length=6:=hxl
  match xs,hx6 with
  |[y0,y1,y2,y3,y4,y5],_=>
   have g0:DataW.trod enc Tryz.prog W b sp hd m 30 [c0]=some y0:=g0
   have g1:DataW.trod enc Tryz.prog W b sp hd m 9 [c1]=some y1:=g1
   have g2:DataW.trod enc Tryz.prog W b sp hd m 35 [c2,c3,c4]=some y2:=g2
   have g3:DataW.trod enc Tryz.prog W b sp hd m 36 [c5]=some y3:=g3
   have g4:DataW.trod enc Tryz.prog W b sp hd m 36 [c6]=some y4:=g4
   have g5:DataW.trod enc Tryz.prog W b sp hd m 37 [c7]=some y5:=g5
   obtain⟨k,e0,_,w0⟩:=DataW.trod_int (k:=.i64) (by kernel_rfl) g0
   obtain⟨t,e1,_,_⟩:=DataW.trod_string (by kernel_rfl) g1
   obtain⟨sc,sk,su,s,e2,hs⟩:=zsZ hn g2
   obtain⟨v3,l3,e3,h3,r3⟩:=zlj g3
   obtain⟨v4,l4,e4,h4,r4⟩:=zlj g4
   obtain⟨v5,l5,e5,h5,r5⟩:=zoS g5
   cases e0;cases e1;cases e2;cases e3;cases e4;cases e5
   exact⟨⟨k,t,s,l3,l4,l5⟩,⟨_,_,_,_,_,_⟩,rfl,⟨hs,h3,h4,h5,zya w0,r3,r4⟩,r5⟩
theorem zsG{n:Nat}{cs:List Value}{x:DataW H×List MemPlace}(hn:W.heap.size≤Wk.Lw.n)(h:DataW.trod enc Tryz.prog W b sp hd n 22 cs=some x):∃v l,cs=[v]∧Wk.zed W v l∧∀y∈l,Wk.zie y:=by
 obtain⟨v,l,h1,h2,h3⟩:=zgJ (f:=fun p:Wk.EvT×Wk.EvV=>Wk.evC p.1 p.2) (Q:=fun p=>Wk.zbj W p.2 p.1∧Wk.zie p.1) Tryz.underlying22 cE (by decide) (fun p=>Wk.zjk p.1 p.2) (fun _ hx=>hx.1.one) (fun _ _ _ h=>by
  obtain⟨y,e,h1,h2,h3⟩:=zlV hn h
  exact⟨(y,e),h1,h2,h3⟩) h
 refine⟨v,l.map (·.1),h1,⟨l,h2,fun p hp=>(h3 p hp).1,rfl⟩,fun y hy=>?_⟩
 obtain⟨p,hp,rfl⟩:=List.mem_map.1 hy
 exact(h3 p hp).2
theorem zoV{n:Nat}{cs:List Value}{x:DataW H×List MemPlace}(hn:W.heap.size≤Wk.Lw.n)(h:DataW.trod enc Tryz.prog W b sp hd n 74 cs=some x):∃y z:Wk.EvT×Wk.EvV,cs=Wk.evC y.1 y.2++Wk.evC z.1 z.2∧(Wk.zbj W y.2 y.1∧Wk.zie y.1)∧Wk.zbj W z.2 z.1∧Wk.zie z.1:=by
 obtain⟨xs,m,_,_,hlen,hxl,hf⟩:=DataW.trod_array Tryz.underlying74 h
 rw[cE2]at hlen
 have g0:=hf 0 (by decide)
 have g1:=hf 1 (by decide)
 rw[cE]at g0 g1
 match xs,hxl with
 |[y0,y1],_=>
  obtain⟨y,e,e0,h0,m0⟩:=zlV (x:=y0) hn g0
  obtain⟨z,f,e1,h1,m1⟩:=zlV (x:=y1) hn g1
  refine⟨(y,e),(z,f),?_,⟨h0,m0⟩,h1,m1⟩
  show cs=Wk.evC y e++Wk.evC z f
  rw[←e0,←e1]
  have h16:cs.length=16:=hlen
  simp only[Nat.zero_mul,List.drop_zero,Nat.one_mul]
  rw[List.take_of_length_le (l:=cs.drop 8) (by simp[h16]),List.take_append_drop]
end
end Go.Proofs.YtkfpmjjcogigfaaGreatDoor
