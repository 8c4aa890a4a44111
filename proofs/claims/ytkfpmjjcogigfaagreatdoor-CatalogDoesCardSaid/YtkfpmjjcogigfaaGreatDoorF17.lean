/- joined texts -/
import Derived.Test.YtkfpmjjcogigfaaGreatDoorF16
import Derived.Test.YtkfpmjjcogigfaaGreatDoorRows
import Derived.ProofKit
import Derived.OpenShut
import Derived.Deep.Slices
import Derived.LaidMore
import Derived.ChangeSame
import Derived.LaidHandle
import Derived.Stop.Joined
import Derived.SevenTiedAt
set_option linter.all false
namespace Go.Wk
open Go.Proofs
set_option linter.unusedSectionVars false
variable [Lw]
set_option maxRecDepth 10000
def tT:By:=⟨#[116]⟩
def uU:By:=⟨#[117]⟩
def wW:By:=⟨#[119]⟩
def ze9(n:By)(l:List zX):EvT:=⟨1,n,zfL,[],l,[]⟩
def zeW(n:By)(l:List zX):EvT:=⟨3,n,zfL,l,[],[]⟩
def zn4:List (By×By):=[(tT,uU),(uU,tT)]
def zop:List (By×By):=[(tT,uU)]
def wc1:Cat:=doC [] (zbF tT)
def wc2:Cat:=doC wc1 (zbF uU)
def wc3:Cat:=doC wc2 (zer zn4)
def wc4:Cat:=doC wc3 (zer zop)
def wc5:Cat:=doC wc4 (za0 wW)
def wc6:Cat:=doC wc5 (ze9 tT (zek 1))
def wc7:Cat:=doC wc6 (zeW tT (zek 2))
def wc8:Cat:=zoR wc7 [za0 tT,za0 tT]
theorem wk1:doE [] (zbF tT)=0:=by decide +kernel
theorem wk2:doE wc1 (zbF uU)=0:=by decide +kernel
theorem wk3:doE wc2 (zer zn4)=0:=by decide +kernel
theorem wk4:doE wc3 (zer zop)=220:=by decide +kernel
theorem wk5:doE wc4 (za0 wW)=5:=by decide +kernel
theorem wk6:doE wc5 (ze9 tT (zek 1))=0:=by decide +kernel
theorem wk7:doE wc6 (zeW tT (zek 2))=230:=by decide +kernel
theorem wk8:zit wc7 [za0 tT,za0 tT] 0=(1,5):=by decide +kernel
theorem wk9:(atC wc8 tT).isSome=true:=by decide +kernel
theorem wq1:doC [] (zbF tT)=wc1:=rfl
theorem wq2:doC wc1 (zbF uU)=wc2:=rfl
theorem wq3:doC wc2 (zer zn4)=wc3:=rfl
theorem wq4:doC wc3 (zer zop)=wc4:=rfl
theorem wq5:doC wc4 (za0 wW)=wc5:=rfl
theorem wq6:doC wc5 (ze9 tT (zek 1))=wc6:=rfl
theorem wq7:doC wc6 (zeW tT (zek 2))=wc7:=rfl
theorem wq8:zoR wc7 [za0 tT,za0 tT]=wc8:=rfl
attribute [irreducible] wc1 wc2 wc3 wc4 wc5 wc6 wc7 wc8
attribute [local irreducible] doE doC zit zoR atC
theorem zlL:zfL.Sm:=⟨by decide,by decide,by decide,by simp[zfL]⟩
theorem zkF{n:By}(h:n.size≤1048576):zcQ (za0 n):=⟨zlL,by simp[za0],by simp[za0],by simp[za0],h,by simp[za0,zfL],by simp[za0]⟩
theorem zkP{n:By}(h:n.size≤1048576):zcQ (zbF n):=⟨⟨by simp[zbF,zko],by simp[zbF,zko],by simp[zbF,zko],by simp[zko,zbF]⟩,by simp[zbF],by simp[zbF],by simp[zbF],h,by intro c hc;simp[zbF,zko]at hc;subst hc;decide,by simp[zbF]⟩
theorem znk{m:List (By×By)}(h:m.length≤1048576)(hm:∀p∈m,p.1.size≤9223372036854775807∧p.2.size≤9223372036854775807):zcQ (zer m):=⟨zlL,by simp[zer],by simp[zer],h,by show e0.size≤1048576;decide,by simp[zer,zfL],hm⟩
theorem zsf{n:By}{i:Int}(h:n.size≤1048576):zcQ (ze9 n (zek i)):=⟨zlL,by simp[ze9],by simp[ze9,zek],by simp[ze9],h,by simp[ze9,zfL],by simp[ze9]⟩
theorem ztw{n:By}{i:Int}(h:n.size≤1048576):zcQ (zeW n (zek i)):=⟨zlL,by simp[zeW,zek],by simp[zeW],by simp[zeW],h,by simp[zeW,zfL],by simp[zeW]⟩
theorem zmn{i:Int}(h : -9223372036854775808≤i∧i≤9223372036854775807):∀y∈zek i,y.Rng:=by
 intro y hy
 simp[zek]at hy
 subst hy
 exact⟨by simp,h,by simp⟩
theorem zso{n:By}{i:Int}{v:Va}{w:Wl}(h:yc w v (zek i))(hi : -9223372036854775808≤i∧i≤9223372036854775807):zbG w { zhM with n:=v } (ze9 n (zek i)):=⟨zhd w,zN.nil _ _ _ _,h,zN.nil _ _ _ _,by simp[ze9],by simp[ze9],zmn hi⟩
theorem zsq{n:By}{i:Int}{v:Va}{w:Wl}(h:yc w v (zek i))(hi : -9223372036854775808≤i∧i≤9223372036854775807):zbG w { zhM with o:=v } (zeW n (zek i)):=⟨zhd w,h,zN.nil _ _ _ _,zN.nil _ _ _ _,by simp[zeW],zmn hi,by simp[zeW]⟩
theorem ztT(n:By){b:Nat}{w:Wl}(k:zO w b 39 (fl (fun p:EvT×EvV=>evC p.1 p.2) [(za0 n,zhM),(za0 n,zhM)])):zeq w (.slice (some ⟨b,0,none⟩) 2 2) [za0 n,za0 n]:=
 ⟨[(za0 n,zhM),(za0 n,zhM)],(zA.of_blk (n:=2) k rfl (by simp[maxLen]) (by
  intro u hu
  simp only[fl,List.flatMap_cons,List.flatMap_nil,List.append_nil,List.mem_append]at hu
  rcases hu with h|h<;>exact(zhX n w).one u h)).toRd,by
  intro p hp
  simp at hp
  subst hp
  exact zhX n w,U⟩
set_option maxHeartbeats 1000000 in
theorem zgq(w:Wl)(hE:EOk w)(hN:Lw.n≤w.heap.size):zT TP 9 #[] w fun r w'=>r=.bool true∧zk [] w w':=by
 refine zT.of_W (args:=[]) Tryz.func9 U U U U ?_
 refine Sr (Oa U (yB [] (F':=[]) U (Sr ?_)))
 refine Oc zyE U U U (zw7 hE hN) ?_
 rintro v11 w11⟨p,rfl,K,c11⟩
 refine Oa U (E1 1 U ?_)
 have st:tT.size≤1048576:=by decide
 have su:uU.size≤1048576:=by decide
 have sw:wW.size≤1048576:=by decide
 have m1:∀q∈zn4,q.1.size≤9223372036854775807∧q.2.size≤9223372036854775807:=by decide
 have m2:∀q∈zop,q.1.size≤9223372036854775807∧q.2.size≤9223372036854775807:=by decide
 refine Sr (Om U ?_)
 refine Oc zAx U U U (zjt tT _) ?_
 rintro v13 w13⟨e13,rfl,h13,c13⟩
 refine Oc ziW U U U (znq (K.chg0 c13) h13 (zkP st)) ?_
 rintro v14 w14⟨e14,K14,n14⟩
 rw[wk1]at e14
 subst e14
 rw[wq1]at K14
 refine Oc zia U U U (zcw _ _) ?_
 rintro v15 w15⟨rfl,rfl⟩
 refine Om U ?_
 refine Oc zAx U U U (zjt uU _) ?_
 rintro v17 w17⟨e17,rfl,h17,c17⟩
 refine Oc ziW U U U (znq (K14.chg0 c17) h17 (zkP su)) ?_
 rintro v18 w18⟨e18,K18,n18⟩
 rw[wk2]at e18
 subst e18
 rw[wq2]at K18
 refine Oc zia U U U (zcw _ _) ?_
 rintro v19 w19⟨rfl,rfl⟩
 refine Og (yr (v':=Ii ((0:Nat):Int)) (zG U U (by omega)) (by congr 1)) U ?_
 refine Om U ?_
 refine Og (zec zcf sz9 zn5 U (vs:=[_,_]) U (css:=[_,_]) ⟨U,U,trivial⟩ U U (cs:=[_,_]) U) U ?_
 refine Og (zec zcf sz9 zn5 U (vs:=[_,_]) U (css:=[_,_]) ⟨U,U,trivial⟩ U U (cs:=[_,_]) U) U ?_
 refine Oq (zz zAe U (vs:=[_,_]) U (css:=[_,_]) ⟨U,U,trivial⟩ U U (cs:=[_,_,_,_]) U U ?_)
 intro b24 w24 e24 n24 c24 k24
 refine Oc zzt U U U (zkb _ zn4 _ (zN.of_blk (l:=zn4) zbq zlI k24 (by simp[zn4,maxLen]))) ?_
 rintro v25 w25⟨rfl,h25,c25⟩
 refine Oc ziW U U U (znq ((K18.chg0 c24).chg0 c25) h25 (znk (by decide) m1)) ?_
 rintro v26 w26⟨e26,K26,n26⟩
 rw[wk3]at e26
 subst e26
 rw[wq3]at K26
 refine Oc zia U U U (zcw _ _) ?_
 rintro v27 w27⟨rfl,rfl⟩
 refine Og (yr (v':=Ii ((0:Nat):Int)) (zG U U (by omega)) (by congr 1)) U ?_
 refine Oa U (E2 1 2 U (Sr (Om U ?_)))
 refine Og (zec zcf sz9 zn5 U (vs:=[_,_]) U (css:=[_,_]) ⟨U,U,trivial⟩ U U (cs:=[_,_]) U) U ?_
 refine Oq (zz zAe U (vs:=[_]) U (css:=[_]) ⟨U,trivial⟩ U U (cs:=[_,_]) U U ?_)
 intro b31 w31 e31 n31 c31 k31
 refine Oc zzt U U U (zkb _ zop _ (zN.of_blk (l:=zop) zbq zlI k31 (by simp[zop,maxLen]))) ?_
 rintro v32 w32⟨rfl,h32,c32⟩
 refine Oc ziW U U U (znq ((K26.chg0 c31).chg0 c32) h32 (znk (by decide) m2)) ?_
 rintro v33 w33⟨e33,K33,n33⟩
 rw[wk4]at e33
 subst e33
 rw[wq4]at K33
 refine Om U ?_
 refine Oc zsb U U U (zfV wW _) ?_
 rintro v35 w35⟨rfl,c35⟩
 refine Oc ziW U U U (znq (K33.chg0 c35) (zhX wW _) (zkF sw)) ?_
 rintro v36 w36⟨e36,K36,n36⟩
 rw[wk5]at e36
 subst e36
 rw[wq5]at K36
 refine Oa U (Oa U (E4 1 2 3 4 U (Sr (Om U ?_))))
 refine Oc zBN U U U (zpl 1 _) ?_
 rintro v38 w38⟨b38,rfl,f38,k38,c38⟩
 have i38:zbG w38 { zhM with n:=.slice (some ⟨b38,0,none⟩) 1 1 } (ze9 tT (zek 1)):=zso (n:=tT) (zp3 k38) (by omega)
 have d38:=znq (K36.chg0 c38) i38 (zsf st)
 refine Og (zed zqA zhW U (qs:=[(0,_),(1,_),(4,_)]) U (css:=[_,_,_]) ⟨U,U,U,trivial⟩ (cs:=[_,_,_,_,_,_,_,_]) U) U ?_
 refine Oc ziW U U U d38 ?_
 rintro v40 w40⟨e40,K40,n40⟩
 rw[wk6]at e40
 subst e40
 rw[wq6]at K40
 refine Om U ?_
 refine Oc zBN U U U (zpl 2 _) ?_
 rintro v42 w42⟨b42,rfl,f42,k42,c42⟩
 have i42:zbG w42 { zhM with o:=.slice (some ⟨b42,0,none⟩) 1 1 } (zeW tT (zek 2)):=zsq (n:=tT) (zp3 k42) (by omega)
 have d42:=znq (K40.chg0 c42) i42 (ztw st)
 refine Og (zed zqA zhW U (qs:=[(0,_),(1,_),(3,_)]) U (css:=[_,_,_]) ⟨U,U,U,trivial⟩ (cs:=[_,_,_,_,_,_,_,_]) U) U ?_
 refine Oc ziW U U U d42 ?_
 rintro v44 w44⟨e44,K44,n44⟩
 rw[wk7]at e44
 subst e44
 rw[wq7]at K44
 refine Oa U (Oa U (E6 1 2 3 4 5 6 U (Sr (Om U ?_))))
 refine Oc zsb U U U (zfV tT _) ?_
 rintro v47 w47⟨rfl,c47⟩
 refine Oc zsb U U U (zfV tT _) ?_
 rintro v48 w48⟨rfl,c48⟩
 refine Oq (zz zCO U (vs:=[_,_]) U (css:=[_,_]) ⟨U,U,trivial⟩ U U (cs:=[_,_,_,_,_,_,_,_,_,_,_,_,_,_,_,_]) U U ?_)
 intro b49 w49 e49 n49 c49 k49
 refine Oc zAY U U U (zzI (((K44.chg0 c47).chg0 c48).chg0 c49) (ztT tT k49) (by intro x hx;simp at hx;subst hx;exact zkF st) (by decide)) ?_
 rintro v50 w50⟨e50,K50,n50⟩
 rw[wk8]at e50
 subst e50
 rw[wq8]at K50
 refine Om U (Oe U U (Oe U U (Oa U (Oa U (E8 1 2 3 4 5 6 7 8 U (Sr (Om U ?_)))))))
 refine Oc zvm U U U (zo3 (n:=tT) K50) ?_
 rintro v55 w55⟨u55,e55,-,c55⟩
 rw[wk9]at e55
 subst e55
 refine Om U (Oe U U (Oe U U (Oa U (Oa U (E8 2 3 4 5 6 7 8 10 U ?_)))))
 have hc:=(K50.chg0 c55).ch
 refine Sr (Om U (Og (vt (zv U U) U) U (Om U (Oj U U ?_))))
 refine Ow U U zia U U U (zcw _ _) ?_
 rintro v62 w62⟨rfl,rfl⟩
 refine Oy U U (vt (zv U U) U) (Ot U (Om U (Oj U U ?_)))
 refine Ow U U zia U U U (zcw _ _) ?_
 rintro v67 w67⟨rfl,rfl⟩
 refine Oy U U (vt (zv U U) U) (Ot U (Om U (Oj U U ?_)))
 refine Ow U U zia U U U (zcw _ _) ?_
 rintro v72 w72⟨rfl,rfl⟩
 refine Oy U U (vt (zv U U) U) (Ot U (Om U (Oj U U ?_)))
 refine Ow U U zia U U U (zcw _ _) ?_
 rintro v77 w77⟨rfl,rfl⟩
 refine Oy U U (vt (zv U U) U) (Ot U (Om U (Oj U U (Oy U U (vt (zv U U) U) (Ot U (Om U (Oj U U ?_)))))))
 refine Ow U U zia U U U (zcw _ _) ?_
 rintro v86 w86⟨rfl,rfl⟩
 refine Oy U U (vt (zv U U) U) (Ot U (Om U (Oj U U (Ot U (Oa U (E1 0 U (zj ?_)))))))
 refine zw U U ?_
 exact⟨U,hc⟩
theorem KS.box{w0 w w':Wl}{l:List (Nat×Cat)}{b:Nat}{q:Option Addr}{n m:Nat}(h:KS w0 w l)(hb:zO w b 48 [.slice q n m])(hc:zk [b] w w')(hf:w0.heap.size≤b)(hN:Lw.n≤w0.heap.size):KS w0 w' l:=by
 obtain⟨T,hT,hE,hw,h1,h2⟩:=h
 refine⟨T,hT,hE.hm (Hm.rcat hb) hc,hw.own hc (by intro y hy;simp at hy;omega),fun x hx=>⟨(h1 x hx).1.other (fun y hy hm=>?_) (Hm.rcat hb) hc,(h1 x hx).2⟩,h2⟩
 simp at hm
 subst hm
 exact(h1 x hx).1.notR y hy _ hb
theorem ztQ{L:List (EvT×EvV)}{j:Nat}{q:EvT×EvV}(h:L[j]? = some q)(c:Cat):zea c ((L.take (j+1)).map (·.1))=doC (zea c ((L.take j).map (·.1))) q.1:=by
 obtain⟨hl,rfl⟩:=Gs h
 rw[List.take_succ_eq_append_getElem hl,List.map_append]
 exact zkI _ _ _
theorem zt0{w:Wl}{L:List (EvT×EvV)}(hI:∀q∈L,zbG w q.2 q.1)(j:Nat):za8 (zea [] ((L.take j).map (·.1))):=za8.nil.all fun x hx=>by
 obtain⟨q,hq,rfl⟩:=List.mem_map.1 hx
 exact(hI q (List.mem_of_mem_take hq)).rw
set_option maxHeartbeats 2000000 in
theorem zku(va:Va)(xs:List EvT)(nm:By)(w:Wl)(hE:EOk w)(hN:Lw.n≤w.heap.size)(ha:zeq w va xs)(na:∀x∈xs,zoz x) :
 zT TP 4 #[va,.string nm] w fun r w'=>r=.bool true∧zk [] w w':=by
 obtain⟨L,hA,hI,rfl⟩:=ha
 have ha:zeq w va (L.map (·.1)):=⟨L,hA,hI,rfl⟩
 obtain⟨pa,ca,rfl,hca⟩:=zN.val hA
 refine zT.of_WM (args:=[_,_]) Tryz.func4 U U U U ?_
 refine Sr ?_
 refine Oq (zF zr4 U U ?_)
 intro b4 w4 e4 n4 c4 k4
 refine E3 0 1 4 U ?_
 have ha:=ha.chg0 c4
 have hE:=hE.hm (Hm.nil w) c4
 have hs4:=c4.size
 refine zf (zf ?_)
 have hbad:∀{W wB:Wl},zk [] w4 W→zk [b4] W wB→zO wB b4 4 [.bool true]→zk [] w wB:=fun hc hB _=>(c4.trans hc).own hB (by intro y hy;simp at hy;omega)
 cases h40:zqB (L.map (·.1)) 40 with
 |false=>
  refine za (Om U ?_)
  refine Oc bd8 U U U (zly _ _ 40 _ ha (by decide)) ?_
  rintro v19 w19⟨e19,c19⟩
  rw[h40]at e19
  subst e19
  refine Og (zC U) U (Om U (Oz U U (Oz U U (Oz U U (Ot U (E4 0 1 4 25 U (ze U (Sr ?_))))))))
  refine Oc bd9 U U U (zgq _ (hE.hm (Hm.nil w4) c19) (Nat.le_trans hN (c4.trans c19).size)) ?_
  rintro v26 w26⟨rfl,c26⟩
  refine Oq (zt sz4 U U U U ((k4.chg0 c19).chg0 c26) (by simp) (by simp[Value.oneCell']) ?_)
  intro wB nB cB kB
  refine E1 4 U ?_
  have kB:zO wB b4 4 [.bool true]:=kB
  refine zj ?_
  repeat first|refine tr ?_|refine br ?_
  refine zxu (v:=.bool true) U ag4 U (kB.cell' U) ?_
  exact⟨U,hbad (c19.trans c26) cB kB⟩
 |true=>
 by_cases h60:60<nm.size
 ·refine za (Om U ?_)
  refine Oc bd8 U U U (zly _ _ 40 _ ha (by decide)) ?_
  rintro v19 w19⟨e19,c19⟩
  rw[h40]at e19
  subst e19
  refine Og (zC U) U (Om U (Oj U U (Oy U U (yI st9 U) ?_)))
  refine Oy U U (vt (zS U U) (dt (by omega))) ?_
  refine Of U (E4 0 1 4 25 U (ze U (Sr ?_)))
  refine Oc bd9 U U U (zgq _ (hE.hm (Hm.nil w4) c19) (Nat.le_trans hN (c4.trans c19).size)) ?_
  rintro v26 w26⟨rfl,c26⟩
  refine Oq (zt sz4 U U U U ((k4.chg0 c19).chg0 c26) (by simp) (by simp[Value.oneCell']) ?_)
  intro wB nB cB kB
  refine E1 4 U ?_
  have kB:zO wB b4 4 [.bool true]:=kB
  refine zj ?_
  repeat first|refine tr ?_|refine br ?_
  refine zxu (v:=.bool true) U ag4 U (kB.cell' U) ?_
  exact⟨U,hbad (c19.trans c26) cB kB⟩
 refine za (Om U ?_)
 refine Oc bd8 U U U (zly _ _ 40 _ ha (by decide)) ?_
 rintro v19 w19⟨e19,c19⟩
 rw[h40]at e19
 subst e19
 refine Og (zC U) U (Om U (Oj U U (Oy U U (yI st9 U) ?_)))
 refine Oy U U (vf (zS U U) (df (by omega))) ?_
 refine Of U (E4 0 1 4 25 U (zb U (zm ?_)))
 obtain⟨hl40,hs40⟩:=zvT h40 na
 rw[List.length_map]at hl40
 have ha':∀q∈L,zcQ q.1:=fun q hq=>hs40 q.1 (List.mem_map.2 ⟨q,hq,rfl⟩)
 have hc19:=c4.trans c19
 have hE:=hE.hm (Hm.nil w4) c19
 have hNw:=Nat.le_trans hN hc19.size
 have k4:=k4.chg0 c19
 have ha:=ha.chg0 c19
 have hA:=zN.chg0 hA hc19
 have hI:∀q∈L,zbG w19 q.2 q.1:=fun q hq=>(hI q hq).chg0 hc19
 refine Sr ?_
 refine Oc zyE U U U (zw7 hE hNw) ?_
 rintro v27 w27⟨p,rfl,K,c27⟩
 refine Oa U (E4 0 1 4 5 U (Sr ?_))
 refine Oq (zF zjq U U ?_)
 intro b6 w6 e6 n6 c6 k6
 refine E5 0 1 4 5 6 U ?_
 have hs27:=c27.size
 have hs19:=c19.size
 have hb6:w19.heap.size≤b6:=by omega
 have hb4:=k4.lt
 have K6:=K.chg0 c6
 refine zQ (fun F wx=>∃v',prune [0,1,4,5,6] F=[(0,.slice pa L.length ca),(1,.string nm),(4,Pt b4),(5,Pt p),(6,Pt b6)]∧KS w19 wx [(p,zea [] (L.map (·.1)))]∧zO wx b6 48 [v']∧zbY wx v' (zea [] (L.map (·.1)))) ?_ ?_
 ·refine Sr (Oa U (E6 0 1 4 5 6 7 U (zp ?_)))
  refine zR [0,1,4,5,6,7] (fun k F wx=>∃(j:Nat) (v':Va),k=L.length-j∧j≤L.length∧F=[(0,.slice pa L.length ca),(1,.string nm),(4,Pt b4),(5,Pt p),(6,Pt b6),(7,Ii j)]∧KS w19 wx [(p,zea [] ((L.take j).map (·.1)))]∧zO wx b6 48 [v']∧zbY wx v' (zea [] ((L.take j).map (·.1)))) (m:=L.length-0) ⟨0,_,U,Nat.zero_le _,U,K6,k6,zbY.nil _⟩ ?_
  rintro k F wx⟨j,v',rfl,hj,rfl,Kx,k6,hv'⟩
  have hNx:=Kx.nn
  refine zf (zf ?_)
  by_cases hlt:j<L.length
  ·refine za (Om U (Om U (On zic U ?_)))
   refine Og (vt (zy U U) (dt (by omega))) U ?_
   refine E7 0 1 4 5 6 7 31 U (ze U (zm ?_))
   have hq:L[j]? = some L[j]:=by simp[hlt]
   have hmem:=List.getElem_mem hlt
   generalize L[j]=q at hq hmem
   obtain⟨b,off,cap,hve,hcell⟩:=zN.at (fun p:EvT×EvV=>zi8 p.1 p.2) hA hq
   cases hve
   have hokj:=zt0 hI j
   have hatk:=ztQ hq []
   have hsm:=ha' q hmem
   generalize zea [] ((L.take j).map (·.1))=cj at Kx hv' hokj hatk
   refine zf (zp ?_)
   refine zQ (fun F wz=>∃(b8:Nat) (v2:Va),F=[(0,.slice (some ⟨b,off,none⟩) L.length ca),(1,.string nm),(4,Pt b4),(5,Pt p),(6,Pt b6),(7,Ii j),(8,Pt b8),(9,Ii (doE cj q.1))]∧zO wz b8 48 [v2]∧zbY wz v2 (doC cj q.1)∧zk [] wx wz) ?_ ?_
   ·have hC:=(zk.drew [] wx)
    refine zfm (fun wz=>zk [] wx wz) (zbj.seq [0,1,2,3,4] (.two 5 (zbj.seq [6,7,8,9,10,11] .done) 9 (zbj.seq [5,6,7,8,10,11] .done))) mix (by kernel_rfl) hC ?_
    refine zd1 U U (gn U) (fun wz hz=>zh zbs zad U U (zx.of_blk0 (k6.chg0 hz))) U U ?_
    refine z5 U U (gn U) (fun _=>zao U) U U ?_
    refine z5 U U (gn U) (fun _=>zao U) U U ?_
    refine z5 U U (gn U) (fun _=>zi zic za5 U U _ U hlt) U U ?_
    refine zd1 U U (gn U) (fun wz hz=>zh zbZ za5 U U (zx.chg0 hcell (Kx.ch.trans hz))) U U ?_
    refine zfA ?_ ?_
    ·refine zag U U (gn U) (yP zz5 U U U U (zun _ cj q.2 q.1 _ (hv'.chg0 hC) hokj ((hI q hmem).chg0 (Kx.ch.trans hC)) hsm (Kx.chg0 hC).nn) ?_)
     rintro v40 w40⟨v2,rfl,h40x,c40⟩
     obtain⟨p40,q40,rfl,-⟩:=h40x.val
     have hN40:=hC.size
     have hC:=hC.trans c40
     refine⟨.inl hC,?_⟩
     refine z5 U U (gn U) (fun _=>zao U) U U ?_
     refine z5 U U (gn U) (fun _=>zL U U) U U ?_
     refine z5 U U (gn U) (fun _=>zL U U) U U ?_
     refine zag U U (gn U) (zF zjq U U ?_)
     intro b8 w8 e8 n8 c8 k8
     have hN8:=hC.size
     have hC:=hC.trans c8
     have h40x:=h40x.chg0 c8
     refine⟨.inl hC,?_⟩
     refine zag U U (gn U) (zt zad U U U U k8 (by simp) (by intro y hy;simp at hy;subst hy;rfl) ?_)
     intro wB nB cB kB
     have hC:=hC.own cB (by intro y hy;simp at hy;omega)
     refine⟨.inl hC,?_⟩
     refine z5 U U (gn U) (fun _=>yg U) U U ?_
     refine zc6 [0,1,4,5,6,7,8,9] (F':=[(0,_),(1,_),(4,_),(5,_),(6,_),(7,_),(8,_),(9,_)]) U ?_
     exact⟨b8,_,U,kB,h40x.hm (Hm.rcat k8) cB,hC⟩
    refine zag U U (gn U) (zF zjq U U ?_)
    intro b8 w8 e8 n8 c8 k8
    have hN8:=hC.size
    have hC:=hC.trans c8
    refine⟨.inl hC,?_⟩
    refine zag U U (gn U) (yP zz5 U U U U (zun _ cj q.2 q.1 _ (hv'.chg0 hC) hokj ((hI q hmem).chg0 (Kx.ch.trans hC)) hsm (Kx.chg0 hC).nn) ?_)
    rintro v40 w40⟨v2,rfl,h40x,c40⟩
    obtain⟨p40,q40,rfl,-⟩:=h40x.val
    have hN40:=hC.size
    have hC:=hC.trans c40
    have k8:=k8.chg0 c40
    refine⟨.inl hC,?_⟩
    refine z5 U U (gn U) (fun _=>zao U) U U ?_
    refine z5 U U (gn U) (fun _=>zL U U) U U ?_
    refine z5 U U (gn U) (fun _=>zL U U) U U ?_
    refine zag U U (gn U) (zt zad U U U U k8 (by simp) (by intro y hy;simp at hy;subst hy;rfl) ?_)
    intro wB nB cB kB
    have hC:=hC.own cB (by intro y hy;simp at hy;omega)
    refine⟨.inl hC,?_⟩
    refine z5 U U (gn U) (fun _=>yg U) U U ?_
    refine zc6 [0,1,4,5,6,7,8,9] (F':=[(0,_),(1,_),(4,_),(5,_),(6,_),(7,_),(8,_),(9,_)]) U ?_
    exact⟨b8,_,U,kB,h40x.hm (Hm.rcat k8) cB,hC⟩
   rintro F wz⟨b8,v2,rfl,k8,h2,hcz⟩
   have Kz:=Kx.chg0 hcz
   have k6:=k6.chg0 hcz
   have hvz:=hv'.chg0 hcz
   refine zf (Sr (Om U (Om U (Om U ?_))))
   refine Og (zi zic za5 U U _ U hlt) U ?_
   refine Og (zh zbZ za5 U U (zx.chg0 hcell Kz.ch)) U ?_
   refine Oc ziW U U U (znq Kz ((hI q hmem).chg0 Kz.ch) hsm) ?_
   rintro v48 w48⟨rfl,K1,n1⟩
   refine Oc zia U U U (zcw _ _) ?_
   rintro v49 w49⟨rfl,rfl⟩
   refine Om U ?_
   refine Og (vf (zJ U U) (by simp)) U ?_
   refine E8 0 1 4 5 6 7 8 51 U (zb U (zm ?_))
   have k6:=k6.tnR n1
   have k8:=k8.tnR n1
   have h2:=h2.tn n1
   have hv1:=hvz.tn n1
   obtain⟨p2,q2,rfl,-⟩:=h2.val
   obtain⟨pz,qz,rfl,-⟩:=hv1.val
   refine Sr (Og (zh zbs zad U U (zx.of_blk0 k8)) U ?_)
   refine Oq (zt zad U U U U k6 (by simp) (by intro y hy;simp at hy;subst hy;rfl) ?_)
   intro wC nC cC kC
   refine E6 0 1 4 5 6 7 U ?_
   have kC:zO wC b6 48 [.slice p2 (doC cj q.1).length q2]:=kC
   have KC:=K1.box k6 cC hb6 hNw
   have hC:=h2.hm (Hm.rcat k6) cC
   refine zf ?_
   by_cases h3:(j:Int) % 4=3
   ·refine za (Om U ?_)
    refine Og (zos U U (by omega) (by omega)) U ?_
    refine Og (vt (zv U U) (dt h3)) U (Om U (Oj U U (Oy U U (zh zbs zad U U (zx.of_blk0 kC)) (Oj U U ?_))))
    refine Oy U U (zos U U (by omega) (by omega)) ?_
    refine Ow U U zyV U U U (zyy KC hC) ?_
    rintro v61 w61⟨rfl,c61⟩
    refine Oy U U (zC U) (Ot U (E7 0 1 4 5 6 7 63 U (zb U (zU (zl (za (Om U ?_)))))))
    refine Og (zG U U (by omega)) U ?_
    refine Oa U (N6 0 1 4 5 6 7 U ?_)
    exact⟨L.length-(j+1),by omega,j+1,_,rfl,by omega,rfl,by rw[hatk];exact KC.chg0 c61,kC.chg0 c61,by rw[hatk];exact hC.chg0 c61⟩
   refine za (Om U ?_)
   refine Og (zos U U (by omega) (by omega)) U ?_
   refine Og (vf (zv U U) (df h3)) U (Om U (Oz U U (Oz U U (Oz U U (Oz U U (Oz U U (Oz U U (Of U (E7 0 1 4 5 6 7 63 U (zb U (zU (zl (za (Om U ?_))))))))))))))
   refine Og (zG U U (by omega)) U ?_
   refine Oa U (N6 0 1 4 5 6 7 U ?_)
   exact⟨L.length-(j+1),by omega,j+1,_,rfl,by omega,rfl,by rw[hatk];exact KC,kC,by rw[hatk];exact hC⟩
  refine za (Om U (Om U (On zic U ?_)))
  refine Og (vf (zy U U) (df (by omega))) U ?_
  refine E7 0 1 4 5 6 7 31 U (zb U ?_)
  refine zH ?_
  repeat first|refine te ?_|refine bo rfl ?_
  refine zq _ ?_
  rw[Tl (by omega)]at Kx hv'
  exact⟨v',U,Kx,k6,hv'⟩
 rintro F wx⟨v',hF,Kx,k6,hv'⟩
 refine zaj [0,1,4,5,6] hF ?_
 have hokx:za8 (zea [] (L.map (·.1))):=by have:=zt0 hI L.length;rwa [List.take_length]at this
 generalize zea [] (L.map (·.1))=c0 at Kx hv' hokx
 have hle:=hokx.le
 obtain⟨pz,qz,rfl,-⟩:=hv'.val
 refine Sr (Om U (Om U ?_))
 refine Oc zvm U U U (zo3 (n:=nm) Kx) ?_
 rintro v67 w67⟨u67,rfl,hu67,c67⟩
 refine Om U (Oe U U (Oe U U (Oa U (Oa U (E7 0 1 4 5 6 10 11 U (Sr (Oa U (E8 0 1 4 5 6 10 11 12 U (Sr (Om U (Om U ?_)))))))))))
 refine Oc zAY U U U (zvZ _) ?_
 rintro v73 w73⟨rfl,c73⟩
 refine Om U (Oe U U (Oe U U (Oa U (Oa U (E8 1 4 5 6 10 11 12 14 U (Sr (Om U (Om U ?_))))))))
 refine Oc zvm U U U (zqO _ _) ?_
 rintro v79 w79⟨rfl,c79⟩
 refine Om U (Oe U U (Oe U U (Oa U (Oa U (yB [1,4,5,6,10,11,12,14,16] (F':=[(1,_),(4,_),(5,_),(6,_),(10,_),(11,_),(12,_),(14,_),(16,_)]) U (Sr (Om U ?_)))))))
 refine Oc zz3 U U U (zqD _) ?_
 rintro v83 w83⟨bn,rfl,kn,c83⟩
 refine Oa U (yB [1,4,5,6,10,11,12,14,16,17] (F':=[(1,_),(4,_),(5,_),(6,_),(10,_),(11,_),(12,_),(14,_),(16,_),(17,_)]) U ?_)
 have hx83:zk [] wx w83:=((c67.trans c73).trans c79).trans c83
 have K83:=Kx.chg0 hx83
 refine zf (Sr (Om U (Og (zlD zsI U U) U (yB [1,4,5,6,10,11,12,14,16,17,85] (F':=[(1,_),(4,_),(5,_),(6,_),(10,_),(11,_),(12,_),(14,_),(16,_),(17,_),(85,_)]) U (zb U (zm ?_))))))
 refine zQ (fun F wz=>∃(D:Nat) (f86:Va),F=[(1000000,Ii D),(1,.string nm),(4,Pt b4),(5,Pt p),(6,Pt b6),(10,u67),(11,.bool (atC c0 nm).isSome),(12,.pointer none),(14,Ii 1),(16,.bool false),(86,f86)]∧w83.heap.size≤D∧wz.heap[D]? = some (.deferred (some []))∧zk [] w83 wz) ?_ ?_
 ·refine Sr (Om U (yB [1,4,5,6,10,11,12,14,16,86] (F':=[(1,_),(4,_),(5,_),(6,_),(10,_),(11,_),(12,_),(14,_),(16,_),(86,_)]) U (zp ?_)))
  refine zfU (α:=Nat×By) (gf:=49) (lb:=[Pt bn]) (encs:=fun x:Nat×By => #[Ii x.1,.string x.2])
   (fun pre X=>zk [] w83 X)
   (fun cc pre X=>False)
   (fun x=>[(88,.string x.2),(87,Ii x.1),(1,.string nm),(4,Pt b4),(5,Pt p),(6,Pt b6),(10,u67),(11,.bool (atC c0 nm).isSome),(12,.pointer none),(14,Ii 1),(16,.bool false),(86,.func (.func 49) #[] #[Pt bn])])
   (fun x=>[(88,.string x.2),(87,Ii x.1),(1,.string nm),(4,Pt b4),(5,Pt p),(6,Pt b6),(10,u67),(11,.bool (atC c0 nm).isSome),(12,.pointer none),(14,Ii 1),(16,.bool false),(86,.func (.func 49) #[] #[Pt bn])])
   rfl zzv
   ((zhG w83 bn none 0 [] [] kn (zA.nil _ _ _) (by simp) (by simp) (by intro b hb;cases hb)).toN (fun e => !Nat.beq 3 e))
   (fun _=>rfl) (fun _ _ _ _ _=>trivial) (fun _ _ _ _ hh=>hh) (fun _ _ _ _ hh=>hh) ?_ ?_ ?_ (fun pre X hI=>hI.size) ?_ ?_ ?_ ?_ ?_
  ·rintro pre X X' hb g3
   exact g3.bk (Nat.le_refl _) hb
  ·rintro cc pre X X' hb hh
   exact hh.elim
  ·exact zk.refl _ _
  ·intro x a ha
   exact ha.vars2 U U U
  ·intro l' x X
   exact zh0 ⟨U,U,U⟩
  ·rintro l' pre x X hIx-hgo
   obtain⟨-,h1⟩:=zp0 hgo
   simp at h1
  ·rintro D xs' X hD hdn g3 hdf
   refine zl ?_
   exact⟨D,_,U,hD,hdf,g3⟩
  rintro D cc pre X hD-hh hdf
  exact hh.elim
 rintro F wz⟨D,f86,rfl,hD,hdf,hcz⟩
 have Kz:=K83.chg0 hcz
 have hxz:=hx83.trans hcz
 have k6:=k6.chg0 hxz
 have hvz:=hv'.chg0 hxz
 have k4z:=k4.chg0 Kz.ch
 have hsx:=Kx.ch.size
 have hs83:=hx83.size
 refine zf ?_
 cases hat:atC c0 nm with
 |none=>
  rw[hat]at hu67
  replace hu67:u67=.pointer none:=hu67
  subst hu67
  refine za (Om U (Og (zh zbs zad U U (zx.of_blk0 k6)) U ?_))
  refine Oc zyV U U U (zyy Kz hvz) ?_
  rintro v91 w91⟨rfl,c91⟩
  refine Om U (Oj U U (Oy U U (zh zbs zad U U (zx.of_blk0 (k6.chg0 c91))) (Oj U U ?_)))
  refine Ow U U zoB U U U (zg4 _ c0 nm _ (hvz.chg0 c91) (by omega)) ?_
  rintro v96 w96⟨i,rfl,hi,c96⟩
  refine Oy U U (vf (ya U U) (by rcases hi with⟨rfl,_⟩|⟨_,_,_,_,h2⟩;rfl;rw[hat]at h2;cases h2)) ?_
  refine Oy U U (vt (zjH bo4 U U) U) (Ot U (Om U (Oj U U (Oy U U (zfN zkp U U) (Oj U U (Oy U U (vt (zjH bo4 U U) U) (Ot U (Om U (Oj U U ?_)))))))))
  refine Ow U U zsb U U U (zfV ⟨#[97]⟩ _) ?_
  rintro v108 w108⟨rfl,c108⟩
  refine Ow U U ziW U U U (ztv zhM _) ?_
  rintro v109 w109⟨rfl,c109⟩
  refine Ow U U zia U U U (zcw _ _) ?_
  rintro v110 w110⟨rfl,rfl⟩
  refine Oy U U (vt (zv U U) U) (Ot U (Om U (Oj U U ?_)))
  refine Ow U U zia U U U (zcw _ _) ?_
  rintro v115 w115⟨rfl,rfl⟩
  refine Oy U U (vt (zv U U) U) (Ot U (Om U (Oj U U (Oy U U (zC U) (Ot U (Om U (Oj U U ?_)))))))
  refine Ow U U zx7 U U U (znV _) ?_
  rintro v124 w124⟨rfl,c124⟩
  refine Oy U U (zav zir U U) (Ot U (Om U ?_))
  refine Ow U U bd9 U U U (zgq _ (Kz.chg0 (((((c91.trans c96).trans c108).trans c109).trans c124))).eo (Kz.chg0 (((((c91.trans c96).trans c108).trans c109).trans c124))).nn) ?_
  rintro v128 w128⟨rfl,c128⟩
  refine Ot U ?_
  refine Oq (zt sz4 U U U U (k4z.chg0 (((((c91.trans c96).trans c108).trans c109).trans c124).trans c128)) (by simp) (by simp[Value.oneCell']) ?_)
  intro wE nE cE kE
  refine yB [4] (F':=[(4,_),(1000000,_)]) U ?_
  have kE:zO wE b4 4 [.bool true]:=kE
  have h128:zk [] wz w128:=((((c91.trans c96).trans c108).trans c109).trans c124).trans c128
  refine zj ?_
  refine zpC (v:=.bool true) (D:=D) U ag4 U U ((cE.block D (by have:=(Array.getElem?_eq_some_iff.1 hdf).1;have:=h128.size;omega) (by simp;omega)).trans ((h128.block D (Array.getElem?_eq_some_iff.1 hdf).1 (by simp)).trans hdf)) fun w' hc'=>?_
  refine⟨(kE.chg hc' (by simp;omega)).cell' U,rfl,?_⟩
  exact((hc19.trans (Kz.chg0 h128).ch).own cE (by intro y hy;simp at hy;omega)).own hc' (by intro y hy;simp at hy;omega)
 |some t=>
  rw[hat]at hu67
  obtain⟨q,ow,rfl,-⟩:=hu67
  refine za (Om U (Og (zh zbs zad U U (zx.of_blk0 k6)) U ?_))
  refine Oc zyV U U U (zyy Kz hvz) ?_
  rintro v91 w91⟨rfl,c91⟩
  refine Om U (Oj U U (Oy U U (zh zbs zad U U (zx.of_blk0 (k6.chg0 c91))) (Oj U U ?_)))
  refine Ow U U zoB U U U (zg4 _ c0 nm _ (hvz.chg0 c91) (by omega)) ?_
  rintro v96 w96⟨i,rfl,hi,c96⟩
  refine Oy U U (vt (ya U U) (by rcases hi with⟨rfl,h2⟩|⟨k,_,rfl,_,h2⟩;rw[hat]at h2;cases h2;exact dt (by omega))) ?_
  refine Oy U U (vt (zjH bo4 U U) U) (Ot U (Om U (Oj U U (Oy U U (zfN zkp U U) (Oj U U (Oy U U (vt (zjH bo4 U U) U) (Ot U (Om U (Oj U U ?_)))))))))
  refine Ow U U zsb U U U (zfV ⟨#[97]⟩ _) ?_
  rintro v108 w108⟨rfl,c108⟩
  refine Ow U U ziW U U U (ztv zhM _) ?_
  rintro v109 w109⟨rfl,c109⟩
  refine Ow U U zia U U U (zcw _ _) ?_
  rintro v110 w110⟨rfl,rfl⟩
  refine Oy U U (vt (zv U U) U) (Ot U (Om U (Oj U U ?_)))
  refine Ow U U zia U U U (zcw _ _) ?_
  rintro v115 w115⟨rfl,rfl⟩
  refine Oy U U (vt (zv U U) U) (Ot U (Om U (Oj U U (Oy U U (zC U) (Ot U (Om U (Oj U U ?_)))))))
  refine Ow U U zx7 U U U (znV _) ?_
  rintro v124 w124⟨rfl,c124⟩
  refine Oy U U (zav zir U U) (Ot U (Om U ?_))
  refine Ow U U bd9 U U U (zgq _ (Kz.chg0 (((((c91.trans c96).trans c108).trans c109).trans c124))).eo (Kz.chg0 (((((c91.trans c96).trans c108).trans c109).trans c124))).nn) ?_
  rintro v128 w128⟨rfl,c128⟩
  refine Ot U ?_
  refine Oq (zt sz4 U U U U (k4z.chg0 (((((c91.trans c96).trans c108).trans c109).trans c124).trans c128)) (by simp) (by simp[Value.oneCell']) ?_)
  intro wE nE cE kE
  refine yB [4] (F':=[(4,_),(1000000,_)]) U ?_
  have kE:zO wE b4 4 [.bool true]:=kE
  have h128:zk [] wz w128:=((((c91.trans c96).trans c108).trans c109).trans c124).trans c128
  refine zj ?_
  refine zpC (v:=.bool true) (D:=D) U ag4 U U ((cE.block D (by have:=(Array.getElem?_eq_some_iff.1 hdf).1;have:=h128.size;omega) (by simp;omega)).trans ((h128.block D (Array.getElem?_eq_some_iff.1 hdf).1 (by simp)).trans hdf)) fun w' hc'=>?_
  refine⟨(kE.chg hc' (by simp;omega)).cell' U,rfl,?_⟩
  exact((hc19.trans (Kz.chg0 h128).ch).own cE (by intro y hy;simp at hy;omega)).own hc' (by intro y hy;simp at hy;omega)
end Go.Wk
namespace Go.Proofs.YtkfpmjjcogigfaaGreatDoor
open Go.ChangeShapes Go.WideShapes Go.ChangeAt Go.RowKit Go.Deep
set_option maxRecDepth 100000
theorem zxH:Tryz.prog.funcs.any Func.goes=false:=by kernel_rfl
theorem zvQ{P:Program}(h:P.funcs.any Func.goes=false)(c:OpenClaim)(hs:c.start=.entering):false=c.goesBy P:=by
 have h1:∀f,P.goes f=false:=fun f=>by
  unfold Program.goes
  rw[h,Bool.and_false,Bool.or_false,List.any_eq_false]
  intro g _
  cases hg:P.funcs[g]? with
  |none=>simp
  |some fn=>
   obtain⟨hlt,rfl⟩:=Array.getElem?_eq_some_iff.1 hg
   have:=Array.any_eq_false.1 h g hlt
   simpa using this
 unfold OpenClaim.goesBy Program.goesAt Program.goesFrom
 rw[hs]
 cases P.funcNamed c.func with
 |none=>rfl
 |some f=>simp[h1]
theorem zC3:ownKnob Tryz.prog.godebug=none:=by kernel_rfl
theorem znF:laidOutB Tryz.prog=true:=by kernel_rfl
abbrev zlj : List (String × DataW Unit) := [("math/bits.deBruijn32tab", Rows.laid_math_bits_deBruijn32tab), ("math/bits.deBruijn64tab", Rows.laid_math_bits_deBruijn64tab), ("internal/strconv.uint64pow10", Rows.laid_internal_strconv_uint64pow10), ("errors.errorType", Rows.laid_errors_errorType)]
theorem etT : Tryz.prog.globalNamed "errors.errorType" = some 0 := by kernel_rfl
theorem rtT : (Tryz.prog.cutTypes.find? (·.1 == "internal/reflectlite.rtype")).map (·.2) = some 255 := by kernel_rfl
theorem zA3:Tryz.prog.types.size=481:=by kernel_rfl
theorem zvN:((List.range 481).filter fun t=>Tryz.prog.rowNamed t [101,114,114,111,114])=[87]:=by kernel_rfl
theorem zth(os:Os)(args:Array Value):laidMetH Tryz.prog zlj ((World.doorLaid Tryz.prog 31 os).forCall (fun _ _=>0) ⟨#[],args,[]⟩).memory:=
 laidMetH_of_parts3 (fuel:=8) (laidMet_of_run' 8 (by kernel_rfl) (by kernel_rfl)) (by kernel_rfl) (by kernel_rfl)
set_option linter.unusedSectionVars false
variable [Wk.Lw]
theorem zmg{W:World}(h:laidMetH Tryz.prog zlj W):Wk.EOk W:=by
 have h' : laidMet Tryz.prog (zlj.filter fun x => x.2.handleName?.isNone) W ∧ handlesMet Tryz.prog [("errors.errorType", Rows.laid_errors_errorType)] W := h
 obtain⟨name,u,ty,e1,e2,e3,e4,e5⟩:=h'.2 _ (List.mem_singleton.2 rfl)
 have en:name=[101,114,114,111,114]:=(Option.some.inj e1).symm
 subst en
 obtain rfl:=Option.some.inj (rtT.symm.trans e2)
 have hm:ty∈(List.range 481).filter fun t=>Tryz.prog.rowNamed t [101,114,114,111,114]:=List.mem_filter.2 ⟨List.mem_range.2 (by rw[←zA3];exact e3),e4⟩
 rw[zvN]at hm
 obtain rfl:=List.mem_singleton.1 hm
 have hh:typeHandle Tryz.prog 87=Wk.hnd 87:=by kernel_rfl
 rw[hh]at e5
 have h0:=World.var?_cell etT e5 0
 have h1:W.cell? ⟨0,0,none⟩=some (Value.iface 255 (Value.agg #[Wk.hnd 87])):=by simpa using h0
 exact h1
theorem zph{α:Type}{R:Nat→α→Prop}:∀n:Nat,(∀i,i<n→∃y,R i y)→∃l:List α,l.length=n∧∀i y,l[i]? = some y→R i y
 |0,_=>⟨[],rfl,fun i y h=>by simp at h⟩
 |n+1,h=>by
  obtain⟨l,hl,hr⟩:=zph n fun i hi=>h i (by omega)
  obtain⟨y,hy⟩:=h n (by omega)
  refine⟨l++[y],by simp[hl],fun i z hz=>?_⟩
  rcases Nat.lt_or_ge i l.length with hi|hi
  ·rw[List.getElem?_append_left hi]at hz
   exact hr i z hz
  rw[List.getElem?_append_right hi]at hz
  have:i-l.length=0:=by
   rcases Nat.eq_zero_or_pos (i-l.length) with h0|h0
   ·exact h0
   rw[List.getElem?_eq_none (by simp;omega)]at hz;cases hz
  rw[this]at hz
  simp at hz
  subst hz
  have:i=n:=by omega
  subst this;exact hy
section
variable {P:Program} {H:Type} {enc:TypeId×Value→H} {W:World} {b:Nat} {sp:Nat→Bool} {hd:Bool}
theorem zgC{t e:TypeId}{k:Nat}{α:Type}{f:α→List Value}{Q:α→Prop}(ht:P.underlying t=some (.slice e))(hk:P.cellsOf e=k)(hk0:0<k)(hf:∀x,(f x).length=k)(ho:∀x,Q x→∀u∈f x,u.oneCell'=true)
 (each:∀n cs x,DataW.trod enc P W b sp hd n e cs=some x→∃y,cs=f y∧Q y) {fuel:Nat} {cs:List Value} {x:DataW H×List MemPlace} (h:DataW.trod enc P W b sp hd fuel t cs=some x) :
 ∃v l,cs=[v]∧Wk.zN W e k f v l∧∀y∈l,Q y:=by
 rcases open_slice ht h with⟨rfl,_⟩|⟨a,len,cap,m,n,D,Pl,rfl,_,hl,hcm,hm,_,hx⟩
 ·exact⟨_,[],rfl,Wk.zN.nil _ _ _ _,by simp⟩
 have hlm:len≤m:=by rw[hm];split<;>omega
 obtain⟨l,hll,hR⟩:=zph (R:=fun i y=>W.cells? b (a.add (i*k)) k=some (f y)∧Q y) len fun i hi=>by
  obtain⟨cs',h1,h2⟩:=hx i (by omega)
  rw[hk]at h1
  obtain⟨y,rfl,hq⟩:=each _ _ _ h2
  exact⟨y,h1,hq⟩
 have hQ:∀y∈l,Q y:=fun y hy=>by
  obtain⟨i,hi⟩:=List.getElem?_of_mem hy
  exact(hR i y hi).2
 refine⟨_,l,rfl,?_,hQ⟩
 subst hll
 refine⟨some a,cap,rfl,hl,hcm,Wk.zj4 hf l,fun u hu=>?_,fun hp=>?_⟩
 ·obtain⟨y,hy,hu'⟩:=List.mem_flatMap.1 hu
  exact ho y (hQ y hy) u hu'
 have hspot:a.spot=none:=by
  have h0:l[0]? = some l[0]:=by simp[hp]
  obtain⟨h1,_⟩:=hR 0 _ h0
  obtain⟨_,hl3,hcell⟩:=World.cells?_some h1
  have h3:=hcell 0 hk0
  have h4:(f l[0])[0]? = some ((f l[0])[0]'(by rw[hf];exact hk0)):=by simp[hf,hk0]
  rw[h4]at h3
  simpa[Addr.add] using World.cell?_spot h3
 obtain⟨bb,oo,ss⟩:=a
 dsimp only at hspot
 subst hspot
 refine⟨bb,oo,rfl,fun j u hj=>?_⟩
 have hlen:=Wk.zj4 (k:=k) hf l
 have hjl:j<l.length*k:=by have:=(List.getElem?_eq_some_iff.1 hj).1;omega
 have hi:j / k<l.length:=(Nat.div_lt_iff_lt_mul hk0).2 hjl
 have hr:j % k<k:=Nat.mod_lt _ hk0
 have hy:l[j / k]? = some l[j / k]:=by simp[hi]
 generalize l[j / k]=y at hy
 obtain⟨h1,_⟩:=hR _ _ hy
 rw[Addr.add_lit]at h1
 obtain⟨_,_,hcell⟩:=World.cells?_some h1
 have h3:=hcell (j % k) hr
 rw[Addr.add_lit]at h3
 have hdm:j / k*k+j % k=j:=Nat.div_add_mod' j k
 have h5:(f y)[j % k]? = some u:=by
  rw[←Wk.zrR hf hy,List.getElem?_take,if_pos hr,List.getElem?_drop,hdm]
  exact hj
 rw[h5]at h3
 rw[←h3]
 congr 2
 omega
end
section
variable {H:Type} {enc:TypeId×Value→H} {W:World} {b:Nat} {sp:Nat→Bool} {hd:Bool}
theorem cV:Tryz.prog.cellsOf 111=4:=by kernel_rfl
theorem c1a:Tryz.prog.cellsOf 3=1:=by kernel_rfl
theorem c1b:Tryz.prog.cellsOf 2=1:=by kernel_rfl
theorem c1c:Tryz.prog.cellsOf 109=1:=by kernel_rfl
theorem c1d:Tryz.prog.cellsOf 9=1:=by kernel_rfl
theorem c1e:Tryz.prog.cellsOf 108=1:=by kernel_rfl
theorem c1f:Tryz.prog.cellsOf 36=1:=by kernel_rfl
theorem zza{n:Int}(h:(Lit.int .i64 n).wf=true) : -9223372036854775808≤n∧n≤9223372036854775807:=by
 simp only[Lit.wf,Bool.and_eq_true,decide_eq_true_eq]at h
 have e1:IntKind.i64.min = -9223372036854775808:=by decide
 have e2:IntKind.i64.max=9223372036854775807:=by decide
 rw[e1,e2]at h
 exact h
theorem zB9{n:Int}(h:(Lit.int .u64 n).wf=true):0≤n∧n<18446744073709551616:=by
 simp only[Lit.wf,Bool.and_eq_true,decide_eq_true_eq]at h
 have e1:IntKind.u64.min=0:=by decide
 have e2:IntKind.u64.max=18446744073709551615:=by decide
 rw[e1,e2]at h
 omega
theorem zsd{n:Nat}{cs:List Value}{x:DataW H×List MemPlace}(h:DataW.trod enc Tryz.prog W b sp hd n 111 cs=some x):∃y:Wk.zX,cs=y.cs∧y.Rng:=by
 obtain⟨xs,m,_,_,hlen,hxl,hf⟩:=DataW.trod_struct Tryz.underlying111 h
 rw[cV]at hlen
 match cs,hlen with
 |[c0,c1,c2,c3],_=>
  have g0:DataW.trod enc Tryz.prog W b sp hd m 108 (([c0,c1,c2,c3].drop 0).take (Tryz.prog.cellsOf 108))=xs[0]? := hf 0 _ rfl
  have g1:DataW.trod enc Tryz.prog W b sp hd m 2 (([c0,c1,c2,c3].drop 1).take (Tryz.prog.cellsOf 2))=xs[1]? := hf 1 _ rfl
  have g2:DataW.trod enc Tryz.prog W b sp hd m 109 (([c0,c1,c2,c3].drop 2).take (Tryz.prog.cellsOf 109))=xs[2]? := hf 2 _ rfl
  have g3:DataW.trod enc Tryz.prog W b sp hd m 9 (([c0,c1,c2,c3].drop 3).take (Tryz.prog.cellsOf 9))=xs[3]? := hf 3 _ rfl
  rw[c1e]at g0
  rw[c1b]at g1
  rw[c1c]at g2
  rw[c1d]at g3
  have hx4:xs.length=4:=hxl
  match xs,hx4 with
  |[y0,y1,y2,y3],_=>
   have g0:DataW.trod enc Tryz.prog W b sp hd m 108 [c0]=some y0:=g0
   have g1:DataW.trod enc Tryz.prog W b sp hd m 2 [c1]=some y1:=g1
   have g2:DataW.trod enc Tryz.prog W b sp hd m 109 [c2]=some y2:=g2
   have g3:DataW.trod enc Tryz.prog W b sp hd m 9 [c3]=some y3:=g3
   obtain⟨i0,e0,_,w0⟩:=DataW.trod_int (k:=.i64) (by kernel_rfl) g0
   obtain⟨i1,e1,_,w1⟩:=DataW.trod_int (k:=.i64) (by kernel_rfl) g1
   obtain⟨i2,e2,_,w2⟩:=DataW.trod_int (k:=.u64) (by kernel_rfl) g2
   obtain⟨s,e3,_,_⟩:=DataW.trod_string (by kernel_rfl) g3
   simp only[List.cons.injEq,and_true]at e0 e1 e2 e3
   subst e0 e1 e2 e3
   have h2:=zB9 w2
   obtain⟨u,rfl⟩:=Int.eq_ofNat_of_zero_le h2.1
   exact⟨⟨i0,i1,u,s⟩,rfl,zza w0,zza w1,by have:=h2.2;simp only at this ⊢;omega⟩
theorem zkN{n:Nat}{cs:List Value}{x:DataW H×List MemPlace}(h:DataW.trod enc Tryz.prog W b sp hd n 36 cs=some x):∃v l,cs=[v]∧Wk.yc W v l∧∀y∈l,y.Rng:=
 zgC (f:=Wk.zX.cs) (Q:=Wk.zX.Rng) Tryz.underlying36 cV (by decide) Wk.zbn (fun x _=>Wk.zX.one x) (fun _ _ _ h=>zsd h) h
end
theorem cC:Tryz.prog.cellsOf 114=4:=by kernel_rfl
theorem cS:Tryz.prog.cellsOf 35=3:=by kernel_rfl
theorem cE:Tryz.prog.cellsOf 39=8:=by kernel_rfl
theorem cN2:Tryz.prog.cellsOf 78=2:=by kernel_rfl
theorem c1g:Tryz.prog.cellsOf 112=1:=by kernel_rfl
theorem c1h:Tryz.prog.cellsOf 4=1:=by kernel_rfl
theorem c1i:Tryz.prog.cellsOf 31=1:=by kernel_rfl
theorem c1j:Tryz.prog.cellsOf 32=1:=by kernel_rfl
theorem c1k:Tryz.prog.cellsOf 33=1:=by kernel_rfl
theorem c1l:Tryz.prog.cellsOf 30=1:=by kernel_rfl
theorem c1m:Tryz.prog.cellsOf 37=1:=by kernel_rfl
theorem zpa{w:World}{k len:Nat}{v:Value}{xs:List Value}(h:Wk.Rd w k v len xs)(hk:0<k):∀b∈Wk.zhj v,b<w.heap.size:=by
 intro b hb
 have hl:=h.len_xs
 obtain⟨p,cap,rfl,_,_,_,_,h6⟩:=h
 cases p with
 |none=>simp[Wk.zhj]at hb
 |some a=>
  cases len with
  |zero=>simp[Wk.zhj]at hb
  |succ m=>
   simp[Wk.zhj]at hb
   obtain⟨bb,off,e,hc⟩:=h6 (by omega)
   cases e
   have hp:0<xs.length:=by rw[hl];exact Nat.mul_pos (by omega) hk
   rw[hb]
   exact Wk.zst hc (j:=0) (by rw[List.getElem?_eq_getElem hp])
section
variable {H:Type} {enc:TypeId×Value→H} {W:World} {b:Nat} {sp:Nat→Bool} {hd:Bool}
theorem zqi{k len:Nat}{v:Value}{xs:List Value}(hn:W.heap.size≤Wk.Lw.n)(h:Wk.Rd W k v len xs)(hk:0<k):∀b∈Wk.zhj v,Wk.Lo W b:=fun b hb=>.inl (Nat.lt_of_lt_of_le (zpa h hk b hb) hn)
theorem ztx{n:Nat}{cs:List Value}{x:DataW H×List MemPlace}(h:DataW.trod enc Tryz.prog W b sp hd n 114 cs=some x):∃y:Wk.Col,cs=y.cs:=by
 obtain⟨xs,m,_,_,hlen,hxl,hf⟩:=DataW.trod_struct Tryz.underlying114 h
 rw[cC]at hlen
 match cs,hlen with
 |[c0,c1,c2,c3],_=>
  have g0:DataW.trod enc Tryz.prog W b sp hd m 9 (([c0,c1,c2,c3].drop 0).take (Tryz.prog.cellsOf 9))=xs[0]? := hf 0 _ rfl
  have g1:DataW.trod enc Tryz.prog W b sp hd m 112 (([c0,c1,c2,c3].drop 1).take (Tryz.prog.cellsOf 112))=xs[1]? := hf 1 _ rfl
  have g2:DataW.trod enc Tryz.prog W b sp hd m 3 (([c0,c1,c2,c3].drop 2).take (Tryz.prog.cellsOf 3))=xs[2]? := hf 2 _ rfl
  have g3:DataW.trod enc Tryz.prog W b sp hd m 4 (([c0,c1,c2,c3].drop 3).take (Tryz.prog.cellsOf 4))=xs[3]? := hf 3 _ rfl
  rw[c1d]at g0
  rw[c1g]at g1
  rw[c1a]at g2
  rw[c1h]at g3
  have hx4:xs.length=4:=hxl
  match xs,hx4 with
  |[y0,y1,y2,y3],_=>
   have g0:DataW.trod enc Tryz.prog W b sp hd m 9 [c0]=some y0:=g0
   have g1:DataW.trod enc Tryz.prog W b sp hd m 112 [c1]=some y1:=g1
   have g2:DataW.trod enc Tryz.prog W b sp hd m 3 [c2]=some y2:=g2
   have g3:DataW.trod enc Tryz.prog W b sp hd m 4 [c3]=some y3:=g3
   obtain⟨s,e0,_,_⟩:=DataW.trod_string (by kernel_rfl) g0
   obtain⟨i1,e1,_,_⟩:=DataW.trod_int (k:=.i64) (by kernel_rfl) g1
   obtain⟨i2,e2,_,_⟩:=DataW.trod_int (k:=.i64) (by kernel_rfl) g2
   obtain⟨z,e3,_⟩:=DataW.trod_bool (by kernel_rfl) g3
   simp only[List.cons.injEq,and_true]at e0 e1 e2 e3
   subst e0 e1 e2 e3
   exact⟨⟨s,i1,i2,z⟩,rfl⟩
theorem zq1{n:Nat}{cs:List Value}{x:DataW H×List MemPlace}(h:DataW.trod enc Tryz.prog W b sp hd n 31 cs=some x):∃v l,cs=[v]∧Wk.ziu W v l:=by
 obtain⟨v,l,h1,h2,_⟩:=zgC (f:=Wk.Col.cs) (Q:=fun _=>True) Tryz.underlying31 cC (by decide) Wk.zaG (fun x _=>Wk.Col.one x) (fun _ _ _ h=>let ⟨y,hy⟩:=ztx h; ⟨y,hy,trivial⟩) h
 exact⟨v,l,h1,h2⟩
theorem zli{n:Nat}{cs:List Value}{x:DataW H×List MemPlace}(h:DataW.trod enc Tryz.prog W b sp hd n 32 cs=some x):∃v l,cs=[v]∧Wk.yw W v l:=by
 obtain⟨v,l,h1,h2,_⟩:=zgC (f:=Wk.ics) (Q:=fun _=>True) Tryz.underlying32 c1a (by decide) Wk.zhz (fun x _=>Wk.zuq x) (fun _ cs _ h=>by
  obtain⟨i,e,_,_⟩:=DataW.trod_int (k:=.i64) (by kernel_rfl) h
  exact⟨i,e,trivial⟩) h
 exact⟨v,l,h1,h2⟩
def vcs(p:Value×List Int):List Value:=[p.1]
theorem zrO:∀l:List (Value×List Int),Wk.fl vcs l=l.map (·.1)
 |[]=>rfl
 |p::l=>by rw[Wk.zgB,zrO l];rfl
theorem zqc:∀l:List (Value×List Int),(∀p∈l,Wk.yw W p.1 p.2)→Wk.zcI W 3 1 Wk.ics (l.map (·.1)) (l.map (·.2))
 |[],_=>trivial
 |p::l,h=>⟨h p (by simp),zqc l (fun q hq=>h q (by simp[hq]))⟩
theorem zoC{n:Nat}{cs:List Value}{x:DataW H×List MemPlace}(h:DataW.trod enc Tryz.prog W b sp hd n 33 cs=some x):∃(v:Value) (vs:List Value) (l:List (List Int)),cs=[v]∧Wk.Rd W 1 v l.length vs∧Wk.zcI W 3 1 Wk.ics vs l∧∀u∈vs,∃n xs,Wk.Rd W 1 u n xs:=by
 obtain⟨v,l,h1,h2,h3⟩:=zgC (f:=vcs) (Q:=fun p=>Wk.yw W p.1 p.2) Tryz.underlying33 c1j (by decide) (fun _=>rfl) (fun p hp u hu=>by simp[vcs]at hu;subst hu;exact Wk.zN.one1 hp) (fun _ cs _ h=>by
  obtain⟨v,l,e,hl⟩:=zli h
  exact⟨(v,l),e,hl⟩) h
 have h2':Wk.Rd W 1 v l.length (Wk.fl vcs l):=h2
 rw[zrO]at h2'
 refine⟨v,l.map (·.1),l.map (·.2),h1,by rwa [List.length_map],zqc l h3,fun u hu=>?_⟩
 obtain⟨p,hp,rfl⟩:=List.mem_map.1 hu
 exact⟨_,_,h3 p hp⟩
theorem zrP{n:Nat}{cs:List Value}{x:DataW H×List MemPlace}(hn:W.heap.size≤Wk.Lw.n)(h:DataW.trod enc Tryz.prog W b sp hd n 35 cs=some x):∃c k u s,cs=[c,k,u]∧Wk.zaa W c k u s:=by
 obtain⟨xs,m,_,_,hlen,hxl,hf⟩:=DataW.trod_struct Tryz.underlying35 h
 rw[cS]at hlen
 match cs,hlen with
 |[c0,c1,c2],_=>
  have g0:DataW.trod enc Tryz.prog W b sp hd m 31 (([c0,c1,c2].drop 0).take (Tryz.prog.cellsOf 31))=xs[0]? := hf 0 _ rfl
  have g1:DataW.trod enc Tryz.prog W b sp hd m 32 (([c0,c1,c2].drop 1).take (Tryz.prog.cellsOf 32))=xs[1]? := hf 1 _ rfl
  have g2:DataW.trod enc Tryz.prog W b sp hd m 33 (([c0,c1,c2].drop 2).take (Tryz.prog.cellsOf 33))=xs[2]? := hf 2 _ rfl
  rw[c1i]at g0
  rw[c1j]at g1
  rw[c1k]at g2
  have hx3:xs.length=3:=hxl
  match xs,hx3 with
  |[y0,y1,y2],_=>
   have g0:DataW.trod enc Tryz.prog W b sp hd m 31 [c0]=some y0:=g0
   have g1:DataW.trod enc Tryz.prog W b sp hd m 32 [c1]=some y1:=g1
   have g2:DataW.trod enc Tryz.prog W b sp hd m 33 [c2]=some y2:=g2
   obtain⟨v0,l0,e0,h0⟩:=zq1 g0
   obtain⟨v1,l1,e1,h1⟩:=zli g1
   obtain⟨v2,vs,l2,e2,h2,h3,h4⟩:=zoC g2
   cases e0;cases e1;cases e2
   refine⟨_,_,_,⟨l0,l1,l2⟩,rfl,h0,h1,⟨vs,h2,h3,fun v hv=>?_⟩,fun v hv=>?_⟩
   ·obtain⟨n,xs,hr⟩:=h4 v hv
    exact zqi hn hr (by decide)
   simp only[List.mem_cons,List.not_mem_nil,or_false]at hv
   rcases hv with rfl|rfl|rfl
   ·exact zqi hn h0 (by decide)
   ·exact zqi hn h1 (by decide)
   exact zqi hn h2 (by decide)
theorem zq4{n:Nat}{cs:List Value}{x:DataW H×List MemPlace}(h:DataW.trod enc Tryz.prog W b sp hd n 78 cs=some x):∃p:ByteArray×ByteArray,cs=Wk.pcs p∧p.1.size≤9223372036854775807∧p.2.size≤9223372036854775807:=by
 obtain⟨xs,m,_,_,hlen,hxl,hf⟩:=DataW.trod_array Tryz.underlying78 h
 rw[cN2]at hlen
 have g0:=hf 0 (by decide)
 have g1:=hf 1 (by decide)
 rw[c1d]at g0 g1
 match cs,hlen,xs,hxl with
 |[c0,c1],_,[y0,y1],_=>
  have g0:DataW.trod enc Tryz.prog W b sp hd m 9 [c0]=some y0:=g0
  have g1:DataW.trod enc Tryz.prog W b sp hd m 9 [c1]=some y1:=g1
  obtain⟨s,e0,_,m0⟩:=DataW.trod_string (by kernel_rfl) g0
  obtain⟨t,e1,_,m1⟩:=DataW.trod_string (by kernel_rfl) g1
  cases e0;cases e1
  exact⟨(s,t),rfl,m0,m1⟩
theorem zoo{n:Nat}{cs:List Value}{x:DataW H×List MemPlace}(h:DataW.trod enc Tryz.prog W b sp hd n 37 cs=some x):∃v l,cs=[v]∧Wk.zdc W v l∧∀p∈l,p.1.size≤9223372036854775807∧p.2.size≤9223372036854775807:=
 zgC (f:=Wk.pcs) (Q:=fun p=>p.1.size≤9223372036854775807∧p.2.size≤9223372036854775807) Tryz.underlying37 cN2 (by decide) Wk.zbq (fun x _=>Wk.zlI x) (fun _ _ _ h=>zq4 h) h
theorem zvx{n:Nat}{cs:List Value}{x:DataW H×List MemPlace}(hn:W.heap.size≤Wk.Lw.n)(h:DataW.trod enc Tryz.prog W b sp hd n 39 cs=some x):∃(y:Wk.EvT) (e:Wk.EvV),cs=Wk.evC y e∧Wk.zbG W e y∧Wk.zoz y:=by
 obtain⟨xs,m,_,_,hlen,hxl,hf⟩:=DataW.trod_struct Tryz.underlying39 h
 rw[cE]at hlen
 match cs,hlen with
 |[c0,c1,c2,c3,c4,c5,c6,c7],_=>
  have g0:DataW.trod enc Tryz.prog W b sp hd m 30 (([c0,c1,c2,c3,c4,c5,c6,c7].drop 0).take (Tryz.prog.cellsOf 30))=xs[0]? := hf 0 _ rfl
  have g1:DataW.trod enc Tryz.prog W b sp hd m 9 (([c0,c1,c2,c3,c4,c5,c6,c7].drop 1).take (Tryz.prog.cellsOf 9))=xs[1]? := hf 1 _ rfl
  have g2:DataW.trod enc Tryz.prog W b sp hd m 35 (([c0,c1,c2,c3,c4,c5,c6,c7].drop 2).take (Tryz.prog.cellsOf 35))=xs[2]? := hf 2 _ rfl
  have g3:DataW.trod enc Tryz.prog W b sp hd m 36 (([c0,c1,c2,c3,c4,c5,c6,c7].drop 5).take (Tryz.prog.cellsOf 36))=xs[3]? := hf 3 _ rfl
  have g4:DataW.trod enc Tryz.prog W b sp hd m 36 (([c0,c1,c2,c3,c4,c5,c6,c7].drop 6).take (Tryz.prog.cellsOf 36))=xs[4]? := hf 4 _ rfl
  have g5:DataW.trod enc Tryz.prog W b sp hd m 37 (([c0,c1,c2,c3,c4,c5,c6,c7].drop 7).take (Tryz.prog.cellsOf 37))=xs[5]? := hf 5 _ rfl
  rw[c1l]at g0
  rw[c1d]at g1
  rw[cS]at g2
  rw[c1f]at g3
  rw[c1f]at g4
  rw[c1m]at g5
  have hx6:xs.length=6:=hxl
  match xs,hx6 with
  |[y0,y1,y2,y3,y4,y5],_=>
   have g0:DataW.trod enc Tryz.prog W b sp hd m 30 [c0]=some y0:=g0
   have g1:DataW.trod enc Tryz.prog W b sp hd m 9 [c1]=some y1:=g1
   have g2:DataW.trod enc Tryz.prog W b sp hd m 35 [c2,c3,c4]=some y2:=g2
   have g3:DataW.trod enc Tryz.prog W b sp hd m 36 [c5]=some y3:=g3
   have g4:DataW.trod enc Tryz.prog W b sp hd m 36 [c6]=some y4:=g4
   have g5:DataW.trod enc Tryz.prog W b sp hd m 37 [c7]=some y5:=g5
   obtain⟨k,e0,_,w0⟩:=DataW.trod_int (k:=.i64) (by kernel_rfl) g0
   obtain⟨t,e1,_,_⟩:=DataW.trod_string (by kernel_rfl) g1
   obtain⟨sc,sk,su,s,e2,hs⟩:=zrP hn g2
   obtain⟨v3,l3,e3,h3,r3⟩:=zkN g3
   obtain⟨v4,l4,e4,h4,r4⟩:=zkN g4
   obtain⟨v5,l5,e5,h5,r5⟩:=zoo g5
   cases e0;cases e1;cases e2;cases e3;cases e4;cases e5
   exact⟨⟨k,t,s,l3,l4,l5⟩,⟨_,_,_,_,_,_⟩,rfl,⟨hs,h3,h4,h5,zza w0,r3,r4⟩,r5⟩
theorem zt9{n:Nat}{cs:List Value}{x:DataW H×List MemPlace}(hn:W.heap.size≤Wk.Lw.n)(h:DataW.trod enc Tryz.prog W b sp hd n 22 cs=some x):∃v l,cs=[v]∧Wk.zeq W v l∧∀y∈l,Wk.zoz y:=by
 obtain⟨v,l,h1,h2,h3⟩:=zgC (f:=fun p:Wk.EvT×Wk.EvV=>Wk.evC p.1 p.2) (Q:=fun p=>Wk.zbG W p.2 p.1∧Wk.zoz p.1) Tryz.underlying22 cE (by decide) (fun p=>Wk.zi8 p.1 p.2) (fun _ hx=>hx.1.one) (fun _ _ _ h=>by
  obtain⟨y,e,h1,h2,h3⟩:=zvx hn h
  exact⟨(y,e),h1,h2,h3⟩) h
 refine⟨v,l.map (·.1),h1,⟨l,h2,fun p hp=>(h3 p hp).1,rfl⟩,fun y hy=>?_⟩
 obtain⟨p,hp,rfl⟩:=List.mem_map.1 hy
 exact(h3 p hp).2
end
end Go.Proofs.YtkfpmjjcogigfaaGreatDoor
