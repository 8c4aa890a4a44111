/- joined texts -/
import Derived.Test.YtkfpmjjcogigfaaGreatDoorW15
set_option linter.all false
namespace Go.Wk
open Go.Proofs
set_option linter.unusedSectionVars false
variable [Lw]
set_option maxRecDepth 10000
theorem zvx{c:Cat}{x:EvT}(h:doE c x≠0):doC c x=c:=by unfold doC;rw[if_pos h]
theorem zs1{c:Cat}{x:EvT}(h:z9 x=false):doE c x=2:=by unfold doE;rw[if_pos h]
theorem zsk{c:Cat}{x:EvT}(h:z9 x=true)(h6:x.k≠6)(ha:atC c x.t=none):doE c x=if x.k=4 then (if 12≤c.length then 3 else 0) else 5:=by
 unfold doE;rw[if_neg (by rw[h];simp),if_neg h6,ha]
theorem zgT{c:Cat}{x:EvT}{t:Tb}(h:z9 x=true)(h6:x.k≠6)(ha:atC c x.t=some t):doE c x=if x.k=4 then 220 else if x.k=5 then 0 else zbI t x:=by
 unfold doE;rw[if_neg (by rw[h];simp),if_neg h6,ha]
theorem zuM{c:Cat}{x:EvT}{t:Tb}(he:doE c x=0)(h4:x.k≠4)(h5:x.k≠5)(h6:x.k≠6)(ha:atC c x.t=some t):doC c x=zaD c ⟨t.n,t.s,zci t x⟩:=by
 unfold doC;rw[if_neg (by simp[he]),if_neg h6,if_neg h4,if_neg h5,ha]
theorem zca(i:Int)(w:Wl):zL TP 12 #[Ii i] w fun r w'=>r=Ii i∧w'=w:=by
 refine A1 Tryz.func12 U U ?_
 refine Sr (Oa U (E1 0 U (Sr (Om U (Oa U (E1 2 U (zh ?_)))))))
 refine zx U U ?_
 exact⟨U,U⟩
def zdC(i:Int):List zT:=[⟨1,i,0,e0⟩]
theorem zn4(i:Int)(w:Wl):zL TP 31 #[Ii i] w fun r w'=>∃b,r=.slice (some ⟨b,0,none⟩) 1 1∧w.heap.size≤b∧zK w' b 111 (fl zT.cs (zdC i))∧zl [] w w':=by
 refine A1 Tryz.func31 U U ?_
 refine Sr (Oa U (E1 0 U (Sr (Om U ?_))))
 refine Og (zC ziq zcq U (vs:=[_,_]) U (css:=[_,_]) ⟨U,U,trivial⟩ U U (cs:=[_,_,_,_]) U) U ?_
 refine Oq (zz zmD U (vs:=[_]) U (css:=[_]) ⟨U,trivial⟩ U U (cs:=[_,_,_,_]) U U ?_)
 intro b5 w5 e5 n5 c5 k5
 refine Oa U (E1 2 U (zh ?_))
 refine zx U U ?_
 exact⟨_,rfl,by omega,k5,c5⟩
theorem zn3{i:Int}{b:Nat}{w:Wl}(k:zK w b 111 (fl zT.cs (zdC i))):yn w (.slice (some ⟨b,0,none⟩) 1 1) (zdC i):=zO.of_blk (l:=zdC i) zc2 zT.one k (by simp[zdC,maxLen])
def zjj:yx:=⟨[⟨⟨#[97]⟩,1,1,false⟩],[0],[]⟩
def yq(n:By):EvT:=⟨5,n,zcm,[],[],[]⟩
def zb7(m:List (By×By)):EvT:=⟨6,e0,zcm,[],[],m⟩
def zaZ(n:By):EvT:=⟨4,n,zjj,[],[],[]⟩
def zgZ:EvV:=⟨yD,yD,yD,yD,yD,yD⟩
theorem zer(n:By)(w:Wl):za7 w zgZ (yq n):=⟨zdg w,zO.nil _ _ _ _,zO.nil _ _ _ _,zO.nil _ _ _ _,by simp[yq],by simp[yq],by simp[yq]⟩
theorem zgB(n:By)(w:Wl):zL TP 22 #[.string n] w fun r w'=>r=.agg (evC (yq n) zgZ).toArray∧zl [] w w':=by
 refine A1 Tryz.func22 U U ?_
 refine Sr ?_
 refine Oq (zD ze2 U U ?_)
 intro b2 w2 e2 n2 c2 k2
 refine E2 0 2 U (Sr (Om U ?_))
 refine Og (zC zkg ze2 U (vs:=[_,_]) U (css:=[_,_]) ⟨U,U,trivial⟩ U U (cs:=[_,_,_,_,_,_,_,_]) U) U ?_
 refine Oq (zv yy U U U U k2 (by simp) (by intro y hy;simp at hy;rcases hy with rfl|rfl|rfl<;>rfl) ?_)
 intro wB nB cB kB
 refine E1 2 U (zh ?_)
 refine zg4 U zaI yy U U (zB.of_blk0 kB) ?_
 exact⟨rfl,c2.own cB (by intro y hy;simp at hy;omega)⟩
theorem zga(vm:Va)(m:List (By×By))(w:Wl)(hm:zcw w vm m):zL TP 30 #[vm] w fun r w'=>r=.agg (evC (zb7 m) { zgZ with m:=vm }).toArray∧za7 w' { zgZ with m:=vm } (zb7 m)∧zl [] w w':=by
 obtain⟨pm,cm,rfl,-⟩:∃p q,vm=.slice p m.length q∧m.length≤q:=zO.val hm
 refine A1 Tryz.func30 U U ?_
 refine Sr ?_
 refine Oq (zD ze2 U U ?_)
 intro b2 w2 e2 n2 c2 k2
 refine E2 0 2 U (Sr (Om U ?_))
 refine Og (zbP zkg ze2 U (qs:=[(0,_),(5,_)]) U (css:=[_,_]) ⟨U,U,trivial⟩ (cs:=[_,_,_,_,_,_,_,_]) U) U ?_
 refine Oq (zv yy U U U U k2 (by simp) (by intro y hy;simp at hy;rcases hy with rfl|rfl|rfl|rfl<;>rfl) ?_)
 intro wB nB cB kB
 refine E1 2 U (zh ?_)
 refine zg4 U zaI yy U U (zB.of_blk0 kB) ?_
 have hc:zl [] w wB:=c2.own cB (by intro y hy;simp at hy;omega)
 exact⟨rfl,⟨zdg _,zO.nil _ _ _ _,zO.nil _ _ _ _,zO.chg0 hm hc,by simp[zb7],by simp[zb7],by simp[zb7]⟩,hc⟩
theorem ziN(n:By)(w:Wl):zL TP 29 #[.string n] w fun r w'=>∃e,r=.agg (evC (zaZ n) e).toArray∧za7 w' e (zaZ n)∧zl [] w w':=by
 refine A1 Tryz.func29 U U ?_
 refine Sr ?_
 refine Oq (zD ze2 U U ?_)
 intro b2 w2 e2 n2 c2 k2
 refine E2 0 2 U (Sr (Om U ?_))
 refine Og (zC zur zj2 U (vs:=[_,_,_]) U (css:=[_,_,_]) ⟨U,U,U,trivial⟩ U U (cs:=[_,_,_,_]) U) U ?_
 refine Oq (zz zAh U (vs:=[_]) U (css:=[_]) ⟨U,trivial⟩ U U (cs:=[_,_,_,_]) U U ?_)
 intro b5 w5 e5 n5 c5 k5
 refine Oq (zz zwD U (vs:=[_]) U (css:=[_]) ⟨U,trivial⟩ U U (cs:=[_]) U U ?_)
 intro b6 w6 e6 n6 c6 k6
 refine Og (zC zzV zAl U (vs:=[_,_]) U (css:=[_,_]) ⟨U,U,trivial⟩ U U (cs:=[_,_,_]) U) U ?_
 refine Og (zC zkg ze2 U (vs:=[_,_,_]) U (css:=[_,_,_]) ⟨U,U,U,trivial⟩ U U (cs:=[_,_,_,_,_,_,_,_]) U) U ?_
 refine Oq (zv yy U U U U (k2.chg0 (c5.trans c6)) (by simp) (by intro y hy;simp at hy;rcases hy with rfl|rfl|rfl|rfl|rfl<;>rfl) ?_)
 intro wB nB cB kB
 refine E1 2 U (zh ?_)
 refine zg4 U zaI yy U U (zB.of_blk0 kB) ?_
 have hs5:=c5.size
 have hs6:=c6.size
 have k5B:=(k5.chg0 c6).chg cB (by simp;omega)
 have k6B:=k6.chg cB (by simp;omega)
 refine⟨⟨_,_,_,_,_,_⟩,rfl,⟨⟨?_,?_,⟨[],Rd.nil _ 1,trivial,by simp⟩,?_⟩,zO.nil _ _ _ _,zO.nil _ _ _ _,zO.nil _ _ _ _,by simp[zaZ],by simp[zaZ],by simp[zaZ]⟩,((c2.trans c5).trans c6).own cB (by intro y hy;simp at hy;omega)⟩
 ·exact zO.of_blk (l:=zjj.cols) zb9 Col.one k5B (by simp[zjj,maxLen])
 ·exact zO.of_blk (l:=zjj.key) (fun _=>rfl) (fun x u hu=>by simp[ics]at hu;subst hu;rfl) k6B (by simp[zjj,maxLen])
 intro v hv b hb
 simp only[List.mem_cons,List.not_mem_nil,or_false]at hv
 replace hb:=zqJ hb
 rcases hv with rfl|rfl|rfl
 ·simp[zq]at hb
  subst hb
  exact .inr ⟨_,_,_,k5B,U⟩
 ·simp[zq]at hb
  subst hb
  exact .inr ⟨_,_,_,k6B,U⟩
 simp[zq]at hb
theorem zs3{P:Program}{n:Nat}{F:Fr}{w:Wl}{dst:Option Nat}{ty:TypeId}{pos:String}{af:Array Edge}{gd:Option (Nat×Bool)}{x y:Operand}{t u:TypeId}{i j:Int}(hx:ev F x=some (Ii i))(hy:ev F y=some (Ii j)):Vl P n F ⟨dst,.binOp .add t x y u,ty,pos,af,gd⟩ w (Ii (IntKind.i64.wrap (i+j))) w:=
 fun a ha=>by simp[execOp,ha.eval hx,ha.eval hy,eqGuard,binOp,Op.intArith]
section
variable {α:Type} {w:Wl} {e k j i:Nat} {f:α→List Va} {g:α→By} {p:Option Addr} {c:Nat} {l:List α}
theorem zO.pick(hf:∀x,(f x).length=k)(hg:∀x,(f x)[i]? = some (.string (g x)))(h:zO w e k f (.slice p l.length c) l)(j:Nat) :
 ∃b o s,j<l.length→p=some ⟨b,o,none⟩∧(∃y,l[j]? = some y∧s=g y)∧w.cell? ⟨b,o+j*k+i,none⟩=some (.string s):=by
 by_cases hj:j<l.length
 ·have hx:l[j]? = some l[j]:=by simp[hj]
  obtain⟨b,o,cap,hv,hc⟩:=zO.at hf h hx
  cases hv
  exact⟨b,o,g l[j],fun _=>⟨U,⟨_,hx,U⟩,hc i _ (hg _)⟩⟩
 exact⟨0,0,e0,fun h=>absurd h hj⟩
theorem zc7.pick{E:Nat}{ls:List (List α)}(h:zc7 w E e k f (.slice p ls.length c) ls)(j:Nat) :
 ∃b o q n d,j<ls.length→p=some ⟨b,o,none⟩∧(∃y,ls[j]? = some y∧n=y.length)∧w.cell? ⟨b,o+j*1,none⟩=some (.slice q n d):=by
 by_cases hj:j<ls.length
 ·have hx:ls[j]? = some ls[j]:=by simp[hj]
  obtain⟨b,o,cap,u,hv,hc,ha⟩:=zc7.at h hx
  cases hv
  obtain⟨q,d,rfl,-⟩:=zO.val ha
  exact⟨b,o,q,_,d,fun _=>⟨U,⟨_,hx,U⟩,hc⟩⟩
 exact⟨0,0,none,0,0,fun h=>absurd h hj⟩
theorem zcE{a b:Nat}(h:decide ((a:Int)<(b:Int))=true):a<b:=by have:=of_decide_eq_true h;omega
end
def ztE(x:EvT):Bool:=decide (x.t.size≤60∧x.o.length≤12∧x.w.length≤12∧x.m.length≤8∧x.s.cols.length≤12∧x.s.key.length≤12∧x.s.uq.length≤6)
def zma(x:EvT)(j:Nat):Bool:=
 (x.o[j]?).any (fun y=>decide (300<y.b.size)) || (x.w[j]?).any (fun y=>decide (300<y.b.size)) || (x.s.cols[j]?).any (fun y=>decide (60<y.n.size)) || (x.s.uq[j]?).any (fun y=>decide (12<y.length)) ||
 (x.m[j]?).any (fun y=>decide (120<IntKind.i64.wrap ((y.1.size:Int)+(y.2.size:Int))))
def zit(x:EvT):Bool:=ztE x && (List.range 12).all fun j => !zma x j
theorem zie{α:Type}{l:List α}{j:Nat}{P:Bool}{f:α→Bool}(h:j<l.length→∃y,l[j]? = some y∧P=f y):(decide ((j:Int)<(l.length:Int)) && P)=(l[j]?).any f:=by
 by_cases hj:j<l.length
 ·obtain⟨y,h1,rfl⟩:=h hj
  rw[h1,dt (by omega)]
  rfl
 rw[df (by omega),List.getElem?_eq_none (by omega)]
 rfl
def zmT(x:EvT):Prop:=∀p∈x.m,p.1.size≤9223372036854775807∧p.2.size≤9223372036854775807
theorem zv2{x:EvT}(h:zit x=true)(hmn:zmT x):zce x:=by
 simp only[zit,Bool.and_eq_true,ztE,decide_eq_true_eq,List.all_eq_true,List.mem_range,Bool.not_eq_true',zma,Bool.or_eq_false_iff]at h
 obtain⟨⟨h1,h2,h3,h4,h5,h6,h7⟩,hj⟩:=h
 refine⟨⟨by omega,by omega,by omega,fun l hl=>?_⟩,by omega,by omega,by omega,by omega,fun c hc=>?_,hmn⟩
 ·obtain⟨j,hj'⟩:=List.getElem?_of_mem hl
  have hlt:=(Gs hj').1
  have:=(hj j (by omega)).1.2
  rw[hj']at this
  simp at this
  omega
 obtain⟨j,hj'⟩:=List.getElem?_of_mem hc
 have hlt:=(Gs hj').1
 have:=(hj j (by omega)).1.1.2
 rw[hj']at this
 simp at this
 omega
set_option maxHeartbeats 2000000 in
theorem znH(e:EvV)(x:EvT)(w:Wl)(hx:za7 w e x):zL TP 24 #[.agg (evC x e).toArray] w fun r w'=>r=.bool (zit x)∧zl [] w w':=by
 obtain⟨c,ky,u,o,n,m⟩:=e
 obtain⟨pc,cc,rfl,-⟩:∃p q,c=.slice p x.s.cols.length q∧x.s.cols.length≤q:=zO.val hx.sch.cols
 obtain⟨pk,ck,rfl,-⟩:∃p q,ky=.slice p x.s.key.length q∧x.s.key.length≤q:=zO.val hx.sch.key
 obtain⟨pu,cu,rfl,-⟩:∃p q,u=.slice p x.s.uq.length q∧x.s.uq.length≤q:=zc7.val hx.sch.uq
 obtain⟨po,co,rfl,-⟩:∃p q,o=.slice p x.o.length q∧x.o.length≤q:=zO.val hx.old
 obtain⟨pn,cn,rfl,-⟩:∃p q,n=.slice p x.w.length q∧x.w.length≤q:=zO.val hx.new
 obtain⟨pm,cm,rfl,-⟩:∃p q,m=.slice p x.m.length q∧x.m.length≤q:=zO.val hx.nm
 refine A1 Tryz.func24 U U ?_
 refine Sr ?_
 refine Ob U U ?_
 intro b1 w1 e1 n1 c1 k1
 refine Oa U (E1 1 U ?_)
 have hx:=hx.chg0 c1
 generalize hE:evC x ⟨.slice pc x.s.cols.length cc,.slice pk x.s.key.length ck,.slice pu x.s.uq.length cu,.slice po x.o.length co,.slice pn x.w.length cn,.slice pm x.m.length cm⟩=E at *
 have k1:zK w1 b1 39 E:=k1
 have f1:∀{wz:Wl},zl [] w1 wz→wz.cell? ⟨b1,1,none⟩=some (.string x.t):=fun hz=>(k1.chg0 hz).cell' (i:=1) (by rw[←hE];rfl)
 have f2:∀{wz:Wl},zl [] w1 wz→wz.cell? ⟨b1,2,none⟩=some (.slice pc x.s.cols.length cc):=fun hz=>(k1.chg0 hz).cell' (i:=2) (by rw[←hE];rfl)
 have f3:∀{wz:Wl},zl [] w1 wz→wz.cell? ⟨b1,3,none⟩=some (.slice pk x.s.key.length ck):=fun hz=>(k1.chg0 hz).cell' (i:=3) (by rw[←hE];rfl)
 have f4:∀{wz:Wl},zl [] w1 wz→wz.cell? ⟨b1,4,none⟩=some (.slice pu x.s.uq.length cu):=fun hz=>(k1.chg0 hz).cell' (i:=4) (by rw[←hE];rfl)
 have f5:∀{wz:Wl},zl [] w1 wz→wz.cell? ⟨b1,5,none⟩=some (.slice po x.o.length co):=fun hz=>(k1.chg0 hz).cell' (i:=5) (by rw[←hE];rfl)
 have f6:∀{wz:Wl},zl [] w1 wz→wz.cell? ⟨b1,6,none⟩=some (.slice pn x.w.length cn):=fun hz=>(k1.chg0 hz).cell' (i:=6) (by rw[←hE];rfl)
 have f7:∀{wz:Wl},zl [] w1 wz→wz.cell? ⟨b1,7,none⟩=some (.slice pm x.m.length cm):=fun hz=>(k1.chg0 hz).cell' (i:=7) (by rw[←hE];rfl)
 have hr:=zl.refl [] w1
 refine zd (Sr (Od yg U (Ol ag9 U (f1 hr) (Og (zax st9 U) U (Og (ym U U) U (Om U ?_))))))
 apply zpL (t:=13)
 case h0=>
  intro H
  refine Oz U U (Oz U U (Oz U U (Oz U U (Ot U ?_))))
  exact zhO [9,10,11,12] U H
 case h1=>
  intro hc H
  refine Oy U U (ze za0 U) (Oy U U (zj zbA U (f5 hr)) (Oy U U (z5 zbn U) (Oy U U (ym U U) (Of U ?_))))
  exact zhO [9,10,11,12] U H
 refine Om U ?_
 apply zpL (t:=19)
 case h0=>
  intro H
  refine Oz U U (Oz U U (Oz U U (Oz U U (Ot U ?_))))
  exact zhO [15,16,17,18] U H
 case h1=>
  intro hc H
  refine Oy U U (ze zbu U) (Oy U U (zj zbA U (f6 hr)) (Oy U U (z5 zbn U) (Oy U U (ym U U) (Of U ?_))))
  exact zhO [15,16,17,18] U H
 refine Om U ?_
 apply zpL (t:=25)
 case h0=>
  intro H
  refine Oz U U (Oz U U (Oz U U (Oz U U (Ot U ?_))))
  exact zhO [21,22,23,24] U H
 case h1=>
  intro hc H
  refine Oy U U (ze zaC U) (Oy U U (zj zdI U (f7 hr)) (Oy U U (z5 zb0 U) (Oy U U (ym U U) (Of U ?_))))
  exact zhO [21,22,23,24] U H
 refine Om U ?_
 apply zpL (t:=32)
 case h0=>
  intro H
  refine Oz U U (Oz U U (Oz U U (Oz U U (Oz U U (Ot U ?_)))))
  exact zhO [27,28,29,30,31] U H
 case h1=>
  intro hc H
  refine Oy U U (ze zbm U) (Oy U U (ze yW U) (Oy U U (zj zcr U (f2 hr)) (Oy U U (z5 zbF U) (Oy U U (ym U U) (Of U ?_)))))
  exact zhO [27,28,29,30,31] U H
 refine Om U ?_
 apply zpL (t:=39)
 case h0=>
  intro H
  refine Oz U U (Oz U U (Oz U U (Oz U U (Oz U U (Ot U ?_)))))
  exact zhO [34,35,36,37,38] U H
 case h1=>
  intro hc H
  refine Oy U U (ze zbm U) (Oy U U (ze zd7 U) (Oy U U (zj zfh U (f3 hr)) (Oy U U (z5 zc1 U) (Oy U U (ym U U) (Of U ?_)))))
  exact zhO [34,35,36,37,38] U H
 refine Om U ?_
 apply zpL (t:=46)
 case h0=>
  intro H
  refine Oz U U (Oz U U (Oz U U (Oz U U (Oz U U (Ot U ?_)))))
  exact zhO [41,42,43,44,45] U H
 case h1=>
  intro hc H
  refine Oy U U (ze zbm U) (Oy U U (ze zdY U) (Oy U U (zj zhP U (f4 hr)) (Oy U U (z5 zcZ U) (Oy U U (ym U U) (Of U ?_)))))
  exact zhO [41,42,43,44,45] U H
 refine E2 1 46 U ?_
 refine zH U (fun hT=>?_) (fun hF=>?_)
 ·refine Sr (Oa U (E1 2 U (zh ?_)))
  repeat first|refine tr ?_|refine br ?_
  refine zx U U ?_
  refine⟨?_,c1⟩
  have:ztE x=false:=by
   simp only[Bool.or_eq_true,decide_eq_true_eq]at hT
   refine df fun h=>?_
   omega
  simp[zit,this]
 refine zk ?_
 have hFE:ztE x=true:=by
  simp only[Bool.or_eq_false_iff,decide_eq_false_iff_not]at hF
  exact dt (by omega)
 refine yt (fun F wx=>prune [0] F=[]∧zl [] w1 wx∧∀i,i<12→zma x i=false) ?_ ?_
 ·refine Sr (Oa U (E2 1 3 U (zu ?_)))
  refine zX [1,3] (fun m F wx=>∃j:Nat,m=12-j∧j≤12∧F=[(1,Pt b1),(3,Ii j)]∧zl [] w1 wx∧∀i,i<j→zma x i=false) (m:=12-0) ⟨0,rfl,Nat.zero_le _,rfl,zl.refl _ _,by omega⟩ ?_
  rintro k F wx⟨j,rfl,hj,rfl,hcx,hall⟩
  refine zd (zd ?_)
  by_cases hlt:j<12
  ·refine za (Om U ?_)
   refine Og (vt (zF U U) (dt (by omega))) U ?_
   refine E3 1 3 48 U (zf U (zk ?_))
   obtain⟨bo,oo,so,ho⟩:=zO.pick (i:=3) (g:=zT.b) zc2 (fun _=>rfl) hx.old j
   obtain⟨bw,ow,sw,hw⟩:=zO.pick (i:=3) (g:=zT.b) zc2 (fun _=>rfl) hx.new j
   obtain⟨bc,oc,sc,hc'⟩:=zO.pick (i:=0) (g:=Col.n) zb9 (fun _=>rfl) hx.sch.cols j
   obtain⟨bu,ou,qu,nu,du,hu⟩:=zc7.pick hx.sch.uq j
   obtain⟨bm,om,sm,hm0⟩:=zO.pick (i:=0) (g:=Prod.fst) zbw (fun _=>rfl) hx.nm j
   obtain⟨bm',om',sm',hm1⟩:=zO.pick (i:=1) (g:=Prod.snd) zbw (fun _=>rfl) hx.nm j
   have hfj:(((((decide ((j:Int)<(x.o.length:Int)) && decide ((300:Int)<(so.size:Int))) || (decide ((j:Int)<(x.w.length:Int)) && decide ((300:Int)<(sw.size:Int)))) || (decide ((j:Int)<(x.s.cols.length:Int)) && decide ((60:Int)<(sc.size:Int)))) || (decide ((j:Int)<(x.s.uq.length:Int)) && decide ((12:Int)<(nu:Int)))) || (decide ((j:Int)<(x.m.length:Int)) && decide ((120:Int)<IntKind.i64.wrap ((sm.size:Int)+(sm'.size:Int)))))=zma x j:=by
    unfold zma
    rw[zie (f:=fun y:zT=>decide (300<y.b.size)) fun h=>(let ⟨y,h1,h2⟩:=(ho h).2.1; ⟨y,h1,by rw[h2,decide_eq_decide];omega⟩),
     zie (f:=fun y:zT=>decide (300<y.b.size)) fun h=>(let ⟨y,h1,h2⟩:=(hw h).2.1; ⟨y,h1,by rw[h2,decide_eq_decide];omega⟩),
     zie (f:=fun y:Col=>decide (60<y.n.size)) fun h=>(let ⟨y,h1,h2⟩:=(hc' h).2.1; ⟨y,h1,by rw[h2,decide_eq_decide];omega⟩),
     zie (f:=fun y:List Int=>decide (12<y.length)) fun h=>(let ⟨y,h1,h2⟩:=(hu h).2.1; ⟨y,h1,by rw[h2,decide_eq_decide];omega⟩),
     zie (f:=fun y:By×By=>decide (120<IntKind.i64.wrap ((y.1.size:Int)+(y.2.size:Int)))) fun h=>(let ⟨y,h1,h2⟩:=(hm0 h).2.1;let ⟨y',h3,h4⟩:=(hm1 h).2.1; ⟨y,h1,by rw[h1]at h3;cases h3;rw[h2,h4]⟩)]
   refine zd (zu (zd ?_))
   refine zN (fun wz=>zl [] w1 wz) mix (zf9 (by kernel_rfl)) (hcx.trans (zl.drew [] _)) ?_
   refine Tm U (Td za0 U (Tr (fun wz hz=>zj zbA U (f5 hz)) U (Tp (fun _=>z5 zbn U) U (Tp (fun _=>zF U U) U (Tm U ?_)))))
   apply zmo (t:=65)
   case h0=>
    intro H
    refine Tz U U (Tz U U (Tz U U (Tz U U (Tz U U (Tz U U (Tz U U (Tz U U (Tp (fun _=>zR U U) U ?_))))))))
    exact ze4 [57,58,59,60,61,62,63,64] U H
   case h1=>
    intro hc H
    refine Tg U U (fun _=>ze za0 U) U ?_
    refine Ts U U (fun wz hz=>zj zbA U ((ho (zcE hc)).1▸f5 hz)) U ?_
    refine Tq U U U ?_
    refine Tg U U (fun _=>zm zbn yv U U _ U (zcE hc)) U ?_
    refine Tg U U (fun _=>ze zdj U) U ?_
    refine Ts U U (fun wz hz=>zj ag9 U (hz.cell (ho (zcE hc)).2.2)) U ?_
    refine Tg U U (fun _=>zax st9 U) U (Tg U U (fun _=>ym U U) U (Tp (fun _=>zW U U) U ?_))
    exact ze4 [57,58,59,60,61,62,63,64] U H
   refine Tm U ?_
   apply zty (t:=82)
   case h0=>
    intro H
    refine Tz U U (Tz U U (Tz U U (Tz U U (Tz U U (Tz U U ?_)))))
    refine yK U U U U U ?_
    refine yK U U U U U ?_
    refine yK U U U U U ?_
    refine yK U U U U U ?_
    refine yK U U U U U ?_
    refine yK U U U U U ?_
    refine yK U U U U U ?_
    refine yK U U U U U ?_
    refine Tz U U (Tp (fun _=>zW U U) U ?_)
    exact ze4 [67,68,69,70,71,72,73,74,75,76,77,78,79,80,81] U H
   case h1=>
    intro hc H
    refine Tq U U U (Tg U U (fun _=>ze zbu U) U (Ts U U (fun wz hz=>zj zbA U (f6 hz)) U (Tg U U (fun _=>z5 zbn U) U (Tg U U (fun _=>zF U U) U (Tq U U U ?_)))))
    apply zmo (t:=81)
    case h0=>
     intro H
     refine Tz U U (Tz U U (Tz U U (Tz U U (Tz U U (Tz U U (Tz U U (Tz U U (Tg U U (fun _=>zR U U) U ?_))))))))
     exact ze4 [73,74,75,76,77,78,79,80] U H
    case h1=>
     intro hc H
     refine Tg U U (fun _=>ze zbu U) U ?_
     refine Ts U U (fun wz hz=>zj zbA U ((hw (zcE hc)).1▸f6 hz)) U ?_
     refine Tq U U U ?_
     refine Tg U U (fun _=>zm zbn yv U U _ U (zcE hc)) U ?_
     refine Tg U U (fun _=>ze zdj U) U ?_
     refine Ts U U (fun wz hz=>zj ag9 U (hz.cell (hw (zcE hc)).2.2)) U ?_
     refine Tg U U (fun _=>zax st9 U) U (Tg U U (fun _=>ym U U) U (Tg U U (fun _=>zW U U) U ?_))
     exact ze4 [73,74,75,76,77,78,79,80] U H
    refine Tp (fun _=>zR U U) U ?_
    exact ze4 [67,68,69,70,71,72,73,74,75,76,77,78,79,80,81] U H
   refine Tm U ?_
   apply zty (t:=101)
   case h0=>
    intro H
    refine Tz U U (Tz U U (Tz U U (Tz U U (Tz U U (Tz U U (Tz U U ?_))))))
    refine yK U U U U U ?_
    refine yK U U U U U ?_
    refine yK U U U U U ?_
    refine yK U U U U U ?_
    refine yK U U U U U ?_
    refine yK U U U U U ?_
    refine yK U U U U U ?_
    refine yK U U U U U ?_
    refine yK U U U U U ?_
    refine Tz U U (Tp (fun _=>zW U U) U ?_)
    exact ze4 [84,85,86,87,88,89,90,91,92,93,94,95,96,97,98,99,100] U H
   case h1=>
    intro hc H
    refine Tq U U U (Tg U U (fun _=>ze zbm U) U (Tg U U (fun _=>ze yW U) U (Ts U U (fun wz hz=>zj zcr U (f2 hz)) U (Tg U U (fun _=>z5 zbF U) U (Tg U U (fun _=>zF U U) U (Tq U U U ?_))))))
    apply zmo (t:=100)
    case h0=>
     intro H
     refine Tz U U (Tz U U (Tz U U (Tz U U (Tz U U (Tz U U (Tz U U (Tz U U (Tz U U (Tg U U (fun _=>zR U U) U ?_)))))))))
     exact ze4 [91,92,93,94,95,96,97,98,99] U H
    case h1=>
     intro hc H
     refine Tg U U (fun _=>ze zbm U) U (Tg U U (fun _=>ze yW U) U ?_)
     refine Ts U U (fun wz hz=>zj zcr U ((hc' (zcE hc)).1▸f2 hz)) U ?_
     refine Tq U U U ?_
     refine Tg U U (fun _=>zm zbF zaL U U _ U (zcE hc)) U ?_
     refine Tg U U (fun _=>ze zcR U) U ?_
     refine Ts U U (fun wz hz=>zj ag9 U (hz.cell (hc' (zcE hc)).2.2)) U ?_
     refine Tg U U (fun _=>zax st9 U) U (Tg U U (fun _=>ym U U) U (Tg U U (fun _=>zW U U) U ?_))
     exact ze4 [91,92,93,94,95,96,97,98,99] U H
    refine Tp (fun _=>zR U U) U ?_
    exact ze4 [84,85,86,87,88,89,90,91,92,93,94,95,96,97,98,99,100] U H
   refine Tm U ?_
   apply zty (t:=119)
   case h0=>
    intro H
    refine Tz U U (Tz U U (Tz U U (Tz U U (Tz U U (Tz U U (Tz U U ?_))))))
    refine yK U U U U U ?_
    refine yK U U U U U ?_
    refine yK U U U U U ?_
    refine yK U U U U U ?_
    refine yK U U U U U ?_
    refine yK U U U U U ?_
    refine yK U U U U U ?_
    refine yK U U U U U ?_
    refine Tz U U (Tp (fun _=>zW U U) U ?_)
    exact ze4 [103,104,105,106,107,108,109,110,111,112,113,114,115,116,117,118] U H
   case h1=>
    intro hc H
    refine Tq U U U (Tg U U (fun _=>ze zbm U) U (Tg U U (fun _=>ze zdY U) U (Ts U U (fun wz hz=>zj zhP U (f4 hz)) U (Tg U U (fun _=>z5 zcZ U) U (Tg U U (fun _=>zF U U) U (Tq U U U ?_))))))
    apply zmo (t:=118)
    case h0=>
     intro H
     refine Tz U U (Tz U U (Tz U U (Tz U U (Tz U U (Tz U U (Tz U U (Tz U U (Tg U U (fun _=>zR U U) U ?_))))))))
     exact ze4 [110,111,112,113,114,115,116,117] U H
    case h1=>
     intro hc H
     refine Tg U U (fun _=>ze zbm U) U (Tg U U (fun _=>ze zdY U) U ?_)
     refine Ts U U (fun wz hz=>zj zhP U ((hu (zcE hc)).1▸f4 hz)) U ?_
     refine Tq U U U ?_
     refine Tg U U (fun _=>zm zcZ zmt U U _ U (zcE hc)) U ?_
     refine Ts U U (fun wz hz=>zj zfh U (hz.cell (hu (zcE hc)).2.2)) U ?_
     refine Tg U U (fun _=>z5 zc1 U) U (Tg U U (fun _=>ym U U) U (Tg U U (fun _=>zW U U) U ?_))
     exact ze4 [110,111,112,113,114,115,116,117] U H
    refine Tp (fun _=>zR U U) U ?_
    exact ze4 [103,104,105,106,107,108,109,110,111,112,113,114,115,116,117,118] U H
   refine Tm U ?_
   apply zty (t:=144)
   case h0=>
    intro H
    refine Tz U U (Tz U U (Tz U U (Tz U U (Tz U U (Tz U U ?_)))))
    refine yK U U U U U ?_
    refine yK U U U U U ?_
    refine yK U U U U U ?_
    refine yK U U U U U ?_
    refine yK U U U U U ?_
    refine yK U U U U U ?_
    refine yK U U U U U ?_
    refine yK U U U U U ?_
    refine yK U U U U U ?_
    refine yK U U U U U ?_
    refine yK U U U U U ?_
    refine yK U U U U U ?_
    refine yK U U U U U ?_
    refine yK U U U U U ?_
    refine yK U U U U U ?_
    refine yK U U U U U ?_
    refine Tz U U (Tp (fun _=>zW U U) U ?_)
    exact ze4 [121,122,123,124,125,126,127,128,129,130,131,132,133,134,135,136,137,138,139,140,141,142,143] U H
   case h1=>
    intro hc H
    refine Tq U U U (Tg U U (fun _=>ze zaC U) U (Ts U U (fun wz hz=>zj zdI U (f7 hz)) U (Tg U U (fun _=>z5 zb0 U) U (Tg U U (fun _=>zF U U) U (Tq U U U ?_)))))
    apply zmo (t:=143)
    case h0=>
     intro H
     refine Tz U U (Tz U U (Tz U U (Tz U U (Tz U U (Tz U U (Tz U U (Tz U U (Tz U U (Tz U U (Tz U U (Tz U U (Tz U U (Tz U U (Tz U U (Tz U U ?_)))))))))))))))
     refine Tg U U (fun _=>zR U U) U ?_
     exact ze4 [127,128,129,130,131,132,133,134,135,136,137,138,139,140,141,142] U H
    case h1=>
     intro hc H
     refine Tg U U (fun _=>ze zaC U) U ?_
     refine Ts U U (fun wz hz=>zj zdI U ((hm0 (zcE hc)).1▸f7 hz)) U ?_
     refine Tq U U U ?_
     refine Tg U U (fun _=>zm zb0 zdJ U U _ U (zcE hc)) U ?_
     refine Tg U U (fun _=>zP zdt sz9 U U 0 U (by decide)) U ?_
     refine Ts U U (fun wz hz=>zj ag9 U (hz.cell (hm0 (zcE hc)).2.2)) U ?_
     refine Tg U U (fun _=>zax st9 U) U (Tg U U (fun _=>ze zaC U) U ?_)
     refine Ts U U (fun wz hz=>zj zdI U ((hm1 (zcE hc)).1▸f7 hz)) U ?_
     refine Tq U U U ?_
     refine Tg U U (fun _=>zm zb0 zdJ U U _ U (zcE hc)) U ?_
     refine Tg U U (fun _=>zP zdt sz9 U U 1 U (by decide)) U ?_
     refine Ts U U (fun wz hz=>zj ag9 U (hz.cell (hm1 (zcE hc)).2.2)) U ?_
     refine Tg U U (fun _=>zax st9 U) U (Tg U U (fun _=>zs3 U U) U (Tg U U (fun _=>ym U U) U (Tg U U (fun _=>zW U U) U ?_)))
     exact ze4 [127,128,129,130,131,132,133,134,135,136,137,138,139,140,141,142] U H
    refine Tp (fun _=>zR U U) U ?_
    exact ze4 [121,122,123,124,125,126,127,128,129,130,131,132,133,134,135,136,137,138,139,140,141,142,143] U H
   refine D3 1 3 144 U ?_
   refine zH U (fun hT=>?_) (fun hF=>?_)
   ·refine Sr (Oa U (E1 2 U (zh ?_)))
    repeat first|refine tr ?_|refine br ?_
    refine zx U U ?_
    refine⟨?_,c1.trans (hcx.trans (zl.drew [] _))⟩
    rw[hfj]at hT
    have:((List.range 12).all fun j => !zma x j)=false:=by
     rw[List.all_eq_false]
     exact⟨j,List.mem_range.2 hlt,by simp[hT]⟩
    simp[zit,this]
   refine z0 (zn (za (Om U ?_)))
   refine Og (zG U U (by omega)) U ?_
   refine Oa U ?_
   refine zfx [1,3] (F':=[(1,_),(3,_)]) U ?_
   refine⟨12-(j+1),by omega,j+1,rfl,by omega,rfl,hcx.trans (zl.drew [] _),fun i hi=>?_⟩
   rcases Nat.lt_or_ge i j with h|h
   ·exact hall i h
   have:i=j:=by omega
   subst this
   rw[hfj]at hF
   exact hF
  refine za (Om U ?_)
  refine Og (vf (zF U U) (df (by omega))) U ?_
  refine E3 1 3 48 U (zb U ?_)
  refine zI ?_
  repeat first|refine te ?_|refine bo rfl ?_
  refine zt _ ?_
  exact⟨rfl,hcx,fun i hi=>hall i (by omega)⟩
 rintro F wx⟨hF,hcx,hall⟩
 refine zbT [0] hF ?_
 refine Sr (Oa U (E1 2 U (zh ?_)))
 refine zx U U ?_
 refine⟨?_,c1.trans hcx⟩
 have:((List.range 12).all fun j => !zma x j)=true:=by
  rw[List.all_eq_true]
  intro j hj
  rw[hall j (List.mem_range.1 hj)];rfl
 simp[zit,hFE,this]
def zpj(xs:List EvT)(n:Nat):Bool:=decide (xs.length≤n) && xs.all zit
theorem ztZ{xs:List EvT}{n:Nat}(h:zpj xs n=true)(hmn:∀x∈xs,zmT x):xs.length≤n∧∀x∈xs,zce x:=by
 simp only[zpj,Bool.and_eq_true,decide_eq_true_eq,List.all_eq_true]at h
 exact⟨h.1,fun x hx=>zv2 (h.2 x hx) (hmn x hx)⟩
theorem zop(ve:Va)(xs:List EvT)(n:Nat)(w:Wl)(hx:zdd w ve xs)(hn:n≤1000) :
 zL TP 8 #[ve,Ii n] w fun r w'=>r=.bool (zpj xs n)∧zl [] w w':=by
 obtain⟨pv,cv,rfl,hcv⟩:=hx.val
 refine A2 Tryz.func8 U U ?_
 refine Sr (Oa U (E2 0 1 U ?_))
 refine yt (fun F wx=>prune [0,1] F=[(0,.slice pv xs.length cv),(1,Ii n)]∧zl [] w wx∧(xs.length≤n→∀x∈xs,zit x=true)) ?_ ?_
 ·refine Sr (Oa U (E3 0 1 5 U (zu ?_)))
  refine zX [0,1,5] (fun m F wx=>∃j:Nat,m=xs.length-j∧j≤xs.length∧j≤n+1∧F=[(0,.slice pv xs.length cv),(1,Ii n),(5,Ii j)]∧zl [] w wx∧∀x∈xs.take j,zit x=true) (m:=xs.length-0) ⟨0,rfl,Nat.zero_le _,Nat.zero_le _,rfl,zl.refl _ _,by simp⟩ ?_
  rintro m F wx⟨j,rfl,hj,hjn,rfl,hcx,hall⟩
  refine zd (zd ?_)
  by_cases hlt:j<xs.length
  ·by_cases hln:j≤n
   ·refine za (Om U (Om U (On zfS U ?_)))
    refine Og (vt (zF U U) (dt (by omega))) U ?_
    refine Om U (Oj U U (Oj U U ?_))
    refine Oy U U (vt (zbt U U) (dt (by omega))) ?_
    refine Ot U (E4 0 1 5 14 U (zf U (zk ?_)))
    have hq:xs[j]? = some xs[j]:=by simp[hlt]
    have htk:=List.take_succ_eq_append_getElem hlt
    have hmem:=List.getElem_mem hlt
    generalize xs[j]=x at hq htk hmem
    obtain⟨b,off,cap,e,hve,hcell,hev⟩:=(hx.chg0 hcx).at hq
    cases hve
    refine zd (zu (zd ?_))
    cases hb:zit x with
    |false=>
     refine za (Om U (Om U ?_))
     refine Og (zm zfS yy U U _ U hlt) U ?_
     refine Og (zg zaI yy U U hcell) U ?_
     refine Oc zxw U U U (znH _ x _ hev) ?_
     rintro v21 w21⟨e21,c21⟩
     rw[hb]at e21
     subst e21
     refine Og (zE U) U (E4 0 1 5 22 U (zf U (Sr (Oa U (E1 4 U (zh ?_))))))
     repeat first|refine tr ?_|refine br ?_
     refine zx U U ?_
     refine⟨?_,hcx.trans c21⟩
     have:xs.all zit=false:=by
      rw[List.all_eq_false]
      exact⟨x,hmem,by simp[hb]⟩
     simp[zpj,this]
    |true=>
     refine za (Om U (Om U ?_))
     refine Og (zm zfS yy U U _ U hlt) U ?_
     refine Og (zg zaI yy U U hcell) U ?_
     refine Oc zxw U U U (znH _ x _ hev) ?_
     rintro v21 w21⟨e21,c21⟩
     rw[hb]at e21
     subst e21
     refine Og (zE U) U (E4 0 1 5 22 U (zb U (z0 (zn (za (Om U ?_))))))
     refine Og (zG U U (by omega)) U ?_
     refine Oa U (N3 0 1 5 U ?_)
     refine⟨xs.length-(j+1),by omega,j+1,rfl,by omega,by omega,rfl,hcx.trans c21,fun y hy=>?_⟩
     rw[htk]at hy
     rcases List.mem_append.1 hy with hy|hy
     ·exact hall y hy
     rw[List.mem_singleton]at hy
     subst hy
     exact hb
   refine za (Om U (Om U (On zfS U ?_)))
   refine Og (vt (zF U U) (dt (by omega))) U ?_
   refine Om U (Oj U U (Oj U U ?_))
   refine Oy U U (vf (zbt U U) (df (by omega))) ?_
   refine Ot U (E4 0 1 5 14 U (zb U ?_))
   refine zI ?_
   repeat first|refine te ?_|refine bo rfl ?_
   refine zt _ ?_
   exact⟨rfl,hcx,fun h=>absurd h (by omega)⟩
  refine za (Om U (Om U (On zfS U ?_)))
  refine Og (vf (zF U U) (df (by omega))) U ?_
  refine Om U (Oz U U (Oz U U (Oz U U (Of U (E4 0 1 5 14 U (zb U ?_))))))
  refine zI ?_
  repeat first|refine te ?_|refine bo rfl ?_
  refine zt _ ?_
  rw[Tl (by omega)]at hall
  exact⟨U,hcx,fun _=>hall⟩
 rintro F wx⟨hF,hcx,hall⟩
 refine zbT [0,1] hF ?_
 refine Sr (Om U (On zfS U (Om U (Og (zbt U U) U (Oa U (E1 4 U (zh ?_)))))))
 refine zx U U ?_
 refine⟨?_,hcx⟩
 congr 1
 unfold zpj
 by_cases hl:xs.length≤n
 ·rw[dt (by omega),dt hl,List.all_eq_true.2 (hall hl)];rfl
 rw[df (by omega),df hl];rfl
def zaM(m:List (By×By)):List (By×By):=m.map fun p=>(p.2,p.1)
def zab(x:EvT):EvT×Bool:=
 if x.k=1 then (⟨3,x.t,zcm,x.w,[],[]⟩,true) else if x.k=2 then (⟨2,x.t,zcm,x.w,x.o,[]⟩,true) else if x.k=3 then (⟨1,x.t,zcm,[],x.o,[]⟩,true)
 else if x.k=4 then (yq x.t,true) else if x.k=6 then (zb7 (zaM x.m),true) else (x,false)
set_option maxHeartbeats 1000000 in
theorem zr8(e:EvV)(x:EvT)(w:Wl)(hx:za7 w e x)(hl:x.m.length≤1048576) :
 zL TP 15 #[.agg (evC x e).toArray] w fun r w'=>∃e',r=.tuple #[.agg (evC (zab x).1 e').toArray,.bool (zab x).2]∧za7 w' e' (zab x).1∧zl [] w w':=by
 obtain⟨ec,eky,eu,eo,en,em⟩:=e
 obtain⟨po,co,rfl,-⟩:∃p q,eo=.slice p x.o.length q∧x.o.length≤q:=zO.val hx.old
 obtain⟨pn,cn,rfl,-⟩:∃p q,en=.slice p x.w.length q∧x.w.length≤q:=zO.val hx.new
 obtain⟨pm,cm,rfl,-⟩:∃p q,em=.slice p x.m.length q∧x.m.length≤q:=zO.val hx.nm
 have hone:=hx.one
 refine A1 Tryz.func15 U U ?_
 refine Sr ?_
 refine Ob U U ?_
 intro b1 w1 e1 n1 c1 k1
 refine Oq (zD ze2 U U ?_)
 intro b2 w2 e2 n2 c2 k2
 refine Oa U (E2 1 2 U ?_)
 have k1:zK w2 b1 39 (evC x ⟨ec,eky,eu,.slice po x.o.length co,.slice pn x.w.length cn,.slice pm x.m.length cm⟩):=k1.chg0 c2
 have hs1:=c1.size
 have hs2:=c2.size
 have hcw:=c1.trans c2
 have g0:w2.cell? ⟨b1,0,none⟩=some (Ii x.k):=k1.cell' (i:=0) rfl
 have g1:w2.cell? ⟨b1,1,none⟩=some (.string x.t):=k1.cell' (i:=1) rfl
 have g5:w2.cell? ⟨b1,5,none⟩=some (.slice po x.o.length co):=k1.cell' (i:=5) rfl
 have g6:w2.cell? ⟨b1,6,none⟩=some (.slice pn x.w.length cn):=k1.cell' (i:=6) rfl
 have g7:w2.cell? ⟨b1,7,none⟩=some (.slice pm x.m.length cm):=k1.cell' (i:=7) rfl
 have hN:∀{W:Wl},zl [] w W→za7 W ⟨ec,eky,eu,.slice po x.o.length co,.slice pn x.w.length cn,.slice pm x.m.length cm⟩ x:=fun hc=>hx.chg0 hc
 have nilN:∀{W:Wl},zcw W yD []:=zO.nil _ _ _ _
 have nilV:∀{W:Wl},yn W yD []:=zO.nil _ _ _ _
 refine yt (fun F wx=>prune [1,2] F=[(1,Pt b1),(2,Pt b2)]∧wx=w2∧zab x=(x,false)) ?_ ?_
 ·refine Sr (Od za5 U (Ol zee U g0 (E3 1 2 7 U (zu (zd ?_)))))
  by_cases h1:x.k=1
  ·refine za (Og (vt (zA U U) (dt h1)) U (Oa U (E4 1 2 7 8 U (zf U (Sr (Od yg U (Ol ag9 U g1 (Od zbu U (Ol zbA U g6 ?_)))))))))
   refine Og (zbP zkg ze2 U (qs:=[(0,_),(1,_),(3,_)]) U (css:=[_,_,_]) ⟨U,U,U,trivial⟩ (cs:=[_,_,_,_,_,_,_,_]) U) U ?_
   refine Oq (zv yy U U U U k2 (by simp) (by intro y hy;simp at hy;rcases hy with rfl|rfl|rfl|rfl|rfl<;>rfl) ?_)
   intro wB nB cB kB
   refine Oa U (E2 2 3 U (zh ?_))
   repeat first|refine tr ?_|refine br ?_
   refine zjn U zaI yy U U U (zB.of_blk0 kB) ?_
   have hcB:zl [] w wB:=hcw.own cB (by intro y hy;simp at hy;omega)
   have e1:zab x=(⟨3,x.t,zcm,x.w,[],[]⟩,true):=by unfold zab;rw[if_pos h1]
   rw[e1]
   exact⟨⟨yD,yD,yD,.slice pn x.w.length cn,yD,yD⟩,rfl,⟨zdg _,(hN hcB).new,nilV,nilN,by simp,hx.rw,by simp⟩,hcB⟩
  refine za (Og (vf (zA U U) (df h1)) U (Oa U (E4 1 2 7 8 U (zb U (zd ?_)))))
  by_cases h2:x.k=2
  ·refine za (Og (vt (zA U U) (dt h2)) U (Oa U (E4 1 2 7 15 U (zf U (Sr (Od yg U (Ol ag9 U g1 (Od zbu U (Ol zbA U g6 (Od za0 U (Ol zbA U g5 ?_)))))))))))
   refine Og (zbP zkg ze2 U (qs:=[(0,_),(1,_),(3,_),(4,_)]) U (css:=[_,_,_,_]) ⟨U,U,U,U,trivial⟩ (cs:=[_,_,_,_,_,_,_,_]) U) U ?_
   refine Oq (zv yy U U U U k2 (by simp) (by intro y hy;simp at hy;rcases hy with rfl|rfl|rfl|rfl|rfl|rfl<;>rfl) ?_)
   intro wB nB cB kB
   refine Oa U (E2 2 3 U (zh ?_))
   repeat first|refine tr ?_|refine br ?_
   refine zjn U zaI yy U U U (zB.of_blk0 kB) ?_
   have hcB:zl [] w wB:=hcw.own cB (by intro y hy;simp at hy;omega)
   have e1:zab x=(⟨2,x.t,zcm,x.w,x.o,[]⟩,true):=by unfold zab;rw[if_neg h1,if_pos h2]
   rw[e1]
   exact⟨⟨yD,yD,yD,.slice pn x.w.length cn,.slice po x.o.length co,yD⟩,rfl,⟨zdg _,(hN hcB).new,(hN hcB).old,nilN,by simp,hx.rw,hx.ro⟩,hcB⟩
  refine za (Og (vf (zA U U) (df h2)) U (Oa U (E4 1 2 7 15 U (zb U (zd ?_)))))
  by_cases h3:x.k=3
  ·refine za (Og (vt (zA U U) (dt h3)) U (Oa U (E4 1 2 7 24 U (zf U (Sr (Od yg U (Ol ag9 U g1 (Od za0 U (Ol zbA U g5 ?_)))))))))
   refine Og (zbP zkg ze2 U (qs:=[(0,_),(1,_),(4,_)]) U (css:=[_,_,_]) ⟨U,U,U,trivial⟩ (cs:=[_,_,_,_,_,_,_,_]) U) U ?_
   refine Oq (zv yy U U U U k2 (by simp) (by intro y hy;simp at hy;rcases hy with rfl|rfl|rfl|rfl|rfl<;>rfl) ?_)
   intro wB nB cB kB
   refine Oa U (E2 2 3 U (zh ?_))
   repeat first|refine tr ?_|refine br ?_
   refine zjn U zaI yy U U U (zB.of_blk0 kB) ?_
   have hcB:zl [] w wB:=hcw.own cB (by intro y hy;simp at hy;omega)
   have e1:zab x=(⟨1,x.t,zcm,[],x.o,[]⟩,true):=by unfold zab;rw[if_neg h1,if_neg h2,if_pos h3]
   rw[e1]
   exact⟨⟨yD,yD,yD,yD,.slice po x.o.length co,yD⟩,rfl,⟨zdg _,nilV,(hN hcB).old,nilN,by simp,by simp,hx.ro⟩,hcB⟩
  refine za (Og (vf (zA U U) (df h3)) U (Oa U (E4 1 2 7 24 U (zb U (zd ?_)))))
  by_cases h4:x.k=4
  ·refine za (Og (vt (zA U U) (dt h4)) U (Oa U (E4 1 2 7 31 U (zf U (Sr (Od yg U (Ol ag9 U g1 ?_)))))))
   refine Oc zs5 U U U (zgB x.t _) ?_
   rintro v35 w35⟨rfl,c35⟩
   refine Oq (zv yy U U U U (k2.chg0 c35) (by simp[evC]) (zer x.t w).one ?_)
   intro wB nB cB kB
   refine Oa U (E2 2 3 U (zh ?_))
   repeat first|refine tr ?_|refine br ?_
   refine zjn U zaI yy U U U (zB.of_blk0 kB) ?_
   have hcB:zl [] w wB:=(hcw.trans c35).own cB (by intro y hy;simp at hy;omega)
   have e1:zab x=(yq x.t,true):=by unfold zab;rw[if_neg h1,if_neg h2,if_neg h3,if_pos h4]
   rw[e1]
   exact⟨zgZ,U,zer _ _,hcB⟩
  refine za (Og (vf (zA U U) (df h4)) U (Oa U (E4 1 2 7 31 U (zb U (zd ?_)))))
  by_cases h6:x.k=6
  ·refine za (Og (vt (zA U U) (dt h6)) U (Oa U (E3 1 2 36 U (zf U (Sr (Oa U (E3 1 2 4 U ?_)))))))
   refine yt (fun F wx=>∃v,prune [2,4] F=[(2,Pt b2),(4,v)]∧zl [] w2 wx∧yh wx 78 2 pcs v (zaM x.m)) ?_ ?_
   ·refine Sr (Oa U (E4 1 2 4 5 U (zu ?_)))
    refine zX [1,2,4,5] (fun k F wx=>∃(j:Nat) (v:Va),k=x.m.length-j∧j≤x.m.length∧F=[(1,Pt b1),(2,Pt b2),(4,v),(5,Ii j)]∧zl [] w2 wx∧yh wx 78 2 pcs v (zaM (x.m.take j))∧∀b∈zq v,w2.heap.size≤b) (m:=x.m.length-0) ⟨0,_,rfl,Nat.zero_le _,rfl,zl.refl _ _,yh.nil _ _ _ _,by simp[zq]⟩ ?_
    rintro k F wx⟨j,v,rfl,hj,rfl,hcx,hv,hf⟩
    have f7:∀{wz:Wl},zl [] wx wz→wz.cell? ⟨b1,7,none⟩=some (.slice pm x.m.length cm):=fun hz=>(hcx.trans hz).cell g7
    refine zd (zd ?_)
    by_cases hlt:j<x.m.length
    ·refine za (Om U (Od zaC U ?_))
     refine Ol zdI U (f7 (zl.refl _ _)) ?_
     refine On zb0 U ?_
     refine Og (vt (zF U U) (dt (by omega))) U ?_
     refine E5 1 2 4 5 42 U (zf U (zk ?_))
     have hq:x.m[j]? = some x.m[j]:=by simp[hlt]
     have htk:=List.take_succ_eq_append_getElem hlt
     generalize x.m[j]=q at hq htk
     obtain⟨b,off,cap,hve,hcq⟩:=zO.at zbw (hN (hcw.trans hcx)).nm hq
     cases hve
     have q0:wx.cell? ⟨b,off+j*2,none⟩=some (.string q.1):=hcq 0 _ rfl
     have q1:wx.cell? ⟨b,off+j*2+1,none⟩=some (.string q.2):=hcq 1 _ rfl
     have hd:zl [] wx wx.drew:=zl.drew [] wx
     have hsx:=hcx.size
     have hdr:wx.drew.heap.size=wx.heap.size:=rfl
     have hll:(zaM (x.m.take j)).length=j:=by simp[zaM];omega
     refine zd (zu ?_)
     refine zN (fun wz=>zl [] wx wz) mix (by kernel_rfl) hd ?_
     refine Tm U (Td zaC U (Tr (fun wz hz=>zj zdI U (f7 hz)) U (Tm U ?_)))
     refine Tp (fun _=>zm zb0 zdJ U U _ U hlt) U ?_
     refine Tp (fun _=>zP zdt sz9 U U 1 U (by decide)) U ?_
     refine Tr (fun wz hz=>zj ag9 U (hz.cell q1)) U (Td zaC U (Tr (fun wz hz=>zj zdI U (f7 hz)) U (Tm U ?_)))
     refine Tp (fun _=>zm zb0 zdJ U U _ U hlt) U ?_
     refine Tp (fun _=>zP zdt sz9 U U 0 U (by decide)) U ?_
     refine Tr (fun wz hz=>zj ag9 U (hz.cell q0)) U ?_
     refine Tp (fun _=>zcN zdt sz9 zlr U (vs:=[_,_]) U (css:=[_,_]) ⟨U,U,trivial⟩ U U (cs:=[_,_]) U) U ?_
     refine za4 U (gn U) (zz zsA U (vs:=[_]) U (css:=[_]) ⟨U,trivial⟩ U U (cs:=[_,_]) U U ?_)
     intro b59 w59 e59 n59 c59 k59
     refine⟨.inl (hd.trans c59),?_⟩
     refine za4 U (gn U) (yE zsA zb0 U U (zw.chg0 hv (hd.trans c59)) (zw.of_blk (n:=1) k59 U (by simp[maxLen]) (by intro y hy;simp at hy;rcases hy with rfl|rfl<;>rfl)) (by simp only[maxLen];omega) (by omega) U ?_)
     intro v60 w60 i60 c60 o60 z60
     have z59:=c59.size
     have H60:zl [] w2 w60:=((hcx.trans hd).trans c59).own c60 hf
     refine⟨.inr (by kernel_rfl),?_⟩
     refine Ta U ?_
     refine zdX [1,2,4,5] (F':=[(1,_),(2,_),(4,_),(5,_)]) U ?_
     refine zn (za (Om U ?_))
     refine Og (zG U U (by omega)) U ?_
     refine Oa U (N4 1 2 4 5 U ?_)
     refine⟨x.m.length-(j+1),by omega,j+1,v60,rfl,by omega,rfl,H60,?_,zaH o60 hf (by omega)⟩
     rw[htk,show zaM (x.m.take j++[q])=zaM (x.m.take j)++[(q.2,q.1)] by simp[zaM]]
     exact zO.push i60 U U
    refine za (Om U (Od zaC U ?_))
    refine Ol zdI U (f7 (zl.refl _ _)) ?_
    refine On zb0 U ?_
    refine Og (vf (zF U U) (df (by omega))) U ?_
    refine E5 1 2 4 5 42 U (zb U ?_)
    refine zI ?_
    repeat first|refine te ?_|refine bo rfl ?_
    refine zt _ ?_
    rw[Tl (by omega)]at hv
    exact⟨v,U,hcx,hv⟩
   rintro F wx⟨v,hF,hcx,hv⟩
   refine zbT [2,4] hF ?_
   refine Sr (Om U ?_)
   refine Oc zwv U U U (zga v _ _ hv.arr) ?_
   rintro v62 w62⟨rfl,h62,c62⟩
   refine Oq (zv yy U U U U ((k2.chg0 hcx).chg0 c62) (by simp[evC]) h62.one ?_)
   intro wB nB cB kB
   refine Oa U (E2 2 3 U (zh ?_))
   repeat first|refine tr ?_|refine br ?_
   refine zjn U zaI yy U U U (zB.of_blk0 kB) ?_
   have hcB:zl [] w wB:=((hcw.trans hcx).trans c62).own cB (by intro y hy;simp at hy;omega)
   have e1:zab x=(zb7 (zaM x.m),true):=by unfold zab;rw[if_neg h1,if_neg h2,if_neg h3,if_neg h4,if_pos h6]
   rw[e1]
   exact⟨_,U,⟨zdg _,nilV,nilV,((hv.chg0 c62).chg cB (zw.apart (hv.chg0 c62) ((k2.chg0 hcx).chg0 c62) U)).arr,h62.kr,h62.ro,h62.rw⟩,hcB⟩
  refine za (Og (vf (zA U U) (df h6)) U (Oa U (E3 1 2 36 U (zb U (z0 (zn ?_))))))
  exact⟨rfl,rfl,by unfold zab;rw[if_neg h1,if_neg h2,if_neg h3,if_neg h4,if_neg h6]⟩
 rintro F wx⟨hF,rfl,hb⟩
 refine zbT [1,2] hF ?_
 refine Sr (Og (zg zaI yy U U (zB.of_blk0 k1)) U ?_)
 refine Oq (zv yy U U U U k2 (by simp[evC]) hone ?_)
 intro wB nB cB kB
 refine Oa U (E2 2 3 U (zh ?_))
 refine zjn U zaI yy U U U (zB.of_blk0 kB) ?_
 have hcB:zl [] w wB:=hcw.own cB (by intro y hy;simp at hy;omega)
 rw[hb]
 exact⟨_,U,hN hcB,hcB⟩
def mk(Ds:List Nat):Fr:=Ds.map fun D:Nat=>(1000000,Ii (D:Int))
def KS(w0 w:Wl)(l:List (Nat×Cat)):Prop:=∃T:List (Nat×List Nat×Cat),T.map (fun x=>(x.1,x.2.2))=l∧EOk w∧zl [] w0 w∧(∀x∈T,zaj w x.1 x.2.1 x.2.2∧∀b∈x.2.1,w0.heap.size≤b)∧T.Pairwise fun a b=>∀y∈a.2.1,y∉b.2.1
def Tn(w w':Wl):Prop:=∃S,zl S w w'∧Hm w S∧∀b∈S,∀cs,¬ zK w b 48 cs
section
variable {w0 w w':Wl} {l:List (Nat×Cat)} {p q:Nat} {c d:Cat} {e:EvV} {x:EvT} {v:Va} {own:List Nat}
theorem zaj.notR(h:zaj w p own c):∀b∈own,∀cs,¬ zK w b 48 cs:=by
 obtain⟨m,L,rfl,h⟩:=h
 intro b hb cs hk
 rcases List.mem_cons.1 hb with rfl|hb
 ·have:=(show w.heap[b]? = _ from h.blk).symm.trans (show w.heap[b]? = _ from hk)
  cases this
 rcases List.mem_cons.1 hb with rfl|hb
 ·obtain⟨a,cc,h1,_⟩:=h.map
  have:=h1.symm.trans (show w.heap[b]? = _ from hk)
  cases this
 obtain⟨p',n,c',h1⟩:=h.l.pagesO b hb
 have:=(show w.heap[b]? = _ from h1).symm.trans (show w.heap[b]? = _ from hk)
 cases this
theorem zaj.tn(h:zaj w p own c)(hc:zl own w w'):Tn w w':=⟨own,hc,h.hmO,h.notR⟩
theorem KS.eo(h:KS w0 w l):EOk w:=let ⟨_,_,h1,_⟩:=h;h1
theorem KS.ch(h:KS w0 w l):zl [] w0 w:=let ⟨_,_,_,h1,_⟩:=h;h1
theorem KS.cat(h:KS w0 w ((p,c)::l)):∃own,zaj w p own c:=by
 obtain⟨T,hT,_,_,h1,_⟩:=h
 cases T with
 |nil=>cases hT
 |cons x T=>
  simp only[List.map_cons,List.cons.injEq,Prod.mk.injEq]at hT
  obtain⟨⟨rfl,rfl⟩,-⟩:=hT
  exact⟨_,(h1 x (by simp)).1⟩
theorem KS.nn(h:KS w0 w ((p,c)::l)):Lw.n≤w.heap.size:=by
 obtain⟨own,m,L,rfl,h1⟩:=h.cat
 exact h1.nn
theorem KS.ok(h:KS w0 w ((p,c)::l)):zaJ c:=let ⟨_,h1⟩:=h.cat;h1.ok
theorem KS.chg0(h:KS w0 w l)(hc:zl [] w w'):KS w0 w' l:=by
 obtain⟨T,hT,hE,hw,h1,h2⟩:=h
 exact⟨T,hT,hE.hm (Hm.nil w) hc,hw.trans hc,fun x hx=>⟨(h1 x hx).1.chg0 hc,(h1 x hx).2⟩,h2⟩
theorem KS.tail{a:Nat×Cat}(h:KS w0 w (a::l)):KS w0 w l:=by
 obtain⟨T,hT,hE,hw,h1,h2⟩:=h
 cases T with
 |nil=>cases hT
 |cons x T=>
  simp only[List.map_cons,List.cons.injEq]at hT
  exact⟨T,hT.2,hE,hw,fun y hy=>h1 y (by simp[hy]),(List.pairwise_cons.1 h2).2⟩
theorem KS.swap{a b:Nat×Cat}(h:KS w0 w (a::b::l)):KS w0 w (b::a::l):=by
 obtain⟨T,hT,hE,hw,h1,h2⟩:=h
 match T,hT with
 |x::y::T,hT=>
  simp only[List.map_cons,List.cons.injEq]at hT
  obtain⟨e1,e2,e3⟩:=hT
  refine⟨y::x::T,by simp[e1,e2,e3],hE,hw,fun z hz=>h1 z (by simp only[List.mem_cons]at hz ⊢;rcases hz with h|h|h<;>simp[h]),?_⟩
  have hp:=List.pairwise_cons.1 h2
  have hp2:=List.pairwise_cons.1 hp.2
  refine List.pairwise_cons.2 ⟨fun z hz=>?_,List.pairwise_cons.2 ⟨fun z hz=>hp.1 z (by simp[hz]),hp2.2⟩⟩
  rcases List.mem_cons.1 hz with rfl|hz
  ·exact fun u hu hm=>hp.1 y (by simp) u hm hu
  exact hp2.1 z hz
theorem KS.drop2{a b:Nat×Cat}(h:KS w0 w (a::b::l)):KS w0 w (a::l):=h.swap.tail
theorem KS.open(h:KS w0 w ((p,c)::l)):∃own,EOk w∧zaj w p own c∧∀w' d own',zl own w w'→zaj w' p own' d→(∀b∈own',b∈own∨w.heap.size≤b)→KS w0 w' ((p,d)::l)∧Tn w w':=by
 obtain⟨T,hT,hE,hw,h1,h2⟩:=h
 cases T with
 |nil=>cases hT
 |cons x T=>
  simp only[List.map_cons,List.cons.injEq,Prod.mk.injEq]at hT
  obtain⟨⟨rfl,rfl⟩,rfl⟩:=hT
  obtain⟨hC,hf⟩:=h1 x (by simp)
  have hp:=List.pairwise_cons.1 h2
  have hsz:=hw.size
  refine⟨_,hE,hC,fun w' d own' hc hC' ho=>⟨⟨(x.1,own',d)::T,U,hE.hm hC.hmO hc,hw.own hc hf,fun y hy=>?_,List.pairwise_cons.2 ⟨fun y hy u hu hm=>?_,hp.2⟩⟩,hC.tn hc⟩⟩
  ·rcases List.mem_cons.1 hy with rfl|hy
   ·refine⟨hC',fun b hb=>?_⟩
    rcases ho b hb with h|h
    ·exact hf b h
    omega
   obtain⟨g1,g2⟩:=h1 y (by simp[hy])
   exact⟨g1.other (fun b hb hm=>hp.1 y hy b hm hb) hC.hmO hc,g2⟩
  obtain⟨g1,g2⟩:=h1 y (by simp[hy])
  rcases ho u hu with h|h
  ·exact hp.1 y hy u h hm
  have:=g1.hmO.lt u hm
  omega
theorem KS.push{own':List Nat}(h:KS w0 w l)(hc:zl [] w w')(hC:zaj w' p own' c)(hf:∀b∈own',w.heap.size≤b):KS w0 w' ((p,c)::l):=by
 obtain⟨T,rfl,hE,hw,h1,h2⟩:=h
 have hs:=hw.size
 refine⟨(p,own',c)::T,U,hE.hm (Hm.nil w) hc,hw.trans hc,fun y hy=>?_,List.pairwise_cons.2 ⟨fun y hy u hu hm=>?_,h2⟩⟩
 ·rcases List.mem_cons.1 hy with rfl|hy
  ·exact⟨hC,fun b hb=>Nat.le_trans hs (hf b hb)⟩
  exact⟨(h1 y hy).1.chg0 hc,(h1 y hy).2⟩
 have:=(h1 y hy).1.hmO.lt u hm
 have:=hf u hu
 omega
theorem zuW(hE:EOk w)(hN:Lw.n≤w.heap.size):zL TP 10 #[] w fun r w'=>∃p,r=Pt p∧KS w w' [(p,[])]∧zl [] w w':=by
 refine zL.mono (znl w hN) ?_
 rintro r w'⟨p,m,rfl,h,h1,h2,hc⟩
 refine⟨p,rfl,KS.push (l:=[]) (w:=w) (own':=[p,m]) ⟨[],rfl,hE,zl.refl _ _,by simp,List.Pairwise.nil⟩ hc ⟨m,[],rfl,h⟩ (by intro b hb;simp at hb;rcases hb with rfl|rfl<;>assumption),hc⟩
theorem zji(h:KS w0 w ((p,c)::l))(hx:za7 w e x)(hm:zce x):zL TP 13 #[Pt p,.agg (evC x e).toArray] w fun r w'=>r=Ii (doE c x)∧KS w0 w' ((p,doC c x)::l)∧Tn w w':=by
 obtain⟨own,hE,hC,hst⟩:=h.open
 refine zL.mono (zpV hE hC hx hm) ?_
 rintro r w'⟨rfl,hc,own',hC',ho⟩
 exact⟨U,hst _ _ _ hc hC' ho⟩
theorem zu9{xs:List EvT}(h:KS w0 w ((p,c)::l))(hx:zdd w v xs)(hm:∀x∈xs,zce x)(hn:xs.length≤1048576):zL TP 16 #[Pt p,v] w fun r w'=>r=.tuple #[Ii (zek c xs 0).1,Ii (zek c xs 0).2]∧KS w0 w' ((p,zkv c xs)::l)∧Tn w w':=by
 obtain⟨own,hE,hC,hst⟩:=h.open
 refine zL.mono (zv0 hE hC hx hm hn) ?_
 rintro r w'⟨rfl,hc,own',hC',ho⟩
 refine⟨U,hst _ _ _ (hc.weak ?_) hC' ho⟩
 obtain⟨m,L,rfl,_⟩:=hC
 simp
theorem zqx(h:KS w0 w ((p,c)::l)):zL TP 11 #[Pt p] w fun r w'=>∃p',r=Pt p'∧KS w0 w' ((p',c)::(p,c)::l)∧zl [] w w':=by
 obtain⟨own,hC⟩:=h.cat
 refine zL.mono (zoz hC) ?_
 rintro r w'⟨p',own',rfl,hC',ho,hc⟩
 exact⟨p',U,h.push hc hC' ho,hc⟩
theorem zni(h:KS w0 w ((p,c)::(q,d)::l)):zL TP 14 #[Pt p,Pt q] w fun r w'=>r=.bool (decide (c=d))∧zl [] w w':=by
 obtain⟨own,hC⟩:=h.cat
 obtain⟨own2,hD⟩:=h.tail.cat
 exact zt4 hC hD
theorem zsH{n:By}(h:KS w0 w ((p,c)::l)):zL TP 19 #[Pt p,.string n] w fun r w'=>∃u,r=.tuple #[u,.bool (atC c n).isSome]∧(match atC c n with|none=>u=.pointer none|some t=>∃q ow,u=Pt q∧yw w' q ow t.s t.r∧∀b∈ow,w.heap.size≤b)∧zl [] w w':=by
 obtain⟨own,hC⟩:=h.cat
 cases ha:atC c n with
 |none=>
  refine zL.mono (zpp hC ha) ?_
  rintro r w'⟨rfl,hc⟩
  exact⟨_,U,U,hc⟩
 |some t=>
  refine zL.mono (zo4 hC ha) ?_
  rintro r w'⟨q,ow,rfl,hT,ho,hc⟩
  exact⟨_,U,⟨q,ow,U,hT,ho⟩,hc⟩
end
end Go.Wk
