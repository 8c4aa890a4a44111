/- joined texts -/
import Derived.Test.YtkfpmjjcogigfaaGreatDoorF7
set_option linter.all false
namespace Go.Wk
open Go.Proofs
set_option linter.unusedSectionVars false
variable [Lw]
set_option maxRecDepth 10000
theorem zx3(v:Va)(n:Int)(bt:Nat)(old:Va)(w:Wl)(hE:EOk w)(hv:zbH w v n)(ht:zO w bt 28 [old]) :
 zT TP 62 #[v,.iface 140 (Pt bt)] w fun r w'=>r=.bool true∧zO w' bt 28 [Ii n]∧zk [bt] w w':=by
 refine A2 Tryz.func62 U U ?_
 have hbt:=ht.lt
 refine Sr (Oa U (E2 0 1 U (zf (zf ?_))))
 obtain⟨x,hx⟩:∃x,zhh v=some x∧x=false:=⟨_,hv.notNil,rfl⟩
 refine za (Om U (Og (zbV zcu U hv.notNil) U (E3 0 1 9 U (zb U (zm (zf (Sr (Om U (Og (zbV zAo U U) U (E3 0 1 11 U (zb U (zm (zf ?_)))))))))))))
 have hn1:=zO.new w 140 [Pt bt]
 have hc1:=zk.alloc [] w (.cells #[Pt bt] 140)
 generalize hw1:w.alloc (.cells #[Pt bt] 140)=w1 at hc1
 have hv1:=zxO ⟨bt,0,none⟩ w
 rw[hw1]at hv1
 have hn1:zO w1 w.heap.size 140 [Pt bt]:=hw1▸hn1
 refine za (Om U ?_)
 refine Oq (zc1 (P:=TP) (n:=Tryz.f62.ntmps) zw9 U U hv1 U ?_)
 skip
 refine Oq (zF zBR U U ?_)
 intro b5 w5 e5 n5 c5 k5
 refine Oq (zt zmV U U U U k5 (by simp) (by intro u hu;simp at hu;rcases hu with rfl|rfl|rfl<;>rfl) ?_)
 intro wA nA cA kA
 refine E3 0 1 5 U ?_
 have kA:zO wA b5 189 [hnd 140,.pointer (some ⟨w.heap.size,0,none⟩),.int .u64 150]:=kA
 have hsz:=hc1.size
 have hcA:zk [] w wA:=(hc1.trans c5).own cA (by intro y hy;simp at hy;omega)
 have hnA:=(hn1.chg0 c5).chg cA (by simp;have:=hn1.lt;omega)
 have hEA:=hE.chg0 hcA
 have htA:=ht.chg0 hcA
 refine Sr (Og (zh zpM zmV U U (zx.of_blk0 kA)) U ?_)
 refine Oq (zc1 (P:=TP) (n:=Tryz.f62.ntmps) zCm U U (zyY ⟨w.heap.size,0,none⟩ wA) U ?_)
 skip
 refine Oa U (E4 0 1 5 6 U (zf (Sr (Om U ?_))))
 refine Oq (zbU (zsp _) zwJ U U (zuz _) U ?_)
 skip
 refine Og (vf (zJ U U) (zcz (by omega))) U ?_
 refine Om U (Oy U U (zh zpM zmV U U (zx.of_blk0 kA)) ?_)
 refine zgc (gy U U U) (zc1 (P:=TP) (n:=Tryz.f62.ntmps) zBj U U (zvU ⟨w.heap.size,0,none⟩ ⟨bt,0,none⟩ wA (hnA.cell' U)) U ?_)
 skip
 refine Of U (E5 0 1 5 6 23 U (zb U (zm (Sr (Om U ?_)))))
 refine Oq (zbU (zyw _) zCr U U (zuM _) U ?_)
 skip
 refine Oa U (E4 0 1 5 7 U (zf (Sr (Om U ?_))))
 refine Oq (zbU (zsp _) zwJ U U (zvS _) U ?_)
 skip
 refine Og (vt (zJ U U) (zfC (by omega))) U ?_
 refine Om U (Oj U U (Oy U U (zg zz9 U hEA) ?_))
 refine zgc (gy U U U) (zbU (zx4 _) zCy U U (zy3 _) U ?_)
 skip
 refine Oy U U (zC U) (Ot U (E5 0 1 5 7 35 U (zb U (zm (Sr (Om U (Om U (Og (zh zpM zmV U U (zx.of_blk0 kA)) U (Om U ?_)))))))))
 refine Oc zBp U U U (zDh v n bt old ⟨w.heap.size,0,none⟩ wA (hv.chg0 hcA) htA (hnA.cell' U) (by simp;omega)) ?_
 rintro v41 w41⟨rfl,hb,hc⟩
 refine Oa U (E1 4 U (zj ?_))
 refine zw U U ?_
 exact⟨U,hb,(hcA.any (S:=[bt])).transS hc⟩
theorem zCn(t:Va)(w:Wl):zT TP 62 #[.nilIface,t] w fun r w'=>r=.bool false∧w'=w:=by
 refine A2 Tryz.func62 U U ?_
 refine Sr (Oa U (E2 0 1 U (zf (Sr (Om U (Og (zbV zcu U U) U (E3 0 1 9 U (ze U (Sr (Oa U (E1 4 U (zj ?_))))))))))))
 repeat first|refine tr ?_|refine br ?_
 refine zw U U ?_
 exact⟨U,U⟩
theorem zw2:(Tryz.prog.info? 28).map (·.comparable)=some true:=by kernel_rfl
theorem zC4(v:Va)(n k:Int)(w:Wl)(hv:zbH w v n):zT TP 222 #[v,zc9 k,.bool true] w fun r w'=>r=.bool (decide (n=k))∧zk [] w w':=by
 refine A3 Tryz.func222 U U ?_
 refine Sr (Oa U (E3 0 1 2 U (zp ?_)))
 refine zR [0,1,2] (fun m F wx=>∃u:Va,(zbH wx u n∧(m=0→u=zc9 n))∧F=[(0,u),(1,zc9 k),(2,.bool true)]∧zk [] w wx) (m:=1) ⟨v,⟨hv,fun h=>by omega⟩,rfl,zk.refl _ _⟩ ?_
 rintro m F wx⟨u,⟨hu,hm⟩,rfl,hcx⟩
 refine zp (zf (zf ?_))
 rcases hu with rfl|hu
 ·by_cases hnk:n=k
  ·refine za (Om U (Om U (Oj U U (Oj U U ?_))))
   refine Oy U U (yr (v':=.bool true) (znP zcu zw2 znA U U) (by rw[dt hnk])) ?_
   refine Ot U (E4 0 1 2 19 U (ze U (Sr (Oa U (E1 6 U (zj ?_))))))
   repeat first|refine tr ?_|refine br ?_
   refine zw U U ?_
   exact⟨by rw[dt hnk],hcx⟩
  refine za (Om U (Om U (Oj U U (Oj U U ?_))))
  refine Oy U U (yr (v':=.bool false) (znP zcu zw2 znA U U) (by rw[df hnk])) ?_
  refine Ot U (E4 0 1 2 19 U (zb U (zm (zf (Sr (Om U (Og (zb1 zoO zp6 U) U (Om U (Oe U U (Oe U U (Oa U (Oa U (E5 0 1 2 7 8 U (zf ?_))))))))))))))
  refine za (Om U (Om U (Oz U U (Oz U U (Oz U U (Of U (E4 0 1 2 30 U (zb U (zm (Sr (Om U (E3 1 2 31 U (zp (zf ?_))))))))))))))
  refine za (Og (zb1 zob zjW U) U (Oe U U (Oe U U (E5 1 2 31 33 34 U (zb U (Sr (Og (zb1 zoI zB1 U) U (Oe U U (Oe U U (E5 1 2 31 40 41 U (zb U (Sr (Oa U ?_)))))))))))))
  refine yB [] (F':=[]) U (Sr (Oa U (E1 6 U (zj ?_))))
  repeat first|refine tr ?_|refine br ?_
  refine zw U U ?_
  exact⟨by rw[df hnk],hcx⟩
 have hm1:m≠0:=fun h=>by
  have:=hm h
  subst this
  rcases hu with⟨b,c,h,_⟩|⟨k,h⟩|⟨k,h⟩<;>cases h
 rcases hu with⟨b,c,rfl,hb⟩|⟨kk,rfl⟩|⟨kk,rfl⟩
 ·refine za (Om U (Om U (Oj U U (Oj U U (Oy U U (zlH zcu U U U) (Ot U (E4 0 1 2 19 U (zb U (zm (zf (Sr (Om U (Og (zb1 zmJ zp6 U) U (Om U ?_))))))))))))))
  refine Oe U U (Oe U U (Oa U (Oa U (E5 0 1 2 7 8 U (Sr (Om U (Om U (Oz U U (Oz U U (Oz U U (Of U (E4 0 1 2 30 U (zb U (zm ?_))))))))))))))
  refine Sr (Om U (E3 1 2 31 U (zp (Sr (Og (zb1 ziA zjW U) U (Oe U U (Oe U U (E5 1 2 31 33 34 U (ze U (Sr (Oa U (E3 1 2 9 U ?_))))))))))))
  refine Sr (Om U ?_)
  refine Oq (zeb (zs1 _) zw1 U U U (zsF b c n _ hb) ?_)
  rintro v36 w36⟨rfl,rfl⟩
  refine Oa U (E3 0 1 2 U (Sr (Om U (Og (zbV zcu U U) U (E4 0 1 2 38 U (zb U (zU (zl (zl ?_)))))))))
  exact⟨0,by omega,_,⟨.inl U,fun _=>rfl⟩,rfl,hcx⟩
 ·refine za (Om U (Om U (Oj U U (Oj U U (Oy U U (zlH zcu U U U) (Ot U (E4 0 1 2 19 U (zb U (zm (zf (Sr (Om U (Og (zb1 zmA zp6 U) U (Om U ?_))))))))))))))
  refine Oe U U (Oe U U (Oa U (Oa U (E5 0 1 2 7 8 U (Sr (Om U (Om U (Oz U U (Oz U U (Oz U U (Of U (E4 0 1 2 30 U (zb U (zm ?_))))))))))))))
  refine Sr (Om U (E3 1 2 31 U (zp (Sr (Og (zb1 ziH zjW U) U (Oe U U (Oe U U (E5 1 2 31 33 34 U (ze U (Sr (Oa U (E3 1 2 9 U ?_))))))))))))
  refine Sr (Om U ?_)
  refine Oq (zeb (ztR _) zxk U U U (zsc kk n _) ?_)
  rintro v36 w36⟨rfl,c36⟩
  refine Oa U (E3 0 1 2 U (Sr (Om U (Og (zbV zcu U U) U (E4 0 1 2 38 U (zb U (zU (zl (zl ?_)))))))))
  exact⟨0,by omega,_,⟨.inl U,fun _=>rfl⟩,rfl,hcx.trans c36⟩
 refine za (Om U (Om U (Oj U U (Oj U U (Oy U U (zlH zcu U U U) (Ot U (E4 0 1 2 19 U (zb U (zm (zf (Sr (Om U (Og (zb1 znW zp6 U) U (Om U ?_))))))))))))))
 refine Oe U U (Oe U U (Oa U (Oa U (E5 0 1 2 7 8 U (Sr (Om U (Om U (Oz U U (Oz U U (Oz U U (Of U (E4 0 1 2 30 U (zb U (zm ?_))))))))))))))
 refine Sr (Om U (E3 1 2 31 U (zp (Sr (Og (zb1 ziN zjW U) U (Oe U U (Oe U U (E5 1 2 31 33 34 U (ze U (Sr (Oa U (E3 1 2 9 U ?_))))))))))))
 refine Sr (Om U ?_)
 refine Oq (zeb (ztd _) zxg U U U (zt2 kk n _) ?_)
 rintro v36 w36⟨rfl,c36⟩
 refine Oa U (E3 0 1 2 U (Sr (Om U (Og (zbV zcu U U) U (E4 0 1 2 38 U (zb U (zU (zl (zl ?_)))))))))
 exact⟨0,by omega,_,⟨.inl U,fun _=>rfl⟩,rfl,hcx.trans c36⟩
theorem zBv(v:Va)(n k:Int)(w:Wl)(hv:zbH w v n):zT TP 174 #[v,zc9 k] w fun r w'=>r=.bool (decide (n=k))∧zk [] w w':=by
 refine A2 Tryz.func174 U U ?_
 refine Sr (Oa U (E2 0 1 U (zf (zf ?_))))
 have hb:zn TP 222=true:=zwO
 refine za (Om U (Og (zbV zcu U hv.notNil) U (Om U (Oj U U (Oy U U (zbV zcu U U) (Of U (E3 0 1 11 U (zb U (zm (Sr (Om U ?_)))))))))))
 refine Oq (zc1 (P:=TP) (n:=Tryz.f174.ntmps) zmY U U (zmW _ _) U ?_)
 skip
 refine Oq (zbU (zAf _) zA4 U U (zzB _) U ?_)
 skip
 refine Oa U (E3 0 1 5 U (Sr (Om U (Om U (Om U ?_)))))
 refine Oc zwO U U U (zC4 v n k _ hv) ?_
 rintro v21 w21⟨rfl,c21⟩
 refine Oa U (E1 4 U (zj ?_))
 refine zw U U ?_
 exact⟨U,c21⟩
theorem zsU(v:Va)(n:Int)(w:Wl)(hE:EOk w)(hv:v=.nilIface∧n=0∨zbH w v n):zT TP 191 #[v] w fun r w'=>r=Ii n∧zk [] w w':=by
 refine A1 Tryz.func191 U U ?_
 refine Sr ?_
 refine Oq (zF zvD U U ?_)
 intro b2 w2 e2 n2 c2 k2
 refine E2 0 2 U (zf (zf ?_))
 rcases hv with⟨rfl,rfl⟩|hv
 ·refine za (Om U (Og (z6 zpB U) U ?_))
  refine Oc zva U U U (zCn _ _) ?_
  rintro v5 w5⟨rfl,rfl⟩
  refine Og (zC U) U (E2 2 6 U (ze U (Sr ?_)))
  refine Oq (zt zoV U U U U k2 (by simp) (by intro u hu;simp at hu;subst hu;rfl) ?_)
  intro wA nA cA kA
  refine E1 2 U (zj ?_)
  repeat first|refine tr ?_|refine br ?_
  refine zk6 U zks U (kA.cell' U) ?_
  exact⟨rfl,c2.own cA (by intro y hy;simp at hy;omega)⟩
 refine za (Om U (Og (z6 zpB U) U ?_))
 refine Oc zva U U U (zx3 v n b2 _ _ (hE.chg0 c2) (hv.chg0 c2) k2) ?_
 rintro v5 w5⟨rfl,k5,c5⟩
 refine Og (zC U) U (E2 2 6 U (zb U (zm (Sr (Ol zks U (k5.cell' U) ?_)))))
 refine Oq (zt zoV U U U U k5 (by simp) (by intro u hu;simp at hu;subst hu;rfl) ?_)
 intro wA nA cA kA
 refine E1 2 U (zj ?_)
 repeat first|refine tr ?_|refine br ?_
 refine zk6 U zks U (kA.cell' U) ?_
 exact⟨rfl,(c2.own c5 (by intro y hy;simp at hy;omega)).own cA (by intro y hy;simp at hy;omega)⟩
theorem zke(v:Va)(n:Int)(w:Wl)(hE:EOk w)(hv:v=.nilIface∧n=0∨zbH w v n):zT TP 53 #[v] w fun r w'=>r=Ii n∧zk [] w w':=by
 refine A1 Tryz.func53 U U ?_
 refine Sr ?_
 refine Oq (zF zvD U U ?_)
 intro b2 w2 e2 n2 c2 k2
 refine E2 0 2 U (zf (zf ?_))
 rcases hv with⟨rfl,rfl⟩|hv
 ·refine za (Om U (Og (zbV zcu U U) U (Om U (Oz U U (Oz U U (Oz U U (Oz U U (Ot U (E2 2 10 U (ze U (Sr ?_)))))))))))
  refine Oq (zt zoV U U U U k2 (by simp) (by intro u hu;simp at hu;subst hu;rfl) ?_)
  intro wA nA cA kA
  refine E1 2 U (zj ?_)
  repeat first|refine tr ?_|refine br ?_
  refine zk6 U zks U (kA.cell' U) ?_
  exact⟨rfl,c2.own cA (by intro y hy;simp at hy;omega)⟩
 refine za (Om U (Og (zbV zcu U hv.notNil) U (Om U (Oj U U (Oy U U (z6 zpB U) ?_)))))
 refine Ow U U zva U U U (zx3 v n b2 _ _ (hE.chg0 c2) (hv.chg0 c2) k2) ?_
 rintro v8 w8⟨rfl,k5,c5⟩
 refine Oy U U (zC U) (Of U (E2 2 10 U (zb U (zm (Sr (Ol zks U (k5.cell' U) ?_))))))
 refine Oq (zt zoV U U U U k5 (by simp) (by intro u hu;simp at hu;subst hu;rfl) ?_)
 intro wA nA cA kA
 refine E1 2 U (zj ?_)
 repeat first|refine tr ?_|refine br ?_
 refine zk6 U zks U (kA.cell' U) ?_
 exact⟨rfl,(c2.own c5 (by intro y hy;simp at hy;omega)).own cA (by intro y hy;simp at hy;omega)⟩
theorem zyK(v:Va)(n:Int)(w:Wl)(hE:EOk w)(hv:v=.nilIface∧n=0∨zbH w v n):zT TP 34 #[v] w fun r w'=>r=Ii n∧zk [] w w':=by
 refine A1 Tryz.func34 U U ?_
 refine Sr ?_
 refine Oq (zF zvD U U ?_)
 intro b2 w2 e2 n2 c2 k2
 refine E2 0 2 U (zf (zf ?_))
 rcases hv with⟨rfl,rfl⟩|hv
 ·refine za (Om U (Og (zbV zcu U U) U (Om U (Oz U U (Oz U U (Oz U U (Oz U U (Ot U (E2 2 10 U (ze U (Sr ?_)))))))))))
  refine Oq (zt zoV U U U U k2 (by simp) (by intro u hu;simp at hu;subst hu;rfl) ?_)
  intro wA nA cA kA
  refine E1 2 U (zj ?_)
  repeat first|refine tr ?_|refine br ?_
  refine zk6 U zks U (kA.cell' U) ?_
  exact⟨rfl,c2.own cA (by intro y hy;simp at hy;omega)⟩
 refine za (Om U (Og (zbV zcu U hv.notNil) U (Om U (Oj U U (Oy U U (z6 zpB U) ?_)))))
 refine Ow U U zva U U U (zx3 v n b2 _ _ (hE.chg0 c2) (hv.chg0 c2) k2) ?_
 rintro v8 w8⟨rfl,k5,c5⟩
 refine Oy U U (zC U) (Of U (E2 2 10 U (zb U (zm (Sr (Ol zks U (k5.cell' U) ?_))))))
 refine Oq (zt zoV U U U U k5 (by simp) (by intro u hu;simp at hu;subst hu;rfl) ?_)
 intro wA nA cA kA
 refine E1 2 U (zj ?_)
 repeat first|refine tr ?_|refine br ?_
 refine zk6 U zks U (kA.cell' U) ?_
 exact⟨rfl,(c2.own c5 (by intro y hy;simp at hy;omega)).own cA (by intro y hy;simp at hy;omega)⟩
def zge(w:Wl)(v:Va)(n:Int):Prop:=v=.nilIface∧n=0∨zbH w v n∧n≠0
theorem zge.weak{w:Wl}{v:Va}{n:Int}(h:zge w v n):v=.nilIface∧n=0∨zbH w v n:=h.imp id (·.1)
theorem zjv{w:Wl}{b:Nat}{c:By}{n:Int}(h:zO w b 410 [.string c,zc9 n]):zbH w (.iface 408 (Pt b)) n:=.inr (.inl ⟨b,c,rfl,h⟩)
theorem zp9{c:Col}{x:zX}(h:yZ c=false):y9 c x=2:=by simp[y9,h]
theorem zvR{c:Col}{x:zX}(h:yZ c=true)(h2:zaY x≠0):y9 c x=zaY x:=by simp[y9,h,h2]
theorem zlF{c:Col}{x:zX}(h:yZ c=true)(h2:zaY x=0)(h3:x.k=0):y9 c x=if c.z then 0 else 131:=by simp[y9,h,h2,h3]
theorem zvM{c:Col}{x:zX}(h:yZ c=true)(h2:zaY x=0)(h3:x.k≠0)(h4:x.k≠c.t):y9 c x=132:=by simp[y9,h,h2,h3,h4]
theorem zqn{c:Col}{x:zX}(h:yZ c=true)(h2:zaY x=0)(h3:x.k≠0)(h4:x.k=c.t):y9 c x=if zbL c x then 133 else 0:=by
 simp only[y9,h,h2,h4]
 rw[h4]at h3
 simp[h3]
theorem zn6(c:Col)(x:zX)(w:Wl)(hx:x.Rng):zT TP 246 #[c.v,x.v] w fun r w'=>zge w' r (y9 c x)∧zk [] w w':=by
 refine A2 Tryz.func246 U U ?_
 refine Sr ?_
 refine Ob U U ?_
 intro b2 w2 e2 n2 c2 k2
 refine Ob U U ?_
 intro b3 w3 e3 n3 c3 k3
 refine Oa U (E2 2 3 U ?_)
 have hk2:=k2.chg0 c3
 have hc3:zk [] w w3:=c2.trans c3
 refine zf (zf ?_)
 cases hr:yZ c with
 |false=>
  refine za (Og (zh zcy y8 U U (zx.of_blk0 hk2)) U ?_)
  refine Oc zpI U U U (zi2 c _) ?_
  rintro v8 w8⟨h8,c8⟩
  rw[hr]at h8
  subst h8
  refine Og (zC U) U (E3 2 3 9 U (ze U (Sr (Od zbJ U (Ol yH U ((hk2.chg0 c8).cell' U) (Og (z6 zdM U) U ?_))))))
  refine Og (zK zmt zmx U (vs:=[_,_]) U (css:=[_,_]) ⟨U,U,trivial⟩ U U (cs:=[_,_]) U) U ?_
  refine Ob U U ?_
  intro b14 w14 e14 n14 c14 k14
  refine Og (z6 zme U) U (Oa U (E1 4 U (zj ?_)))
  repeat first|refine tr ?_|refine br ?_
  refine zw U U ?_
  rw[zp9 hr]
  exact⟨.inr ⟨zjv k14,by omega⟩,(hc3.trans c8).trans c14⟩
 |true=>
  refine za (Og (zh zcy y8 U U (zx.of_blk0 hk2)) U ?_)
  refine Oc zpI U U U (zi2 c _) ?_
  rintro v8 w8⟨h8,c8⟩
  rw[hr]at h8
  subst h8
  refine Og (zC U) U (E3 2 3 9 U (zb U (zm (zf (Sr (Og (zh zaz ym U U (zx.of_blk0 (k3.chg0 c8))) U ?_))))))
  refine Oc zua U U U (zlN x _) ?_
  rintro v17 w17⟨rfl,c17⟩
  refine Oa U (E3 2 3 5 U ?_)
  have hc17:zk [] w w17:=(hc3.trans c8).trans c17
  have hk2a:=hk2.chg0 (c8.trans c17)
  have hk3a:=k3.chg0 (c8.trans c17)
  refine zf ?_
  by_cases hc:zaY x=0
  ·refine za (Om U ?_)
   refine Og (vf (zJ U U) (by simp[hc])) U ?_
   refine E4 2 3 5 19 U (zb U (zm ?_))
   refine zQ (fun F wA=>∃b6 s f k,F=[(2,Pt b2),(3,Pt b3),(6,Pt b6)]∧zO wA b6 412 [.func (.func s) #[] #[],Ii c.t,.func (.func f) #[] #[]]∧zk [] w17 wA∧k=c.t∧zn TP f=true∧(∀(x:zX) w,x.Rng→zT TP f #[Ii c.s,x.v] w fun r w'=>r=.bool (!zbL c x)∧zk [] w w')) ?_ ?_
   ·have htn:zgN c=true:=by rw[zeC]at hr;simp only[Bool.and_eq_true]at hr;exact hr.1.1
    obtain⟨s,f,kk,hg,hkk,_,hbf,_,hff⟩:=zfT htn
    have hC:=(zk.drew [] w17)
    refine zfm (fun wz=>zk [] w17 wz) (zbj.seq [1,2] (.two 0 (zbj.seq [] (.two 3 (zbj.seq [4,5] .done) 4 (zbj.seq [3,5] .done))) 4 (zbj.seq [0,3,5] .done))) mix (by kernel_rfl) hC ?_
    refine z5 U U (gn U) (fun _=>zd zfd U) U U ?_
    refine zd1 U U (gn U) (fun wz hz=>zg zjG U ((hk2a.chg0 hz).cell' U)) U U ?_
    refine zfA ?_ ?_
    ·refine zag U U (gn U) (yP zpu U U U U (zi6 _) ?_)
     rintro v27 w27⟨b27,rfl,h27,k27,c27⟩
     have hN27:=hC.size
     have hC:=hC.trans c27
     refine⟨.inl hC,?_⟩
     refine zfA ?_ ?_
     ·refine zag U U (gn U) (St.vl (zdC (κ:=zaK .i64) zgG (z0 zaI) zd4 U U k27 hg U) U U ?_)
      refine⟨.inl hC,?_⟩
      refine zag U U (gn U) (zF zd4 U U ?_)
      intro b6 w6 e6 n6 c6 k6
      have hN6:=hC.size
      have hC:=hC.trans c6
      have k27:=k27.chg0 c6
      refine⟨.inl hC,?_⟩
      refine zag U U (gn U) (zt zkY U U U U k6 (by simp) (by intro u hu;simp at hu;rcases hu with rfl|rfl|rfl<;>rfl) ?_)
      intro wA nA cA kA
      have hC:=hC.own cA (by intro y hy;simp at hy;omega)
      refine⟨.inl hC,?_⟩
      refine zc6 [2,3,6] (F':=[(2,_),(3,_),(6,_)]) U ?_
      exact⟨b6,s,f,c.t,rfl,by rw[←hkk];exact kA,hC,rfl,hbf,hff hr⟩
     refine zag U U (gn U) (zF zd4 U U ?_)
     intro b6 w6 e6 n6 c6 k6
     have hN6:=hC.size
     have hC:=hC.trans c6
     have k27:=k27.chg0 c6
     refine⟨.inl hC,?_⟩
     refine zag U U (gn U) (St.vl (zdC (κ:=zaK .i64) zgG (z0 zaI) zd4 U U k27 hg U) U U ?_)
     refine⟨.inl hC,?_⟩
     refine zag U U (gn U) (zt zkY U U U U k6 (by simp) (by intro u hu;simp at hu;rcases hu with rfl|rfl|rfl<;>rfl) ?_)
     intro wA nA cA kA
     have hC:=hC.own cA (by intro y hy;simp at hy;omega)
     refine⟨.inl hC,?_⟩
     refine zc6 [2,3,6] (F':=[(2,_),(3,_),(6,_)]) U ?_
     exact⟨b6,s,f,c.t,rfl,by rw[←hkk];exact kA,hC,rfl,hbf,hff hr⟩
    refine zag U U (gn U) (zF zd4 U U ?_)
    intro b6 w6 e6 n6 c6 k6
    have hN6:=hC.size
    have hC:=hC.trans c6
    refine⟨.inl hC,?_⟩
    refine zag U U (gn U) (yP zpu U U U U (zi6 _) ?_)
    rintro v27 w27⟨b27,rfl,h27,k27,c27⟩
    have hN27:=hC.size
    have hC:=hC.trans c27
    have k6:=k6.chg0 c27
    refine⟨.inl hC,?_⟩
    refine zag U U (gn U) (St.vl (zdC (κ:=zaK .i64) zgG (z0 zaI) zd4 U U k27 hg U) U U ?_)
    refine⟨.inl hC,?_⟩
    refine zag U U (gn U) (zt zkY U U U U k6 (by simp) (by intro u hu;simp at hu;rcases hu with rfl|rfl|rfl<;>rfl) ?_)
    intro wA nA cA kA
    have hC:=hC.own cA (by intro y hy;simp at hy;omega)
    refine⟨.inl hC,?_⟩
    refine zc6 [2,3,6] (F':=[(2,_),(3,_),(6,_)]) U ?_
    exact⟨b6,s,f,c.t,rfl,by rw[←hkk];exact kA,hC,rfl,hbf,hff hr⟩
   rintro F wA⟨b6,s,f,k,rfl,kA,hcA,rfl,hbf,hff⟩
   have hk2b:=hk2a.chg0 hcA
   have hk3b:=hk3a.chg0 hcA
   have hwA:=hc17.trans hcA
   refine zf (zp (zf ?_))
   by_cases h0:x.k=0
   ·refine za (Od zak U (Ol zbI U (hk3b.cell' U) ?_))
    refine Og (vt (zv U U) (dt (by omega))) U ?_
    refine Om U (Oy U U (zd zfn U) (Oy U U (zg ag4 U (hk2b.cell' U)) (Ot U (Oa U (E4 2 3 6 31 U ?_)))))
    refine zP U (fun hT=>?_) (fun hF=>?_)
    ·refine Sr (Oa U (E1 4 U (zj ?_)))
     repeat first|refine tr ?_|refine br ?_
     refine zw U U ?_
     exact⟨.inl ⟨rfl,by rw[zlF hr hc h0,hT];rfl⟩,hwA⟩
    refine Sr (Od zak U (Ol zbI U (hk3b.cell' U) ?_))
    refine Og (vt (zv U U) (dt (by omega))) U ?_
    refine Oa U (E4 2 3 6 39 U (ze U (Sr (Od zbJ U (Ol yH U (hk2b.cell' U) (Og (z6 zdM U) U ?_))))))
    refine Og (zK zmt zmx U (vs:=[_,_]) U (css:=[_,_]) ⟨U,U,trivial⟩ U U (cs:=[_,_]) U) U ?_
    refine Ob U U ?_
    intro b47 w47 e47 n47 c47 k47
    refine Og (z6 zme U) U (Oa U (E1 4 U (zj ?_)))
    repeat first|refine tr ?_|refine br ?_
    refine zw U U ?_
    rw[zlF hr hc h0,hF]
    exact⟨.inr ⟨zjv k47,by decide⟩,hwA.trans c47⟩
   refine za (Od zak U (Ol zbI U (hk3b.cell' U) ?_))
   refine Og (vf (zv U U) (df (by omega))) U ?_
   refine Om U (Oz U U (Oz U U (Of U (Oa U (E4 2 3 6 31 U (zb U (Sr (Od zak U (Ol zbI U (hk3b.cell' U) ?_)))))))))
   refine Og (vf (zv U U) (df (by omega))) U ?_
   refine Oa U (E4 2 3 6 39 U (zb U (zf ?_)))
   by_cases h4:x.k=c.t
   ·refine za (Od zak U (Ol zbI U (hk3b.cell' U) (Od zo7 U (Ol zbI U (kA.cell' U) ?_))))
    refine Og (vf (zJ U U) (zcz (by omega))) U ?_
    refine Oa U (E4 2 3 6 49 U (zb U (Sr (Od zvP U (Ol zzR U (kA.cell' U) (Od zbE U (Ol ag3 U (hk2b.cell' U) (Og (zh zaz ym U U (zx.of_blk0 hk3b)) U ?_))))))))
    refine Oc hbf U U U (hff x _ hx) ?_
    rintro v67 w67⟨rfl,c67⟩
    refine Og (zC U) U (Oa U (E2 2 61 U ?_))
    cases hwd:zbL c x with
    |true=>
     refine ze U (Sr (Od zbJ U (Ol yH U ((hk2b.chg0 c67).cell' U) (Og (z6 zdM U) U ?_))))
     refine Og (zK zmt zmx U (vs:=[_,_]) U (css:=[_,_]) ⟨U,U,trivial⟩ U U (cs:=[_,_]) U) U ?_
     refine Ob U U ?_
     intro b73 w73 e73 n73 c73 k73
     refine Og (z6 zme U) U (Oa U (E1 4 U (zj ?_)))
     repeat first|refine tr ?_|refine br ?_
     refine zw U U ?_
     rw[zqn hr hc h0 h4,hwd]
     exact⟨.inr ⟨zjv k73,by decide⟩,(hwA.trans c67).trans c73⟩
    |false=>
     refine zb U (zU (zl (Sr (Oa U (E1 4 U (zj ?_))))))
     repeat first|refine tr ?_|refine br ?_
     refine zw U U ?_
     rw[zqn hr hc h0 h4,hwd]
     exact⟨.inl ⟨U,U⟩,hwA.trans c67⟩
   refine za (Od zak U (Ol zbI U (hk3b.cell' U) (Od zo7 U (Ol zbI U (kA.cell' U) ?_))))
   refine Og (vt (zJ U U) (zfC (by omega))) U ?_
   refine Oa U (E4 2 3 6 49 U (ze U (Sr (Od zbJ U (Ol yH U (hk2b.cell' U) (Og (z6 zdM U) U ?_))))))
   refine Og (zK zmt zmx U (vs:=[_,_]) U (css:=[_,_]) ⟨U,U,trivial⟩ U U (cs:=[_,_]) U) U ?_
   refine Ob U U ?_
   intro b59 w59 e59 n59 c59 k59
   refine Og (z6 zme U) U (Oa U (E1 4 U (zj ?_)))
   repeat first|refine tr ?_|refine br ?_
   refine zw U U ?_
   rw[zvM hr hc h0 h4]
   exact⟨.inr ⟨zjv k59,by decide⟩,hwA.trans c59⟩
  refine za (Om U ?_)
  refine Og (vt (zJ U U) (by simp[hc])) U ?_
  refine E4 2 3 5 19 U (ze U (Sr (Od zbJ U (Ol yH U (hk2a.cell' U) (Om U (Og (z6 zdM U) U ?_))))))
  refine Og (zK zmt zmx U (vs:=[_,_]) U (css:=[_,_]) ⟨U,U,trivial⟩ U U (cs:=[_,_]) U) U ?_
  refine Ob U U ?_
  intro b25 w25 e25 n25 c25 k25
  refine Og (z6 zme U) U (Oa U (E1 4 U (zj ?_)))
  repeat first|refine tr ?_|refine br ?_
  refine zw U U ?_
  rw[zvR hr hc]
  exact⟨.inr ⟨zjv k25,hc⟩,hc17.trans c25⟩
theorem zhY:∀{cs:List Col} {xs:List zX} {j:Nat} {c:Col} {x:zX},cs[j]? = some c→xs[j]? = some x→y9 c x≠0→(∀(i:Nat) c x,i<j→cs[i]? = some c→xs[i]? = some x→y9 c x=0)→zbt cs xs=y9 c x
 |[],_,_,_,_,h,_,_,_=>by simp at h
 |_::_,[],_,_,_,_,h,_,_=>by simp at h
 |c'::cs,x'::xs,0,c,x,hc,hx,hn,_=>by
  simp at hc hx;subst hc hx
  simp[zbt,hn]
 |c'::cs,x'::xs,j+1,c,x,hc,hx,hn,ha=>by
  have h0:=ha 0 c' x' (by omega) rfl rfl
  unfold zbt
  rw[if_neg (by simp[h0])]
  exact zhY (by simpa using hc) (by simpa using hx) hn (fun i c x hi h1 h2=>ha (i+1) c x (by omega) (by simpa using h1) (by simpa using h2))
theorem zhS:∀{cs:List Col} {xs:List zX},(∀(i:Nat) c x,cs[i]? = some c→xs[i]? = some x→y9 c x=0)→zbt cs xs=0
 |[],_,_=>by simp[zbt]
 |_::_,[],_=>by simp[zbt]
 |c::cs,x::xs,h=>by
  unfold zbt
  rw[if_neg (by simp[h 0 c x rfl rfl])]
  exact zhS fun i c x h1 h2=>h (i+1) c x (by simpa using h1) (by simpa using h2)
theorem zB8(c k u v:Va)(s:yL)(l:List zX)(w:Wl)(hs:zaa w c k u s)(hl:yc w v l)(hg:∀x∈l,x.Rng)(hn:l.length≤1048576)(hn':s.cols.length≤1048576) :
 zT TP 192 #[.agg #[c,k,u],v] w fun r w'=>zge w' r (if l.length≠s.cols.length then 130 else zbt s.cols l)∧zk [] w w':=by
 obtain⟨pc,dc,rfl,hdc⟩:=zN.val hs.cols
 obtain⟨pv,cv,rfl,hle⟩:=zN.val hl
 refine A2 Tryz.func192 U U ?_
 refine Sr ?_
 refine Ob U U ?_
 intro b2 w2 e2 n2 c2 k2
 refine Oa U (E2 1 2 U (zf (zf ?_)))
 by_cases he:l.length=s.cols.length
 ·refine za (Om U (On yA U (Od yn U (Ol za2 U (k2.cell' U) (On zaJ U ?_)))))
  refine Og (vf (zJ U U) (zcz (by omega))) U ?_
  refine E3 1 2 13 U (zb U (zm ?_))
  rw[if_neg (by simp[he])]
  refine zf (Sr (Om U (On yA U (Om U (E4 2 15 16 17 U (zp ?_))))))
  refine zR [2,15,16,17] (fun m F wx=>∃j:Nat,m=l.length-j∧j≤l.length∧F=[(2,Pt b2),(15,.slice pv l.length cv),(16,Ii l.length),(17,Ii j)]∧zk [] w2 wx∧(∀i c x,i<j→s.cols[i]? = some c→l[i]? = some x→y9 c x=0)) (m:=l.length-0) ⟨0,rfl,Nat.zero_le _,rfl,zk.refl _ _,by intro i c x h;omega⟩ ?_
  rintro m F wx⟨j,rfl,hj,rfl,hcx,hall⟩
  have hcw:zk [] w wx:=c2.trans hcx
  have hk2:=k2.chg0 hcx
  refine Sr (Og (zy U U) U (E5 2 15 16 17 18 U (zf ?_)))
  refine zP U (fun hT=>?_) (fun hF=>?_)
  ·refine zm ?_
   have hlt:j<l.length:=by have:=of_decide_eq_true hT;omega
   have hx:l[j]? = some l[j]:=by simp[hlt]
   generalize l[j]=x at hx
   have hlt2:j<s.cols.length:=by omega
   have hcc:s.cols[j]? = some s.cols[j]:=by simp[hlt2]
   generalize s.cols[j]=c at hcc
   obtain⟨b,off,cap,hv,hcell⟩:=zN.at zbn (zN.chg0 hl hcw) hx
   cases hv
   obtain⟨bc,oc,cc,hvc,hcellc⟩:=zN.at zaG (zN.chg0 hs.cols hcw) hcc
   cases hvc
   refine zf (zp (Sr (Om U ?_)))
   refine Og (zi yA ym U U _ U hlt) U ?_
   refine Og (zh zaz ym U U hcell) U ?_
   refine Oq (zF zc2 U U ?_)
   intro b6 w6 e6 n6 c6 k6
   refine Oa U ?_
   refine Oq (zt ym U U U U k6 (by simp[zX.cs]) (zX.one x) ?_)
   intro wA nA cA kA
   refine E6 2 5 6 15 16 17 U ?_
   have hcA:zk [] wx wA:=c6.own cA (by intro y hy;simp at hy;omega)
   have kA:zO wA b6 111 x.cs:=kA
   have hk2A:=hk2.chg0 hcA
   have hdA:zk [] wA wA.drew:=zk.drew [] _
   refine zf ?_
   by_cases hf:y9 c x=0
   ·refine zI (fun wz=>zk [] wA wz) mix (by kernel_rfl) hdA ?_
    refine Td yn U (Tr (fun wz hz=>zg za2 U ((hk2A.chg0 hz).cell' U)) U (Tm U ?_))
    refine Tp (fun _=>zi zaJ y8 U U _ U hlt2) U ?_
    refine Tr (fun wz hz=>zh zcy y8 U U ((hcellc.chg0 hcA).chg0 hz)) U (Tr (fun wz hz=>zh zaz ym U U (zx.of_blk0 (kA.chg0 hz))) U ?_)
    refine Tc zt4 U U U (zn6 c x _ (hg x (List.mem_of_getElem? hx))) ?_
    rintro v28 w28⟨h28,c28⟩
    have h28:=h28.resolve_right (fun h=>h.2 hf)
    obtain⟨rfl,_⟩:=h28
    refine⟨.inl (hdA.trans c28),?_⟩
    refine Ta U (D5 2 7 15 16 17 U (Sr (Om U (Og (zbp zcu U U) U (Om U (Oz U U (Oz U U (Oz U U (Oz U U (Of U (E6 2 7 15 16 17 36 U (zb U (zU (zl ?_))))))))))))))
    refine za ?_
    refine Og (zG U U (by omega)) U ?_
    refine Om U (N4 2 15 16 17 U ?_)
    refine⟨l.length-(j+1),by omega,j+1,rfl,by omega,rfl,((hcx.trans hcA).trans hdA).trans c28,?_⟩
    intro i c' x' hi hc' hx'
    rcases Nat.lt_or_ge i j with hij|hij
    ·exact hall i c' x' hij hc' hx'
    have:i=j:=by omega
    subst this
    rw[hx]at hx';rw[hcc]at hc'
    cases hx';cases hc'
    exact hf
   refine zI (fun wz=>zk [] wA wz) mix (by kernel_rfl) hdA ?_
   refine Td yn U (Tr (fun wz hz=>zg za2 U ((hk2A.chg0 hz).cell' U)) U (Tm U ?_))
   refine Tp (fun _=>zi zaJ y8 U U _ U hlt2) U ?_
   refine Tr (fun wz hz=>zh zcy y8 U U ((hcellc.chg0 hcA).chg0 hz)) U (Tr (fun wz hz=>zh zaz ym U U (zx.of_blk0 (kA.chg0 hz))) U ?_)
   refine Tc zt4 U U U (zn6 c x _ (hg x (List.mem_of_getElem? hx))) ?_
   rintro v28 w28⟨h28,c28⟩
   have h28:=(h28.resolve_left (fun h=>hf h.2)).1
   refine⟨.inl (hdA.trans c28),?_⟩
   refine Ta U (D5 2 7 15 16 17 U (Sr (Om U (Og (zbp zcu U h28.notNil) U (Om U (Oj U U (Oy U U (z6 zdM U) ?_)))))))
   refine Ow U U zwu U U U (zBv v28 (y9 c x) 0 _ h28) ?_
   rintro v34 w34⟨h34,c34⟩
   rw[df hf]at h34
   subst h34
   refine Oy U U (zC U) (Ot U (E6 2 7 15 16 17 36 U (ze U (Sr (Om U (Oa U (E1 4 U (zj ?_))))))))
   repeat first|refine tr ?_|refine br ?_
   refine zw U U ?_
   rw[zhY hcc hx hf hall]
   exact⟨.inr ⟨h28.chg0 c34,hf⟩,(((hcw.trans hcA).trans hdA).trans c28).trans c34⟩
  refine zH ?_
  repeat first|refine te ?_|refine bo rfl ?_
  refine zq _ ?_
  have hge:l.length≤j:=by have:=of_decide_eq_false hF;omega
  refine Sr (Oa U (E1 4 U (zj ?_)))
  repeat first|refine tr ?_|refine br ?_
  refine zw U U ?_
  refine⟨.inl ⟨U,zhS fun i c x h1 h2=>hall i c x ?_ h1 h2⟩,hcw⟩
  have:=(Gs h2).1
  omega
 refine za (Om U (On yA U (Od yn U (Ol za2 U (k2.cell' U) (On zaJ U ?_)))))
 refine Og (vt (zJ U U) (zfC (by omega))) U ?_
 refine E3 1 2 13 U (ze U (Sr (Og (z6 zdM U) U (Oa U (E1 4 U (zj ?_))))))
 repeat first|refine tr ?_|refine br ?_
 refine zw U U ?_
 rw[if_pos he]
 exact⟨.inr ⟨.inl U,by omega⟩,c2⟩
theorem zwi(c k u v:Va)(s:yL)(l:List zX)(w:Wl)(hE:EOk w)(hs:zaa w c k u s)(hm:s.Sm)(hl:yc w v l)(hg:∀x∈l,x.Rng)(hn:l.length≤1048576) :
 zT TP 137 #[.agg #[c,k,u],v] w fun r w'=>r=Ii (zaf s l)∧zk [] w w':=by
 refine A2 Tryz.func137 U U ?_
 refine Sr ?_
 refine Ob U U ?_
 intro b2 w2 e2 n2 c2 k2
 refine Oa U (E2 1 2 U (zf (zf ?_)))
 unfold zaf
 cases hr:yF s with
 |false=>
  refine za (Og (zh zbw zbo U U (zx.of_blk0 k2)) U ?_)
  refine Oc zkC U U U (zgk c k u s _ (hs.chg0 c2) hm) ?_
  rintro v7 w7⟨h7,c7⟩
  rw[hr]at h7
  change v7=Ii 2 at h7
  subst h7
  refine Oa U (E3 1 2 5 U (Sr (Om U ?_)))
  refine Og (vt (zJ U U) (zfC (by omega))) U ?_
  refine E4 1 2 5 9 U (ze U (Sr (Om U (Oa U (E1 4 U (zj ?_))))))
  repeat first|refine tr ?_|refine br ?_
  refine zw U U ?_
  exact⟨U,c2.trans c7⟩
 |true=>
  refine za (Og (zh zbw zbo U U (zx.of_blk0 k2)) U ?_)
  refine Oc zkC U U U (zgk c k u s _ (hs.chg0 c2) hm) ?_
  rintro v7 w7⟨h7,c7⟩
  rw[hr]at h7
  change v7=Ii 0 at h7
  subst h7
  refine Oa U (E3 1 2 5 U (Sr (Om U ?_)))
  refine Og (vf (zJ U U) (zcz (by omega))) U ?_
  refine E4 1 2 5 9 U (zb U (zm (zf ?_)))
  have hc7:=c2.trans c7
  refine za (Og (zh zbw zbo U U (zx.of_blk0 (k2.chg0 c7))) U (Om U ?_))
  refine Oc zAk U U U (zB8 c k u v s l _ (hs.chg0 hc7) (zN.chg0 hl hc7) hg hn hm.cols) ?_
  rintro v13 w13⟨h13,c13⟩
  refine Oc zwv U U U (zsU _ _ _ (hE.chg0 (hc7.trans c13)) h13.weak) ?_
  rintro v14 w14⟨rfl,c14⟩
  refine Oa U (E1 4 U (zj ?_))
  refine zw U U ?_
  exact⟨by simp,(hc7.trans c13).trans c14⟩
theorem zlr{row:List zX}{st:List Int}{j:Nat}{i:Int}(h:st[j]? = some i):yl row (st.take (j+1))=yl row (st.take j)++[zdb row i]:=by
 rw[zeR,zeR,List.take_add_one,h,List.map_append]
 rfl
theorem zN.push{α:Type}{w:Wl}{e k:Nat}{f:α→List Va}{v:Va}{l:List α}{x:α}{n:Nat}{xs:List Va}(h:zA w e k v n xs)(hn:n=l.length+1)(hx:xs=fl f l++f x):yj w e k f v (l++[x]):=by
 subst hn hx
 unfold yj
 rw[List.length_append,zih,show fl f [x]=f x by simp[fl]]
 exact h
theorem zhE(row:List zX)(st:List Int):(yl row st).length=st.length:=by simp[yl]
theorem zyg(v vi:Va)(row:List zX)(st:List Int)(w:Wl)(hv:yc w v row)(hi:yw w vi st)(hr:∀i∈st,0≤i∧i<row.length)(hn:row.length≤1048576)(hn':st.length≤1048576) :
 zT TP 193 #[v,vi] w fun r w'=>∃u,r=.tuple #[u,Ii 0]∧yc w' u (yl row st)∧(∀b∈zu u,w.heap.size≤b)∧zk [] w w':=by
 obtain⟨pi,ci,rfl,hci⟩:=zN.val hi
 refine A2 Tryz.func193 U U ?_
 refine Sr (Oa U (Oa U (E2 0 1 U (Sr (Oa U (E3 0 1 6 U (zf (Sr (Om U (On zaA U (Om U (E5 0 6 9 10 11 U ?_))))))))))))
 refine zp ?_
 refine zR [0,6,9,10,11] (fun m F wx=>∃(j:Nat) (u:Va),m=st.length-j∧j≤st.length∧F=[(0,v),(6,u),(9,.slice pi st.length ci),(10,Ii st.length),(11,Ii j)]∧yj wx 111 4 zX.cs u (yl row (st.take j))∧(∀b∈zu u,w.heap.size≤b)∧zk [] w wx) (m:=st.length-0) ⟨0,_,rfl,Nat.zero_le _,rfl,yj.nil _ _ _ _,by simp[zu],zk.refl _ _⟩ ?_
 rintro m F wx⟨j,u,rfl,hj,rfl,hu,hfu,hcx⟩
 have hvx:=zN.chg0 hv hcx
 refine Sr (Og (zy U U) U (E6 0 6 9 10 11 12 U (zf ?_)))
 refine zP U (fun hT=>?_) (fun hF=>?_)
 ·refine zm ?_
  have hlt:j<st.length:=by have:=of_decide_eq_true hT;omega
  have hx:st[j]? = some st[j]:=by simp[hlt]
  generalize st[j]=i at hx
  have hri:=hr i (List.mem_of_getElem? hx)
  obtain⟨i,rfl⟩:∃k:Nat,i=(k:Int):=⟨i.toNat,by omega⟩
  obtain⟨bi,oi,cap,hve,hcell⟩:=yw.cell (zN.chg0 hi hcx) hx
  cases hve
  have hir:i<row.length:=by omega
  have hxv:row[i]? = some row[i]:=by simp[hir]
  have hat:zdb row (i:Int)=row[i]:=by unfold zdb;rw[Int.toNat_natCast,hxv];rfl
  generalize row[i]=x at hxv hat
  obtain⟨bv,ov,cv,hve,hcv⟩:=zN.at zbn hvx hxv
  subst hve
  refine zf (zp (Sr ?_))
  refine Og (zi zaA sz3 U U _ U hlt) U ?_
  refine Ol ag3 U hcell (Oa U (E6 0 6 8 9 10 11 U (zf (Sr (Om U ?_)))))
  refine Og (vf (zy U U) (df (by omega))) U ?_
  refine Om U (Oj U U (Oj U U (Oy U U (zV yA U) ?_)))
  refine Oy U U (vf (ya U U) (df (by omega))) ?_
  refine Of U (E7 0 6 8 9 10 11 22 U (zb U (zm ?_)))
  have hl:(yl row (st.take j)).length=j:=by rw[zhE,List.length_take];omega
  refine za (Om U (Om U (Om U ?_)))
  refine Og (zi yA ym U U _ U hir) U ?_
  refine Og (zh zaz ym U U hcv) U ?_
  refine Oq (zz zjD U (vs:=[_]) U (css:=[_]) ⟨U,trivial⟩ U U (cs:=[_,_,_,_]) U U ?_)
  intro b28 w28 e28 n28 c28 k28
  refine Oq (yo zjD yA U U (zA.chg0 hu c28) (zA.of_blk (n:=1) k28 U (by simp[maxLen]) (zX.one x)) (by rw[hl];simp only[maxLen];omega) (by rw[hl];omega) U ?_)
  intro v29 w29 i29 c29 o29 z29
  refine Oa U (N5 0 6 9 10 11 U (zl (za ?_)))
  refine Og (zG U U (by omega)) U ?_
  refine Om U (N5 0 6 9 10 11 U ?_)
  have hsz:=hcx.size
  have hs28:=c28.size
  refine⟨st.length-(j+1),by omega,j+1,v29,rfl,by omega,rfl,?_,yq o29 hfu (by omega),?_⟩
  ·rw[zlr hx,hat]
   exact zN.push i29 U U
  exact(hcx.trans c28).own c29 hfu
 refine zH ?_
 repeat first|refine te ?_|refine bo rfl ?_
 refine zq _ ?_
 have he:st.length≤j:=by have:=of_decide_eq_false hF;omega
 refine Sr (Om U (Oa U (Oa U (E2 4 5 U (zj ?_)))))
 refine zcg U U U ?_
 rw[Tl he]at hu
 exact⟨u,U,hu.arr,hfu,hcx⟩
theorem zrQ(x y:Col):zeU [1,0,0,2] x.cs y.cs=some (decide (x=y)):=by
 obtain⟨n,t,s,z⟩:=x
 obtain⟨n',t',s',z'⟩:=y
 simp only[Col.cs,zeU,znI,if_true,Option.some.injEq,Col.mk.injEq]
 rw[Bool.eq_iff_iff]
 simp
theorem zlC(u v:Va)(l m:List Col)(w:Wl)(hu:ziu w u l)(hv:ziu w v m)(hn:l.length≤1048576)(hn':m.length≤1048576) :
 zT TP 115 #[u,v] w fun r w'=>r=.bool (decide (l=m))∧zk [] w w':=by
 obtain⟨pu,cu,rfl,hcu⟩:=zN.val hu
 obtain⟨pv,cv,rfl,hcv⟩:=zN.val hv
 refine A2 Tryz.func115 U U ?_
 refine Sr (Oa U (E2 0 1 U (zf (zf ?_))))
 by_cases he:l.length=m.length
 ·refine za (Om U (On zaJ U (Om U (On zaJ U ?_))))
  refine Og (vf (zJ U U) (zcz (by omega))) U ?_
  refine E3 0 1 10 U (zb U (zm (zf (Sr (Om U (On zaJ U (Om U (E4 0 1 12 13 U (zp ?_)))))))))
  refine zR [0,1,12,13] (fun n F wx=>∃j:Nat,n=l.length-j∧j≤l.length∧F=[(0,.slice pu l.length cu),(1,.slice pv m.length cv),(12,Ii l.length),(13,Ii j)]∧l.take j=m.take j∧zk [] w wx) (m:=l.length-0) ⟨0,rfl,Nat.zero_le _,rfl,by simp,zk.refl _ _⟩ ?_
  rintro n F wx⟨j,rfl,hj,rfl,heq,hcx⟩
  refine Sr (Og (zy U U) U (E5 0 1 12 13 14 U (zf ?_)))
  refine zP U (fun hT=>?_) (fun hF=>?_)
  ·refine zm ?_
   have hlt:j<l.length:=by have:=of_decide_eq_true hT;omega
   have hlt2:j<m.length:=by omega
   have hx:l[j]? = some l[j]:=by simp[hlt]
   have hy:m[j]? = some m[j]:=by simp[hlt2]
   generalize l[j]=x at hx
   generalize m[j]=y at hy
   obtain⟨b,off,cap,hve,hc1⟩:=zN.at zaG (zN.chg0 hu hcx) hx
   cases hve
   obtain⟨b',off',cap',hve,hc2⟩:=zN.at zaG (zN.chg0 hv hcx) hy
   cases hve
   have hd:zk [] wx wx.drew:=zk.drew [] _
   refine zf (zp (Sr (Om U (Oa U (E5 0 1 5 12 13 U (zf ?_))))))
   refine zI (fun wz=>zk [] wx wz) mix (by kernel_rfl) hd ?_
   refine Tm U (Tm U ?_)
   refine Tp (fun _=>zi zaJ y8 U U _ U hlt) U ?_
   refine Tr (fun wz hz=>zh zcy y8 U U (hc1.chg0 hz)) U (Tm U (Tm U ?_))
   refine Tp (fun _=>zi zaJ y8 U U _ U hlt2) U ?_
   refine Tr (fun wz hz=>zh zcy y8 U U (hc2.chg0 hz)) U (Tp (fun _=>zhV zwy U U (zrQ x y)) U (D5 0 1 12 13 24 U ?_))
   refine zP U (fun hT=>?_) (fun hF=>?_)
   ·have hne:x≠y:=by simpa using hT
    refine Sr (Oa U (E1 4 U (zj ?_)))
    repeat first|refine tr ?_|refine br ?_
    refine zw U U ?_
    refine⟨?_,hcx.trans hd⟩
    have:l≠m:=by
     rintro rfl
     rw[hx]at hy
     exact hne (Option.some.inj hy)
    rw[df this]
   have hxy:x=y:=by simpa using hF
   refine zU (zl (za ?_))
   refine Og (zG U U (by omega)) U ?_
   refine Om U (N4 0 1 12 13 U ?_)
   refine⟨l.length-(j+1),by omega,j+1,rfl,by omega,rfl,?_,hcx.trans hd⟩
   rw[List.take_add_one,List.take_add_one,hx,hy,heq,hxy]
  refine zH ?_
  repeat first|refine te ?_|refine bo rfl ?_
  refine zq _ ?_
  have hge:l.length≤j:=by have:=of_decide_eq_false hF;omega
  refine Sr (Oa U (E1 4 U (zj ?_)))
  repeat first|refine tr ?_|refine br ?_
  refine zw U U ?_
  rw[Tl hge,Tl (by omega)]at heq
  exact⟨by rw[dt heq],hcx⟩
 refine za (Om U (On zaJ U (Om U (On zaJ U ?_))))
 refine Og (vt (zJ U U) (zfC (by omega))) U ?_
 refine E3 0 1 10 U (ze U (Sr (Oa U (E1 4 U (zj ?_)))))
 repeat first|refine tr ?_|refine br ?_
 refine zw U U ?_
 have:l≠m:=fun h=>he (by rw[h])
 exact⟨by rw[df this],zk.refl _ _⟩
theorem zoJ(u v:Va)(l m:List Int)(w:Wl)(hu:yw w u l)(hv:yw w v m)(hn:l.length≤1048576)(hn':m.length≤1048576) :
 zT TP 116 #[u,v] w fun r w'=>r=.bool (decide (l=m))∧zk [] w w':=by
 obtain⟨pu,cu,rfl,hcu⟩:=zN.val hu
 obtain⟨pv,cv,rfl,hcv⟩:=zN.val hv
 refine A2 Tryz.func116 U U ?_
 refine Sr (Oa U (E2 0 1 U (zf (zf ?_))))
 by_cases he:l.length=m.length
 ·refine za (Om U (On zaA U (Om U (On zaA U ?_))))
  refine Og (vf (zJ U U) (zcz (by omega))) U ?_
  refine E3 0 1 10 U (zb U (zm (zf (Sr (Om U (On zaA U (Om U (E4 0 1 12 13 U (zp ?_)))))))))
  refine zR [0,1,12,13] (fun n F wx=>∃j:Nat,n=l.length-j∧j≤l.length∧F=[(0,.slice pu l.length cu),(1,.slice pv m.length cv),(12,Ii l.length),(13,Ii j)]∧l.take j=m.take j∧zk [] w wx) (m:=l.length-0) ⟨0,rfl,Nat.zero_le _,rfl,by simp,zk.refl _ _⟩ ?_
  rintro n F wx⟨j,rfl,hj,rfl,heq,hcx⟩
  refine Sr (Og (zy U U) U (E5 0 1 12 13 14 U (zf ?_)))
  refine zP U (fun hT=>?_) (fun hF=>?_)
  ·refine zm ?_
   have hlt:j<l.length:=by have:=of_decide_eq_true hT;omega
   have hlt2:j<m.length:=by omega
   have hx:l[j]? = some l[j]:=by simp[hlt]
   have hy:m[j]? = some m[j]:=by simp[hlt2]
   generalize l[j]=x at hx
   generalize m[j]=y at hy
   obtain⟨b,off,cap,hve,hc1⟩:=zN.at zhz (zN.chg0 hu hcx) hx
   cases hve
   obtain⟨b',off',cap',hve,hc2⟩:=zN.at zhz (zN.chg0 hv hcx) hy
   cases hve
   have hd:zk [] wx wx.drew:=zk.drew [] _
   refine zf (zp (Sr (Om U (Oa U (E5 0 1 5 12 13 U (zf ?_))))))
   refine zI (fun wz=>zk [] wx wz) mix (by kernel_rfl) hd ?_
   refine Tm U (Tm U ?_)
   refine Tp (fun _=>zi zaA sz3 U U _ U hlt) U ?_
   refine Tr (fun wz hz=>zg ag3 U (hc1.chg0 hz 0 _ U)) U ?_
   refine Tm U (Tm U ?_)
   refine Tp (fun _=>zi zaA sz3 U U _ U hlt2) U ?_
   refine Tr (fun wz hz=>zg ag3 U (hc2.chg0 hz 0 _ U)) U ?_
   refine Tp (fun _=>zJ U U) U (D5 0 1 12 13 24 U ?_)
   refine zP U (fun hT=>?_) (fun hF=>?_)
   ·have hne:x≠y:=by simpa using hT
    refine Sr (Oa U (E1 4 U (zj ?_)))
    repeat first|refine tr ?_|refine br ?_
    refine zw U U ?_
    refine⟨?_,hcx.trans hd⟩
    have:l≠m:=by
     rintro rfl
     rw[hx]at hy
     exact hne (Option.some.inj hy)
    rw[df this]
   have hxy:x=y:=by simpa using hF
   refine zU (zl (za ?_))
   refine Og (zG U U (by omega)) U ?_
   refine Om U (N4 0 1 12 13 U ?_)
   refine⟨l.length-(j+1),by omega,j+1,rfl,by omega,rfl,?_,hcx.trans hd⟩
   rw[List.take_add_one,List.take_add_one,hx,hy,heq,hxy]
  refine zH ?_
  repeat first|refine te ?_|refine bo rfl ?_
  refine zq _ ?_
  have hge:l.length≤j:=by have:=of_decide_eq_false hF;omega
  refine Sr (Oa U (E1 4 U (zj ?_)))
  repeat first|refine tr ?_|refine br ?_
  refine zw U U ?_
  rw[Tl hge,Tl (by omega)]at heq
  exact⟨by rw[dt heq],hcx⟩
 refine za (Om U (On zaA U (Om U (On zaA U ?_))))
 refine Og (vt (zJ U U) (zfC (by omega))) U ?_
 refine E3 0 1 10 U (ze U (Sr (Oa U (E1 4 U (zj ?_)))))
 repeat first|refine tr ?_|refine br ?_
 refine zw U U ?_
 have:l≠m:=fun h=>he (by rw[h])
 exact⟨by rw[df this],zk.refl _ _⟩
theorem zu0(v:Va)(l:List Int)(w:Wl)(h:yw w v l)(hn:l.length≤1048576):zT TP 226 #[v] w fun r w'=>yj w' 3 1 ics r l∧(∀b∈zu r,w.heap.size≤b)∧zk [] w w':=by
 obtain⟨p,c,rfl,_⟩:=zN.val h
 refine A1 Tryz.func226 U U ?_
 refine Sr (Oa U (E1 0 U (zf (Sr (Om U (Og (zlQ zaA U U) U (E2 0 4 U ?_)))))))
 refine zP U (fun hT=>?_) (fun hF=>?_)
 ·refine Sr (Oa U (E1 2 U (zj ?_)))
  refine zbM ?_
  refine zw U U ?_
  obtain⟨p',cap,he,_,_,_,_,h6⟩:=h
  simp only[Value.slice.injEq]at he
  obtain⟨rfl,_,_⟩:=he
  have h2:l.length=0:=by
   rcases Nat.eq_zero_or_pos l.length with h0|h0
   ·exact h0
   obtain⟨b,off,rfl,_⟩:=h6 h0
   simp at hT
  have:l=[]:=List.length_eq_zero_iff.1 h2
  subst this
  exact⟨yj.nil _ _ _ _,by simp[zu],zk.refl _ _⟩
 refine zm (Sr ?_)
 refine Oq (zz zye U (vs:=[]) U (css:=[]) trivial U U (cs:=[]) U U ?_)
 intro b5 w5 e5 n5 c5 k5
 refine Om U ?_
 refine Oq (zco zye zaA U U (zA.of_blk (n:=0) k5 (by simp) (by simp[maxLen]) (by simp)) (Rd.chg0 h c5) (by simp only[maxLen];omega) (by omega) U ?_)
 intro v7 w7 i7 c7 o7 z7
 refine Oa U (E1 2 U (zj ?_))
 refine zw U U ?_
 refine⟨by unfold yj;simpa using i7,?_,c5.own c7 (by simp[zu,←e5])⟩
 rcases o7 with o7|⟨b,o7,hb⟩
 ·rw[o7];simp[zu,←e5]
 rw[o7];intro x hx;simp at hx;subst hx;have:=c5.size;omega
theorem zz8(u v:Va)(ls ms:List (List Int))(w:Wl)(hu:zcc w u ls)(hv:zcc w v ms)(hn:ls.length≤1048576)(hn':ms.length≤1048576)(h1:∀l∈ls,l.length≤1048576)(h2:∀l∈ms,l.length≤1048576) :
 zT TP 181 #[u,v,.func (.func 116) #[] #[]] w fun r w'=>r=.bool (decide (ls=ms))∧zk [] w w':=by
 obtain⟨pu,cu,rfl,hcu⟩:=zca.val hu
 obtain⟨pv,cv,rfl,hcv⟩:=zca.val hv
 refine A3 Tryz.func181 U U ?_
 refine Sr (Oa U (E3 0 1 2 U (zf (zf ?_))))
 by_cases he:ls.length=ms.length
 ·refine za (Om U (On za6 U (Om U (On za6 U ?_))))
  refine Og (vf (zJ U U) (zcz (by omega))) U ?_
  refine E4 0 1 2 14 U (zb U (zm (zf (Sr (Om U (On za6 U (Om U (E5 1 2 15 16 17 U (zp ?_)))))))))
  refine zR [1,2,15,16,17] (fun n F wx=>∃j:Nat,n=ls.length-j∧j≤ls.length∧F=[(1,.slice pv ms.length cv),(2,.func (.func 116) #[] #[]),(15,.slice pu ls.length cu),(16,Ii ls.length),(17,Ii j)]∧ls.take j=ms.take j∧zk [] w wx) (m:=ls.length-0) ⟨0,rfl,Nat.zero_le _,rfl,by simp,zk.refl _ _⟩ ?_
  rintro n F wx⟨j,rfl,hj,rfl,heq,hcx⟩
  refine Sr (Og (zy U U) U (E6 1 2 15 16 17 18 U (zf ?_)))
  refine zP U (fun hT=>?_) (fun hF=>?_)
  ·refine zm ?_
   have hlt:j<ls.length:=by have:=of_decide_eq_true hT;omega
   have hlt2:j<ms.length:=by omega
   have hx:ls[j]? = some ls[j]:=by simp[hlt]
   have hy:ms[j]? = some ms[j]:=by simp[hlt2]
   generalize ls[j]=x at hx
   generalize ms[j]=y at hy
   obtain⟨b,off,cap,ux,hve,hc1,hux⟩:=zca.at (hu.chg0 hcx) hx
   cases hve
   obtain⟨b',off',cap',uy,hve,hc2,huy⟩:=zca.at (hv.chg0 hcx) hy
   cases hve
   refine zf (zp (Sr (Om U ?_)))
   refine Og (zi za6 zg0 U U _ U hlt) U ?_
   refine Ol zb9 U hc1 (Oa U (Oa U (E7 1 2 7 8 15 16 17 U (Sr (Om U (Om U ?_))))))
   refine Og (zi za6 zg0 U U _ U hlt2) U ?_
   refine Ol zb9 U hc2 (Oa U (E7 1 2 8 9 15 16 17 U (Sr (Om U (Om U (Om U ?_))))))
   refine Oc zs5 U U U (zoJ ux uy x y _ hux huy (h1 x (List.mem_of_getElem? hx)) (h2 y (List.mem_of_getElem? hy))) ?_
   rintro v29 w29⟨rfl,c29⟩
   refine Og (zC U) U (E6 1 2 15 16 17 30 U ?_)
   refine zP U (fun hT=>?_) (fun hF=>?_)
   ·have hne:x≠y:=by simpa using hT
    refine Sr (Oa U (E1 6 U (zj ?_)))
    repeat first|refine tr ?_|refine br ?_
    refine zw U U ?_
    refine⟨?_,hcx.trans c29⟩
    have:ls≠ms:=by
     rintro rfl
     rw[hx]at hy
     exact hne (Option.some.inj hy)
    rw[df this]
   have hxy:x=y:=by simpa using hF
   refine zU (zl (za ?_))
   refine Og (zG U U (by omega)) U ?_
   refine Om U (N5 1 2 15 16 17 U ?_)
   refine⟨ls.length-(j+1),by omega,j+1,rfl,by omega,rfl,?_,hcx.trans c29⟩
   rw[List.take_add_one,List.take_add_one,hx,hy,heq,hxy]
  refine zH ?_
  repeat first|refine te ?_|refine bo rfl ?_
  refine zq _ ?_
  have hge:ls.length≤j:=by have:=of_decide_eq_false hF;omega
  refine Sr (Oa U (E1 6 U (zj ?_)))
  repeat first|refine tr ?_|refine br ?_
  refine zw U U ?_
  rw[Tl hge,Tl (by omega)]at heq
  exact⟨by rw[dt heq],hcx⟩
 refine za (Om U (On za6 U (Om U (On za6 U ?_))))
 refine Og (vt (zJ U U) (zfC (by omega))) U ?_
 refine E4 0 1 2 14 U (ze U (Sr (Oa U (E1 6 U (zj ?_)))))
 repeat first|refine tr ?_|refine br ?_
 refine zw U U ?_
 have:ls≠ms:=fun h=>he (by rw[h])
 exact⟨by rw[df this],zk.refl _ _⟩
theorem zuO(u v:Va)(ls ms:List (List Int))(w:Wl)(hu:zcc w u ls)(hv:zcc w v ms)(hn:ls.length≤1048576)(hn':ms.length≤1048576)(h1:∀l∈ls,l.length≤1048576)(h2:∀l∈ms,l.length≤1048576) :
 zT TP 117 #[u,v,.func (.func 116) #[] #[]] w fun r w'=>r=.bool (decide (ls=ms))∧zk [] w w':=by
 refine A3 Tryz.func117 U U ?_
 refine Sr (Oa U (E3 0 1 2 U (Sr (Om U (Om U (Om U ?_))))))
 refine Oc zAm U U U (zz8 u v ls ms _ hu hv hn hn' h1 h2) ?_
 rintro v10 w10⟨rfl,c10⟩
 refine Oa U (E1 6 U (zj ?_))
 refine zw U U ?_
 exact⟨U,c10⟩
theorem zlv(a b c a' b' c':Va)(s t:yL)(w:Wl)(hs:zaa w a b c s)(ht:zaa w a' b' c' t)(ms:s.Sm)(mt:t.Sm) :
 zT TP 69 #[.agg #[a,b,c],.agg #[a',b',c']] w fun r w'=>r=.bool (decide (s=t))∧zk [] w w':=by
 have hdec:decide (s=t)=(decide (s.cols=t.cols) && decide (s.key=t.key) && decide (s.uq=t.uq)):=by
  obtain⟨x,y,z⟩:=s
  obtain⟨x',y',z'⟩:=t
  rw[Bool.eq_iff_iff]
  simp[and_assoc]
 rw[hdec]
 refine A2 Tryz.func69 U U ?_
 refine Sr ?_
 refine Ob U U ?_
 intro b2 w2 e2 n2 c2 k2
 refine Ob U U ?_
 intro b3 w3 e3 n3 c3 k3
 refine Oa U (E2 2 3 U ?_)
 have hk2:=k2.chg0 c3
 have hc3:zk [] w w3:=c2.trans c3
 have hs3:=hs.chg0 hc3
 have ht3:=ht.chg0 hc3
 refine zf ?_
 by_cases h1:s.cols=t.cols
 ·by_cases h2:s.key=t.key
  ·refine za (Od yn U (Ol za2 U (hk2.cell' U) (Od yn U (Ol za2 U (k3.cell' U) ?_))))
   refine Oc zsP U U U (zlC _ _ _ _ _ hs3.cols ht3.cols ms.cols mt.cols) ?_
   rintro v9 w9⟨h9,c9⟩
   rw[dt h1]at h9
   subst h9
   refine Om U (Oy U U (zd zbi U) (Oy U U (zg zb9 U ((hk2.chg0 c9).cell' U)) (Oy U U (zd zbi U) (Oy U U (zg zb9 U ((k3.chg0 c9).cell' U)) ?_))))
   refine Ow U U zs5 U U U (zoJ _ _ _ _ _ (zN.chg0 hs3.key c9) (zN.chg0 ht3.key c9) ms.key mt.key) ?_
   rintro v15 w15⟨h15,c15⟩
   rw[dt h2]at h15
   subst h15
   refine Ot U (Om U (Oy U U (zd zaq U) ?_))
   refine Oy U U (zg zcD U ((hk2.chg0 (c9.trans c15)).cell' U)) ?_
   refine Oy U U (zd zaq U) ?_
   refine Oy U U (zg zcD U ((k3.chg0 (c9.trans c15)).cell' U)) ?_
   refine Ow U U zAJ U U U (zuO _ _ _ _ _ (hs3.uq.chg0 (c9.trans c15)) (ht3.uq.chg0 (c9.trans c15)) ms.uq mt.uq ms.each mt.each) ?_
   rintro v22 w22⟨rfl,c22⟩
   refine Ot U (Oa U (E1 4 U (zj ?_)))
   refine zw U U ?_
   exact⟨by simp[h1,h2],((hc3.trans c9).trans c15).trans c22⟩
  refine za (Od yn U (Ol za2 U (hk2.cell' U) (Od yn U (Ol za2 U (k3.cell' U) ?_))))
  refine Oc zsP U U U (zlC _ _ _ _ _ hs3.cols ht3.cols ms.cols mt.cols) ?_
  rintro v9 w9⟨h9,c9⟩
  rw[dt h1]at h9
  subst h9
  refine Om U (Oy U U (zd zbi U) (Oy U U (zg zb9 U ((hk2.chg0 c9).cell' U)) (Oy U U (zd zbi U) (Oy U U (zg zb9 U ((k3.chg0 c9).cell' U)) ?_))))
  refine Ow U U zs5 U U U (zoJ _ _ _ _ _ (zN.chg0 hs3.key c9) (zN.chg0 ht3.key c9) ms.key mt.key) ?_
  rintro v15 w15⟨h15,c15⟩
  rw[df h2]at h15
  subst h15
  refine Ot U (Om U (Oz U U (Oz U U (Oz U U (Oz U U (Oz U U (Of U (Oa U (E1 4 U (zj ?_))))))))))
  refine zw U U ?_
  exact⟨by simp[h2],(hc3.trans c9).trans c15⟩
 refine za (Od yn U (Ol za2 U (hk2.cell' U) (Od yn U (Ol za2 U (k3.cell' U) ?_))))
 refine Oc zsP U U U (zlC _ _ _ _ _ hs3.cols ht3.cols ms.cols mt.cols) ?_
 rintro v9 w9⟨h9,c9⟩
 rw[df h1]at h9
 subst h9
 refine Om U (Oz U U (Oz U U (Oz U U (Oz U U (Oz U U (Of U (Om U (Oz U U (Oz U U (Oz U U (Oz U U (Oz U U (Of U (Oa U (E1 4 U ?_)))))))))))))))
 refine zj ?_
 refine zw U U ?_
 exact⟨by simp[h1],hc3.trans c9⟩
def zdD(w:Wl)(v:Va)(l:List UInt8):Prop:=zA w 5 1 v l.length (bv l)
theorem zqd{n:Nat}(h:n<9223372036854775808):n ^^^ 9223372036854775808=n+9223372036854775808:=by
 have e:(9223372036854775808:Nat)=2 ^ 63:=by decide
 rw[e] at *
 apply Nat.eq_of_testBit_eq
 intro j
 rw[Nat.testBit_xor,Nat.testBit_two_pow,Nat.add_comm]
 rcases Nat.lt_trichotomy j 63 with hj|hj|hj
 ·rw[Nat.testBit_two_pow_add_gt hj,df (by omega),Bool.xor_false]
 ·subst hj
  rw[Nat.testBit_two_pow_add_eq,dt rfl,Bool.xor_true]
 have p1:(2:Nat) ^ 64≤2 ^ j:=Nat.pow_le_pow_right (by decide) hj
 have h1:(2 ^ 63+n).testBit j=false:=Nat.testBit_lt_two_pow (by simp only[Nat.reducePow]at h p1 ⊢;omega)
 have h2:n.testBit j=false:=Nat.testBit_lt_two_pow (by simp only[Nat.reducePow]at h p1 ⊢;omega)
 rw[h1,h2,df (by omega)]
 rfl
theorem zrz{n:Nat}(h:n<9223372036854775808):(n+9223372036854775808) ^^^ 9223372036854775808=n:=by
 rw[←zqd h,Nat.xor_assoc,Nat.xor_self,Nat.xor_zero]
theorem znR{i:Int}(h : -9223372036854775808≤i∧i≤9223372036854775807):(i % 18446744073709551616).toNat ^^^ 9223372036854775808=(i+9223372036854775808).toNat:=by
 rcases Int.lt_or_le i 0 with h0|h0
 ·have e:(i % 18446744073709551616).toNat=(i+9223372036854775808).toNat+9223372036854775808:=by omega
  rw[e,zrz (by omega)]
 have e:(i % 18446744073709551616).toNat=i.toNat:=by omega
 rw[e,zqd (by omega)]
 omega
theorem ztN(i:Int)(w:Wl)(h : -9223372036854775808≤i∧i≤9223372036854775807):zT TP 282 #[Ii i] w fun r w'=>r=.int .u64 ((i+9223372036854775808).toNat:Nat)∧w'=w:=by
 refine A1 Tryz.func282 U U ?_
 refine Sr (Oa U (E1 0 U (Sr (Om U ?_))))
 refine Og (yh zbz zeE U (show IntKind.u64.wrap i=(((i % 18446744073709551616).toNat:Nat):Int) by rw[zcT];omega)) U ?_
 refine Og (zmi (b:=9223372036854775808) U U (by omega) (by decide)) U ?_
 refine Oa U (E1 2 U (zj ?_))
 refine zw U U ?_
 exact⟨by rw[znR h],rfl⟩
def zgX(x:zX):List UInt8:=if x.k=1 then be (x.i+9223372036854775808).toNat 8 else if x.k=2 then zcM x.u else if x.k=3 then [UInt8.ofNat x.i.toNat] else if x.k=4 then zdW x.b.data.toList else []
theorem zqp(x:zX):zeu x=UInt8.ofNat x.k.toNat::zgX x:=rfl
def ztI:List (Int×Va):=[(0,zfw 278 279),(1,zfw 280 283),(2,zfw 286 287),(3,zfw 289 290),(4,zfw 291 292)]
theorem zvl(w:Wl):zT TP 202 #[] w fun r w'=>∃b,r=.map (some b)∧w.heap.size≤b∧yf (zaK .i64) w' b ztI∧zk [] w w':=by
 refine zT.of_W (args:=[]) Tryz.func202 U U U U ?_
 refine Sr (Oa U (yB [] (F':=[]) U (Sr ?_)))
 refine Oq (zbQ (zaK .i64) U ?_)
 intro b1 w1 e1 n1 c1 k1
 refine Og (zK zmv zkK U (vs:=[_,_]) U (css:=[_,_]) ⟨U,U,trivial⟩ U U (cs:=[_,_]) U) U ?_
 refine Oq (yQ (κ:=zaK .i64) zlq (z0 zaS) U U U k1 ?_)
 intro wA nA cA kA
 refine Og (zK zmv zkK U (vs:=[_,_]) U (css:=[_,_]) ⟨U,U,trivial⟩ U U (cs:=[_,_]) U) U ?_
 refine Oq (yQ (κ:=zaK .i64) zlq (z0 zaS) U U U kA ?_)
 intro wB nB cB kB
 refine Og (zK zmv zkK U (vs:=[_,_]) U (css:=[_,_]) ⟨U,U,trivial⟩ U U (cs:=[_,_]) U) U ?_
 refine Oq (yQ (κ:=zaK .i64) zlq (z0 zaS) U U U kB ?_)
 intro wC nC cC kC
 refine Og (zK zmv zkK U (vs:=[_,_]) U (css:=[_,_]) ⟨U,U,trivial⟩ U U (cs:=[_,_]) U) U ?_
 refine Oq (yQ (κ:=zaK .i64) zlq (z0 zaS) U U U kC ?_)
 intro wD nD cD kD
 refine Og (zK zmv zkK U (vs:=[_,_]) U (css:=[_,_]) ⟨U,U,trivial⟩ U U (cs:=[_,_]) U) U ?_
 refine Oq (yQ (κ:=zaK .i64) zlq (z0 zaS) U U U kD ?_)
 intro wE nE cE kE
 refine Om U (Oa U (E1 0 U (zj ?_)))
 refine zw U U ?_
 exact⟨b1,rfl,by omega,kE,c1.own (((((cA.transS cB).transS cC).transS cD).transS cE)) (by intro x hx;simp at hx;omega)⟩
theorem zyr(x:zX)(w:Wl):zT TP 278 #[x.v] w fun r w'=>zdD w' r []∧(∀b∈zu r,w.heap.size≤b)∧zk [] w w':=by
 refine A1 Tryz.func278 U U ?_
 refine Sr ?_
 refine Ob U U ?_
 intro b1 w1 e1 n1 c1 k1
 refine Oa U (yB [] (F':=[]) U (Sr (Oa U (E1 2 U (zj ?_)))))
 refine zw U U ?_
 exact⟨zA.nil _ _ _,by simp[zu],c1⟩
theorem zyJ(x:zX)(w:Wl)(hx:x.Rng):zT TP 280 #[x.v] w fun r w'=>zdD w' r (be (x.i+9223372036854775808).toNat 8)∧(∀b∈zu r,w.heap.size≤b)∧zk [] w w':=by
 have hi:=hx.i
 refine A1 Tryz.func280 U U ?_
 refine Sr ?_
 refine Ob U U ?_
 intro b1 w1 e1 n1 c1 k1
 refine Oa U (E1 1 U (Sr (Od yv U (Ol ag2 U (k1.cell' U) ?_))))
 refine Oc zAI U U U (ztN x.i _ hi) ?_
 rintro v8 w8⟨rfl,rfl⟩
 refine Oc zws U U U (zqe _ 8 _ (by omega) (by decide) (by simp only[Nat.reducePow];omega)) ?_
 rintro v9 w9⟨v9,rfl,i9,f9,c9⟩
 refine Om U (Oe U U (Oe U U (Oa U (Oa U (E1 3 U (Sr (Om U (Oa U (E1 2 U (zj ?_))))))))))
 refine zw U U ?_
 have hs:=c1.size
 exact⟨by unfold zdD;rw[zbK];exact i9,fun b hb=>Nat.le_trans hs (f9 b hb),c1.trans c9⟩
theorem zyL(x:zX)(w:Wl)(hx:x.Rng):zT TP 286 #[x.v] w fun r w'=>zdD w' r (zcM x.u)∧(∀b∈zu r,w.heap.size≤b)∧zk [] w w':=by
 refine A1 Tryz.func286 U U ?_
 refine Sr ?_
 refine Ob U U ?_
 intro b1 w1 e1 n1 c1 k1
 refine Oa U (E1 1 U (Sr (Od zaN U (Ol zbR U (k1.cell' U) ?_))))
 refine Oc zwY U U U (znu x.u _ hx.u) ?_
 rintro v5 w5⟨i5,f5,c5⟩
 refine Oa U (E1 2 U (zj ?_))
 refine zw U U ?_
 have hs:=c1.size
 exact⟨i5,fun b hb=>Nat.le_trans hs (f5 b hb),c1.trans c5⟩
theorem zy4(x:zX)(w:Wl)(hx:x.i=0∨x.i=1):zT TP 289 #[x.v] w fun r w'=>zdD w' r [UInt8.ofNat x.i.toNat]∧(∀b∈zu r,w.heap.size≤b)∧zk [] w w':=by
 refine A1 Tryz.func289 U U ?_
 refine Sr ?_
 refine Ob U U ?_
 intro b1 w1 e1 n1 c1 k1
 refine Oa U (E1 1 U (Sr (Od yv U (Ol ag2 U (k1.cell' U) ?_))))
 refine Og (yh zaT zeE U (show IntKind.u8.wrap x.i=(((UInt8.ofNat x.i.toNat).toNat:Nat):Int) by rcases hx with h|h<;>rw[h]<;>rfl)) U ?_
 refine Oq (zz zbc U (vs:=[_]) U (css:=[_]) ⟨U,trivial⟩ U U (cs:=[_]) U U ?_)
 intro b6 w6 e6 n6 c6 k6
 refine Oa U (E1 2 U (zj ?_))
 refine zw U U ?_
 have hs:=c1.size
 exact⟨zA.of_blk (n:=1) k6 U (by simp[maxLen]) (zcO _),by intro b hb;simp[zu]at hb;omega,c1.trans c6⟩
def chN(len j:Nat):Nat:=min 8 (len-8*j)
def chV(b len j:Nat):Va:=cut (some ⟨b,0,none⟩) (8*j) (8*j+chN len j) (8*j+chN len j) 1
theorem zu3(v:Va)(w:Wl):zT TP 329 #[v,Ii 8] w fun r w'=>∃b2 b3,r=.func (.func 351) #[] #[Pt b2,Pt b3]∧zO w' b2 224 v.cells.toList∧zO w' b3 3 [Ii 8]∧w.heap.size≤b2∧w.heap.size≤b3∧zk [] w w':=by
 refine A2 Tryz.func329 U U ?_
 refine Sr ?_
 refine Ob U U ?_
 intro b2 w2 e2 n2 c2 k2
 refine Ob U U ?_
 intro b3 w3 e3 n3 c3 k3
 refine Oa U (E2 2 3 U (zf (Sr (Ol ag3 U (k3.cell' U) ?_))))
 refine Og (vf (zy U U) (df (by omega))) U ?_
 refine E3 2 3 6 U (zb U (zm (Sr (Og (zai U U) U (Oa U (E1 4 U (zj ?_)))))))
 refine zw U U ?_
 have hs:=c2.size
 exact⟨b2,b3,rfl,k2.chg0 c3,k3,by omega,by omega,c2.trans c3⟩
theorem zBe(w:Wl)(b2 b3 b len cap:Nat)(S0:List Nat)(keep:TypeId→Bool)(h2:zO w b2 224 [.slice (some ⟨b,0,none⟩) len cap])(h3:zO w b3 3 [Ii 8])(hl:len≤cap)(hn:len≤1048576)(k2:b2∉S0)(k3:b3∉S0) :
 zqZ TP 351 #[Pt b2,Pt b3] (fun j:Nat => #[chV b len j]) S0 keep (fun j _=>8*j<len) (fun xs _=>xs=List.range ((len+7) / 8)) (fun _ _=>True) ((len+7) / 8) w:=by
 intro l J Jx W hcw hJ hJx hY h0
 have hab:∀{pre:List Nat} {W1 W2:Wl},zk [] W1 W2→J pre W1→J pre W2:=fun hc hj=>hJ _ _ _ none hj hc.grown0 (fun _ e=>by cases e)
 have f2:∀{W1:Wl},Kp S0 w.heap.size w W1→zO W1 b2 224 [.slice (some ⟨b,0,none⟩) len cap]:=fun hk=>(hk.2 b2 h2.lt k2).trans h2
 have f3:∀{W1:Wl},Kp S0 w.heap.size w W1→zO W1 b3 3 [Ii 8]:=fun hk=>(hk.2 b3 h3.lt k3).trans h3
 have hkw:Kp S0 w.heap.size w W:=⟨hcw.size,fun k hk _=>hcw.block k hk (by simp)⟩
 have hmono:∀{W1 W2:Wl},Kp S0 w.heap.size w W1→zk [] W1 W2→Kp S0 w.heap.size w W2:=fun hk hc=>⟨Nat.le_trans hk.1 hc.size,fun k hlt hn=>(hc.block k (Nat.lt_of_lt_of_le hlt hk.1) (by simp)).trans (hk.2 k hlt hn)⟩
 refine CallsIn.mono (R:=fun e W'=>∃u,e=.returned u∧(fun(_:Va) W'=>(∃xs,xs=List.range ((len+7) / 8)∧J xs W')∨(∃pre,True∧Jx pre W')) u W') ?_ (fun e W' ⟨u,he,h⟩=>⟨⟨u,he⟩,h⟩)
 refine CallsIn.of_WX (args:=[_,_,_]) Tryz.func351 U U U U (zhI ?_)
 refine Sr (Oa U (E4 0 1 2 4 U (zp ?_)))
 refine zR [0,1,2,4] (fun m F wx=>∃j:Nat,m=(len+7) / 8-j∧j≤(len+7) / 8∧F=[(0,.func (.yield l) #[] #[]),(1,Pt b2),(2,Pt b3),(4,Ii (8*j:Nat))]∧Kp S0 w.heap.size w wx∧J (List.range j) wx) (m:=(len+7) / 8-0) ⟨0,U,Nat.zero_le _,U,hkw,h0⟩ ?_
 rintro m F wx⟨j,rfl,hj,rfl,hkx,hJx0⟩
 refine zf (Sr (Om U (Ol zg7 U ((f2 hkx).cell' U) (On yY U (Og (zy U U) U (E5 0 1 2 4 9 U ?_))))))
 refine zP U (fun hT=>?_) (fun hF=>?_)
 ·refine zm ?_
  have hlt:8*j<len:=by have:=of_decide_eq_true hT;omega
  refine zf (zp (zf ?_))
  have hd:zk [] wx wx.drew:=zk.drew [] _
  refine zI (fun wz=>zk [] wx wz) mix (by kernel_rfl) hd ?_
  refine Tr (fun wz hz=>zg ag3 U ((f3 (hmono hkx hz)).cell' U)) U ?_
  refine Tr (fun wz hz=>zg zg7 U ((f2 (hmono hkx hz)).cell' U)) U ?_
  refine Tm U ?_
  refine Tp (fun _=>zba yY sz5 U U _ U (show 8*j≤len by omega)) U ?_
  refine Tp (fun _=>zV yY U) U (Tp (fun _=>zoG U U) U (Ta U (D5 0 1 2 4 5 U ?_)))
  have hmin:(if ((len-8*j:Nat):Int)<8 then ((len-8*j:Nat):Int) else 8)=((chN len j:Nat):Int):=by unfold chN;split<;>omega
  rw[hmin]
  have hkd:=hmono hkx hd
  have hch:8*j+chN len j≤len:=by unfold chN;omega
  have hch0:chN len j≤8:=by unfold chN;omega
  have hy:=hY (List.range j) j wx.drew (hab hd hJx0) hlt (by rw[List.length_range];omega)
  refine zf ?_
  refine ze1 ?_
  refine Xm U ?_
  refine yC (gn U) U (St.vl (zg zg7 U ((f2 hkd).cell' U)) U U ?_)
  refine Xm U (Xm U (Xm U ?_))
  refine yC (gn U) U (St.vl (yr (v':=Ii ((8*j+chN len j:Nat):Int)) (zG U U (by omega)) (by congr 1)) U U ?_)
  refine Xm U (Xm U ?_)
  refine yC (gn U) U (St.vl (yr (v':=Ii ((8*j+chN len j:Nat):Int)) (zG U U (by omega)) (by congr 1)) U U ?_)
  refine yC (gn U) U (St.vl (zfk yY sz5 U U U U _ _ _ U U U (by omega) (Nat.le_refl _) (by omega)) U U ?_)
  refine zgx (gn U) U U U hy ?_
  rintro v29 w29 hR29
  obtain⟨b29,rfl,hb29⟩:=yb hR29
  refine⟨_,U,?_⟩
  refine yC (gn U) U (St.vl (zC U) U U ?_)
  refine zdh [0,1,2,4,30] (F':=[(0,_),(1,_),(2,_),(4,_),(30,_)]) U ?_
  rcases hb29 with⟨rfl,hJ29,hk29⟩|⟨rfl,hJ29⟩
  ·refine zb U (zU (zl ?_))
   have hkf:Kp S0 w.heap.size w w29:=hkd.trans hk29.kp
   refine za (Om U (Ol ag3 U ((f3 hkf).cell' U) ?_))
   refine Og (yr (v':=Ii ((8*(j+1):Nat):Int)) (zG U U (by omega)) (by congr 1)) U ?_
   refine Oa U (N4 0 1 2 4 U ?_)
   refine⟨(len+7) / 8-(j+1),by omega,j+1,rfl,by omega,rfl,hkf,?_⟩
   rw[List.range_succ]
   exact hJ29
  refine ze U (zj ?_)
  repeat first|refine tr ?_|refine br ?_
  refine zuj U ?_
  exact .inr ⟨_,trivial,hJ29⟩
 refine zH ?_
 repeat first|refine te ?_|refine bo rfl ?_
 refine zq _ ?_
 refine zgD U ?_
 have he:j=(len+7) / 8:=by have:=of_decide_eq_false hF;omega
 subst he
 exact .inl ⟨_,U,hJx0⟩
def zgM(c:List UInt8)(left:Int):List UInt8:=c++List.replicate (8-c.length) 0++[if 0<left then 9 else UInt8.ofNat c.length]
def zf2(l:List UInt8)(st:List UInt8×Int)(x:Nat):List UInt8×Int:=
 (st.1++zgM ((l.drop (8*x)).take 8) (st.2-((l.drop (8*x)).take 8).length),st.2-((l.drop (8*x)).take 8).length)
def zeB(l:List UInt8)(pre:List Nat):List UInt8×Int:=pre.foldl (zf2 l) ([],(l.length:Int))
theorem zfr(l:List UInt8)(pre:List Nat)(x:Nat):zeB l (pre++[x])=zf2 l (zeB l pre) x:=by simp[zeB]
theorem zmC(l:List UInt8):∀(pre:List Nat) (n:Nat) (st:List UInt8×Int),(-(8*(n:Int))≤st.2∧st.2≤l.length∧st.1.length=9*n) →
 -(8*((n+pre.length:Nat):Int))≤(pre.foldl (zf2 l) st).2∧(pre.foldl (zf2 l) st).2≤l.length∧(pre.foldl (zf2 l) st).1.length=9*(n+pre.length)
 |[],n,st,h=>h
 |x::pre,n,st,h=>by
  have hc:((l.drop (8*x)).take 8).length≤8:=by rw[List.length_take];omega
  have:=zmC l pre (n+1) (zf2 l st x) (by
   simp only[zf2,zgM,List.length_append,List.length_replicate,List.length_cons,List.length_nil]
   omega)
  rw[List.foldl_cons,List.length_cons,show n+(pre.length+1)=n+1+pre.length by omega]
  exact this
theorem zny(l:List UInt8)(pre:List Nat) : -(8*(pre.length:Int))≤(zeB l pre).2∧(zeB l pre).2≤l.length∧(zeB l pre).1.length=9*pre.length:=by
 have:=zmC l pre 0 ([],(l.length:Int)) (by simp)
 rw[Nat.zero_add]at this
 exact this
theorem zoy(l:List UInt8):∀j:Nat,8*j<l.length→(zeB l (List.range j)).1++zdW (l.drop (8*j))=zdW l∧(zeB l (List.range j)).2=(l.length:Int)-8*j:=by
 intro j
 induction j with
 |zero=>intro _;simp[zeB]
 |succ j ih=>
  intro h
  obtain⟨h1,h2⟩:=ih (by omega)
  have hc:((l.drop (8*j)).take 8).length=8:=by rw[List.length_take,List.length_drop];omega
  rw[List.range_succ,zfr]
  simp only[zf2,zgM,hc,h2]
  refine⟨?_,by omega⟩
  rw[←h1,zfj (l:=l.drop (8*j)) (by rw[List.length_drop];omega),List.drop_drop,if_pos (by omega)]
  simp[Nat.mul_add]
theorem zlf{l:List UInt8}(h:l≠[]):(zeB l (List.range ((l.length+7) / 8))).1=zdW l:=by
 have hl:=List.length_pos_iff.2 h
 obtain⟨j,hj⟩:∃j,(l.length+7) / 8=j+1:=⟨(l.length+7) / 8-1,by omega⟩
 obtain⟨h1,h2⟩:=zoy l j (by omega)
 rw[hj,List.range_succ,zfr]
 have hc:(l.drop (8*j)).take 8=l.drop (8*j):=Tl (by rw[List.length_drop];omega)
 have hlen:(l.drop (8*j)).length=l.length-8*j:=List.length_drop
 simp only[zf2,hc,h2,zgM]
 rw[←h1,zd8 (l:=l.drop (8*j)) (by omega)]
 congr 1
 unfold zlR
 rw[if_neg (by omega)]
theorem zyp(x:zX)(w:Wl)(hx:x.b.size≤1048576):zT TP 291 #[x.v] w fun r w'=>zdD w' r (zdW x.b.data.toList)∧(∀b∈zu r,w.heap.size≤b)∧zk [] w w':=by
 have hsz:x.b.data.toList.length=x.b.size:=by simp
 refine zT.of_WM (args:=[_]) Tryz.func291 U U U U ?_
 refine Sr ?_
 refine Ob U U ?_
 intro b1 w1 e1 n1 c1 k1
 refine Oq (zF zzV U U ?_)
 intro b2 w2 e2 n2 c2 k2
 refine E2 1 2 U (Sr (Od zaB U (Ol yH U ((k1.chg0 c2).cell' U) (Og (yI st9 U) U ?_))))
 refine Oq (zF zr3 U U ?_)
 intro b3 w3 e3 n3 c3 k3
 refine Oq (zt sz3 U U U U k3 (by simp) (by intro u hu;simp at hu;subst hu;rfl) ?_)
 intro wA nA cA kA
 refine E3 1 2 3 U ?_
 have hcA:zk [] w wA:=((c1.trans c2).trans c3).own cA (by intro y hy;simp at hy;omega)
 have hk1:=((k1.chg0 c2).chg0 c3).chg cA (by simp;omega)
 have hk2:=(k2.chg0 c3).chg cA (by simp;omega)
 have hk3:zO wA b3 3 [Ii x.b.size]:=kA
 refine zQ (fun F wx=>∃(D:Nat) (f12:Va),F=[(1000000,Ii D),(2,Pt b2),(3,Pt b3),(12,f12)]∧w.heap.size≤D∧wx.heap[D]? = some (.deferred (some []))∧w.heap.size≤b2∧∃u,zO wx b2 224 [u]∧zdD wx u (if x.b.size=0 then [] else zdW x.b.data.toList)∧(∀b∈zu u,w.heap.size≤b)∧zk [] w wx) ?_ ?_
 ·refine Sr (Od zaB U (Ol yH U (hk1.cell' U) ?_))
  refine Oq (znv st9 yY zaT U (by simp only[maxLen];omega) U ?_)
  intro b11 q11 w11 e11 c11 g11 i11
  refine Oc zCB U U U (zu3 _ _) ?_
  rintro v12 w12⟨p2,p3,rfl,kp2,kp3,hp2,hp3,c12⟩
  refine E3 2 3 12 U ?_
  have kp2:zO w12 p2 224 [.slice (some ⟨b11,0,none⟩) x.b.size q11]:=kp2
  have hk2:=(hk2.chg0 c11).chg0 c12
  have hk3:=(hk3.chg0 c11).chg0 c12
  have hby:=i11.chg0 c12
  have hc12:zk [] w w12:=(hcA.trans c11).trans c12
  have hs11:=c11.size
  have hs12:=c12.size
  have hsA:=cA.size
  refine zp ?_
  generalize hl:x.b.data.toList=l at *
  refine zj7 (α:=Nat) (gf:=351) (lb:=[Pt p2,Pt p3]) (encs:=fun j:Nat => #[chV b11 x.b.size j]) (S0:=[b2,b3]) (keep:=fun _=>false) (N:=(x.b.size+7) / 8)
   (fun pre W=>∃u,zO W b2 224 [u]∧zdD W u (zeB l pre).1∧zO W b3 3 [Ii (zeB l pre).2]∧(∀b∈zu u,w12.heap.size≤b)∧zk [b2,b3] w12 W∧w12.heap.size≤W.heap.size)
   (fun _ _ _=>False)
   (fun j=>[(13,chV b11 x.b.size j),(2,Pt b2),(3,Pt b3),(12,.func (.func 351) #[] #[Pt p2,Pt p3])])
   (fun j=>[(2,Pt b2),(3,Pt b3),(4,chV b11 x.b.size j),(13,chV b11 x.b.size j)])
   rfl zzJ (zBe w12 p2 p3 b11 x.b.size q11 [b2,b3] _ kp2 kp3 g11 hx ?_ ?_) (fun _=>rfl) (fun _ _ _ _ h=>h) (fun _ _ _ _ h=>h) (fun _ _ _ _ h=>h) ?_ (fun _ _ _ _ _ h=>h.elim) ?_ (fun _ _ h=>h.choose_spec.2.2.2.2.2) ?_ ?_ ?_ ?_ (fun _ _ _ _ _ _ h=>h.elim)
  ·simp;omega
  ·simp;omega
  ·rintro pre W W' hk ⟨u,h1,h2,h3,h4,h5,h6⟩
   exact⟨u,h1.bk hk,zA.bk h2 hk,h3.bk hk,h4,h5.bk (Nat.le_refl _) hk,by obtain⟨T,_,hc⟩:=hk;exact Nat.le_trans h6 hc.size⟩
  ·exact⟨_,hk2,zA.nil _ _ _,by simpa[zeB,hsz] using hk3,by simp[zu],zk.refl _ _,Nat.le_refl _⟩
  ·intro j a ha
   exact ha.vars1 U U
  ·intro l' j W
   refine zam ?_
   refine yC (gn U) U (St.vl (yg U) U U ?_)
   refine zfW [2,3,4,13] (F':=[(2,_),(3,_),(4,_),(13,_)]) U ?_
   exact⟨U,U,U⟩
  ·rintro l' pre j W ⟨u,hb2,hu,hb3,hfu,hcW,hsW⟩ hlt hlen
   have hsl:l.length=x.b.size:=hsz
   have hch:8*j+chN x.b.size j≤x.b.size:=by unfold chN;omega
   have hch8:chN x.b.size j≤8:=by unfold chN;omega
   have hchv:∃pj cj,chV b11 x.b.size j=.slice pj (chN x.b.size j) cj:=⟨_,_,by unfold chV;rw[show cut (some ⟨b11,0,none⟩) (8*j) (8*j+chN x.b.size j) (8*j+chN x.b.size j) 1=.slice _ (8*j+chN x.b.size j-8*j) (8*j+chN x.b.size j-8*j) from rfl,Nat.add_sub_cancel_left]⟩
   have hbyW:=hby.chg hcW (by intro b hb hm;simp[zu]at hb;subst hb;simp at hm;omega)
   have hcut:zbf W 5 1 (chV b11 x.b.size j) (chN x.b.size j) (bv ((l.drop (8*j)).take (chN x.b.size j))):=by
    have:=hbyW.cut (l:=8*j) (h:=8*j+chN x.b.size j) (m:=8*j+chN x.b.size j) (by omega) (Nat.le_refl _) (by omega) hch
    rw[Nat.add_sub_cancel_left]at this
    unfold chV
    simpa[bv,List.map_drop,List.map_take] using this
   have hcl:((l.drop (8*j)).take 8).length=chN x.b.size j:=by rw[List.length_take,List.length_drop,hsl];unfold chN;omega
   have hct:(l.drop (8*j)).take (chN x.b.size j)=(l.drop (8*j)).take 8:=by
    rcases Nat.lt_or_ge (x.b.size-8*j) 8 with h8|h8
    ·rw[show chN x.b.size j=x.b.size-8*j by unfold chN;omega,Tl (by rw[List.length_drop];omega),Tl (by rw[List.length_drop];omega)]
    rw[show chN x.b.size j=8 by unfold chN;omega]
   rw[hct]at hcut
   obtain⟨hg1,hg2,hg3⟩:=zny l pre
   generalize hc8:(l.drop (8*j)).take 8=c at *
   generalize hn:chN x.b.size j=n at *
   obtain⟨pj,cj,hchv⟩:=hchv
   rw[hchv]at hcut ⊢
   generalize hgl:(zeB l pre).2=left at *
   refine zgl ?_
   refine zd5 ?_
   refine zam ?_
   refine yC (gn U) U (zF zzW U U ?_)
   intro b5 w5 e5 n5 c5 k5
   refine zdh [2,3,4,5,13] (F':=[(2,_),(3,_),(4,_),(5,_),(13,_)]) U ?_
   have hs5:=c5.size
   refine zd5 ?_
   refine zam ?_
   refine yC (gn U) U (St.vl (zqt zpf sz5 U) U U ?_)
   refine Xm U ?_
   refine yC (gn U) U (zsu yY sz5 U U (hcut.chg0 c5) k5 (show min n 9=n by omega) (by simp;omega) U ?_)
   intro w16 n16 c16 k16
   refine zdh [2,3,4,5,13] (F':=[(2,_),(3,_),(4,_),(5,_),(13,_)]) U ?_
   have hcn:c.length=n:=hcl
   have kc:zO w16 b5 426 (bv (c++List.replicate (8-n) 0++[0])):=by
    have e:=zeo [] (bv (List.replicate 9 0)) ((bv c).take (n*1))
    have e0:([Value.int .u8 0,.int .u8 0,.int .u8 0,.int .u8 0,.int .u8 0,.int .u8 0,.int .u8 0,.int .u8 0,.int .u8 0]:List Va)=bv (List.replicate 9 0):=rfl
    rw[e0]at k16
    simp only[List.nil_append,List.length_nil]at e
    rw[e]at k16
    rw[Nat.mul_one,Tl (by rw[zda];omega)]at k16
    have e2:(bv (List.replicate 9 (0:UInt8))).drop (bv c).length=bv (List.replicate (8-n) 0++[0]):=by
     rw[zda,hcn]
     unfold bv
     rw[←List.map_drop,List.drop_replicate,show 9-n=(8-n)+1 by omega,List.replicate_succ']
    rw[e2,←yD,←List.append_assoc]at k16
    exact k16
   have hc16:zk [] W w16:=c5.own c16 (by intro y hy;simp at hy;omega)
   have hb2':=hb2.chg0 hc16
   have hb3':=hb3.chg0 hc16
   have hb2lt:=hb2.lt
   have hb3lt:=hb3.lt
   refine zd5 ?_
   refine zam ?_
   refine yC (gn U) U (St.vl (zg ag3 U (hb3'.cell' U)) U U ?_)
   refine Xm U ?_
   refine yC (gn U) U (St.vl (zV yY U) U U ?_)
   refine yC (gn U) U (St.vl (yK U U (by omega)) U U ?_)
   refine yC (gn U) U (zt sz3 U U U U hb3' (by simp) (by intro u hu;simp at hu;subst hu;rfl) ?_)
   intro wL nL cL kL
   refine zdh [2,3,4,5,13] (F':=[(2,_),(3,_),(4,_),(5,_),(13,_)]) U ?_
   have kL:zO wL b3 3 [Ii (left-n)]:=kL
   have kcL:=kc.chg cL (by simp;omega)
   have hb2L:=hb2'.chg cL (by simp;omega)
   have lay8:∀(A:List UInt8) (a:UInt8) (v:Va),A.length=8→yU (bv (A++[a])) 8 [v]=bv A++[v]:=fun A a v hA=>by
    rw[yD]
    have:=zeo (bv A) (bv [a]) [v]
    rw[zda,hA]at this
    simpa[bv] using this
   have hA8:(c++List.replicate (8-n) 0).length=8:=by rw[List.length_append,List.length_replicate];omega
   refine zd5 ?_
   refine zam ?_
   refine Xm U ?_
   refine yC (gn U) U (St.vl (zV yY U) U U ?_)
   refine yC (gn U) U (St.vl (yh zaT zaw U (show IntKind.u8.wrap (n:Int)=(((UInt8.ofNat n).toNat:Nat):Int) by rw[zdH];simp)) U U ?_)
   refine yC (gn U) U (St.vl (zM zpf sz5 U U 8 U (by decide)) U U ?_)
   refine yC (gn U) U (zt sz5 U U U U kcL (by rw[zda,List.length_append,hA8];simp) (by intro u hu;simp at hu;subst hu;rfl) ?_)
   intro wM nM cM kM
   refine zdh [2,3,5,13] (F':=[(2,_),(3,_),(5,_),(13,_)]) U ?_
   have kM:zO wM b5 426 (bv (c++List.replicate (8-n) 0++[UInt8.ofNat n])):=by
    have e:=lay8 _ 0 (.int .u8 ((UInt8.ofNat n).toNat:Nat)) hA8
    rw[yD]
    show zO wM b5 426 (_++[.int .u8 ((UInt8.ofNat n).toNat:Nat)])
    rw[←e]
    exact kM
   have kLM:=kL.chg cM (by simp;omega)
   have hb2M:=hb2L.chg cM (by simp;omega)
   have hcM:zk [b3] W wM:=((hc16.any (S:=[b3])).transS cL).trans' cM (by intro y hy;simp at hy;subst hy;right;omega)
   refine zru (fun F wz=>F=[(2,Pt b2),(3,Pt b3),(5,Pt b5),(13,.slice pj n cj)]∧zO wz b5 426 (bv (zgM c (left-n)))∧zO wz b3 3 [Ii (left-n)]∧zO wz b2 224 [u]∧zk [b3] W wz) ?_ ?_
   ·refine zd5 ?_
    refine zam ?_
    refine yC (gn U) U (St.vl (zg ag3 U (kLM.cell' U)) U U ?_)
    refine yC (gn U) U (St.vl (zS U U) U U ?_)
    refine zdh [2,3,5,13,26] (F':=[(2,_),(3,_),(5,_),(13,_),(26,_)]) U ?_
    refine zxG U (fun hT=>?_) (fun hF=>?_)
    ·have hpos:0<left-n:=of_decide_eq_true hT
     refine zam ?_
     refine yC (gn U) U (St.vl (zM zpf sz5 U U 8 U (by decide)) U U ?_)
     refine yC (gn U) U (zt sz5 U U U U kM (by rw[zda,List.length_append,hA8];simp) (by intro u hu;simp at hu;subst hu;rfl) ?_)
     intro wN nN cN kN
     refine zdh [2,3,5,13] (F':=[(2,_),(3,_),(5,_),(13,_)]) U ?_
     refine⟨rfl,?_,kLM.chg cN (by simp;omega),hb2M.chg cN (by simp;omega),hcM.trans' cN (by intro y hy;simp at hy;subst hy;right;omega)⟩
     have e:=lay8 (c++List.replicate (8-n) 0) (UInt8.ofNat n) (.int .u8 9) hA8
     unfold zgM
     rw[hcn,if_pos hpos,yD]
     show zO wN b5 426 (_++[.int .u8 9])
     rw[←e]
     exact kN
    have hpos:¬ 0<left-n:=of_decide_eq_false hF
    refine zvX [2,3,5,13] U ?_
    refine zvo ?_
    refine⟨U,?_,kLM,hb2M,hcM⟩
    unfold zgM
    rw[hcn,if_neg hpos]
    exact kM
   rintro F wY⟨rfl,kG,hl3,hu2,hcz⟩
   have hcB:zk [b2,b3] w12 wY:=hcW.transS (hcz.weak (by simp))
   have hsz2:=hcz.size
   have huz:=zA.chg hu hcz (zA.apart hu hb3 rfl)
   have hlg:(zgM c (left-n)).length=9:=by unfold zgM;rw[List.length_append,List.length_append,List.length_replicate];simp;omega
   have hrd:zbf wY 426 1 (.slice (some ⟨b5,0,none⟩) 9 9) 9 (bv (zgM c (left-n))):=by
    have:=zbf.of_blk kG (by rw[zda,hlg];simp[maxLen]) (zcO _)
    rwa [zda,hlg]at this
   have hd:zk [] wY wY.drew:=zk.drew [] _
   have hub:∀y∈zu u,y≠b2:=fun y hy he=>by subst he;have:=hfu _ hy;omega
   refine zoc (fun wz=>zk [] wY wz) mix (by kernel_rfl) hd ?_
   refine Tr (fun wz hz=>zg zg7 U ((hu2.chg0 hz).cell' U)) U (Tp (fun _=>zqt zpf sz5 U) U ?_)
   refine zaQ U (gn U) (zox zbc yY U U (zA.chg0 huz hd) (hrd.chg0 hd) (by rw[hg3];simp only[maxLen];omega) (by rw[hg3];omega) U ?_)
   intro v30 w30 i30 c30 o30 z30
   obtain⟨p30,q30,rfl,_⟩:=id (zA.val i30)
   refine⟨.inr (by kernel_rfl),?_⟩
   refine zaQ U (gn U) (zt ztJ U U U U (hu2.chg (hd.any.transS c30) (fun hm=>hub b2 hm U)) (by simp) (by intro y hy;simp at hy;subst hy;rfl) ?_)
   intro wO nO cO kO
   refine⟨.inr (by kernel_rfl),?_⟩
   refine zdY [2,3,13] (F':=[(2,_),(3,_),(13,_)]) U ?_
   have kO:zO wO b2 224 [_]:=kO
   have hcu:zk (zu u) wY w30:=hd.any.transS c30
   have hl3O:=(hl3.chg hcu (fun hm=>by have:=hfu _ hm;omega)).chg cO (by simp;omega)
   have hsz3:=hcu.size
   have hcut2:∀y∈zu u,∃e c,zO W y e c:=fun y hy=>by
    rcases hu with⟨rfl,_,_⟩|⟨b,off,cap,cc,rfl,hs⟩
    ·simp[zu]at hy
    simp[zu]at hy;subst hy;exact⟨_,_,hs.blk⟩
   have hall:zk (b2::b3::zu u) W wO:=by
    refine((hcz.weak (S2:=b2::b3::zu u) (by simp)).transS (hcu.weak (fun k hk=>by simp[hk]))).transS (cO.weak (by simp))
   refine⟨KeepsFrom.chg hall ?_,Kr.chg hall (by omega) ?_,_,kO,?_,?_,yq o30 hfu (by show w12.heap.size≤wY.heap.size;omega),?_,by have:=hall.size;omega⟩
   ·intro y hy
    simp at hy
    rcases hy with rfl|rfl|hy
    ·exact⟨_,_,hb2⟩
    ·exact⟨_,_,hb3⟩
    exact hcut2 y hy
   ·intro y hy
    simp at hy
    rcases hy with rfl|rfl|hy
    ·exact⟨.inl (by simp),_,_,hb2,rfl⟩
    ·exact⟨.inl (by simp),_,_,hb3,rfl⟩
    obtain⟨e,c,hbb⟩:=hcut2 y hy
    exact⟨.inr (hfu y hy),e,c,hbb,U⟩
   ·have h30:=zA.chg i30 cO (zA.apart i30 (hu2.chg hcu (fun hm=>hub b2 hm rfl)) rfl)
    rw[zfr,zf2,hc8,hgl,hcn]
    unfold zdD
    rw[yD,List.length_append,hlg]
    exact h30
   ·rw[zfr,zf2,hc8,hgl,hcn]
    exact hl3O
   exact hcW.trans' hall (by
    intro y hy
    simp at hy
    rcases hy with rfl|rfl|hy
    ·simp
    ·simp
    exact .inr (hfu y hy))
  rintro D xs W hD rfl⟨u,hb2,hu,hb3,hfu,hcW,hsW⟩ hdf
  refine zl ?_
  refine⟨D,_,rfl,by omega,hdf,by omega,u,hb2,?_,fun b hb=>by have:=hfu b hb;omega,(hc12.trans' hcW (by intro y hy;simp at hy;right;omega))⟩
  split
  ·rename_i h0
   have hl0:l=[]:=List.length_eq_zero_iff.1 (by omega)
   subst hl0
   rw[h0]at hu
   exact hu
  rename_i h0
  rw[←hsz,zlf (fun e=>h0 (by rw[←hsz,e];rfl))]at hu
  exact hu
 rintro F wx⟨D,f12,rfl,hD,hdf,hb2n,u,hb2,hu,hfu,hcx⟩
 have hDb:D≠b2:=by rintro rfl;rw[show wx.heap[D]? = _ from hb2]at hdf;cases hdf
 have hDl:=(Array.getElem?_eq_some_iff.1 hdf).1
 refine zf (zf ?_)
 by_cases h0:x.b.size=0
 ·rw[if_pos h0]at hu
  obtain⟨pu,cu,rfl,_⟩:=id (zA.val hu)
  refine za (Ol zg7 U (hb2.cell' U) (On yY U (Og (vt (zv U U) U) U (yB [2,33] (F':=[(2,_),(33,_),(1000000,_)]) U (ze U (Sr ?_))))))
  refine Oq (zrb (l:=9) (m:=9) zbc U U (by omega) (by omega) (by omega) (by unfold maxLen;omega) (by omega) U ?_)
  intro b34 w34 e34 n34 c34 k34
  refine Oq (zt ztJ U U U U (hb2.chg0 c34) (by simp) (by intro y hy;simp at hy;subst hy;rfl) ?_)
  intro wA nA cA kA
  refine yB [2] (F':=[(2,_),(1000000,_)]) U (zj ?_)
  repeat first|refine tr ?_|refine br ?_
  refine zpC (v:=.slice (some ⟨b34,0,none⟩) 9 9) (D:=D) U zg7 U U ((cA.block D (by omega) (by simpa using hDb)).trans ((c34.block D hDl (by simp)).trans hdf)) ?_
  intro w' hw'
  have kA:zO wA b2 224 [.slice (some ⟨b34,0,none⟩) 9 9]:=kA
  have hb34:b34∉[D]:=by simp;omega
  have k34':=(k34.chg cA (by simp;have:=hb2.lt;omega)).chg hw' hb34
  refine⟨(kA.chg hw' (by simpa using fun h=>hDb h.symm)).cell' U,?_,?_,?_⟩
  ·have hl0:x.b.data.toList=[]:=List.length_eq_zero_iff.1 (by omega)
   rw[hl0]
   have e9:(madeCells (Value.int IntKind.u8 0).cells (9*1)).toList=bv (zdW []):=(ztc rfl 9).trans rfl
   rw[e9]at k34'
   exact zA.of_blk (n:=9) k34' U (by simp[maxLen]) (zcO (zdW []))
  ·intro b hb
   have:=hcx.size
   simp[zu]at hb
   omega
  exact(((hcx.trans c34).own cA (by intro y hy;simp at hy;omega))).own hw' (by intro y hy;simp at hy;omega)
 rw[if_neg h0]at hu
 have hne:(zdW x.b.data.toList).length≠0:=by
  intro h
  rw[←zlf (fun e=>h0 (by rw[←hsz,e];rfl)),(zny _ _).2.2,List.length_range]at h
  omega
 obtain⟨pu,cu,rfl,_⟩:=id (zA.val hu)
 refine za (Ol zg7 U (hb2.cell' U) (On yY U ?_))
 refine Og (vf (zv U U) (df (by omega))) U ?_
 refine yB [2,33] (F':=[(2,_),(33,_),(1000000,_)]) U (zb U ?_)
 refine zaj [2] U ?_
 refine zm (Sr (Ol zg7 U (hb2.cell' U) ?_))
 refine Oq (zt ztJ U U U U hb2 (by simp) (by intro y hy;simp at hy;subst hy;rfl) ?_)
 intro wA nA cA kA
 refine yB [2] (F':=[(2,_),(1000000,_)]) U (zj ?_)
 repeat first|refine tr ?_|refine br ?_
 refine zpC (v:=.slice pu (zdW x.b.data.toList).length cu) (D:=D) U zg7 U U ((cA.block D (by omega) (by simpa using hDb)).trans hdf) ?_
 intro w' hw'
 have kA:zO wA b2 224 [.slice pu (zdW x.b.data.toList).length cu]:=kA
 have huD:∀b∈zu (.slice pu (zdW x.b.data.toList).length cu),b∉[D]:=fun b hb hm=>by
  rcases hu with⟨he,_,_⟩|⟨b',off,cap,cc,he,hs⟩
  ·rw[he]at hb;simp[zu]at hb
  rw[he]at hb
  simp[zu]at hb hm
  subst hb hm
  rw[show wx.heap[b]? = _ from hs.blk]at hdf
  cases hdf
 refine⟨(kA.chg hw' (by simpa using fun h=>hDb h.symm)).cell' U,?_,hfu,?_⟩
 ·exact zA.chg (zA.chg hu cA (zA.apart hu hb2 U)) hw' huD
 exact((hcx.own cA (by intro y hy;simp at hy;omega))).own hw' (by intro y hy;simp at hy;omega)
theorem znr{x:zX}(h:zaY x=0)(hx:x.Rng):∃f g,zbh ztI x.k=some (zfw f g)∧zn TP f=true∧∀w,zT TP f #[x.v] w fun r w'=>zdD w' r (zgX x)∧(∀b∈zu r,w.heap.size≤b)∧zk [] w w':=by
 obtain⟨hf,hb⟩:=zeJ h
 obtain⟨hk,hbr,hm⟩:=zcs hf
 obtain⟨k,i,u,b⟩:=x
 rcases (show k=0∨k=1∨k=2∨k=3∨k=4 by simp at hk;omega) with rfl|rfl|rfl|rfl|rfl
 ·exact⟨_,_,U,zA7,fun w=>zyr _ w⟩
 ·exact⟨_,_,U,zCj,fun w=>zyJ _ w hx⟩
 ·exact⟨_,_,U,zAj,fun w=>zyL _ w hx⟩
 ·exact⟨_,_,U,zAK,fun w=>zy4 _ w (hm U)⟩
 exact⟨_,_,rfl,zBi,fun w=>zyp _ w (by simp at hb ⊢;omega)⟩
theorem zqI(l:List zX)(x:zX):zdX (l++[x])=zdX l++([UInt8.ofNat x.k.toNat]++zgX x):=by simp[zdX,zqp]
theorem zm0:∀{l:List zX} {j:Nat} {x:zX},l[j]? = some x→zaY x≠0→(∀y∈l.take j,zaY y=0)→zj5 l=zaY x
 |[],_,_,h,_,_=>by simp at h
 |y::l,0,x,h,hx,_=>by simp at h;subst h;simp[zj5,hx]
 |y::l,j+1,x,h,hx,ha=>by
  unfold zj5
  rw[if_neg (by simp[ha y (by simp)])]
  exact zm0 (by simpa using h) hx (fun z hz=>ha z (by simp[hz]))
theorem zdD.push{w:Wl}{v:Va}{l m:List UInt8}{n:Nat}{xs:List Va}(h:zA w 5 1 v n xs)(hn:n=l.length+m.length)(hx:xs=bv l++bv m):zdD w v (l++m):=by
 subst hn hx
 unfold zdD
 rw[List.length_append,yD]
 exact h
theorem zuD{v v':Va}{w w0:Wl}(ho:zu v'=zu v∨∃b,zu v'=[b]∧w.heap.size≤b)(hs:w0.heap.size≤w.heap.size):∀y∈zu v',y∈zu v∨w0.heap.size≤y:=by
 intro y hy
 rcases ho with o|⟨b,o,hb⟩
 ·rw[o]at hy;exact .inl hy
 rw[o]at hy;simp at hy;subst hy;right;omega
theorem zuc(v:Va)(l:List zX)(w:Wl)(hl:yc w v l)(hg:∀x∈l,x.Rng)(hn:l.length≤8) :
 zT TP 146 #[v] w fun r w'=>r=.tuple #[.string (if zj5 l=0 then zcN l else e0),Ii (zj5 l)]∧zk [] w w':=by
 obtain⟨pv,cv,rfl,hcv⟩:=zN.val hl
 refine A1 Tryz.func146 U U ?_
 refine Sr (Oa U (Oa U (E1 0 U (Sr (Oa U (E2 0 4 U (zf (Sr (Om U (On yA U (Om U (E4 4 8 9 10 U ?_))))))))))))
 refine zp ?_
 refine zR [4,8,9,10] (fun m F wx=>∃(j:Nat) (u:Va),m=l.length-j∧j≤l.length∧F=[(4,u),(8,.slice pv l.length cv),(9,Ii l.length),(10,Ii j)]∧zdD wx u (zdX (l.take j))∧(∀b∈zu u,w.heap.size≤b)∧zk [] w wx∧(∀y∈l.take j,zaY y=0)) (m:=l.length-0) ⟨0,_,rfl,Nat.zero_le _,rfl,zA.nil _ _ _,by simp[zu],zk.refl _ _,by simp⟩ ?_
 rintro m F wx⟨j,u,rfl,hj,rfl,hu,hfu,hcx,hall⟩
 have hkl:=zha hall
 rw[List.length_take,Nat.min_eq_left hj]at hkl
 refine Sr (Og (zy U U) U (E5 4 8 9 10 11 U (zf ?_)))
 refine zP U (fun hT=>?_) (fun hF=>?_)
 ·refine zm ?_
  have hlt:j<l.length:=by have:=of_decide_eq_true hT;omega
  have hx:l[j]? = some l[j]:=by simp[hlt]
  generalize l[j]=x at hx
  have hxr:=hg x (List.mem_of_getElem? hx)
  obtain⟨b,off,cap,hv,hcell⟩:=zN.at zbn (zN.chg0 hl hcx) hx
  cases hv
  refine zf (zp (Sr ?_))
  refine Og (zi yA ym U U _ U hlt) U ?_
  refine Og (zh zaz ym U U hcell) U ?_
  refine Oq (zF zc2 U U ?_)
  intro b6 w6 e6 n6 c6 k6
  refine Oq (zt ym U U U U k6 (by simp[zX.cs]) (zX.one x) ?_)
  intro wA nA cA kA
  refine E5 4 6 8 9 10 U ?_
  have kA:zO wA b6 111 x.cs:=kA
  have hcA:zk [] wx wA:=c6.own cA (by intro y hy;simp at hy;omega)
  refine zf (Sr (Og (zh zaz ym U U (zx.of_blk0 kA)) U ?_))
  refine Oc zua U U U (zlN x _) ?_
  rintro v15 w15⟨rfl,c15⟩
  refine Oa U (E6 4 6 7 8 9 10 U ?_)
  have kB:=kA.chg0 c15
  have hcB:zk [] wx w15:=hcA.trans c15
  have huB:=zA.chg0 hu hcB
  refine zf ?_
  by_cases hc:zaY x=0
  ·refine za (Om U ?_)
   refine Og (vf (zJ U U) (by simp[hc])) U ?_
   refine E7 4 6 7 8 9 10 17 U (zb U (zm ?_))
   obtain⟨f,g,hgk,hbf,hlay⟩:=znr hc hxr
   have hfine:=(zcs (zeJ hc).1).1
   have hkT:(zgX x).length≤234:=by have:=zjO hc;rw[zqp]at this;simp at this;omega
   have hd:zk (zu u) w15 w15.drew:=zk.drew _ _
   have hbu:b6∉zu u:=fun hm=>zA.apart huB kB rfl b6 hm (by simp)
   refine zI (fun wz=>zk (zu u) w15 wz) mix (by kernel_rfl) hd ?_
   refine Tm U (Td zak U (Tr (fun wz hz=>zg zbI U ((kB.chg hz hbu).cell' U)) U ?_))
   refine Tp (fun _=>yh zaT zaS U (show IntKind.u8.wrap x.k=(((UInt8.ofNat x.k.toNat).toNat:Nat):Int) by rw[show x.k=((x.k.toNat:Nat):Int) by omega,zdH];simp)) U ?_
   refine zaQ U (gn U) (zz zbc U (vs:=[_]) U (css:=[_]) ⟨U,trivial⟩ U U (cs:=[_]) U U ?_)
   intro b23 w23 e23 n23 c23 k23
   refine⟨.inl (hd.trans c23),?_⟩
   refine zaQ U (gn U) (yo zbc yY U U (zA.chg0 huB ((zk.drew [] _).trans c23)) (zA.of_blk (n:=1) (c:=bv [UInt8.ofNat x.k.toNat]) k23 U (by simp[maxLen]) (zcO _)) (by simp only[maxLen];omega) (by omega) U ?_)
   intro v24 w24 i24 c24 o24 z24
   refine⟨.inl ((hd.trans c23).transS c24),?_⟩
   refine Tc zBE U U U (zvl _) ?_
   rintro v25 w25⟨b25,rfl,h25,k25,c25⟩
   refine⟨.inl (((hd.trans c23).transS c24).trans c25),?_⟩
   refine Td zak U (Tr (fun wz hz=>zg zbI U ((kB.chg hz hbu).cell' U)) U ?_)
   refine zaQ U (gn U) (St.vl (zdC (κ:=zaK .i64) zlq (z0 zaS) zkK U U k25 hgk U) U U ?_)
   refine⟨.inl (((hd.trans c23).transS c24).trans c25),?_⟩
   refine Tp (fun _=>zix zv1 U U) U (Tr (fun wz hz=>zh zaz ym U U (zx.of_blk0 (kB.chg hz hbu))) U ?_)
   refine Tc hbf U U U (hlay _) ?_
   rintro v31 w31⟨i31,f31,c31⟩
   refine⟨.inl ((((hd.trans c23).transS c24).trans c25).trans c31),?_⟩
   refine zaQ U (gn U) (yo zbc yY U U (zA.chg0 (zA.chg0 i24 c25) c31) i31 (by simp only[maxLen];omega) (by omega) U ?_)
   intro v32 w32 i32 c32 o32 z32
   refine⟨.inl (((((hd.trans c23).transS c24).trans c25).trans c31).trans' c32 (zuD o24 c23.size)),?_⟩
   refine Ta U ?_
   refine zdY [4,8,9,10] (F':=[(4,_),(8,_),(9,_),(10,_)]) U ?_
   refine zl ?_
   have hcz:zk (zu u) w15 w32:=((((hd.trans c23).transS c24).trans c25).trans c31).trans' c32 (zuD o24 c23.size)
   have hwz:=(hcx.trans hcB).own hcz hfu
   have hs1:=hcx.size
   have hs2:=hcB.size
   have hs3:w15.heap.size≤w23.heap.size:=c23.size
   have hs4:=(c24.size)
   have hs5:=c25.size
   have hs6:=c31.size
   refine za ?_
   refine Og (zG U U (by omega)) U ?_
   refine Om U (N4 4 8 9 10 U ?_)
   refine⟨l.length-(j+1),by omega,j+1,v32,rfl,by omega,rfl,?_,yq o32 (yq o24 hfu (by omega)) (by omega),hwz,?_⟩
   ·rw[List.take_add_one,hx]
    show zdD w32 v32 (zdX (l.take j++[x]))
    rw[zqI,←List.append_assoc]
    refine zdD.push i32 ?_ ?_
    ·rw[List.length_append];rfl
    rw[yD]
   intro y hy
   rw[List.take_add_one,hx]at hy
   rcases List.mem_append.1 hy with hy|hy
   ·exact hall y hy
   simp at hy;subst hy;exact hc
  refine za (Om U ?_)
  refine Og (vt (zJ U U) (by simp[hc])) U ?_
  refine E7 4 6 7 8 9 10 17 U (ze U (Sr (Om U (Oa U (Oa U (E2 2 3 U (zj ?_)))))))
  repeat first|refine tr ?_|refine br ?_
  refine zcg U U U ?_
  rw[zm0 hx hc hall,if_neg hc]
  exact⟨U,hcx.trans hcB⟩
 refine zH ?_
 repeat first|refine te ?_|refine bo rfl ?_
 refine zq _ ?_
 have he:l.length≤j:=by have:=of_decide_eq_false hF;omega
 rw[Tl he]at hu hall hkl
 have hE:=zj8.2 hall
 obtain⟨pu,cu,rfl,_⟩:=id (zA.val hu)
 refine zf (Sr (Om U (On yY U ?_)))
 refine Og (vf (zS U U) (df (by omega))) U ?_
 refine E2 4 36 U (zb U (zm (Sr (Om U (Og (zgo (l:=(zdX l)) yY zaT st9 U (zA.rd hu)) U (Oa U (Oa U (E2 2 3 U (zj ?_)))))))))
 refine zcg U U U ?_
 rw[hE,if_pos rfl]
 exact⟨U,hcx⟩
theorem zzN(x:zX)(w:Wl):zT TP 247 #[x.v] w fun r w'=>r=.bool (decide (x.k=0))∧zk [] w w':=by
 refine A1 Tryz.func247 U U ?_
 refine Sr ?_
 refine Ob U U ?_
 intro b1 w1 e1 n1 c1 k1
 refine Oa U (E1 1 U (Sr (Od zak U (Ol zbI U (k1.cell' U) (Og (zv U U) U (Oa U (E1 2 U (zj ?_))))))))
 refine zw U U ?_
 exact⟨U,c1⟩
theorem zv5(l:List zX):nnS l = !(l.any fun x=>decide (x.k=0)):=by
 rw[Bool.eq_iff_iff]
 simp[nnS]
theorem zCH(v:Va)(l:List zX)(w:Wl)(hl:yc w v l)(hg:∀x∈l,x.Rng)(hn:l.length≤8) :
 zT TP 194 #[v] w fun r w'=>r=.tuple #[.string (if zj5 l=0 then zcN l else e0),.bool (nnS l)]∧zk [] w w':=by
 refine A1 Tryz.func194 U U ?_
 refine Sr (Oa U (Oa U (E1 0 U (Sr (Om U ?_)))))
 refine Oc zzE U U U (zuc v l _ hl hg hn) ?_
 rintro v8 w8⟨rfl,c8⟩
 refine Om U (Oe U U (Oe U U (Oa U (Oa U (E2 0 4 U (Sr (Om U (Om U ?_))))))))
 refine Oc zxh U U U (zsx zbn v l (fun x=>decide (x.k=0)) 247 [] _ (zN.chg0 hl c8) (by omega) zBC (fun x _ w1 _=>zzN x w1)) ?_
 rintro v13 w13⟨rfl,c13⟩
 refine Og (zC U) U (Oa U (Oa U (E2 2 3 U (zj ?_))))
 refine zcg U U U ?_
 exact⟨by rw[zv5],c8.trans c13⟩
theorem zu4(a p v:Va)(st:List Int)(row:List zX)(w:Wl)(ha:yw w a st)(hp:p.oneCell'=true)(hv:yc w v row)(hg:∀x∈row,x.Rng)(hc:∀x∈row,zaY x=0)(hr:∀i∈st,0≤i∧i<row.length)(hn:st.length≤8)(hn':row.length≤1048576) :
 zT TP 138 #[.agg #[a,p],v] w fun r w'=>r=.tuple #[.string (zcN (yl row st)),.bool (nnS (yl row st))]∧zk [] w w':=by
 have hmem:∀x∈yl row st,x∈row:=fun x hx=>by
  rw[zeR,List.mem_map]at hx
  obtain⟨i,hi,rfl⟩:=hx
  exact(zfc U (hr i hi)).1
 have hE:zj5 (yl row st)=0:=zj8.2 fun x hx=>hc x (hmem x hx)
 obtain⟨pa,ca,rfl,_⟩:=id (zN.val ha)
 refine A2 Tryz.func138 U U ?_
 refine Sr ?_
 refine Ob U U ?_
 intro b2 w2 e2 n2 c2 k2
 refine Oa U (Oa U (E2 1 2 U (Sr (Om U (Od zo8 U (Ol zb9 U (k2.cell' U) ?_))))))
 refine Oc zCl U U U (zyg v _ row st _ (zN.chg0 hv c2) (zN.chg0 ha c2) hr hn' (by omega)) ?_
 rintro v12 w12⟨u,rfl,iu,fu,c12⟩
 refine Om U (Oe U U (Oe U U (Oa U (Oa U (E1 6 U (Sr (Om U ?_)))))))
 refine Oc zBh U U U (zCH u (yl row st) _ iu (fun x hx=>hg x (hmem x hx)) (by rw[zhE];exact hn)) ?_
 rintro v16 w16⟨rfl,c16⟩
 refine Oe U U (Oe U U (Oa U (Oa U (E2 4 5 U (zj ?_)))))
 refine zcg U U U ?_
 rw[hE,if_pos rfl]
 exact⟨U,(c2.trans c12).trans c16⟩
theorem ztK(n:Nat):∀{k m:Nat},k≤m→be (n % 256 ^ m) k=be n k
 |0,_,_=>rfl
 |k+1,m,h=>by
  have e:n % 256 ^ m / 256 ^ k % 256=n / 256 ^ k % 256:=by
   have h1:n % 256 ^ m % 256 ^ (k+1)=n % 256 ^ (k+1):=Nat.mod_mod_of_dvd _ (Nat.pow_dvd_pow _ h)
   have h2:∀a:Nat,a / 256 ^ k % 256=a % 256 ^ (k+1) / 256 ^ k:=fun a=>by
    rw[Nat.pow_succ,Nat.mod_mul_right_div_self]
   rw[h2,h1,←h2]
  unfold be
  rw[e,ztK n (by omega)]
theorem zpn(n z:Nat)(w:Wl)(hn:n<18446744073709551616)(hz:z=1∨z=2∨z=4∨z=8):zT TP 249 #[.int .u64 n,Ii z] w fun r w'=>zdD w' r (be n z)∧(∀b∈zu r,w.heap.size≤b)∧zk [] w w':=by
 have e1:IntKind.u64.wrap ((n:Int)*2 ^ (64-8*z))=((n*2 ^ (64-8*z) % 18446744073709551616:Nat):Int):=by rw[zcT];rcases hz with rfl|rfl|rfl|rfl<;>simp only[Nat.reducePow,Nat.reduceMul,Nat.reduceSub,Int.reducePow]<;>omega
 have e2:n*2 ^ (64-8*z) % 18446744073709551616 / 2 ^ (64-8*z)=n % 256 ^ z:=by rcases hz with rfl|rfl|rfl|rfl<;>simp only[Nat.reducePow,Nat.reduceMul,Nat.reduceSub]<;>omega
 have hz8:z≤8:=by omega
 have hp:n % 256 ^ z<256 ^ z:=Nat.mod_lt _ (Nat.pow_pos (by decide))
 refine A2 Tryz.func249 U U ?_
 refine Sr (Oa U (E2 0 1 U (Sr (Om U (Om U ?_)))))
 refine Og (zds U U (by omega)) U ?_
 refine Og (yK U U (by omega)) U ?_
 refine Og (zes (64-8*z) U U (by omega) (by simp only[IntKind.bits];omega) e1) U ?_
 refine Om U ?_
 refine Og (zds U U (by omega)) U ?_
 refine Og (yK U U (by omega)) U ?_
 refine Og (zcn (64-8*z) U U (by omega) (by simp only[IntKind.bits];omega) (zkU _ _)) U ?_
 refine Om U ?_
 refine Oc zws U U U (e2▸zqe (n % 256 ^ z) z _ (Nat.lt_of_le_of_lt (Nat.mod_le _ _) hn) (by omega) hp) ?_
 rintro v18 w18⟨v18,rfl,i18,f18,c18⟩
 refine Om U (Oe U U (Oe U U (Oa U (Oa U (E1 5 U (Sr (Om U (Oa U (E1 4 U (zj ?_))))))))))
 refine zw U U ?_
 rw[e2,ztK n (Nat.le_refl z)]at i18
 exact⟨by unfold zdD;rw[zbK];exact i18,f18,c18⟩
theorem zyD(c:Col)(x:zX)(w:Wl)(hx:x.Rng)(hz:c.s=1∨c.s=2∨c.s=4∨c.s=8):zT TP 248 #[c.v,x.v] w fun r w'=>zdD w' r (be (x.i % 18446744073709551616).toNat c.s.toNat)∧(∀b∈zu r,w.heap.size≤b)∧zk [] w w':=by
 have hi:=hx.i
 obtain⟨z,hz1,hz2⟩:∃z:Nat,c.s=z∧(z=1∨z=2∨z=4∨z=8):=⟨c.s.toNat,by omega,by omega⟩
 refine A2 Tryz.func248 U U ?_
 refine Sr ?_
 refine Ob U U ?_
 intro b2 w2 e2 n2 c2 k2
 refine Ob U U ?_
 intro b3 w3 e3 n3 c3 k3
 refine Oa U (E2 2 3 U (Sr (Od yv U (Ol ag2 U (k3.cell' U) ?_))))
 refine Og (yh zbz zeE U (show IntKind.u64.wrap x.i=(((x.i % 18446744073709551616).toNat:Nat):Int) by rw[zcT];omega)) U ?_
 refine Od zbE U ?_
 refine Ol ag3 U ((k2.chg0 c3).cell' (show _=some (Value.int .i64 (z:Int)) by rw[←hz1];rfl)) ?_
 refine Oc zxd U U U (zpn _ z _ (by omega) hz2) ?_
 rintro v10 w10⟨i10,f10,c10⟩
 refine Oa U (E1 4 U (zj ?_))
 refine zw U U ?_
 have hs:=(c2.trans c3).size
 rw[hz1]
 exact⟨i10,fun b hb=>Nat.le_trans hs (f10 b hb),(c2.trans c3).trans c10⟩
theorem zxB(c:Col)(x:zX)(w:Wl)(hx:x.Rng)(hz:c.s=1∨c.s=2∨c.s=4∨c.s=8):zT TP 254 #[c.v,x.v] w fun r w'=>zdD w' r (be x.u c.s.toNat)∧(∀b∈zu r,w.heap.size≤b)∧zk [] w w':=by
 obtain⟨z,hz1,hz2⟩:∃z:Nat,c.s=z∧(z=1∨z=2∨z=4∨z=8):=⟨c.s.toNat,by omega,by omega⟩
 refine A2 Tryz.func254 U U ?_
 refine Sr ?_
 refine Ob U U ?_
 intro b2 w2 e2 n2 c2 k2
 refine Ob U U ?_
 intro b3 w3 e3 n3 c3 k3
 refine Oa U (E2 2 3 U (Sr (Od zaN U (Ol zbR U (k3.cell' U) (Od zbE U ?_)))))
 refine Ol ag3 U ((k2.chg0 c3).cell' (show _=some (Value.int .i64 (z:Int)) by rw[←hz1];rfl)) ?_
 refine Oc zxd U U U (zpn _ z _ hx.u hz2) ?_
 rintro v9 w9⟨i9,f9,c9⟩
 refine Oa U (E1 4 U (zj ?_))
 refine zw U U ?_
 have hs:=(c2.trans c3).size
 rw[hz1]
 exact⟨i9,fun b hb=>Nat.le_trans hs (f9 b hb),(c2.trans c3).trans c9⟩
theorem zyP(c:Col)(x:zX)(w:Wl)(hx:x.i=0∨x.i=1):zT TP 256 #[c.v,x.v] w fun r w'=>zdD w' r [UInt8.ofNat x.i.toNat]∧(∀b∈zu r,w.heap.size≤b)∧zk [] w w':=by
 refine A2 Tryz.func256 U U ?_
 refine Sr ?_
 refine Ob U U ?_
 intro b2 w2 e2 n2 c2 k2
 refine Ob U U ?_
 intro b3 w3 e3 n3 c3 k3
 refine Oa U (E1 3 U (Sr (Od yv U (Ol ag2 U (k3.cell' U) ?_))))
 refine Og (yh zaT zeE U (show IntKind.u8.wrap x.i=(((UInt8.ofNat x.i.toNat).toNat:Nat):Int) by rcases hx with h|h<;>rw[h]<;>rfl)) U ?_
 refine Oq (zz zbc U (vs:=[_]) U (css:=[_]) ⟨U,trivial⟩ U U (cs:=[_]) U U ?_)
 intro b8 w8 e8 n8 c8 k8
 refine Oa U (E1 4 U (zj ?_))
 refine zw U U ?_
 have hs:=(c2.trans c3).size
 exact⟨zA.of_blk (n:=1) k8 U (by simp[maxLen]) (zcO _),by intro b hb;simp[zu]at hb;omega,(c2.trans c3).trans c8⟩
theorem zyF(c:Col)(x:zX)(w:Wl)(hx:x.b.size≤1048576):zT TP 259 #[c.v,x.v] w fun r w'=>zdD w' r (zcV x.b)∧(∀b∈zu r,w.heap.size≤b)∧zk [] w w':=by
 refine A2 Tryz.func259 U U ?_
 refine Sr ?_
 refine Ob U U ?_
 intro b2 w2 e2 n2 c2 k2
 refine Ob U U ?_
 intro b3 w3 e3 n3 c3 k3
 refine Oa U (E1 3 U (Sr (Od zaB U (Ol yH U (k3.cell' U) ?_))))
 refine Oc zzo U U U (zyQ x.b _ hx) ?_
 rintro v7 w7⟨i7,f7,c7⟩
 refine Oa U (E1 4 U (zj ?_))
 refine zw U U ?_
 have hs:=(c2.trans c3).size
 exact⟨i7,fun b hb=>Nat.le_trans hs (f7 b hb),(c2.trans c3).trans c7⟩
def zkJ(f g h:FuncId):Va:=.agg #[.func (.func f) #[] #[],.func (.func g) #[] #[],.func (.func h) #[] #[]]
def zoa:List (Int×Va):=[(1,zkJ 248 250 253),(2,zkJ 254 255 253),(3,zkJ 256 257 258),(4,zkJ 259 260 261)]
theorem zpT(w:Wl):zT TP 195 #[] w fun r w'=>∃b,r=.map (some b)∧w.heap.size≤b∧yf (zaK .i64) w' b zoa∧zk [] w w':=by
 refine zT.of_W (args:=[]) Tryz.func195 U U U U ?_
 refine Sr (Oa U (yB [] (F':=[]) U (Sr ?_)))
 refine Oq (zbQ (zaK .i64) U ?_)
 intro b1 w1 e1 n1 c1 k1
 refine Og (zK zpw zk5 U (vs:=[_,_,_]) U (css:=[_,_,_]) ⟨U,U,U,trivial⟩ U U (cs:=[_,_,_]) U) U ?_
 refine Oq (yQ (κ:=zaK .i64) zll (z0 zaI) U U U k1 ?_)
 intro wA nA cA kA
 refine Og (zK zpw zk5 U (vs:=[_,_,_]) U (css:=[_,_,_]) ⟨U,U,U,trivial⟩ U U (cs:=[_,_,_]) U) U ?_
 refine Oq (yQ (κ:=zaK .i64) zll (z0 zaI) U U U kA ?_)
 intro wB nB cB kB
 refine Og (zK zpw zk5 U (vs:=[_,_,_]) U (css:=[_,_,_]) ⟨U,U,U,trivial⟩ U U (cs:=[_,_,_]) U) U ?_
 refine Oq (yQ (κ:=zaK .i64) zll (z0 zaI) U U U kB ?_)
 intro wC nC cC kC
 refine Og (zK zpw zk5 U (vs:=[_,_,_]) U (css:=[_,_,_]) ⟨U,U,U,trivial⟩ U U (cs:=[_,_,_]) U) U ?_
 refine Oq (yQ (κ:=zaK .i64) zll (z0 zaI) U U U kC ?_)
 intro wD nD cD kD
 refine Om U (Oa U (E1 0 U (zj ?_)))
 refine zw U U ?_
 exact⟨b1,rfl,by omega,kD,c1.own ((((cA.transS cB).transS cC).transS cD)) (by intro x hx;simp at hx;omega)⟩
theorem zng{c:Col}{x:zX}(h:y9 c x=0)(hk:x.k≠0)(hx:x.Rng):∃f g k,zbh zoa c.t=some (zkJ f g k)∧zn TP f=true∧∀w,zT TP f #[c.v,x.v] w fun r w'=>zdD w' r (zlt c x)∧(∀b∈zu r,w.heap.size≤b)∧zk [] w w':=by
 obtain⟨hr,hc,_,h2⟩:=zcP h
 obtain⟨hkt,_⟩:=h2 hk
 obtain⟨hf,hb⟩:=zeJ hc
 obtain⟨_,hbr,hm⟩:=zcs hf
 obtain⟨s1,s2,s3,s4⟩:=zfl hr
 unfold zlt
 rcases s4 with e|e|e|e<;>simp only[e, ↓reduceIte,Int.reduceEq]
 ·exact⟨_,_,_,U,zBu,fun w=>zyD c x w hx (s1 (.inl e))⟩
 ·exact⟨_,_,_,U,zB5,fun w=>zxB c x w hx (s1 (.inr e))⟩
 ·exact⟨_,_,_,rfl,zAi,fun w=>zyP c x w (hm (by omega))⟩
 exact⟨_,_,_,rfl,zCw,fun w=>zyF c x w (by omega)⟩
theorem ziw:∀{cs:List Col} {xs:List zX} {j:Nat} {c:Col} {x:zX},cs[j]? = some c→xs[j]? = some x→zcZ (cs.take (j+1)) (xs.take (j+1))=zcZ (cs.take j) (xs.take j)++zga c x
 |[],_,_,_,_,h,_=>by simp at h
 |_::_,[],_,_,_,_,h=>by simp at h
 |c::cs,x::xs,0,c',x',hc,hx=>by simp at hc hx;subst hc hx;simp[zcZ]
 |c::cs,x::xs,j+1,c',x',hc,hx=>by
  simp only[List.take_succ_cons,zcZ]
  rw[ziw (by simpa using hc) (by simpa using hx),List.append_assoc]
theorem zjk:∀{cs:List Col} {xs:List zX},zbt cs xs=0→∀j,zbt (cs.take j) (xs.take j)=0
 |[],_,_,j=>by simp[zbt]
 |_::_,[],_,j=>by simp[zbt]
 |c::cs,x::xs,h,0=>by simp[zbt]
 |c::cs,x::xs,h,j+1=>by
  unfold zbt at h
  by_cases h1:y9 c x=0
  ·rw[if_neg (by simp[h1])]at h
   simp only[List.take_succ_cons,zbt,h1,zjk h j]
   rfl
  rw[if_pos h1]at h;exact absurd h h1
theorem ztz(c k u v:Va)(s:yL)(l:List zX)(w:Wl)(hE:EOk w)(hs:zaa w c k u s)(hm:s.Sm)(hl:yc w v l)(hg:∀x∈l,x.Rng)(hn:l.length≤1048576) :
 zT TP 139 #[.agg #[c,k,u],v] w fun r w'=>∃o,r=.tuple #[o,Ii (zaf s l)]∧zdD w' o (if zaf s l=0 then zcZ s.cols l else [])∧(∀b∈zu o,w.heap.size≤b)∧zk [] w w':=by
 obtain⟨pv,cv,rfl,hcv⟩:=zN.val hl
 refine A2 Tryz.func139 U U ?_
 refine Sr ?_
 refine Ob U U ?_
 intro b2 w2 e2 n2 c2 k2
 refine Oa U (Oa U (E2 1 2 U (zf (Sr (Og (zh zbw zbo U U (zx.of_blk0 k2)) U (Om U ?_))))))
 refine Oc zwj U U U (zwi c k u _ s l _ (hE.chg0 c2) (hs.chg0 c2) hm (zN.chg0 hl c2) hg hn) ?_
 rintro v13 w13⟨rfl,c13⟩
 refine Oa U (E3 1 2 6 U (zf ?_))
 by_cases hr:zaf s l=0
 ·refine za (Om U ?_)
  refine Og (vf (zJ U U) (by simp[hr])) U ?_
  refine E4 1 2 6 15 U (zb U (zm ?_))
  obtain⟨hrs,hlen,hfit⟩:=zaM hr
  refine Sr (Oa U (E3 1 2 7 U (zf (zf ?_))))
  have hcA:=c2.trans c13
  have k2:=k2.chg0 c13
  refine za (Om U (On yA U (Om U (E5 2 7 17 18 19 U (zp ?_)))))
  refine zR [2,7,17,18,19] (fun m F wx=>∃(j:Nat) (u:Va),m=l.length-j∧j≤l.length∧F=[(2,Pt b2),(7,u),(17,.slice pv l.length cv),(18,Ii l.length),(19,Ii j)]∧zdD wx u (zcZ (s.cols.take j) (l.take j))∧(∀b∈zu u,w13.heap.size≤b)∧zk [] w13 wx) (m:=l.length-0) ⟨0,_,rfl,Nat.zero_le _,rfl,zA.nil _ _ _,by simp[zu],zk.refl _ _⟩ ?_
  rintro m F wx⟨j,u',rfl,hj,rfl,hu,hfu,hcx⟩
  refine Sr (Og (zy U U) U (E6 2 7 17 18 19 20 U (zf ?_)))
  refine zP U (fun hT=>?_) (fun hF=>?_)
  ·refine zm ?_
   have hlt:j<l.length:=by have:=of_decide_eq_true hT;omega
   have hx:l[j]? = some l[j]:=by simp[hlt]
   have hy:s.cols[j]? = some (s.cols[j]'(by omega)):=by simp[hlt,←hlen]
   generalize l[j]=x at hx
   generalize s.cols[j]'(by omega)=y at hy
   have hxr:=hg x (List.mem_of_getElem? hx)
   have hfy:=zhc hfit hy hx
   have hel:=zjV hfy
   have hkl:=zeN (zjk hfit j)
   have h8:=(zZ hrs).1
   rw[List.length_take,Nat.min_eq_left (by omega)]at hkl
   obtain⟨b,off,cap,hv,hcell⟩:=zN.at zbn (zN.chg0 hl (hcA.trans hcx)) hx
   cases hv
   have k2:=k2.chg0 hcx
   refine zf (zp (Sr (Om U ?_)))
   refine Og (zi yA ym U U _ U hlt) U ?_
   refine Og (zh zaz ym U U hcell) U ?_
   refine Oq (zF zc2 U U ?_)
   intro b9 w9 e9 n9 c9 k9
   refine Oa U ?_
   refine Oq (zt ym U U U U k9 (by simp[zX.cs]) (zX.one x) ?_)
   intro wA nA cA kA
   refine E7 2 7 8 9 17 18 19 U ?_
   have kA:zO wA b9 111 x.cs:=kA
   have hcB:zk [] wx wA:=c9.own cA (by intro y hy;simp at hy;omega)
   obtain⟨bc,offc,capc,hvc,hcellc⟩:=zN.at zaG (zN.chg0 hs.cols ((hcA.trans hcx).trans hcB)) hy
   subst hvc
   have k2:=k2.chg0 hcB
   have huB:=zA.chg0 hu hcB
   refine zf (zf ?_)
   by_cases hk:x.k=0
   ·refine za (Od zak U (Ol zbI U (kA.cell' U) ?_))
    refine Og (vt (zv U U) (by simp[hk])) U ?_
    refine E8 2 7 8 9 17 18 19 26 U (ze U (zf ?_))
    have hkl2:(zga y x).length=1:=by simp[zga,hk]
    refine za (Om U ?_)
    refine Oq (zz zbc U (vs:=[_]) U (css:=[_]) ⟨U,trivial⟩ U U (cs:=[_]) U U ?_)
    intro b28 w28 e28 n28 c28 k28
    refine Oq (yo zbc yY U U (zA.chg0 huB c28) (zA.of_blk (n:=1) (c:=bv [0]) k28 U (by simp[maxLen]) (zcO _)) (by simp only[maxLen];omega) (by omega) U ?_)
    intro v29 w29 i29 c29 o29 z29
    refine Oa U (E5 2 7 17 18 19 U ?_)
    have hcz:zk (zu u') wA w29:=(((zk.refl (zu u') wA).trans c28).transS c29)
    have hwz:=(hcx.trans hcB).own hcz hfu
    have hs1:=hcx.size
    have hs2:=hcB.size
    have hs3:wA.heap.size≤w28.heap.size:=c28.size
    refine zH ?_
    repeat first|refine te ?_|refine bo rfl ?_
    refine zq _ ?_
    refine za ?_
    refine Og (zG U U (by omega)) U ?_
    refine Om U (N5 2 7 17 18 19 U ?_)
    refine⟨l.length-(j+1),by omega,j+1,v29,rfl,by omega,rfl,?_,yq o29 hfu (by omega),hwz⟩
    rw[ziw hy hx,show zga y x=[0] by simp[zga,hk]]
    refine zdD.push i29 ?_ ?_
    ·rfl
    rfl
   refine za (Od zak U (Ol zbI U (kA.cell' U) ?_))
   refine Og (vf (zv U U) (by simp[hk])) U ?_
   refine E8 2 7 8 9 17 18 19 26 U (zb U (zm ?_))
   obtain⟨f,g,q,hgk,hbf,hlay⟩:=zng hfy hk hxr
   have hkl2:(zga y x).length=(zlt y x).length+1:=by simp[zga,hk]
   refine Sr (Od yn U (Ol za2 U (k2.cell' U) (Om U ?_)))
   refine Og (zi zaJ y8 U U _ U (show j<s.cols.length by omega)) U ?_
   refine Og (zh zcy y8 U U hcellc) U ?_
   refine Oq (zF zln U U ?_)
   intro b10 w10 e10 n10 c10 k10
   refine Oq (zt y8 U U U U k10 (by simp[Col.cs]) (Col.one y) ?_)
   intro wB nB cB kB
   refine E7 2 7 9 10 17 18 19 U ?_
   have kB:zO wB b10 114 y.cs:=kB
   have hcC:zk [] wA wB:=c10.own cB (by intro y hy;simp at hy;omega)
   have kA:=kA.chg0 hcC
   have huC:=zA.chg0 huB hcC
   have hd:zk (zu u') wB wB.drew:=zk.drew _ _
   have hbu:b9∉zu u':=fun hm=>zA.apart huC kA rfl b9 hm (by simp)
   have hbv:b10∉zu u':=fun hm=>zA.apart huC kB rfl b10 hm (by simp)
   refine zI (fun wz=>zk (zu u') wB wz) mix (by kernel_rfl) hd ?_
   refine Tm U ?_
   refine zaQ U (gn U) (zz zbc U (vs:=[_]) U (css:=[_]) ⟨U,trivial⟩ U U (cs:=[_]) U U ?_)
   intro b36 w36 e36 n36 c36 k36
   refine⟨.inl (hd.trans c36),?_⟩
   refine zaQ U (gn U) (yo zbc yY U U (zA.chg0 huC ((zk.drew [] _).trans c36)) (zA.of_blk (n:=1) (c:=bv [1]) k36 U (by simp[maxLen]) (zcO _)) (by simp only[maxLen];omega) (by omega) U ?_)
   intro v37 w37 i37 c37 o37 z37
   refine⟨.inl ((hd.trans c36).transS c37),?_⟩
   refine Tc zwE U U U (zpT _) ?_
   rintro v38 w38⟨b38,rfl,h38,k38,c38⟩
   refine⟨.inl (((hd.trans c36).transS c37).trans c38),?_⟩
   refine Td zfd U (Tr (fun wz hz=>zg zjG U ((kB.chg hz hbv).cell' U)) U ?_)
   refine zaQ U (gn U) (St.vl (zdC (κ:=zaK .i64) zll (z0 zaI) zk5 U U k38 hgk U) U U ?_)
   refine⟨.inl (((hd.trans c36).transS c37).trans c38),?_⟩
   refine Tp (fun _=>zix zvH U U) U (Tr (fun wz hz=>zh zcy y8 U U (zx.of_blk0 (kB.chg hz hbv))) U (Tr (fun wz hz=>zh zaz ym U U (zx.of_blk0 (kA.chg hz hbu))) U ?_))
   refine Tc hbf U U U (hlay _) ?_
   rintro v45 w45⟨i45,f45,c45⟩
   refine⟨.inl ((((hd.trans c36).transS c37).trans c38).trans c45),?_⟩
   refine zaQ U (gn U) (yo zbc yY U U (zA.chg0 (zA.chg0 i37 c38) c45) i45 (by simp only[maxLen];omega) (by omega) U ?_)
   intro v46 w46 i46 c46 o46 z46
   refine⟨.inl (((((hd.trans c36).transS c37).trans c38).trans c45).trans' c46 (zuD o37 c36.size)),?_⟩
   refine Ta U ?_
   refine zdY [2,7,17,18,19] (F':=[(2,_),(7,_),(17,_),(18,_),(19,_)]) U ?_
   refine zl ?_
   have hcz:zk (zu u') wB w46:=((((hd.trans c36).transS c37).trans c38).trans c45).trans' c46 (zuD o37 c36.size)
   have hwz:=((hcx.trans hcB).trans hcC).own hcz hfu
   have hs1:=hcx.size
   have hs2:=hcB.size
   have hs0:=hcC.size
   have hs3:wB.heap.size≤w36.heap.size:=c36.size
   have hs4:=c37.size
   have hs5:=c38.size
   have hs6:=c45.size
   refine za ?_
   refine Og (zG U U (by omega)) U ?_
   refine Om U (N5 2 7 17 18 19 U ?_)
   refine⟨l.length-(j+1),by omega,j+1,v46,rfl,by omega,rfl,?_,yq o46 (yq o37 hfu (by omega)) (by omega),hwz⟩
   rw[ziw hy hx,show zga y x=1::zlt y x by simp[zga,hk],List.append_cons]
   refine zdD.push i46 ?_ ?_
   ·rw[List.length_append];rfl
   rw[yD]
  refine zH ?_
  repeat first|refine te ?_|refine bo rfl ?_
  refine zq _ ?_
  have he:l.length≤j:=by have:=of_decide_eq_false hF;omega
  rw[Tl he,Tl (by omega)]at hu
  refine Sr (Om U (Oa U (Oa U (E2 4 5 U (zj ?_)))))
  repeat first|refine tr ?_|refine br ?_
  refine zcg U U U ?_
  have hs1:=hcA.size
  rw[hr,if_pos rfl]
  exact⟨_,U,hu,fun b hb=>Nat.le_trans hs1 (hfu b hb),hcA.trans hcx⟩
 refine za (Om U ?_)
 refine Og (vt (zJ U U) (by simp[hr])) U ?_
 refine E4 1 2 6 15 U (ze U (Sr (Om U (Oa U (Oa U (E2 4 5 U (zj ?_)))))))
 repeat first|refine tr ?_|refine br ?_
 refine zcg U U U ?_
 rw[if_neg hr]
 exact⟨_,rfl,zA.nil _ _ _,by simp[zu],c2.trans c13⟩
end Go.Wk
