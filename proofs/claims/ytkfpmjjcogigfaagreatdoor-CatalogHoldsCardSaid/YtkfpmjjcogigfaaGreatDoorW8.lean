/- joined texts -/
import Derived.Test.YtkfpmjjcogigfaaGreatDoorW7
set_option linter.all false
namespace Go.Wk
open Go.Proofs
set_option linter.unusedSectionVars false
variable [Lw]
set_option maxRecDepth 10000
theorem zvM(v:Va)(n:Int)(bt:Nat)(old:Va)(w:Wl)(hE:EOk w)(hv:za1 w v n)(ht:zK w bt 28 [old]) :
 zL TP 62 #[v,.iface 140 (Pt bt)] w fun r w'=>r=.bool true∧zK w' bt 28 [Ii n]∧zl [bt] w w':=by
 refine A2 Tryz.func62 U U ?_
 have hbt:=ht.lt
 refine Sr (Oa U (E2 0 1 U (zd (zd ?_))))
 obtain⟨x,hx⟩:∃x,zgF v=some x∧x=false:=⟨_,hv.notNil,rfl⟩
 refine za (Om U (Og (zbg zbS U hv.notNil) U (E3 0 1 9 U (zb U (zk (zd (Sr (Om U (Og (zbg zyn U U) U (E3 0 1 11 U (zb U (zk (zd ?_)))))))))))))
 have hn1:=zK.new w 140 [Pt bt]
 have hc1:=zl.alloc [] w (.cells #[Pt bt] 140)
 generalize hw1:w.alloc (.cells #[Pt bt] 140)=w1 at hc1
 have hv1:=zv4 ⟨bt,0,none⟩ w
 rw[hw1]at hv1
 have hn1:zK w1 w.heap.size 140 [Pt bt]:=hw1▸hn1
 refine za (Om U ?_)
 refine Oq (zcu (P:=TP) (n:=Tryz.f62.ntmps) zul U U hv1 U ?_)
 skip
 refine Oq (zD zzg U U ?_)
 intro b5 w5 e5 n5 c5 k5
 refine Oq (zv zl8 U U U U k5 (by simp) (by intro u hu;simp at hu;rcases hu with rfl|rfl|rfl<;>rfl) ?_)
 intro wA nA cA kA
 refine E3 0 1 5 U ?_
 have kA:zK wA b5 189 [hnd 140,.pointer (some ⟨w.heap.size,0,none⟩),.int .u64 150]:=kA
 have hsz:=hc1.size
 have hcA:zl [] w wA:=(hc1.trans c5).own cA (by intro y hy;simp at hy;omega)
 have hnA:=(hn1.chg0 c5).chg cA (by simp;have:=hn1.lt;omega)
 have hEA:=hE.chg0 hcA
 have htA:=ht.chg0 hcA
 refine Sr (Og (zg zoE zl8 U U (zB.of_blk0 kA)) U ?_)
 refine Oq (zcu (P:=TP) (n:=Tryz.f62.ntmps) zyT U U (zvo ⟨w.heap.size,0,none⟩ wA) U ?_)
 skip
 refine Oa U (E4 0 1 5 6 U (zd (Sr (Om U ?_))))
 refine Oq (zbj (zsh _) zuH U U (zsM _) U ?_)
 skip
 refine Og (vf (zZ U U) (zb6 (by omega))) U ?_
 refine Om U (Oy U U (zg zoE zl8 U U (zB.of_blk0 kA)) ?_)
 refine zy (gy U U U) (zcu (P:=TP) (n:=Tryz.f62.ntmps) zzh U U (zsB ⟨w.heap.size,0,none⟩ ⟨bt,0,none⟩ wA (hnA.cell' U)) U ?_)
 skip
 refine Of U (E5 0 1 5 6 23 U (zb U (zk (Sr (Om U ?_)))))
 refine Oq (zbj (zwL _) zxX U U (zt7 _) U ?_)
 skip
 refine Oa U (E4 0 1 5 7 U (zd (Sr (Om U ?_))))
 refine Oq (zbj (zsh _) zuH U U (ztC _) U ?_)
 skip
 refine Og (vt (zZ U U) (zet (by omega))) U ?_
 refine Om U (Oj U U (Oy U U (zj zxU U hEA) ?_))
 refine zy (gy U U U) (zbj (zvt _) zyc U U (zvq _) U ?_)
 skip
 refine Oy U U (zE U) (Ot U (E5 0 1 5 7 35 U (zb U (zk (Sr (Om U (Om U (Og (zg zoE zl8 U U (zB.of_blk0 kA)) U (Om U ?_)))))))))
 refine Oc zzI U U U (zAk v n bt old ⟨w.heap.size,0,none⟩ wA (hv.chg0 hcA) htA (hnA.cell' U) (by simp;omega)) ?_
 rintro v41 w41⟨rfl,hb,hc⟩
 refine Oa U (E1 4 U (zh ?_))
 refine zx U U ?_
 exact⟨U,hb,(hcA.any (S:=[bt])).transS hc⟩
theorem zy5(t:Va)(w:Wl):zL TP 62 #[.nilIface,t] w fun r w'=>r=.bool false∧w'=w:=by
 refine A2 Tryz.func62 U U ?_
 refine Sr (Oa U (E2 0 1 U (zd (Sr (Om U (Og (zbg zbS U U) U (E3 0 1 9 U (zf U (Sr (Oa U (E1 4 U (zh ?_))))))))))))
 repeat first|refine tr ?_|refine br ?_
 refine zx U U ?_
 exact⟨U,U⟩
theorem zuh:(Tryz.prog.info? 28).map (·.comparable)=some true:=by kernel_rfl
theorem zzO(v:Va)(n k:Int)(w:Wl)(hv:za1 w v n):zL TP 222 #[v,zcx k,.bool true] w fun r w'=>r=.bool (decide (n=k))∧zl [] w w':=by
 refine A3 Tryz.func222 U U ?_
 refine Sr (Oa U (E3 0 1 2 U (zu ?_)))
 refine zX [0,1,2] (fun m F wx=>∃u:Va,(za1 wx u n∧(m=0→u=zcx n))∧F=[(0,u),(1,zcx k),(2,.bool true)]∧zl [] w wx) (m:=1) ⟨v,⟨hv,fun h=>by omega⟩,rfl,zl.refl _ _⟩ ?_
 rintro m F wx⟨u,⟨hu,hm⟩,rfl,hcx⟩
 refine zu (zd (zd ?_))
 rcases hu with rfl|hu
 ·by_cases hnk:n=k
  ·refine za (Om U (Om U (Oj U U (Oj U U ?_))))
   refine Oy U U (yQ (v':=.bool true) (zmh zbS zuh zlb U U) (by rw[dt hnk])) ?_
   refine Ot U (E4 0 1 2 19 U (zf U (Sr (Oa U (E1 6 U (zh ?_))))))
   repeat first|refine tr ?_|refine br ?_
   refine zx U U ?_
   exact⟨by rw[dt hnk],hcx⟩
  refine za (Om U (Om U (Oj U U (Oj U U ?_))))
  refine Oy U U (yQ (v':=.bool false) (zmh zbS zuh zlb U U) (by rw[df hnk])) ?_
  refine Ot U (E4 0 1 2 19 U (zb U (zk (zd (Sr (Om U (Og (zbk zmL zoI U) U (Om U (Oe U U (Oe U U (Oa U (Oa U (E5 0 1 2 7 8 U (zd ?_))))))))))))))
  refine za (Om U (Om U (Oz U U (Oz U U (Oz U U (Of U (E4 0 1 2 30 U (zb U (zk (Sr (Om U (E3 1 2 31 U (zu (zd ?_))))))))))))))
  refine za (Og (zbk zm9 zi9 U) U (Oe U U (Oe U U (E5 1 2 31 33 34 U (zb U (Sr (Og (zbk znm zxe U) U (Oe U U (Oe U U (E5 1 2 31 40 41 U (zb U (Sr (Oa U ?_)))))))))))))
  refine zac [] (F':=[]) U (Sr (Oa U (E1 6 U (zh ?_))))
  repeat first|refine tr ?_|refine br ?_
  refine zx U U ?_
  exact⟨by rw[df hnk],hcx⟩
 have hm1:m≠0:=fun h=>by
  have:=hm h
  subst this
  rcases hu with⟨b,c,h,_⟩|⟨k,h⟩|⟨k,h⟩<;>cases h
 rcases hu with⟨b,c,rfl,hb⟩|⟨kk,rfl⟩|⟨kk,rfl⟩
 ·refine za (Om U (Om U (Oj U U (Oj U U (Oy U U (zki zbS U U U) (Ot U (E4 0 1 2 19 U (zb U (zk (zd (Sr (Om U (Og (zbk zkZ zoI U) U (Om U ?_))))))))))))))
  refine Oe U U (Oe U U (Oa U (Oa U (E5 0 1 2 7 8 U (Sr (Om U (Om U (Oz U U (Oz U U (Oz U U (Of U (E4 0 1 2 30 U (zb U (zk ?_))))))))))))))
  refine Sr (Om U (E3 1 2 31 U (zu (Sr (Og (zbk zhp zi9 U) U (Oe U U (Oe U U (E5 1 2 31 33 34 U (zf U (Sr (Oa U (E3 1 2 9 U ?_))))))))))))
  refine Sr (Om U ?_)
  refine Oq (zdm (zrB _) zu0 U U U (zr9 b c n _ hb) ?_)
  rintro v36 w36⟨rfl,rfl⟩
  refine Oa U (E3 0 1 2 U (Sr (Om U (Og (zbg zbS U U) U (E4 0 1 2 38 U (zb U (z0 (zn (zn ?_)))))))))
  exact⟨0,by omega,_,⟨.inl U,fun _=>rfl⟩,rfl,hcx⟩
 ·refine za (Om U (Om U (Oj U U (Oj U U (Oy U U (zki zbS U U U) (Ot U (E4 0 1 2 19 U (zb U (zk (zd (Sr (Om U (Og (zbk zl6 zoI U) U (Om U ?_))))))))))))))
  refine Oe U U (Oe U U (Oa U (Oa U (E5 0 1 2 7 8 U (Sr (Om U (Om U (Oz U U (Oz U U (Oz U U (Of U (E4 0 1 2 30 U (zb U (zk ?_))))))))))))))
  refine Sr (Om U (E3 1 2 31 U (zu (Sr (Og (zbk zhG zi9 U) U (Oe U U (Oe U U (E5 1 2 31 33 34 U (zf U (Sr (Oa U (E3 1 2 9 U ?_))))))))))))
  refine Sr (Om U ?_)
  refine Oq (zdm (zqI _) zuw U U U (zqN kk n _) ?_)
  rintro v36 w36⟨rfl,c36⟩
  refine Oa U (E3 0 1 2 U (Sr (Om U (Og (zbg zbS U U) U (E4 0 1 2 38 U (zb U (z0 (zn (zn ?_)))))))))
  exact⟨0,by omega,_,⟨.inl U,fun _=>rfl⟩,rfl,hcx.trans c36⟩
 refine za (Om U (Om U (Oj U U (Oj U U (Oy U U (zki zbS U U U) (Ot U (E4 0 1 2 19 U (zb U (zk (zd (Sr (Om U (Og (zbk zk7 zoI U) U (Om U ?_))))))))))))))
 refine Oe U U (Oe U U (Oa U (Oa U (E5 0 1 2 7 8 U (Sr (Om U (Om U (Oz U U (Oz U U (Oz U U (Of U (E4 0 1 2 30 U (zb U (zk ?_))))))))))))))
 refine Sr (Om U (E3 1 2 31 U (zu (Sr (Og (zbk zhI zi9 U) U (Oe U U (Oe U U (E5 1 2 31 33 34 U (zf U (Sr (Oa U (E3 1 2 9 U ?_))))))))))))
 refine Sr (Om U ?_)
 refine Oq (zdm (zsf _) zuf U U U (zpZ kk n _) ?_)
 rintro v36 w36⟨rfl,c36⟩
 refine Oa U (E3 0 1 2 U (Sr (Om U (Og (zbg zbS U U) U (E4 0 1 2 38 U (zb U (z0 (zn (zn ?_)))))))))
 exact⟨0,by omega,_,⟨.inl U,fun _=>rfl⟩,rfl,hcx.trans c36⟩
theorem zyA(v:Va)(n k:Int)(w:Wl)(hv:za1 w v n):zL TP 174 #[v,zcx k] w fun r w'=>r=.bool (decide (n=k))∧zl [] w w':=by
 refine A2 Tryz.func174 U U ?_
 refine Sr (Oa U (E2 0 1 U (zd (zd ?_))))
 have hb:zi TP 222=true:=zuN
 refine za (Om U (Og (zbg zbS U hv.notNil) U (Om U (Oj U U (Oy U U (zbg zbS U U) (Of U (E3 0 1 11 U (zb U (zk (Sr (Om U ?_)))))))))))
 refine Oq (zcu (P:=TP) (n:=Tryz.f174.ntmps) zll U U (zmB _ _) U ?_)
 skip
 refine Oq (zbj (zyC _) zwZ U U (zxd _) U ?_)
 skip
 refine Oa U (E3 0 1 5 U (Sr (Om U (Om U (Om U ?_)))))
 refine Oc zuN U U U (zzO v n k _ hv) ?_
 rintro v21 w21⟨rfl,c21⟩
 refine Oa U (E1 4 U (zh ?_))
 refine zx U U ?_
 exact⟨U,c21⟩
theorem zpY(v:Va)(n:Int)(w:Wl)(hE:EOk w)(hv:v=.nilIface∧n=0∨za1 w v n):zL TP 191 #[v] w fun r w'=>r=Ii n∧zl [] w w':=by
 refine A1 Tryz.func191 U U ?_
 refine Sr ?_
 refine Oq (zD zsV U U ?_)
 intro b2 w2 e2 n2 c2 k2
 refine E2 0 2 U (zd (zd ?_))
 rcases hv with⟨rfl,rfl⟩|hv
 ·refine za (Om U (Og (zS znY U) U ?_))
  refine Oc zt1 U U U (zy5 _ _) ?_
  rintro v5 w5⟨rfl,rfl⟩
  refine Og (zE U) U (E2 2 6 U (zf U (Sr ?_)))
  refine Oq (zv zmJ U U U U k2 (by simp) (by intro u hu;simp at hu;subst hu;rfl) ?_)
  intro wA nA cA kA
  refine E1 2 U (zh ?_)
  repeat first|refine tr ?_|refine br ?_
  refine zjZ U zjh U (kA.cell' U) ?_
  exact⟨rfl,c2.own cA (by intro y hy;simp at hy;omega)⟩
 refine za (Om U (Og (zS znY U) U ?_))
 refine Oc zt1 U U U (zvM v n b2 _ _ (hE.chg0 c2) (hv.chg0 c2) k2) ?_
 rintro v5 w5⟨rfl,k5,c5⟩
 refine Og (zE U) U (E2 2 6 U (zb U (zk (Sr (Ol zjh U (k5.cell' U) ?_)))))
 refine Oq (zv zmJ U U U U k5 (by simp) (by intro u hu;simp at hu;subst hu;rfl) ?_)
 intro wA nA cA kA
 refine E1 2 U (zh ?_)
 repeat first|refine tr ?_|refine br ?_
 refine zjZ U zjh U (kA.cell' U) ?_
 exact⟨rfl,(c2.own c5 (by intro y hy;simp at hy;omega)).own cA (by intro y hy;simp at hy;omega)⟩
theorem zib(v:Va)(n:Int)(w:Wl)(hE:EOk w)(hv:v=.nilIface∧n=0∨za1 w v n):zL TP 53 #[v] w fun r w'=>r=Ii n∧zl [] w w':=by
 refine A1 Tryz.func53 U U ?_
 refine Sr ?_
 refine Oq (zD zsV U U ?_)
 intro b2 w2 e2 n2 c2 k2
 refine E2 0 2 U (zd (zd ?_))
 rcases hv with⟨rfl,rfl⟩|hv
 ·refine za (Om U (Og (zbg zbS U U) U (Om U (Oz U U (Oz U U (Oz U U (Oz U U (Ot U (E2 2 10 U (zf U (Sr ?_)))))))))))
  refine Oq (zv zmJ U U U U k2 (by simp) (by intro u hu;simp at hu;subst hu;rfl) ?_)
  intro wA nA cA kA
  refine E1 2 U (zh ?_)
  repeat first|refine tr ?_|refine br ?_
  refine zjZ U zjh U (kA.cell' U) ?_
  exact⟨rfl,c2.own cA (by intro y hy;simp at hy;omega)⟩
 refine za (Om U (Og (zbg zbS U hv.notNil) U (Om U (Oj U U (Oy U U (zS znY U) ?_)))))
 refine Ow U U zt1 U U U (zvM v n b2 _ _ (hE.chg0 c2) (hv.chg0 c2) k2) ?_
 rintro v8 w8⟨rfl,k5,c5⟩
 refine Oy U U (zE U) (Of U (E2 2 10 U (zb U (zk (Sr (Ol zjh U (k5.cell' U) ?_))))))
 refine Oq (zv zmJ U U U U k5 (by simp) (by intro u hu;simp at hu;subst hu;rfl) ?_)
 intro wA nA cA kA
 refine E1 2 U (zh ?_)
 repeat first|refine tr ?_|refine br ?_
 refine zjZ U zjh U (kA.cell' U) ?_
 exact⟨rfl,(c2.own c5 (by intro y hy;simp at hy;omega)).own cA (by intro y hy;simp at hy;omega)⟩
theorem zvY(v:Va)(n:Int)(w:Wl)(hE:EOk w)(hv:v=.nilIface∧n=0∨za1 w v n):zL TP 34 #[v] w fun r w'=>r=Ii n∧zl [] w w':=by
 refine A1 Tryz.func34 U U ?_
 refine Sr ?_
 refine Oq (zD zsV U U ?_)
 intro b2 w2 e2 n2 c2 k2
 refine E2 0 2 U (zd (zd ?_))
 rcases hv with⟨rfl,rfl⟩|hv
 ·refine za (Om U (Og (zbg zbS U U) U (Om U (Oz U U (Oz U U (Oz U U (Oz U U (Ot U (E2 2 10 U (zf U (Sr ?_)))))))))))
  refine Oq (zv zmJ U U U U k2 (by simp) (by intro u hu;simp at hu;subst hu;rfl) ?_)
  intro wA nA cA kA
  refine E1 2 U (zh ?_)
  repeat first|refine tr ?_|refine br ?_
  refine zjZ U zjh U (kA.cell' U) ?_
  exact⟨rfl,c2.own cA (by intro y hy;simp at hy;omega)⟩
 refine za (Om U (Og (zbg zbS U hv.notNil) U (Om U (Oj U U (Oy U U (zS znY U) ?_)))))
 refine Ow U U zt1 U U U (zvM v n b2 _ _ (hE.chg0 c2) (hv.chg0 c2) k2) ?_
 rintro v8 w8⟨rfl,k5,c5⟩
 refine Oy U U (zE U) (Of U (E2 2 10 U (zb U (zk (Sr (Ol zjh U (k5.cell' U) ?_))))))
 refine Oq (zv zmJ U U U U k5 (by simp) (by intro u hu;simp at hu;subst hu;rfl) ?_)
 intro wA nA cA kA
 refine E1 2 U (zh ?_)
 repeat first|refine tr ?_|refine br ?_
 refine zjZ U zjh U (kA.cell' U) ?_
 exact⟨rfl,(c2.own c5 (by intro y hy;simp at hy;omega)).own cA (by intro y hy;simp at hy;omega)⟩
def ze7(w:Wl)(v:Va)(n:Int):Prop:=v=.nilIface∧n=0∨za1 w v n∧n≠0
theorem ze7.weak{w:Wl}{v:Va}{n:Int}(h:ze7 w v n):v=.nilIface∧n=0∨za1 w v n:=h.imp id (·.1)
theorem ziZ{w:Wl}{b:Nat}{c:By}{n:Int}(h:zK w b 410 [.string c,zcx n]):za1 w (.iface 408 (Pt b)) n:=.inr (.inl ⟨b,c,rfl,h⟩)
theorem znJ{c:Col}{x:zT}(h:zas c=false):y7 c x=2:=by simp[y7,h]
theorem ztD{c:Col}{x:zT}(h:zas c=true)(h2:zbq x≠0):y7 c x=zbq x:=by simp[y7,h,h2]
theorem zkn{c:Col}{x:zT}(h:zas c=true)(h2:zbq x=0)(h3:x.k=0):y7 c x=if c.z then 0 else 131:=by simp[y7,h,h2,h3]
theorem zte{c:Col}{x:zT}(h:zas c=true)(h2:zbq x=0)(h3:x.k≠0)(h4:x.k≠c.t):y7 c x=132:=by simp[y7,h,h2,h3,h4]
theorem zom{c:Col}{x:zT}(h:zas c=true)(h2:zbq x=0)(h3:x.k≠0)(h4:x.k=c.t):y7 c x=if zb1 c x then 133 else 0:=by
 simp only[y7,h,h2,h4]
 rw[h4]at h3
 simp[h3]
theorem zm1(c:Col)(x:zT)(w:Wl)(hx:x.Rng):zL TP 246 #[c.v,x.v] w fun r w'=>ze7 w' r (y7 c x)∧zl [] w w':=by
 refine A2 Tryz.func246 U U ?_
 refine Sr ?_
 refine Ob U U ?_
 intro b2 w2 e2 n2 c2 k2
 refine Ob U U ?_
 intro b3 w3 e3 n3 c3 k3
 refine Oa U (E2 2 3 U ?_)
 have hk2:=k2.chg0 c3
 have hc3:zl [] w w3:=c2.trans c3
 refine zd (zd ?_)
 cases hr:zas c with
 |false=>
  refine za (Og (zg zdy zaL U U (zB.of_blk0 hk2)) U ?_)
  refine Oc zok U U U (zhV c _) ?_
  rintro v8 w8⟨h8,c8⟩
  rw[hr]at h8
  subst h8
  refine Og (zE U) U (E3 2 3 9 U (zf U (Sr (Od zcR U (Ol ag9 U ((hk2.chg0 c8).cell' U) (Og (zS zcX U) U ?_))))))
  refine Og (zC zlW zlU U (vs:=[_,_]) U (css:=[_,_]) ⟨U,U,trivial⟩ U U (cs:=[_,_]) U) U ?_
  refine Ob U U ?_
  intro b14 w14 e14 n14 c14 k14
  refine Og (zS zlq U) U (Oa U (E1 4 U (zh ?_)))
  repeat first|refine tr ?_|refine br ?_
  refine zx U U ?_
  rw[znJ hr]
  exact⟨.inr ⟨ziZ k14,by omega⟩,(hc3.trans c8).trans c14⟩
 |true=>
  refine za (Og (zg zdy zaL U U (zB.of_blk0 hk2)) U ?_)
  refine Oc zok U U U (zhV c _) ?_
  rintro v8 w8⟨h8,c8⟩
  rw[hr]at h8
  subst h8
  refine Og (zE U) U (E3 2 3 9 U (zb U (zk (zd (Sr (Og (zg zaX yv U U (zB.of_blk0 (k3.chg0 c8))) U ?_))))))
  refine Oc zp4 U U U (zkA x _) ?_
  rintro v17 w17⟨rfl,c17⟩
  refine Oa U (E3 2 3 5 U ?_)
  have hc17:zl [] w w17:=(hc3.trans c8).trans c17
  have hk2a:=hk2.chg0 (c8.trans c17)
  have hk3a:=k3.chg0 (c8.trans c17)
  refine zd ?_
  by_cases hc:zbq x=0
  ·refine za (Om U ?_)
   refine Og (vf (zZ U U) (by simp[hc])) U ?_
   refine E4 2 3 5 19 U (zb U (zk ?_))
   refine yt (fun F wA=>∃b6 s f k,F=[(2,Pt b2),(3,Pt b3),(6,Pt b6)]∧zK wA b6 412 [.func (.func s) #[] #[],Ii c.t,.func (.func f) #[] #[]]∧zl [] w17 wA∧k=c.t∧zi TP f=true∧(∀(x:zT) w,x.Rng→zL TP f #[Ii c.s,x.v] w fun r w'=>r=.bool (!zb1 c x)∧zl [] w w')) ?_ ?_
   ·have htn:zf2 c=true:=by rw[zdR]at hr;simp only[Bool.and_eq_true]at hr;exact hr.1.1
    obtain⟨s,f,kk,hg,hkk,_,hbf,_,hff⟩:=zfa htn
    have hC:=(zl.drew [] w17)
    refine zh3 (fun wz=>zl [] w17 wz) (zbz.seq [1,2] (.two 0 (zbz.seq [] (.two 3 (zbz.seq [4,5] .done) 4 (zbz.seq [3,5] .done))) 4 (zbz.seq [0,3,5] .done))) mix (by kernel_rfl) hC ?_
    refine yS U U (gn U) (fun _=>ze zh2 U) U U ?_
    refine zkB U U (gn U) (fun wz hz=>zj zoV U ((hk2a.chg0 hz).cell' U)) U U ?_
    refine zhs ?_ ?_
    ·refine zaS U U (gn U) (zaf zn7 U U U U (zh5 _) ?_)
     rintro v27 w27⟨b27,rfl,h27,k27,c27⟩
     have hN27:=hC.size
     have hC:=hC.trans c27
     refine⟨.inl hC,?_⟩
     refine zhs ?_ ?_
     ·refine zaS U U (gn U) (St.vl (zcL (κ:=y6 .i64) zfY (zM yY) zdf U U k27 hg U) U U ?_)
      refine⟨.inl hC,?_⟩
      refine zaS U U (gn U) (zD zdf U U ?_)
      intro b6 w6 e6 n6 c6 k6
      have hN6:=hC.size
      have hC:=hC.trans c6
      have k27:=k27.chg0 c6
      refine⟨.inl hC,?_⟩
      refine zaS U U (gn U) (zv zjK U U U U k6 (by simp) (by intro u hu;simp at hu;rcases hu with rfl|rfl|rfl<;>rfl) ?_)
      intro wA nA cA kA
      have hC:=hC.own cA (by intro y hy;simp at hy;omega)
      refine⟨.inl hC,?_⟩
      refine ze0 [2,3,6] (F':=[(2,_),(3,_),(6,_)]) U ?_
      exact⟨b6,s,f,c.t,rfl,by rw[←hkk];exact kA,hC,rfl,hbf,hff hr⟩
     refine zaS U U (gn U) (zD zdf U U ?_)
     intro b6 w6 e6 n6 c6 k6
     have hN6:=hC.size
     have hC:=hC.trans c6
     have k27:=k27.chg0 c6
     refine⟨.inl hC,?_⟩
     refine zaS U U (gn U) (St.vl (zcL (κ:=y6 .i64) zfY (zM yY) zdf U U k27 hg U) U U ?_)
     refine⟨.inl hC,?_⟩
     refine zaS U U (gn U) (zv zjK U U U U k6 (by simp) (by intro u hu;simp at hu;rcases hu with rfl|rfl|rfl<;>rfl) ?_)
     intro wA nA cA kA
     have hC:=hC.own cA (by intro y hy;simp at hy;omega)
     refine⟨.inl hC,?_⟩
     refine ze0 [2,3,6] (F':=[(2,_),(3,_),(6,_)]) U ?_
     exact⟨b6,s,f,c.t,rfl,by rw[←hkk];exact kA,hC,rfl,hbf,hff hr⟩
    refine zaS U U (gn U) (zD zdf U U ?_)
    intro b6 w6 e6 n6 c6 k6
    have hN6:=hC.size
    have hC:=hC.trans c6
    refine⟨.inl hC,?_⟩
    refine zaS U U (gn U) (zaf zn7 U U U U (zh5 _) ?_)
    rintro v27 w27⟨b27,rfl,h27,k27,c27⟩
    have hN27:=hC.size
    have hC:=hC.trans c27
    have k6:=k6.chg0 c27
    refine⟨.inl hC,?_⟩
    refine zaS U U (gn U) (St.vl (zcL (κ:=y6 .i64) zfY (zM yY) zdf U U k27 hg U) U U ?_)
    refine⟨.inl hC,?_⟩
    refine zaS U U (gn U) (zv zjK U U U U k6 (by simp) (by intro u hu;simp at hu;rcases hu with rfl|rfl|rfl<;>rfl) ?_)
    intro wA nA cA kA
    have hC:=hC.own cA (by intro y hy;simp at hy;omega)
    refine⟨.inl hC,?_⟩
    refine ze0 [2,3,6] (F':=[(2,_),(3,_),(6,_)]) U ?_
    exact⟨b6,s,f,c.t,rfl,by rw[←hkk];exact kA,hC,rfl,hbf,hff hr⟩
   rintro F wA⟨b6,s,f,k,rfl,kA,hcA,rfl,hbf,hff⟩
   have hk2b:=hk2a.chg0 hcA
   have hk3b:=hk3a.chg0 hcA
   have hwA:=hc17.trans hcA
   refine zd (zu (zd ?_))
   by_cases h0:x.k=0
   ·refine za (Od zby U (Ol zdb U (hk3b.cell' U) ?_))
    refine Og (vt (zA U U) (dt (by omega))) U ?_
    refine Om U (Oy U U (ze zkr U) (Oy U U (zj ag4 U (hk2b.cell' U)) (Ot U (Oa U (E4 2 3 6 31 U ?_)))))
    refine zH U (fun hT=>?_) (fun hF=>?_)
    ·refine Sr (Oa U (E1 4 U (zh ?_)))
     repeat first|refine tr ?_|refine br ?_
     refine zx U U ?_
     exact⟨.inl ⟨rfl,by rw[zkn hr hc h0,hT];rfl⟩,hwA⟩
    refine Sr (Od zby U (Ol zdb U (hk3b.cell' U) ?_))
    refine Og (vt (zA U U) (dt (by omega))) U ?_
    refine Oa U (E4 2 3 6 39 U (zf U (Sr (Od zcR U (Ol ag9 U (hk2b.cell' U) (Og (zS zcX U) U ?_))))))
    refine Og (zC zlW zlU U (vs:=[_,_]) U (css:=[_,_]) ⟨U,U,trivial⟩ U U (cs:=[_,_]) U) U ?_
    refine Ob U U ?_
    intro b47 w47 e47 n47 c47 k47
    refine Og (zS zlq U) U (Oa U (E1 4 U (zh ?_)))
    repeat first|refine tr ?_|refine br ?_
    refine zx U U ?_
    rw[zkn hr hc h0,hF]
    exact⟨.inr ⟨ziZ k47,by decide⟩,hwA.trans c47⟩
   refine za (Od zby U (Ol zdb U (hk3b.cell' U) ?_))
   refine Og (vf (zA U U) (df (by omega))) U ?_
   refine Om U (Oz U U (Oz U U (Of U (Oa U (E4 2 3 6 31 U (zb U (Sr (Od zby U (Ol zdb U (hk3b.cell' U) ?_)))))))))
   refine Og (vf (zA U U) (df (by omega))) U ?_
   refine Oa U (E4 2 3 6 39 U (zb U (zd ?_)))
   by_cases h4:x.k=c.t
   ·refine za (Od zby U (Ol zdb U (hk3b.cell' U) (Od zoq U (Ol zdb U (kA.cell' U) ?_))))
    refine Og (vf (zZ U U) (zb6 (by omega))) U ?_
    refine Oa U (E4 2 3 6 49 U (zb U (Sr (Od zsC U (Ol zxB U (kA.cell' U) (Od zdM U (Ol ag3 U (hk2b.cell' U) (Og (zg zaX yv U U (zB.of_blk0 hk3b)) U ?_))))))))
    refine Oc hbf U U U (hff x _ hx) ?_
    rintro v67 w67⟨rfl,c67⟩
    refine Og (zE U) U (Oa U (E2 2 61 U ?_))
    cases hwd:zb1 c x with
    |true=>
     refine zf U (Sr (Od zcR U (Ol ag9 U ((hk2b.chg0 c67).cell' U) (Og (zS zcX U) U ?_))))
     refine Og (zC zlW zlU U (vs:=[_,_]) U (css:=[_,_]) ⟨U,U,trivial⟩ U U (cs:=[_,_]) U) U ?_
     refine Ob U U ?_
     intro b73 w73 e73 n73 c73 k73
     refine Og (zS zlq U) U (Oa U (E1 4 U (zh ?_)))
     repeat first|refine tr ?_|refine br ?_
     refine zx U U ?_
     rw[zom hr hc h0 h4,hwd]
     exact⟨.inr ⟨ziZ k73,by decide⟩,(hwA.trans c67).trans c73⟩
    |false=>
     refine zb U (z0 (zn (Sr (Oa U (E1 4 U (zh ?_))))))
     repeat first|refine tr ?_|refine br ?_
     refine zx U U ?_
     rw[zom hr hc h0 h4,hwd]
     exact⟨.inl ⟨U,U⟩,hwA.trans c67⟩
   refine za (Od zby U (Ol zdb U (hk3b.cell' U) (Od zoq U (Ol zdb U (kA.cell' U) ?_))))
   refine Og (vt (zZ U U) (zet (by omega))) U ?_
   refine Oa U (E4 2 3 6 49 U (zf U (Sr (Od zcR U (Ol ag9 U (hk2b.cell' U) (Og (zS zcX U) U ?_))))))
   refine Og (zC zlW zlU U (vs:=[_,_]) U (css:=[_,_]) ⟨U,U,trivial⟩ U U (cs:=[_,_]) U) U ?_
   refine Ob U U ?_
   intro b59 w59 e59 n59 c59 k59
   refine Og (zS zlq U) U (Oa U (E1 4 U (zh ?_)))
   repeat first|refine tr ?_|refine br ?_
   refine zx U U ?_
   rw[zte hr hc h0 h4]
   exact⟨.inr ⟨ziZ k59,by decide⟩,hwA.trans c59⟩
  refine za (Om U ?_)
  refine Og (vt (zZ U U) (by simp[hc])) U ?_
  refine E4 2 3 5 19 U (zf U (Sr (Od zcR U (Ol ag9 U (hk2a.cell' U) (Om U (Og (zS zcX U) U ?_))))))
  refine Og (zC zlW zlU U (vs:=[_,_]) U (css:=[_,_]) ⟨U,U,trivial⟩ U U (cs:=[_,_]) U) U ?_
  refine Ob U U ?_
  intro b25 w25 e25 n25 c25 k25
  refine Og (zS zlq U) U (Oa U (E1 4 U (zh ?_)))
  repeat first|refine tr ?_|refine br ?_
  refine zx U U ?_
  rw[ztD hr hc]
  exact⟨.inr ⟨ziZ k25,hc⟩,hc17.trans c25⟩
theorem zjG:∀{cs:List Col} {xs:List zT} {j:Nat} {c:Col} {x:zT},cs[j]? = some c→xs[j]? = some x→y7 c x≠0→(∀(i:Nat) c x,i<j→cs[i]? = some c→xs[i]? = some x→y7 c x=0)→zaz cs xs=y7 c x
 |[],_,_,_,_,h,_,_,_=>by simp at h
 |_::_,[],_,_,_,_,h,_,_=>by simp at h
 |c'::cs,x'::xs,0,c,x,hc,hx,hn,_=>by
  simp at hc hx;subst hc hx
  simp[zaz,hn]
 |c'::cs,x'::xs,j+1,c,x,hc,hx,hn,ha=>by
  have h0:=ha 0 c' x' (by omega) rfl rfl
  unfold zaz
  rw[if_neg (by simp[h0])]
  exact zjG (by simpa using hc) (by simpa using hx) hn (fun i c x hi h1 h2=>ha (i+1) c x (by omega) (by simpa using h1) (by simpa using h2))
theorem zjp:∀{cs:List Col} {xs:List zT},(∀(i:Nat) c x,cs[i]? = some c→xs[i]? = some x→y7 c x=0)→zaz cs xs=0
 |[],_,_=>by simp[zaz]
 |_::_,[],_=>by simp[zaz]
 |c::cs,x::xs,h=>by
  unfold zaz
  rw[if_neg (by simp[h 0 c x rfl rfl])]
  exact zjp fun i c x h1 h2=>h (i+1) c x (by simpa using h1) (by simpa using h2)
theorem zwN(c k u v:Va)(s:yx)(l:List zT)(w:Wl)(hs:zal w c k u s)(hl:yn w v l)(hg:∀x∈l,x.Rng)(hn:l.length≤1048576)(hn':s.cols.length≤1048576) :
 zL TP 192 #[.agg #[c,k,u],v] w fun r w'=>ze7 w' r (if l.length≠s.cols.length then 130 else zaz s.cols l)∧zl [] w w':=by
 obtain⟨pc,dc,rfl,hdc⟩:=zO.val hs.cols
 obtain⟨pv,cv,rfl,hle⟩:=zO.val hl
 refine A2 Tryz.func192 U U ?_
 refine Sr ?_
 refine Ob U U ?_
 intro b2 w2 e2 n2 c2 k2
 refine Oa U (E2 1 2 U (zd (zd ?_)))
 by_cases he:l.length=s.cols.length
 ·refine za (Om U (On zbn U (Od yW U (Ol zcr U (k2.cell' U) (On zbF U ?_)))))
  refine Og (vf (zZ U U) (zb6 (by omega))) U ?_
  refine E3 1 2 13 U (zb U (zk ?_))
  rw[if_neg (by simp[he])]
  refine zd (Sr (Om U (On zbn U (Om U (E4 2 15 16 17 U (zu ?_))))))
  refine zX [2,15,16,17] (fun m F wx=>∃j:Nat,m=l.length-j∧j≤l.length∧F=[(2,Pt b2),(15,.slice pv l.length cv),(16,Ii l.length),(17,Ii j)]∧zl [] w2 wx∧(∀i c x,i<j→s.cols[i]? = some c→l[i]? = some x→y7 c x=0)) (m:=l.length-0) ⟨0,rfl,Nat.zero_le _,rfl,zl.refl _ _,by intro i c x h;omega⟩ ?_
  rintro m F wx⟨j,rfl,hj,rfl,hcx,hall⟩
  have hcw:zl [] w wx:=c2.trans hcx
  have hk2:=k2.chg0 hcx
  refine Sr (Og (zF U U) U (E5 2 15 16 17 18 U (zd ?_)))
  refine zH U (fun hT=>?_) (fun hF=>?_)
  ·refine zk ?_
   have hlt:j<l.length:=by have:=of_decide_eq_true hT;omega
   have hx:l[j]? = some l[j]:=by simp[hlt]
   generalize l[j]=x at hx
   have hlt2:j<s.cols.length:=by omega
   have hcc:s.cols[j]? = some s.cols[j]:=by simp[hlt2]
   generalize s.cols[j]=c at hcc
   obtain⟨b,off,cap,hv,hcell⟩:=zO.at zc2 (zO.chg0 hl hcw) hx
   cases hv
   obtain⟨bc,oc,cc,hvc,hcellc⟩:=zO.at zb9 (zO.chg0 hs.cols hcw) hcc
   cases hvc
   refine zd (zu (Sr (Om U ?_)))
   refine Og (zm zbn yv U U _ U hlt) U ?_
   refine Og (zg zaX yv U U hcell) U ?_
   refine Oq (zD zcq U U ?_)
   intro b6 w6 e6 n6 c6 k6
   refine Oa U ?_
   refine Oq (zv yv U U U U k6 (by simp[zT.cs]) (zT.one x) ?_)
   intro wA nA cA kA
   refine E6 2 5 6 15 16 17 U ?_
   have hcA:zl [] wx wA:=c6.own cA (by intro y hy;simp at hy;omega)
   have kA:zK wA b6 111 x.cs:=kA
   have hk2A:=hk2.chg0 hcA
   have hdA:zl [] wA wA.drew:=zl.drew [] _
   refine zd ?_
   by_cases hf:y7 c x=0
   ·refine zN (fun wz=>zl [] wA wz) mix (by kernel_rfl) hdA ?_
    refine Td yW U (Tr (fun wz hz=>zj zcr U ((hk2A.chg0 hz).cell' U)) U (Tm U ?_))
    refine Tp (fun _=>zm zbF zaL U U _ U hlt2) U ?_
    refine Tr (fun wz hz=>zg zdy zaL U U ((hcellc.chg0 hcA).chg0 hz)) U (Tr (fun wz hz=>zg zaX yv U U (zB.of_blk0 (kA.chg0 hz))) U ?_)
    refine Tc zqk U U U (zm1 c x _ (hg x (List.mem_of_getElem? hx))) ?_
    rintro v28 w28⟨h28,c28⟩
    have h28:=h28.resolve_right (fun h=>h.2 hf)
    obtain⟨rfl,_⟩:=h28
    refine⟨.inl (hdA.trans c28),?_⟩
    refine Ta U (D5 2 7 15 16 17 U (Sr (Om U (Og (zaE zbS U U) U (Om U (Oz U U (Oz U U (Oz U U (Oz U U (Of U (E6 2 7 15 16 17 36 U (zb U (z0 (zn ?_))))))))))))))
    refine za ?_
    refine Og (zG U U (by omega)) U ?_
    refine Om U (N4 2 15 16 17 U ?_)
    refine⟨l.length-(j+1),by omega,j+1,rfl,by omega,rfl,((hcx.trans hcA).trans hdA).trans c28,?_⟩
    intro i c' x' hi hc' hx'
    rcases Nat.lt_or_ge i j with hij|hij
    ·exact hall i c' x' hij hc' hx'
    have:i=j:=by omega
    subst this
    rw[hx]at hx';rw[hcc]at hc'
    cases hx';cases hc'
    exact hf
   refine zN (fun wz=>zl [] wA wz) mix (by kernel_rfl) hdA ?_
   refine Td yW U (Tr (fun wz hz=>zj zcr U ((hk2A.chg0 hz).cell' U)) U (Tm U ?_))
   refine Tp (fun _=>zm zbF zaL U U _ U hlt2) U ?_
   refine Tr (fun wz hz=>zg zdy zaL U U ((hcellc.chg0 hcA).chg0 hz)) U (Tr (fun wz hz=>zg zaX yv U U (zB.of_blk0 (kA.chg0 hz))) U ?_)
   refine Tc zqk U U U (zm1 c x _ (hg x (List.mem_of_getElem? hx))) ?_
   rintro v28 w28⟨h28,c28⟩
   have h28:=(h28.resolve_left (fun h=>hf h.2)).1
   refine⟨.inl (hdA.trans c28),?_⟩
   refine Ta U (D5 2 7 15 16 17 U (Sr (Om U (Og (zaE zbS U h28.notNil) U (Om U (Oj U U (Oy U U (zS zcX U) ?_)))))))
   refine Ow U U zuv U U U (zyA v28 (y7 c x) 0 _ h28) ?_
   rintro v34 w34⟨h34,c34⟩
   rw[df hf]at h34
   subst h34
   refine Oy U U (zE U) (Ot U (E6 2 7 15 16 17 36 U (zf U (Sr (Om U (Oa U (E1 4 U (zh ?_))))))))
   repeat first|refine tr ?_|refine br ?_
   refine zx U U ?_
   rw[zjG hcc hx hf hall]
   exact⟨.inr ⟨h28.chg0 c34,hf⟩,(((hcw.trans hcA).trans hdA).trans c28).trans c34⟩
  refine zI ?_
  repeat first|refine te ?_|refine bo rfl ?_
  refine zt _ ?_
  have hge:l.length≤j:=by have:=of_decide_eq_false hF;omega
  refine Sr (Oa U (E1 4 U (zh ?_)))
  repeat first|refine tr ?_|refine br ?_
  refine zx U U ?_
  refine⟨.inl ⟨U,zjp fun i c x h1 h2=>hall i c x ?_ h1 h2⟩,hcw⟩
  have:=(Gs h2).1
  omega
 refine za (Om U (On zbn U (Od yW U (Ol zcr U (k2.cell' U) (On zbF U ?_)))))
 refine Og (vt (zZ U U) (zet (by omega))) U ?_
 refine E3 1 2 13 U (zf U (Sr (Og (zS zcX U) U (Oa U (E1 4 U (zh ?_))))))
 repeat first|refine tr ?_|refine br ?_
 refine zx U U ?_
 rw[if_pos he]
 exact⟨.inr ⟨.inl U,by omega⟩,c2⟩
theorem zu3(c k u v:Va)(s:yx)(l:List zT)(w:Wl)(hE:EOk w)(hs:zal w c k u s)(hm:s.Sm)(hl:yn w v l)(hg:∀x∈l,x.Rng)(hn:l.length≤1048576) :
 zL TP 137 #[.agg #[c,k,u],v] w fun r w'=>r=Ii (zai s l)∧zl [] w w':=by
 refine A2 Tryz.func137 U U ?_
 refine Sr ?_
 refine Ob U U ?_
 intro b2 w2 e2 n2 c2 k2
 refine Oa U (E2 1 2 U (zd (zd ?_)))
 unfold zai
 cases hr:zaq s with
 |false=>
  refine za (Og (zg zbQ zbL U U (zB.of_blk0 k2)) U ?_)
  refine Oc zj4 U U U (zfF c k u s _ (hs.chg0 c2) hm) ?_
  rintro v7 w7⟨h7,c7⟩
  rw[hr]at h7
  change v7=Ii 2 at h7
  subst h7
  refine Oa U (E3 1 2 5 U (Sr (Om U ?_)))
  refine Og (vt (zZ U U) (zet (by omega))) U ?_
  refine E4 1 2 5 9 U (zf U (Sr (Om U (Oa U (E1 4 U (zh ?_))))))
  repeat first|refine tr ?_|refine br ?_
  refine zx U U ?_
  exact⟨U,c2.trans c7⟩
 |true=>
  refine za (Og (zg zbQ zbL U U (zB.of_blk0 k2)) U ?_)
  refine Oc zj4 U U U (zfF c k u s _ (hs.chg0 c2) hm) ?_
  rintro v7 w7⟨h7,c7⟩
  rw[hr]at h7
  change v7=Ii 0 at h7
  subst h7
  refine Oa U (E3 1 2 5 U (Sr (Om U ?_)))
  refine Og (vf (zZ U U) (zb6 (by omega))) U ?_
  refine E4 1 2 5 9 U (zb U (zk (zd ?_)))
  have hc7:=c2.trans c7
  refine za (Og (zg zbQ zbL U U (zB.of_blk0 (k2.chg0 c7))) U (Om U ?_))
  refine Oc zyq U U U (zwN c k u v s l _ (hs.chg0 hc7) (zO.chg0 hl hc7) hg hn hm.cols) ?_
  rintro v13 w13⟨h13,c13⟩
  refine Oc zuZ U U U (zpY _ _ _ (hE.chg0 (hc7.trans c13)) h13.weak) ?_
  rintro v14 w14⟨rfl,c14⟩
  refine Oa U (E1 4 U (zh ?_))
  refine zx U U ?_
  exact⟨by simp,(hc7.trans c13).trans c14⟩
theorem zpv{row:List zT}{st:List Int}{j:Nat}{i:Int}(h:st[j]? = some i):z4 row (st.take (j+1))=z4 row (st.take j)++[zf3 row i]:=by
 rw[zeu,zeu,List.take_add_one,h,List.map_append]
 rfl
theorem zO.push{α:Type}{w:Wl}{e k:Nat}{f:α→List Va}{v:Va}{l:List α}{x:α}{n:Nat}{xs:List Va}(h:zw w e k v n xs)(hn:n=l.length+1)(hx:xs=fl f l++f x):yh w e k f v (l++[x]):=by
 subst hn hx
 unfold yh
 rw[List.length_append,zpt,show fl f [x]=f x by simp[fl]]
 exact h
theorem zl3(row:List zT)(st:List Int):(z4 row st).length=st.length:=by simp[z4]
theorem zwt(v vi:Va)(row:List zT)(st:List Int)(w:Wl)(hv:yn w v row)(hi:zap w vi st)(hr:∀i∈st,0≤i∧i<row.length)(hn:row.length≤1048576)(hn':st.length≤1048576) :
 zL TP 193 #[v,vi] w fun r w'=>∃u,r=.tuple #[u,Ii 0]∧yn w' u (z4 row st)∧(∀b∈zq u,w.heap.size≤b)∧zl [] w w':=by
 obtain⟨pi,ci,rfl,hci⟩:=zO.val hi
 refine A2 Tryz.func193 U U ?_
 refine Sr (Oa U (Oa U (E2 0 1 U (Sr (Oa U (E3 0 1 6 U (zd (Sr (Om U (On zc1 U (Om U (E5 0 6 9 10 11 U ?_))))))))))))
 refine zu ?_
 refine zX [0,6,9,10,11] (fun m F wx=>∃(j:Nat) (u:Va),m=st.length-j∧j≤st.length∧F=[(0,v),(6,u),(9,.slice pi st.length ci),(10,Ii st.length),(11,Ii j)]∧yh wx 111 4 zT.cs u (z4 row (st.take j))∧(∀b∈zq u,w.heap.size≤b)∧zl [] w wx) (m:=st.length-0) ⟨0,_,rfl,Nat.zero_le _,rfl,yh.nil _ _ _ _,by simp[zq],zl.refl _ _⟩ ?_
 rintro m F wx⟨j,u,rfl,hj,rfl,hu,hfu,hcx⟩
 have hvx:=zO.chg0 hv hcx
 refine Sr (Og (zF U U) U (E6 0 6 9 10 11 12 U (zd ?_)))
 refine zH U (fun hT=>?_) (fun hF=>?_)
 ·refine zk ?_
  have hlt:j<st.length:=by have:=of_decide_eq_true hT;omega
  have hx:st[j]? = some st[j]:=by simp[hlt]
  generalize st[j]=i at hx
  have hri:=hr i (List.mem_of_getElem? hx)
  obtain⟨i,rfl⟩:∃k:Nat,i=(k:Int):=⟨i.toNat,by omega⟩
  obtain⟨bi,oi,cap,hve,hcell⟩:=zap.cell (zO.chg0 hi hcx) hx
  cases hve
  have hir:i<row.length:=by omega
  have hxv:row[i]? = some row[i]:=by simp[hir]
  have hat:zf3 row (i:Int)=row[i]:=by unfold zf3;rw[Int.toNat_natCast,hxv];rfl
  generalize row[i]=x at hxv hat
  obtain⟨bv,ov,cv,hve,hcv⟩:=zO.at zc2 hvx hxv
  subst hve
  refine zd (zu (Sr ?_))
  refine Og (zm zc1 sz3 U U _ U hlt) U ?_
  refine Ol ag3 U hcell (Oa U (E6 0 6 8 9 10 11 U (zd (Sr (Om U ?_)))))
  refine Og (vf (zF U U) (df (by omega))) U ?_
  refine Om U (Oj U U (Oj U U (Oy U U (z5 zbn U) ?_)))
  refine Oy U U (vf (yj U U) (df (by omega))) ?_
  refine Of U (E7 0 6 8 9 10 11 22 U (zb U (zk ?_)))
  have hl:(z4 row (st.take j)).length=j:=by rw[zl3,List.length_take];omega
  refine za (Om U (Om U (Om U ?_)))
  refine Og (zm zbn yv U U _ U hir) U ?_
  refine Og (zg zaX yv U U hcv) U ?_
  refine Oq (zz zmD U (vs:=[_]) U (css:=[_]) ⟨U,trivial⟩ U U (cs:=[_,_,_,_]) U U ?_)
  intro b28 w28 e28 n28 c28 k28
  refine Oq (yE zmD zbn U U (zw.chg0 hu c28) (zw.of_blk (n:=1) k28 U (by simp[maxLen]) (zT.one x)) (by rw[hl];simp only[maxLen];omega) (by rw[hl];omega) U ?_)
  intro v29 w29 i29 c29 o29 z29
  refine Oa U (N5 0 6 9 10 11 U (zn (za ?_)))
  refine Og (zG U U (by omega)) U ?_
  refine Om U (N5 0 6 9 10 11 U ?_)
  have hsz:=hcx.size
  have hs28:=c28.size
  refine⟨st.length-(j+1),by omega,j+1,v29,rfl,by omega,rfl,?_,zaH o29 hfu (by omega),?_⟩
  ·rw[zpv hx,hat]
   exact zO.push i29 U U
  exact(hcx.trans c28).own c29 hfu
 refine zI ?_
 repeat first|refine te ?_|refine bo rfl ?_
 refine zt _ ?_
 have he:st.length≤j:=by have:=of_decide_eq_false hF;omega
 refine Sr (Om U (Oa U (Oa U (E2 4 5 U (zh ?_)))))
 refine zbX U U U ?_
 rw[Tl he]at hu
 exact⟨u,U,hu.arr,hfu,hcx⟩
theorem zvX(x y:Col):zem [1,0,0,2] x.cs y.cs=some (decide (x=y)):=by
 obtain⟨n,t,s,z⟩:=x
 obtain⟨n',t',s',z'⟩:=y
 simp only[Col.cs,zem,zlD,if_true,Option.some.injEq,Col.mk.injEq]
 rw[Bool.eq_iff_iff]
 simp
theorem zkl(u v:Va)(l m:List Col)(w:Wl)(hu:zg5 w u l)(hv:zg5 w v m)(hn:l.length≤1048576)(hn':m.length≤1048576) :
 zL TP 115 #[u,v] w fun r w'=>r=.bool (decide (l=m))∧zl [] w w':=by
 obtain⟨pu,cu,rfl,hcu⟩:=zO.val hu
 obtain⟨pv,cv,rfl,hcv⟩:=zO.val hv
 refine A2 Tryz.func115 U U ?_
 refine Sr (Oa U (E2 0 1 U (zd (zd ?_))))
 by_cases he:l.length=m.length
 ·refine za (Om U (On zbF U (Om U (On zbF U ?_))))
  refine Og (vf (zZ U U) (zb6 (by omega))) U ?_
  refine E3 0 1 10 U (zb U (zk (zd (Sr (Om U (On zbF U (Om U (E4 0 1 12 13 U (zu ?_)))))))))
  refine zX [0,1,12,13] (fun n F wx=>∃j:Nat,n=l.length-j∧j≤l.length∧F=[(0,.slice pu l.length cu),(1,.slice pv m.length cv),(12,Ii l.length),(13,Ii j)]∧l.take j=m.take j∧zl [] w wx) (m:=l.length-0) ⟨0,rfl,Nat.zero_le _,rfl,by simp,zl.refl _ _⟩ ?_
  rintro n F wx⟨j,rfl,hj,rfl,heq,hcx⟩
  refine Sr (Og (zF U U) U (E5 0 1 12 13 14 U (zd ?_)))
  refine zH U (fun hT=>?_) (fun hF=>?_)
  ·refine zk ?_
   have hlt:j<l.length:=by have:=of_decide_eq_true hT;omega
   have hlt2:j<m.length:=by omega
   have hx:l[j]? = some l[j]:=by simp[hlt]
   have hy:m[j]? = some m[j]:=by simp[hlt2]
   generalize l[j]=x at hx
   generalize m[j]=y at hy
   obtain⟨b,off,cap,hve,hc1⟩:=zO.at zb9 (zO.chg0 hu hcx) hx
   cases hve
   obtain⟨b',off',cap',hve,hc2⟩:=zO.at zb9 (zO.chg0 hv hcx) hy
   cases hve
   have hd:zl [] wx wx.drew:=zl.drew [] _
   refine zd (zu (Sr (Om U (Oa U (E5 0 1 5 12 13 U (zd ?_))))))
   refine zN (fun wz=>zl [] wx wz) mix (by kernel_rfl) hd ?_
   refine Tm U (Tm U ?_)
   refine Tp (fun _=>zm zbF zaL U U _ U hlt) U ?_
   refine Tr (fun wz hz=>zg zdy zaL U U (hc1.chg0 hz)) U (Tm U (Tm U ?_))
   refine Tp (fun _=>zm zbF zaL U U _ U hlt2) U ?_
   refine Tr (fun wz hz=>zg zdy zaL U U (hc2.chg0 hz)) U (Tp (fun _=>zkC zyi U U (zvX x y)) U (D5 0 1 12 13 24 U ?_))
   refine zH U (fun hT=>?_) (fun hF=>?_)
   ·have hne:x≠y:=by simpa using hT
    refine Sr (Oa U (E1 4 U (zh ?_)))
    repeat first|refine tr ?_|refine br ?_
    refine zx U U ?_
    refine⟨?_,hcx.trans hd⟩
    have:l≠m:=by
     rintro rfl
     rw[hx]at hy
     exact hne (Option.some.inj hy)
    rw[df this]
   have hxy:x=y:=by simpa using hF
   refine z0 (zn (za ?_))
   refine Og (zG U U (by omega)) U ?_
   refine Om U (N4 0 1 12 13 U ?_)
   refine⟨l.length-(j+1),by omega,j+1,rfl,by omega,rfl,?_,hcx.trans hd⟩
   rw[List.take_add_one,List.take_add_one,hx,hy,heq,hxy]
  refine zI ?_
  repeat first|refine te ?_|refine bo rfl ?_
  refine zt _ ?_
  have hge:l.length≤j:=by have:=of_decide_eq_false hF;omega
  refine Sr (Oa U (E1 4 U (zh ?_)))
  repeat first|refine tr ?_|refine br ?_
  refine zx U U ?_
  rw[Tl hge,Tl (by omega)]at heq
  exact⟨by rw[dt heq],hcx⟩
 refine za (Om U (On zbF U (Om U (On zbF U ?_))))
 refine Og (vt (zZ U U) (zet (by omega))) U ?_
 refine E3 0 1 10 U (zf U (Sr (Oa U (E1 4 U (zh ?_)))))
 repeat first|refine tr ?_|refine br ?_
 refine zx U U ?_
 have:l≠m:=fun h=>he (by rw[h])
 exact⟨by rw[df this],zl.refl _ _⟩
theorem znu(u v:Va)(l m:List Int)(w:Wl)(hu:zap w u l)(hv:zap w v m)(hn:l.length≤1048576)(hn':m.length≤1048576) :
 zL TP 116 #[u,v] w fun r w'=>r=.bool (decide (l=m))∧zl [] w w':=by
 obtain⟨pu,cu,rfl,hcu⟩:=zO.val hu
 obtain⟨pv,cv,rfl,hcv⟩:=zO.val hv
 refine A2 Tryz.func116 U U ?_
 refine Sr (Oa U (E2 0 1 U (zd (zd ?_))))
 by_cases he:l.length=m.length
 ·refine za (Om U (On zc1 U (Om U (On zc1 U ?_))))
  refine Og (vf (zZ U U) (zb6 (by omega))) U ?_
  refine E3 0 1 10 U (zb U (zk (zd (Sr (Om U (On zc1 U (Om U (E4 0 1 12 13 U (zu ?_)))))))))
  refine zX [0,1,12,13] (fun n F wx=>∃j:Nat,n=l.length-j∧j≤l.length∧F=[(0,.slice pu l.length cu),(1,.slice pv m.length cv),(12,Ii l.length),(13,Ii j)]∧l.take j=m.take j∧zl [] w wx) (m:=l.length-0) ⟨0,rfl,Nat.zero_le _,rfl,by simp,zl.refl _ _⟩ ?_
  rintro n F wx⟨j,rfl,hj,rfl,heq,hcx⟩
  refine Sr (Og (zF U U) U (E5 0 1 12 13 14 U (zd ?_)))
  refine zH U (fun hT=>?_) (fun hF=>?_)
  ·refine zk ?_
   have hlt:j<l.length:=by have:=of_decide_eq_true hT;omega
   have hlt2:j<m.length:=by omega
   have hx:l[j]? = some l[j]:=by simp[hlt]
   have hy:m[j]? = some m[j]:=by simp[hlt2]
   generalize l[j]=x at hx
   generalize m[j]=y at hy
   obtain⟨b,off,cap,hve,hc1⟩:=zO.at zgE (zO.chg0 hu hcx) hx
   cases hve
   obtain⟨b',off',cap',hve,hc2⟩:=zO.at zgE (zO.chg0 hv hcx) hy
   cases hve
   have hd:zl [] wx wx.drew:=zl.drew [] _
   refine zd (zu (Sr (Om U (Oa U (E5 0 1 5 12 13 U (zd ?_))))))
   refine zN (fun wz=>zl [] wx wz) mix (by kernel_rfl) hd ?_
   refine Tm U (Tm U ?_)
   refine Tp (fun _=>zm zc1 sz3 U U _ U hlt) U ?_
   refine Tr (fun wz hz=>zj ag3 U (hc1.chg0 hz 0 _ U)) U ?_
   refine Tm U (Tm U ?_)
   refine Tp (fun _=>zm zc1 sz3 U U _ U hlt2) U ?_
   refine Tr (fun wz hz=>zj ag3 U (hc2.chg0 hz 0 _ U)) U ?_
   refine Tp (fun _=>zZ U U) U (D5 0 1 12 13 24 U ?_)
   refine zH U (fun hT=>?_) (fun hF=>?_)
   ·have hne:x≠y:=by simpa using hT
    refine Sr (Oa U (E1 4 U (zh ?_)))
    repeat first|refine tr ?_|refine br ?_
    refine zx U U ?_
    refine⟨?_,hcx.trans hd⟩
    have:l≠m:=by
     rintro rfl
     rw[hx]at hy
     exact hne (Option.some.inj hy)
    rw[df this]
   have hxy:x=y:=by simpa using hF
   refine z0 (zn (za ?_))
   refine Og (zG U U (by omega)) U ?_
   refine Om U (N4 0 1 12 13 U ?_)
   refine⟨l.length-(j+1),by omega,j+1,rfl,by omega,rfl,?_,hcx.trans hd⟩
   rw[List.take_add_one,List.take_add_one,hx,hy,heq,hxy]
  refine zI ?_
  repeat first|refine te ?_|refine bo rfl ?_
  refine zt _ ?_
  have hge:l.length≤j:=by have:=of_decide_eq_false hF;omega
  refine Sr (Oa U (E1 4 U (zh ?_)))
  repeat first|refine tr ?_|refine br ?_
  refine zx U U ?_
  rw[Tl hge,Tl (by omega)]at heq
  exact⟨by rw[dt heq],hcx⟩
 refine za (Om U (On zc1 U (Om U (On zc1 U ?_))))
 refine Og (vt (zZ U U) (zet (by omega))) U ?_
 refine E3 0 1 10 U (zf U (Sr (Oa U (E1 4 U (zh ?_)))))
 repeat first|refine tr ?_|refine br ?_
 refine zx U U ?_
 have:l≠m:=fun h=>he (by rw[h])
 exact⟨by rw[df this],zl.refl _ _⟩
theorem zsS(v:Va)(l:List Int)(w:Wl)(h:zap w v l)(hn:l.length≤1048576):zL TP 226 #[v] w fun r w'=>yh w' 3 1 ics r l∧(∀b∈zq r,w.heap.size≤b)∧zl [] w w':=by
 obtain⟨p,c,rfl,_⟩:=zO.val h
 refine A1 Tryz.func226 U U ?_
 refine Sr (Oa U (E1 0 U (zd (Sr (Om U (Og (zkI zc1 U U) U (E2 0 4 U ?_)))))))
 refine zH U (fun hT=>?_) (fun hF=>?_)
 ·refine Sr (Oa U (E1 2 U (zh ?_)))
  refine zba ?_
  refine zx U U ?_
  obtain⟨p',cap,he,_,_,_,_,h6⟩:=h
  simp only[Value.slice.injEq]at he
  obtain⟨rfl,_,_⟩:=he
  have h2:l.length=0:=by
   rcases Nat.eq_zero_or_pos l.length with h0|h0
   ·exact h0
   obtain⟨b,off,rfl,_⟩:=h6 h0
   simp at hT
  have:l=[]:=List.length_eq_zero_iff.1 h2
  subst this
  exact⟨yh.nil _ _ _ _,by simp[zq],zl.refl _ _⟩
 refine zk (Sr ?_)
 refine Oq (zz zwD U (vs:=[]) U (css:=[]) trivial U U (cs:=[]) U U ?_)
 intro b5 w5 e5 n5 c5 k5
 refine Om U ?_
 refine Oq (ziT zwD zc1 U U (zw.of_blk (n:=0) k5 (by simp) (by simp[maxLen]) (by simp)) (Rd.chg0 h c5) (by simp only[maxLen];omega) (by omega) U ?_)
 intro v7 w7 i7 c7 o7 z7
 refine Oa U (E1 2 U (zh ?_))
 refine zx U U ?_
 refine⟨by unfold yh;simpa using i7,?_,c5.own c7 (by simp[zq,←e5])⟩
 rcases o7 with o7|⟨b,o7,hb⟩
 ·rw[o7];simp[zq,←e5]
 rw[o7];intro x hx;simp at hx;subst hx;have:=c5.size;omega
theorem zwX(u v:Va)(ls ms:List (List Int))(w:Wl)(hu:zdO w u ls)(hv:zdO w v ms)(hn:ls.length≤1048576)(hn':ms.length≤1048576)(h1:∀l∈ls,l.length≤1048576)(h2:∀l∈ms,l.length≤1048576) :
 zL TP 181 #[u,v,.func (.func 116) #[] #[]] w fun r w'=>r=.bool (decide (ls=ms))∧zl [] w w':=by
 obtain⟨pu,cu,rfl,hcu⟩:=zc7.val hu
 obtain⟨pv,cv,rfl,hcv⟩:=zc7.val hv
 refine A3 Tryz.func181 U U ?_
 refine Sr (Oa U (E3 0 1 2 U (zd (zd ?_))))
 by_cases he:ls.length=ms.length
 ·refine za (Om U (On zcZ U (Om U (On zcZ U ?_))))
  refine Og (vf (zZ U U) (zb6 (by omega))) U ?_
  refine E4 0 1 2 14 U (zb U (zk (zd (Sr (Om U (On zcZ U (Om U (E5 1 2 15 16 17 U (zu ?_)))))))))
  refine zX [1,2,15,16,17] (fun n F wx=>∃j:Nat,n=ls.length-j∧j≤ls.length∧F=[(1,.slice pv ms.length cv),(2,.func (.func 116) #[] #[]),(15,.slice pu ls.length cu),(16,Ii ls.length),(17,Ii j)]∧ls.take j=ms.take j∧zl [] w wx) (m:=ls.length-0) ⟨0,rfl,Nat.zero_le _,rfl,by simp,zl.refl _ _⟩ ?_
  rintro n F wx⟨j,rfl,hj,rfl,heq,hcx⟩
  refine Sr (Og (zF U U) U (E6 1 2 15 16 17 18 U (zd ?_)))
  refine zH U (fun hT=>?_) (fun hF=>?_)
  ·refine zk ?_
   have hlt:j<ls.length:=by have:=of_decide_eq_true hT;omega
   have hlt2:j<ms.length:=by omega
   have hx:ls[j]? = some ls[j]:=by simp[hlt]
   have hy:ms[j]? = some ms[j]:=by simp[hlt2]
   generalize ls[j]=x at hx
   generalize ms[j]=y at hy
   obtain⟨b,off,cap,ux,hve,hc1,hux⟩:=zc7.at (hu.chg0 hcx) hx
   cases hve
   obtain⟨b',off',cap',uy,hve,hc2,huy⟩:=zc7.at (hv.chg0 hcx) hy
   cases hve
   refine zd (zu (Sr (Om U ?_)))
   refine Og (zm zcZ zmt U U _ U hlt) U ?_
   refine Ol zfh U hc1 (Oa U (Oa U (E7 1 2 7 8 15 16 17 U (Sr (Om U (Om U ?_))))))
   refine Og (zm zcZ zmt U U _ U hlt2) U ?_
   refine Ol zfh U hc2 (Oa U (E7 1 2 8 9 15 16 17 U (Sr (Om U (Om U (Om U ?_))))))
   refine Oc zrc U U U (znu ux uy x y _ hux huy (h1 x (List.mem_of_getElem? hx)) (h2 y (List.mem_of_getElem? hy))) ?_
   rintro v29 w29⟨rfl,c29⟩
   refine Og (zE U) U (E6 1 2 15 16 17 30 U ?_)
   refine zH U (fun hT=>?_) (fun hF=>?_)
   ·have hne:x≠y:=by simpa using hT
    refine Sr (Oa U (E1 6 U (zh ?_)))
    repeat first|refine tr ?_|refine br ?_
    refine zx U U ?_
    refine⟨?_,hcx.trans c29⟩
    have:ls≠ms:=by
     rintro rfl
     rw[hx]at hy
     exact hne (Option.some.inj hy)
    rw[df this]
   have hxy:x=y:=by simpa using hF
   refine z0 (zn (za ?_))
   refine Og (zG U U (by omega)) U ?_
   refine Om U (N5 1 2 15 16 17 U ?_)
   refine⟨ls.length-(j+1),by omega,j+1,rfl,by omega,rfl,?_,hcx.trans c29⟩
   rw[List.take_add_one,List.take_add_one,hx,hy,heq,hxy]
  refine zI ?_
  repeat first|refine te ?_|refine bo rfl ?_
  refine zt _ ?_
  have hge:ls.length≤j:=by have:=of_decide_eq_false hF;omega
  refine Sr (Oa U (E1 6 U (zh ?_)))
  repeat first|refine tr ?_|refine br ?_
  refine zx U U ?_
  rw[Tl hge,Tl (by omega)]at heq
  exact⟨by rw[dt heq],hcx⟩
 refine za (Om U (On zcZ U (Om U (On zcZ U ?_))))
 refine Og (vt (zZ U U) (zet (by omega))) U ?_
 refine E4 0 1 2 14 U (zf U (Sr (Oa U (E1 6 U (zh ?_)))))
 repeat first|refine tr ?_|refine br ?_
 refine zx U U ?_
 have:ls≠ms:=fun h=>he (by rw[h])
 exact⟨by rw[df this],zl.refl _ _⟩
theorem zsG(u v:Va)(ls ms:List (List Int))(w:Wl)(hu:zdO w u ls)(hv:zdO w v ms)(hn:ls.length≤1048576)(hn':ms.length≤1048576)(h1:∀l∈ls,l.length≤1048576)(h2:∀l∈ms,l.length≤1048576) :
 zL TP 117 #[u,v,.func (.func 116) #[] #[]] w fun r w'=>r=.bool (decide (ls=ms))∧zl [] w w':=by
 refine A3 Tryz.func117 U U ?_
 refine Sr (Oa U (E3 0 1 2 U (Sr (Om U (Om U (Om U ?_))))))
 refine Oc zxE U U U (zwX u v ls ms _ hu hv hn hn' h1 h2) ?_
 rintro v10 w10⟨rfl,c10⟩
 refine Oa U (E1 6 U (zh ?_))
 refine zx U U ?_
 exact⟨U,c10⟩
theorem zgi(a b c a' b' c':Va)(s t:yx)(w:Wl)(hs:zal w a b c s)(ht:zal w a' b' c' t)(ms:s.Sm)(mt:t.Sm) :
 zL TP 69 #[.agg #[a,b,c],.agg #[a',b',c']] w fun r w'=>r=.bool (decide (s=t))∧zl [] w w':=by
 have hdec:decide (s=t)=(decide (s.cols=t.cols) && decide (s.key=t.key) && decide (s.uq=t.uq)):=by
  obtain⟨x,y,z⟩:=s
  obtain⟨x',y',z'⟩:=t
  rw[Bool.eq_iff_iff]
  simp[and_assoc]
 rw[hdec]
 refine A2 Tryz.func69 U U ?_
 refine Sr ?_
 refine Ob U U ?_
 intro b2 w2 e2 n2 c2 k2
 refine Ob U U ?_
 intro b3 w3 e3 n3 c3 k3
 refine Oa U (E2 2 3 U ?_)
 have hk2:=k2.chg0 c3
 have hc3:zl [] w w3:=c2.trans c3
 have hs3:=hs.chg0 hc3
 have ht3:=ht.chg0 hc3
 refine zd ?_
 by_cases h1:s.cols=t.cols
 ·by_cases h2:s.key=t.key
  ·refine za (Od yW U (Ol zcr U (hk2.cell' U) (Od yW U (Ol zcr U (k3.cell' U) ?_))))
   refine Oc zrf U U U (zkl _ _ _ _ _ hs3.cols ht3.cols ms.cols mt.cols) ?_
   rintro v9 w9⟨h9,c9⟩
   rw[dt h1]at h9
   subst h9
   refine Om U (Oy U U (ze zd7 U) (Oy U U (zj zfh U ((hk2.chg0 c9).cell' U)) (Oy U U (ze zd7 U) (Oy U U (zj zfh U ((k3.chg0 c9).cell' U)) ?_))))
   refine Ow U U zrc U U U (znu _ _ _ _ _ (zO.chg0 hs3.key c9) (zO.chg0 ht3.key c9) ms.key mt.key) ?_
   rintro v15 w15⟨h15,c15⟩
   rw[dt h2]at h15
   subst h15
   refine Ot U (Om U (Oy U U (ze zdY U) ?_))
   refine Oy U U (zj zhP U ((hk2.chg0 (c9.trans c15)).cell' U)) ?_
   refine Oy U U (ze zdY U) ?_
   refine Oy U U (zj zhP U ((k3.chg0 (c9.trans c15)).cell' U)) ?_
   refine Ow U U zxW U U U (zsG _ _ _ _ _ (hs3.uq.chg0 (c9.trans c15)) (ht3.uq.chg0 (c9.trans c15)) ms.uq mt.uq ms.each mt.each) ?_
   rintro v22 w22⟨rfl,c22⟩
   refine Ot U (Oa U (E1 4 U (zh ?_)))
   refine zx U U ?_
   exact⟨by simp[h1,h2],((hc3.trans c9).trans c15).trans c22⟩
  refine za (Od yW U (Ol zcr U (hk2.cell' U) (Od yW U (Ol zcr U (k3.cell' U) ?_))))
  refine Oc zrf U U U (zkl _ _ _ _ _ hs3.cols ht3.cols ms.cols mt.cols) ?_
  rintro v9 w9⟨h9,c9⟩
  rw[dt h1]at h9
  subst h9
  refine Om U (Oy U U (ze zd7 U) (Oy U U (zj zfh U ((hk2.chg0 c9).cell' U)) (Oy U U (ze zd7 U) (Oy U U (zj zfh U ((k3.chg0 c9).cell' U)) ?_))))
  refine Ow U U zrc U U U (znu _ _ _ _ _ (zO.chg0 hs3.key c9) (zO.chg0 ht3.key c9) ms.key mt.key) ?_
  rintro v15 w15⟨h15,c15⟩
  rw[df h2]at h15
  subst h15
  refine Ot U (Om U (Oz U U (Oz U U (Oz U U (Oz U U (Oz U U (Of U (Oa U (E1 4 U (zh ?_))))))))))
  refine zx U U ?_
  exact⟨by simp[h2],(hc3.trans c9).trans c15⟩
 refine za (Od yW U (Ol zcr U (hk2.cell' U) (Od yW U (Ol zcr U (k3.cell' U) ?_))))
 refine Oc zrf U U U (zkl _ _ _ _ _ hs3.cols ht3.cols ms.cols mt.cols) ?_
 rintro v9 w9⟨h9,c9⟩
 rw[df h1]at h9
 subst h9
 refine Om U (Oz U U (Oz U U (Oz U U (Oz U U (Oz U U (Of U (Om U (Oz U U (Oz U U (Oz U U (Oz U U (Oz U U (Of U (Oa U (E1 4 U ?_)))))))))))))))
 refine zh ?_
 refine zx U U ?_
 exact⟨by simp[h1],hc3.trans c9⟩
def zcH(w:Wl)(v:Va)(l:List UInt8):Prop:=zw w 5 1 v l.length (bv l)
theorem zn0{n:Nat}(h:n<9223372036854775808):n ^^^ 9223372036854775808=n+9223372036854775808:=by
 have e:(9223372036854775808:Nat)=2 ^ 63:=by decide
 rw[e] at *
 apply Nat.eq_of_testBit_eq
 intro j
 rw[Nat.testBit_xor,Nat.testBit_two_pow,Nat.add_comm]
 rcases Nat.lt_trichotomy j 63 with hj|hj|hj
 ·rw[Nat.testBit_two_pow_add_gt hj,df (by omega),Bool.xor_false]
 ·subst hj
  rw[Nat.testBit_two_pow_add_eq,dt rfl,Bool.xor_true]
 have p1:(2:Nat) ^ 64≤2 ^ j:=Nat.pow_le_pow_right (by decide) hj
 have h1:(2 ^ 63+n).testBit j=false:=Nat.testBit_lt_two_pow (by simp only[Nat.reducePow]at h p1 ⊢;omega)
 have h2:n.testBit j=false:=Nat.testBit_lt_two_pow (by simp only[Nat.reducePow]at h p1 ⊢;omega)
 rw[h1,h2,df (by omega)]
 rfl
theorem zsp{n:Nat}(h:n<9223372036854775808):(n+9223372036854775808) ^^^ 9223372036854775808=n:=by
 rw[←zn0 h,Nat.xor_assoc,Nat.xor_self,Nat.xor_zero]
theorem zru{i:Int}(h : -9223372036854775808≤i∧i≤9223372036854775807):(i % 18446744073709551616).toNat ^^^ 9223372036854775808=(i+9223372036854775808).toNat:=by
 rcases Int.lt_or_le i 0 with h0|h0
 ·have e:(i % 18446744073709551616).toNat=(i+9223372036854775808).toNat+9223372036854775808:=by omega
  rw[e,zsp (by omega)]
 have e:(i % 18446744073709551616).toNat=i.toNat:=by omega
 rw[e,zn0 (by omega)]
 omega
theorem zrm(i:Int)(w:Wl)(h : -9223372036854775808≤i∧i≤9223372036854775807):zL TP 282 #[Ii i] w fun r w'=>r=.int .u64 ((i+9223372036854775808).toNat:Nat)∧w'=w:=by
 refine A1 Tryz.func282 U U ?_
 refine Sr (Oa U (E1 0 U (Sr (Om U ?_))))
 refine Og (yp zbO zfH U (show IntKind.u64.wrap i=(((i % 18446744073709551616).toNat:Nat):Int) by rw[zcI];omega)) U ?_
 refine Og (zsc (b:=9223372036854775808) U U (by omega) (by decide)) U ?_
 refine Oa U (E1 2 U (zh ?_))
 refine zx U U ?_
 exact⟨by rw[zru h],rfl⟩
def ztt(x:zT):List UInt8:=if x.k=1 then be (x.i+9223372036854775808).toNat 8 else if x.k=2 then zcn x.u else if x.k=3 then [UInt8.ofNat x.i.toNat] else if x.k=4 then zd1 x.b.data.toList else []
theorem zov(x:zT):zgA x=UInt8.ofNat x.k.toNat::ztt x:=rfl
def zsm:List (Int×Va):=[(0,zeZ 278 279),(1,zeZ 280 283),(2,zeZ 286 287),(3,zeZ 289 290),(4,zeZ 291 292)]
theorem ztT(w:Wl):zL TP 202 #[] w fun r w'=>∃b,r=.map (some b)∧w.heap.size≤b∧zY (y6 .i64) w' b zsm∧zl [] w w':=by
 refine zL.of_W (args:=[]) Tryz.func202 U U U U ?_
 refine Sr (Oa U (zac [] (F':=[]) U (Sr ?_)))
 refine Oq (zbc (y6 .i64) U ?_)
 intro b1 w1 e1 n1 c1 k1
 refine Og (zC zmg zjr U (vs:=[_,_]) U (css:=[_,_]) ⟨U,U,trivial⟩ U U (cs:=[_,_]) U) U ?_
 refine Oq (yr (κ:=y6 .i64) zjH (zM zad) U U U k1 ?_)
 intro wA nA cA kA
 refine Og (zC zmg zjr U (vs:=[_,_]) U (css:=[_,_]) ⟨U,U,trivial⟩ U U (cs:=[_,_]) U) U ?_
 refine Oq (yr (κ:=y6 .i64) zjH (zM zad) U U U kA ?_)
 intro wB nB cB kB
 refine Og (zC zmg zjr U (vs:=[_,_]) U (css:=[_,_]) ⟨U,U,trivial⟩ U U (cs:=[_,_]) U) U ?_
 refine Oq (yr (κ:=y6 .i64) zjH (zM zad) U U U kB ?_)
 intro wC nC cC kC
 refine Og (zC zmg zjr U (vs:=[_,_]) U (css:=[_,_]) ⟨U,U,trivial⟩ U U (cs:=[_,_]) U) U ?_
 refine Oq (yr (κ:=y6 .i64) zjH (zM zad) U U U kC ?_)
 intro wD nD cD kD
 refine Og (zC zmg zjr U (vs:=[_,_]) U (css:=[_,_]) ⟨U,U,trivial⟩ U U (cs:=[_,_]) U) U ?_
 refine Oq (yr (κ:=y6 .i64) zjH (zM zad) U U U kD ?_)
 intro wE nE cE kE
 refine Om U (Oa U (E1 0 U (zh ?_)))
 refine zx U U ?_
 exact⟨b1,rfl,by omega,kE,c1.own (((((cA.transS cB).transS cC).transS cD).transS cE)) (by intro x hx;simp at hx;omega)⟩
theorem zwe(x:zT)(w:Wl):zL TP 278 #[x.v] w fun r w'=>zcH w' r []∧(∀b∈zq r,w.heap.size≤b)∧zl [] w w':=by
 refine A1 Tryz.func278 U U ?_
 refine Sr ?_
 refine Ob U U ?_
 intro b1 w1 e1 n1 c1 k1
 refine Oa U (zac [] (F':=[]) U (Sr (Oa U (E1 2 U (zh ?_)))))
 refine zx U U ?_
 exact⟨zw.nil _ _ _,by simp[zq],c1⟩
theorem zvW(x:zT)(w:Wl)(hx:x.Rng):zL TP 280 #[x.v] w fun r w'=>zcH w' r (be (x.i+9223372036854775808).toNat 8)∧(∀b∈zq r,w.heap.size≤b)∧zl [] w w':=by
 have hi:=hx.i
 refine A1 Tryz.func280 U U ?_
 refine Sr ?_
 refine Ob U U ?_
 intro b1 w1 e1 n1 c1 k1
 refine Oa U (E1 1 U (Sr (Od zaw U (Ol ag2 U (k1.cell' U) ?_))))
 refine Oc zxS U U U (zrm x.i _ hi) ?_
 rintro v8 w8⟨rfl,rfl⟩
 refine Oc zux U U U (znU _ 8 _ (by omega) (by decide) (by simp only[Nat.reducePow];omega)) ?_
 rintro v9 w9⟨v9,rfl,i9,f9,c9⟩
 refine Om U (Oe U U (Oe U U (Oa U (Oa U (E1 3 U (Sr (Om U (Oa U (E1 2 U (zh ?_))))))))))
 refine zx U U ?_
 have hs:=c1.size
 exact⟨by unfold zcH;rw[zaG];exact i9,fun b hb=>Nat.le_trans hs (f9 b hb),c1.trans c9⟩
theorem zwd(x:zT)(w:Wl)(hx:x.Rng):zL TP 286 #[x.v] w fun r w'=>zcH w' r (zcn x.u)∧(∀b∈zq r,w.heap.size≤b)∧zl [] w w':=by
 refine A1 Tryz.func286 U U ?_
 refine Sr ?_
 refine Ob U U ?_
 intro b1 w1 e1 n1 c1 k1
 refine Oa U (E1 1 U (Sr (Od zcb U (Ol zeV U (k1.cell' U) ?_))))
 refine Oc zvc U U U (zkR x.u _ hx.u) ?_
 rintro v5 w5⟨i5,f5,c5⟩
 refine Oa U (E1 2 U (zh ?_))
 refine zx U U ?_
 have hs:=c1.size
 exact⟨i5,fun b hb=>Nat.le_trans hs (f5 b hb),c1.trans c5⟩
theorem zwa(x:zT)(w:Wl)(hx:x.i=0∨x.i=1):zL TP 289 #[x.v] w fun r w'=>zcH w' r [UInt8.ofNat x.i.toNat]∧(∀b∈zq r,w.heap.size≤b)∧zl [] w w':=by
 refine A1 Tryz.func289 U U ?_
 refine Sr ?_
 refine Ob U U ?_
 intro b1 w1 e1 n1 c1 k1
 refine Oa U (E1 1 U (Sr (Od zaw U (Ol ag2 U (k1.cell' U) ?_))))
 refine Og (yp za9 zfH U (show IntKind.u8.wrap x.i=(((UInt8.ofNat x.i.toNat).toNat:Nat):Int) by rcases hx with h|h<;>rw[h]<;>rfl)) U ?_
 refine Oq (zz zdc U (vs:=[_]) U (css:=[_]) ⟨U,trivial⟩ U U (cs:=[_]) U U ?_)
 intro b6 w6 e6 n6 c6 k6
 refine Oa U (E1 2 U (zh ?_))
 refine zx U U ?_
 have hs:=c1.size
 exact⟨zw.of_blk (n:=1) k6 U (by simp[maxLen]) (zeB _),by intro b hb;simp[zq]at hb;omega,c1.trans c6⟩
def chN(len j:Nat):Nat:=min 8 (len-8*j)
def chV(b len j:Nat):Va:=cut (some ⟨b,0,none⟩) (8*j) (8*j+chN len j) (8*j+chN len j) 1
theorem ztW(v:Va)(w:Wl):zL TP 329 #[v,Ii 8] w fun r w'=>∃b2 b3,r=.func (.func 351) #[] #[Pt b2,Pt b3]∧zK w' b2 224 v.cells.toList∧zK w' b3 3 [Ii 8]∧w.heap.size≤b2∧w.heap.size≤b3∧zl [] w w':=by
 refine A2 Tryz.func329 U U ?_
 refine Sr ?_
 refine Ob U U ?_
 intro b2 w2 e2 n2 c2 k2
 refine Ob U U ?_
 intro b3 w3 e3 n3 c3 k3
 refine Oa U (E2 2 3 U (zd (Sr (Ol ag3 U (k3.cell' U) ?_))))
 refine Og (vf (zF U U) (df (by omega))) U ?_
 refine E3 2 3 6 U (zb U (zk (Sr (Og (y9 U U) U (Oa U (E1 4 U (zh ?_)))))))
 refine zx U U ?_
 have hs:=c2.size
 exact⟨b2,b3,rfl,k2.chg0 c3,k3,by omega,by omega,c2.trans c3⟩
theorem zyI(w:Wl)(b2 b3 b len cap:Nat)(S0:List Nat)(keep:TypeId→Bool)(h2:zK w b2 224 [.slice (some ⟨b,0,none⟩) len cap])(h3:zK w b3 3 [Ii 8])(hl:len≤cap)(hn:len≤1048576)(k2:b2∉S0)(k3:b3∉S0) :
 zq5 TP 351 #[Pt b2,Pt b3] (fun j:Nat => #[chV b len j]) S0 keep (fun j _=>8*j<len) (fun xs _=>xs=List.range ((len+7) / 8)) (fun _ _=>True) ((len+7) / 8) w:=by
 intro l J Jx W hcw hJ hJx hY h0
 have hab:∀{pre:List Nat} {W1 W2:Wl},zl [] W1 W2→J pre W1→J pre W2:=fun hc hj=>hJ _ _ _ none hj hc.grown0 (fun _ e=>by cases e)
 have f2:∀{W1:Wl},Kp S0 w.heap.size w W1→zK W1 b2 224 [.slice (some ⟨b,0,none⟩) len cap]:=fun hk=>(hk.2 b2 h2.lt k2).trans h2
 have f3:∀{W1:Wl},Kp S0 w.heap.size w W1→zK W1 b3 3 [Ii 8]:=fun hk=>(hk.2 b3 h3.lt k3).trans h3
 have hkw:Kp S0 w.heap.size w W:=⟨hcw.size,fun k hk _=>hcw.block k hk (by simp)⟩
 have hmono:∀{W1 W2:Wl},Kp S0 w.heap.size w W1→zl [] W1 W2→Kp S0 w.heap.size w W2:=fun hk hc=>⟨Nat.le_trans hk.1 hc.size,fun k hlt hn=>(hc.block k (Nat.lt_of_lt_of_le hlt hk.1) (by simp)).trans (hk.2 k hlt hn)⟩
 refine CallsIn.mono (R:=fun e W'=>∃u,e=.returned u∧(fun(_:Va) W'=>(∃xs,xs=List.range ((len+7) / 8)∧J xs W')∨(∃pre,True∧Jx pre W')) u W') ?_ (fun e W' ⟨u,he,h⟩=>⟨⟨u,he⟩,h⟩)
 refine CallsIn.of_WX (args:=[_,_,_]) Tryz.func351 U U U U (zkk ?_)
 refine Sr (Oa U (E4 0 1 2 4 U (zu ?_)))
 refine zX [0,1,2,4] (fun m F wx=>∃j:Nat,m=(len+7) / 8-j∧j≤(len+7) / 8∧F=[(0,.func (.yield l) #[] #[]),(1,Pt b2),(2,Pt b3),(4,Ii (8*j:Nat))]∧Kp S0 w.heap.size w wx∧J (List.range j) wx) (m:=(len+7) / 8-0) ⟨0,U,Nat.zero_le _,U,hkw,h0⟩ ?_
 rintro m F wx⟨j,rfl,hj,rfl,hkx,hJx0⟩
 refine zd (Sr (Om U (Ol zgw U ((f2 hkx).cell' U) (On yT U (Og (zF U U) U (E5 0 1 2 4 9 U ?_))))))
 refine zH U (fun hT=>?_) (fun hF=>?_)
 ·refine zk ?_
  have hlt:8*j<len:=by have:=of_decide_eq_true hT;omega
  refine zd (zu (zd ?_))
  have hd:zl [] wx wx.drew:=zl.drew [] _
  refine zN (fun wz=>zl [] wx wz) mix (by kernel_rfl) hd ?_
  refine Tr (fun wz hz=>zj ag3 U ((f3 (hmono hkx hz)).cell' U)) U ?_
  refine Tr (fun wz hz=>zj zgw U ((f2 (hmono hkx hz)).cell' U)) U ?_
  refine Tm U ?_
  refine Tp (fun _=>zaV yT sz5 U U _ U (show 8*j≤len by omega)) U ?_
  refine Tp (fun _=>z5 yT U) U (Tp (fun _=>zwJ U U) U (Ta U (D5 0 1 2 4 5 U ?_)))
  have hmin:(if ((len-8*j:Nat):Int)<8 then ((len-8*j:Nat):Int) else 8)=((chN len j:Nat):Int):=by unfold chN;split<;>omega
  rw[hmin]
  have hkd:=hmono hkx hd
  have hch:8*j+chN len j≤len:=by unfold chN;omega
  have hch0:chN len j≤8:=by unfold chN;omega
  have hy:=hY (List.range j) j wx.drew (hab hd hJx0) hlt (by rw[List.length_range];omega)
  refine zd ?_
  refine zg3 ?_
  refine Xm U ?_
  refine yO (gn U) U (St.vl (zj zgw U ((f2 hkd).cell' U)) U U ?_)
  refine Xm U (Xm U (Xm U ?_))
  refine yO (gn U) U (St.vl (yQ (v':=Ii ((8*j+chN len j:Nat):Int)) (zG U U (by omega)) (by congr 1)) U U ?_)
  refine Xm U (Xm U ?_)
  refine yO (gn U) U (St.vl (yQ (v':=Ii ((8*j+chN len j:Nat):Int)) (zG U U (by omega)) (by congr 1)) U U ?_)
  refine yO (gn U) U (St.vl (zeP yT sz5 U U U U _ _ _ U U U (by omega) (Nat.le_refl _) (by omega)) U U ?_)
  refine zky (gn U) U U U hy ?_
  rintro v29 w29 hR29
  obtain⟨b29,rfl,hb29⟩:=yb hR29
  refine⟨_,U,?_⟩
  refine yO (gn U) U (St.vl (zE U) U U ?_)
  refine zde [0,1,2,4,30] (F':=[(0,_),(1,_),(2,_),(4,_),(30,_)]) U ?_
  rcases hb29 with⟨rfl,hJ29,hk29⟩|⟨rfl,hJ29⟩
  ·refine zb U (z0 (zn ?_))
   have hkf:Kp S0 w.heap.size w w29:=hkd.trans hk29.kp
   refine za (Om U (Ol ag3 U ((f3 hkf).cell' U) ?_))
   refine Og (yQ (v':=Ii ((8*(j+1):Nat):Int)) (zG U U (by omega)) (by congr 1)) U ?_
   refine Oa U (N4 0 1 2 4 U ?_)
   refine⟨(len+7) / 8-(j+1),by omega,j+1,rfl,by omega,rfl,hkf,?_⟩
   rw[List.range_succ]
   exact hJ29
  refine zf U (zh ?_)
  repeat first|refine tr ?_|refine br ?_
  refine zyJ U ?_
  exact .inr ⟨_,trivial,hJ29⟩
 refine zI ?_
 repeat first|refine te ?_|refine bo rfl ?_
 refine zt _ ?_
 refine zkK U ?_
 have he:j=(len+7) / 8:=by have:=of_decide_eq_false hF;omega
 subst he
 exact .inl ⟨_,U,hJx0⟩
def zfW(c:List UInt8)(left:Int):List UInt8:=c++List.replicate (8-c.length) 0++[if 0<left then 9 else UInt8.ofNat c.length]
def zfs(l:List UInt8)(st:List UInt8×Int)(x:Nat):List UInt8×Int:=
 (st.1++zfW ((l.drop (8*x)).take 8) (st.2-((l.drop (8*x)).take 8).length),st.2-((l.drop (8*x)).take 8).length)
def zdS(l:List UInt8)(pre:List Nat):List UInt8×Int:=pre.foldl (zfs l) ([],(l.length:Int))
theorem zeI(l:List UInt8)(pre:List Nat)(x:Nat):zdS l (pre++[x])=zfs l (zdS l pre) x:=by simp[zdS]
theorem zlA(l:List UInt8):∀(pre:List Nat) (n:Nat) (st:List UInt8×Int),(-(8*(n:Int))≤st.2∧st.2≤l.length∧st.1.length=9*n) →
 -(8*((n+pre.length:Nat):Int))≤(pre.foldl (zfs l) st).2∧(pre.foldl (zfs l) st).2≤l.length∧(pre.foldl (zfs l) st).1.length=9*(n+pre.length)
 |[],n,st,h=>h
 |x::pre,n,st,h=>by
  have hc:((l.drop (8*x)).take 8).length≤8:=by rw[List.length_take];omega
  have:=zlA l pre (n+1) (zfs l st x) (by
   simp only[zfs,zfW,List.length_append,List.length_replicate,List.length_cons,List.length_nil]
   omega)
  rw[List.foldl_cons,List.length_cons,show n+(pre.length+1)=n+1+pre.length by omega]
  exact this
theorem zlL(l:List UInt8)(pre:List Nat) : -(8*(pre.length:Int))≤(zdS l pre).2∧(zdS l pre).2≤l.length∧(zdS l pre).1.length=9*pre.length:=by
 have:=zlA l pre 0 ([],(l.length:Int)) (by simp)
 rw[Nat.zero_add]at this
 exact this
theorem zm7(l:List UInt8):∀j:Nat,8*j<l.length→(zdS l (List.range j)).1++zd1 (l.drop (8*j))=zd1 l∧(zdS l (List.range j)).2=(l.length:Int)-8*j:=by
 intro j
 induction j with
 |zero=>intro _;simp[zdS]
 |succ j ih=>
  intro h
  obtain⟨h1,h2⟩:=ih (by omega)
  have hc:((l.drop (8*j)).take 8).length=8:=by rw[List.length_take,List.length_drop];omega
  rw[List.range_succ,zeI]
  simp only[zfs,zfW,hc,h2]
  refine⟨?_,by omega⟩
  rw[←h1,zfO (l:=l.drop (8*j)) (by rw[List.length_drop];omega),List.drop_drop,if_pos (by omega)]
  simp[Nat.mul_add]
theorem zj8{l:List UInt8}(h:l≠[]):(zdS l (List.range ((l.length+7) / 8))).1=zd1 l:=by
 have hl:=List.length_pos_iff.2 h
 obtain⟨j,hj⟩:∃j,(l.length+7) / 8=j+1:=⟨(l.length+7) / 8-1,by omega⟩
 obtain⟨h1,h2⟩:=zm7 l j (by omega)
 rw[hj,List.range_succ,zeI]
 have hc:(l.drop (8*j)).take 8=l.drop (8*j):=Tl (by rw[List.length_drop];omega)
 have hlen:(l.drop (8*j)).length=l.length-8*j:=List.length_drop
 simp only[zfs,hc,h2,zfW]
 rw[←h1,zdP (l:=l.drop (8*j)) (by omega)]
 congr 1
 unfold zlK
 rw[if_neg (by omega)]
theorem zvl(x:zT)(w:Wl)(hx:x.b.size≤1048576):zL TP 291 #[x.v] w fun r w'=>zcH w' r (zd1 x.b.data.toList)∧(∀b∈zq r,w.heap.size≤b)∧zl [] w w':=by
 have hsz:x.b.data.toList.length=x.b.size:=by simp
 refine zL.of_WM (args:=[_]) Tryz.func291 U U U U ?_
 refine Sr ?_
 refine Ob U U ?_
 intro b1 w1 e1 n1 c1 k1
 refine Oq (zD zxi U U ?_)
 intro b2 w2 e2 n2 c2 k2
 refine E2 1 2 U (Sr (Od zdj U (Ol ag9 U ((k1.chg0 c2).cell' U) (Og (zax st9 U) U ?_))))
 refine Oq (zD zr3 U U ?_)
 intro b3 w3 e3 n3 c3 k3
 refine Oq (zv sz3 U U U U k3 (by simp) (by intro u hu;simp at hu;subst hu;rfl) ?_)
 intro wA nA cA kA
 refine E3 1 2 3 U ?_
 have hcA:zl [] w wA:=((c1.trans c2).trans c3).own cA (by intro y hy;simp at hy;omega)
 have hk1:=((k1.chg0 c2).chg0 c3).chg cA (by simp;omega)
 have hk2:=(k2.chg0 c3).chg cA (by simp;omega)
 have hk3:zK wA b3 3 [Ii x.b.size]:=kA
 refine yt (fun F wx=>∃(D:Nat) (f12:Va),F=[(1000000,Ii D),(2,Pt b2),(3,Pt b3),(12,f12)]∧w.heap.size≤D∧wx.heap[D]? = some (.deferred (some []))∧w.heap.size≤b2∧∃u,zK wx b2 224 [u]∧zcH wx u (if x.b.size=0 then [] else zd1 x.b.data.toList)∧(∀b∈zq u,w.heap.size≤b)∧zl [] w wx) ?_ ?_
 ·refine Sr (Od zdj U (Ol ag9 U (hk1.cell' U) ?_))
  refine Oq (zk2 st9 yT za9 U (by simp only[maxLen];omega) U ?_)
  intro b11 q11 w11 e11 c11 g11 i11
  refine Oc zzl U U U (ztW _ _) ?_
  rintro v12 w12⟨p2,p3,rfl,kp2,kp3,hp2,hp3,c12⟩
  refine E3 2 3 12 U ?_
  have kp2:zK w12 p2 224 [.slice (some ⟨b11,0,none⟩) x.b.size q11]:=kp2
  have hk2:=(hk2.chg0 c11).chg0 c12
  have hk3:=(hk3.chg0 c11).chg0 c12
  have hby:=i11.chg0 c12
  have hc12:zl [] w w12:=(hcA.trans c11).trans c12
  have hs11:=c11.size
  have hs12:=c12.size
  have hsA:=cA.size
  refine zu ?_
  generalize hl:x.b.data.toList=l at *
  refine zmb (α:=Nat) (gf:=351) (lb:=[Pt p2,Pt p3]) (encs:=fun j:Nat => #[chV b11 x.b.size j]) (S0:=[b2,b3]) (keep:=fun _=>false) (N:=(x.b.size+7) / 8)
   (fun pre W=>∃u,zK W b2 224 [u]∧zcH W u (zdS l pre).1∧zK W b3 3 [Ii (zdS l pre).2]∧(∀b∈zq u,w12.heap.size≤b)∧zl [b2,b3] w12 W∧w12.heap.size≤W.heap.size)
   (fun _ _ _=>False)
   (fun j=>[(13,chV b11 x.b.size j),(2,Pt b2),(3,Pt b3),(12,.func (.func 351) #[] #[Pt p2,Pt p3])])
   (fun j=>[(2,Pt b2),(3,Pt b3),(4,chV b11 x.b.size j),(13,chV b11 x.b.size j)])
   rfl zxA (zyI w12 p2 p3 b11 x.b.size q11 [b2,b3] _ kp2 kp3 g11 hx ?_ ?_) (fun _=>rfl) (fun _ _ _ _ h=>h) (fun _ _ _ _ h=>h) (fun _ _ _ _ h=>h) ?_ (fun _ _ _ _ _ h=>h.elim) ?_ (fun _ _ h=>h.choose_spec.2.2.2.2.2) ?_ ?_ ?_ ?_ (fun _ _ _ _ _ _ h=>h.elim)
  ·simp;omega
  ·simp;omega
  ·rintro pre W W' hk ⟨u,h1,h2,h3,h4,h5,h6⟩
   exact⟨u,h1.bk hk,zw.bk h2 hk,h3.bk hk,h4,h5.bk (Nat.le_refl _) hk,by obtain⟨T,_,hc⟩:=hk;exact Nat.le_trans h6 hc.size⟩
  ·exact⟨_,hk2,zw.nil _ _ _,by simpa[zdS,hsz] using hk3,by simp[zq],zl.refl _ _,Nat.le_refl _⟩
  ·intro j a ha
   exact ha.vars1 U U
  ·intro l' j W
   refine zav ?_
   refine yO (gn U) U (St.vl (yM U) U U ?_)
   refine zmH [2,3,4,13] (F':=[(2,_),(3,_),(4,_),(13,_)]) U ?_
   exact⟨U,U,U⟩
  ·rintro l' pre j W ⟨u,hb2,hu,hb3,hfu,hcW,hsW⟩ hlt hlen
   have hsl:l.length=x.b.size:=hsz
   have hch:8*j+chN x.b.size j≤x.b.size:=by unfold chN;omega
   have hch8:chN x.b.size j≤8:=by unfold chN;omega
   have hchv:∃pj cj,chV b11 x.b.size j=.slice pj (chN x.b.size j) cj:=⟨_,_,by unfold chV;rw[show cut (some ⟨b11,0,none⟩) (8*j) (8*j+chN x.b.size j) (8*j+chN x.b.size j) 1=.slice _ (8*j+chN x.b.size j-8*j) (8*j+chN x.b.size j-8*j) from rfl,Nat.add_sub_cancel_left]⟩
   have hbyW:=hby.chg hcW (by intro b hb hm;simp[zq]at hb;subst hb;simp at hm;omega)
   have hcut:zaA W 5 1 (chV b11 x.b.size j) (chN x.b.size j) (bv ((l.drop (8*j)).take (chN x.b.size j))):=by
    have:=hbyW.cut (l:=8*j) (h:=8*j+chN x.b.size j) (m:=8*j+chN x.b.size j) (by omega) (Nat.le_refl _) (by omega) hch
    rw[Nat.add_sub_cancel_left]at this
    unfold chV
    simpa[bv,List.map_drop,List.map_take] using this
   have hcl:((l.drop (8*j)).take 8).length=chN x.b.size j:=by rw[List.length_take,List.length_drop,hsl];unfold chN;omega
   have hct:(l.drop (8*j)).take (chN x.b.size j)=(l.drop (8*j)).take 8:=by
    rcases Nat.lt_or_ge (x.b.size-8*j) 8 with h8|h8
    ·rw[show chN x.b.size j=x.b.size-8*j by unfold chN;omega,Tl (by rw[List.length_drop];omega),Tl (by rw[List.length_drop];omega)]
    rw[show chN x.b.size j=8 by unfold chN;omega]
   rw[hct]at hcut
   obtain⟨hg1,hg2,hg3⟩:=zlL l pre
   generalize hc8:(l.drop (8*j)).take 8=c at *
   generalize hn:chN x.b.size j=n at *
   obtain⟨pj,cj,hchv⟩:=hchv
   rw[hchv]at hcut ⊢
   generalize hgl:(zdS l pre).2=left at *
   refine zkx ?_
   refine zfw ?_
   refine zav ?_
   refine yO (gn U) U (zD zyY U U ?_)
   intro b5 w5 e5 n5 c5 k5
   refine zde [2,3,4,5,13] (F':=[(2,_),(3,_),(4,_),(5,_),(13,_)]) U ?_
   have hs5:=c5.size
   refine zfw ?_
   refine zav ?_
   refine yO (gn U) U (St.vl (zos zoN sz5 U) U U ?_)
   refine Xm U ?_
   refine yO (gn U) U (zrj yT sz5 U U (hcut.chg0 c5) k5 (show min n 9=n by omega) (by simp;omega) U ?_)
   intro w16 n16 c16 k16
   refine zde [2,3,4,5,13] (F':=[(2,_),(3,_),(4,_),(5,_),(13,_)]) U ?_
   have hcn:c.length=n:=hcl
   have kc:zK w16 b5 426 (bv (c++List.replicate (8-n) 0++[0])):=by
    have e:=zdA [] (bv (List.replicate 9 0)) ((bv c).take (n*1))
    have e0:([Value.int .u8 0,.int .u8 0,.int .u8 0,.int .u8 0,.int .u8 0,.int .u8 0,.int .u8 0,.int .u8 0,.int .u8 0]:List Va)=bv (List.replicate 9 0):=rfl
    rw[e0]at k16
    simp only[List.nil_append,List.length_nil]at e
    rw[e]at k16
    rw[Nat.mul_one,Tl (by rw[zct];omega)]at k16
    have e2:(bv (List.replicate 9 (0:UInt8))).drop (bv c).length=bv (List.replicate (8-n) 0++[0]):=by
     rw[zct,hcn]
     unfold bv
     rw[←List.map_drop,List.drop_replicate,show 9-n=(8-n)+1 by omega,List.replicate_succ']
    rw[e2,←zam,←List.append_assoc]at k16
    exact k16
   have hc16:zl [] W w16:=c5.own c16 (by intro y hy;simp at hy;omega)
   have hb2':=hb2.chg0 hc16
   have hb3':=hb3.chg0 hc16
   have hb2lt:=hb2.lt
   have hb3lt:=hb3.lt
   refine zfw ?_
   refine zav ?_
   refine yO (gn U) U (St.vl (zj ag3 U (hb3'.cell' U)) U U ?_)
   refine Xm U ?_
   refine yO (gn U) U (St.vl (z5 yT U) U U ?_)
   refine yO (gn U) U (St.vl (yV U U (by omega)) U U ?_)
   refine yO (gn U) U (zv sz3 U U U U hb3' (by simp) (by intro u hu;simp at hu;subst hu;rfl) ?_)
   intro wL nL cL kL
   refine zde [2,3,4,5,13] (F':=[(2,_),(3,_),(4,_),(5,_),(13,_)]) U ?_
   have kL:zK wL b3 3 [Ii (left-n)]:=kL
   have kcL:=kc.chg cL (by simp;omega)
   have hb2L:=hb2'.chg cL (by simp;omega)
   have lay8:∀(A:List UInt8) (a:UInt8) (v:Va),A.length=8→yF (bv (A++[a])) 8 [v]=bv A++[v]:=fun A a v hA=>by
    rw[zam]
    have:=zdA (bv A) (bv [a]) [v]
    rw[zct,hA]at this
    simpa[bv] using this
   have hA8:(c++List.replicate (8-n) 0).length=8:=by rw[List.length_append,List.length_replicate];omega
   refine zfw ?_
   refine zav ?_
   refine Xm U ?_
   refine yO (gn U) U (St.vl (z5 yT U) U U ?_)
   refine yO (gn U) U (St.vl (yp za9 zaY U (show IntKind.u8.wrap (n:Int)=(((UInt8.ofNat n).toNat:Nat):Int) by rw[zgm];simp)) U U ?_)
   refine yO (gn U) U (St.vl (zP zoN sz5 U U 8 U (by decide)) U U ?_)
   refine yO (gn U) U (zv sz5 U U U U kcL (by rw[zct,List.length_append,hA8];simp) (by intro u hu;simp at hu;subst hu;rfl) ?_)
   intro wM nM cM kM
   refine zde [2,3,5,13] (F':=[(2,_),(3,_),(5,_),(13,_)]) U ?_
   have kM:zK wM b5 426 (bv (c++List.replicate (8-n) 0++[UInt8.ofNat n])):=by
    have e:=lay8 _ 0 (.int .u8 ((UInt8.ofNat n).toNat:Nat)) hA8
    rw[zam]
    show zK wM b5 426 (_++[.int .u8 ((UInt8.ofNat n).toNat:Nat)])
    rw[←e]
    exact kM
   have kLM:=kL.chg cM (by simp;omega)
   have hb2M:=hb2L.chg cM (by simp;omega)
   have hcM:zl [b3] W wM:=((hc16.any (S:=[b3])).transS cL).trans' cM (by intro y hy;simp at hy;subst hy;right;omega)
   refine zpR (fun F wz=>F=[(2,Pt b2),(3,Pt b3),(5,Pt b5),(13,.slice pj n cj)]∧zK wz b5 426 (bv (zfW c (left-n)))∧zK wz b3 3 [Ii (left-n)]∧zK wz b2 224 [u]∧zl [b3] W wz) ?_ ?_
   ·refine zfw ?_
    refine zav ?_
    refine yO (gn U) U (St.vl (zj ag3 U (kLM.cell' U)) U U ?_)
    refine yO (gn U) U (St.vl (ym U U) U U ?_)
    refine zde [2,3,5,13,26] (F':=[(2,_),(3,_),(5,_),(13,_),(26,_)]) U ?_
    refine zvu U (fun hT=>?_) (fun hF=>?_)
    ·have hpos:0<left-n:=of_decide_eq_true hT
     refine zav ?_
     refine yO (gn U) U (St.vl (zP zoN sz5 U U 8 U (by decide)) U U ?_)
     refine yO (gn U) U (zv sz5 U U U U kM (by rw[zct,List.length_append,hA8];simp) (by intro u hu;simp at hu;subst hu;rfl) ?_)
     intro wN nN cN kN
     refine zde [2,3,5,13] (F':=[(2,_),(3,_),(5,_),(13,_)]) U ?_
     refine⟨rfl,?_,kLM.chg cN (by simp;omega),hb2M.chg cN (by simp;omega),hcM.trans' cN (by intro y hy;simp at hy;subst hy;right;omega)⟩
     have e:=lay8 (c++List.replicate (8-n) 0) (UInt8.ofNat n) (.int .u8 9) hA8
     unfold zfW
     rw[hcn,if_pos hpos,zam]
     show zK wN b5 426 (_++[.int .u8 9])
     rw[←e]
     exact kN
    have hpos:¬ 0<left-n:=of_decide_eq_false hF
    refine zud [2,3,5,13] U ?_
    refine ztd ?_
    refine⟨U,?_,kLM,hb2M,hcM⟩
    unfold zfW
    rw[hcn,if_neg hpos]
    exact kM
   rintro F wY⟨rfl,kG,hl3,hu2,hcz⟩
   have hcB:zl [b2,b3] w12 wY:=hcW.transS (hcz.weak (by simp))
   have hsz2:=hcz.size
   have huz:=zw.chg hu hcz (zw.apart hu hb3 rfl)
   have hlg:(zfW c (left-n)).length=9:=by unfold zfW;rw[List.length_append,List.length_append,List.length_replicate];simp;omega
   have hrd:zaA wY 426 1 (.slice (some ⟨b5,0,none⟩) 9 9) 9 (bv (zfW c (left-n))):=by
    have:=zaA.of_blk kG (by rw[zct,hlg];simp[maxLen]) (zeB _)
    rwa [zct,hlg]at this
   have hd:zl [] wY wY.drew:=zl.drew [] _
   have hub:∀y∈zq u,y≠b2:=fun y hy he=>by subst he;have:=hfu _ hy;omega
   refine zqQ (fun wz=>zl [] wY wz) mix (by kernel_rfl) hd ?_
   refine Tr (fun wz hz=>zj zgw U ((hu2.chg0 hz).cell' U)) U (Tp (fun _=>zos zoN sz5 U) U ?_)
   refine za4 U (gn U) (zmI zdc yT U U (zw.chg0 huz hd) (hrd.chg0 hd) (by rw[hg3];simp only[maxLen];omega) (by rw[hg3];omega) U ?_)
   intro v30 w30 i30 c30 o30 z30
   obtain⟨p30,q30,rfl,_⟩:=id (zw.val i30)
   refine⟨.inr (by kernel_rfl),?_⟩
   refine za4 U (gn U) (zv zrW U U U U (hu2.chg (hd.any.transS c30) (fun hm=>hub b2 hm U)) (by simp) (by intro y hy;simp at hy;subst hy;rfl) ?_)
   intro wO nO cO kO
   refine⟨.inr (by kernel_rfl),?_⟩
   refine zdX [2,3,13] (F':=[(2,_),(3,_),(13,_)]) U ?_
   have kO:zK wO b2 224 [_]:=kO
   have hcu:zl (zq u) wY w30:=hd.any.transS c30
   have hl3O:=(hl3.chg hcu (fun hm=>by have:=hfu _ hm;omega)).chg cO (by simp;omega)
   have hsz3:=hcu.size
   have hcut2:∀y∈zq u,∃e c,zK W y e c:=fun y hy=>by
    rcases hu with⟨rfl,_,_⟩|⟨b,off,cap,cc,rfl,hs⟩
    ·simp[zq]at hy
    simp[zq]at hy;subst hy;exact⟨_,_,hs.blk⟩
   have hall:zl (b2::b3::zq u) W wO:=by
    refine((hcz.weak (S2:=b2::b3::zq u) (by simp)).transS (hcu.weak (fun k hk=>by simp[hk]))).transS (cO.weak (by simp))
   refine⟨KeepsFrom.chg hall ?_,Kr.chg hall (by omega) ?_,_,kO,?_,?_,zaH o30 hfu (by show w12.heap.size≤wY.heap.size;omega),?_,by have:=hall.size;omega⟩
   ·intro y hy
    simp at hy
    rcases hy with rfl|rfl|hy
    ·exact⟨_,_,hb2⟩
    ·exact⟨_,_,hb3⟩
    exact hcut2 y hy
   ·intro y hy
    simp at hy
    rcases hy with rfl|rfl|hy
    ·exact⟨.inl (by simp),_,_,hb2,rfl⟩
    ·exact⟨.inl (by simp),_,_,hb3,rfl⟩
    obtain⟨e,c,hbb⟩:=hcut2 y hy
    exact⟨.inr (hfu y hy),e,c,hbb,U⟩
   ·have h30:=zw.chg i30 cO (zw.apart i30 (hu2.chg hcu (fun hm=>hub b2 hm rfl)) rfl)
    rw[zeI,zfs,hc8,hgl,hcn]
    unfold zcH
    rw[zam,List.length_append,hlg]
    exact h30
   ·rw[zeI,zfs,hc8,hgl,hcn]
    exact hl3O
   exact hcW.trans' hall (by
    intro y hy
    simp at hy
    rcases hy with rfl|rfl|hy
    ·simp
    ·simp
    exact .inr (hfu y hy))
  rintro D xs W hD rfl⟨u,hb2,hu,hb3,hfu,hcW,hsW⟩ hdf
  refine zn ?_
  refine⟨D,_,rfl,by omega,hdf,by omega,u,hb2,?_,fun b hb=>by have:=hfu b hb;omega,(hc12.trans' hcW (by intro y hy;simp at hy;right;omega))⟩
  split
  ·rename_i h0
   have hl0:l=[]:=List.length_eq_zero_iff.1 (by omega)
   subst hl0
   rw[h0]at hu
   exact hu
  rename_i h0
  rw[←hsz,zj8 (fun e=>h0 (by rw[←hsz,e];rfl))]at hu
  exact hu
 rintro F wx⟨D,f12,rfl,hD,hdf,hb2n,u,hb2,hu,hfu,hcx⟩
 have hDb:D≠b2:=by rintro rfl;rw[show wx.heap[D]? = _ from hb2]at hdf;cases hdf
 have hDl:=(Array.getElem?_eq_some_iff.1 hdf).1
 refine zd (zd ?_)
 by_cases h0:x.b.size=0
 ·rw[if_pos h0]at hu
  obtain⟨pu,cu,rfl,_⟩:=id (zw.val hu)
  refine za (Ol zgw U (hb2.cell' U) (On yT U (Og (vt (zA U U) U) U (zac [2,33] (F':=[(2,_),(33,_),(1000000,_)]) U (zf U (Sr ?_))))))
  refine Oq (zpC (l:=9) (m:=9) zdc U U (by omega) (by omega) (by omega) (by unfold maxLen;omega) (by omega) U ?_)
  intro b34 w34 e34 n34 c34 k34
  refine Oq (zv zrW U U U U (hb2.chg0 c34) (by simp) (by intro y hy;simp at hy;subst hy;rfl) ?_)
  intro wA nA cA kA
  refine zac [2] (F':=[(2,_),(1000000,_)]) U (zh ?_)
  repeat first|refine tr ?_|refine br ?_
  refine znO (v:=.slice (some ⟨b34,0,none⟩) 9 9) (D:=D) U zgw U U ((cA.block D (by omega) (by simpa using hDb)).trans ((c34.block D hDl (by simp)).trans hdf)) ?_
  intro w' hw'
  have kA:zK wA b2 224 [.slice (some ⟨b34,0,none⟩) 9 9]:=kA
  have hb34:b34∉[D]:=by simp;omega
  have k34':=(k34.chg cA (by simp;have:=hb2.lt;omega)).chg hw' hb34
  refine⟨(kA.chg hw' (by simpa using fun h=>hDb h.symm)).cell' U,?_,?_,?_⟩
  ·have hl0:x.b.data.toList=[]:=List.length_eq_zero_iff.1 (by omega)
   rw[hl0]
   have e9:(madeCells (Value.int IntKind.u8 0).cells (9*1)).toList=bv (zd1 []):=(zqW rfl 9).trans rfl
   rw[e9]at k34'
   exact zw.of_blk (n:=9) k34' U (by simp[maxLen]) (zeB (zd1 []))
  ·intro b hb
   have:=hcx.size
   simp[zq]at hb
   omega
  exact(((hcx.trans c34).own cA (by intro y hy;simp at hy;omega))).own hw' (by intro y hy;simp at hy;omega)
 rw[if_neg h0]at hu
 have hne:(zd1 x.b.data.toList).length≠0:=by
  intro h
  rw[←zj8 (fun e=>h0 (by rw[←hsz,e];rfl)),(zlL _ _).2.2,List.length_range]at h
  omega
 obtain⟨pu,cu,rfl,_⟩:=id (zw.val hu)
 refine za (Ol zgw U (hb2.cell' U) (On yT U ?_))
 refine Og (vf (zA U U) (df (by omega))) U ?_
 refine zac [2,33] (F':=[(2,_),(33,_),(1000000,_)]) U (zb U ?_)
 refine zbT [2] U ?_
 refine zk (Sr (Ol zgw U (hb2.cell' U) ?_))
 refine Oq (zv zrW U U U U hb2 (by simp) (by intro y hy;simp at hy;subst hy;rfl) ?_)
 intro wA nA cA kA
 refine zac [2] (F':=[(2,_),(1000000,_)]) U (zh ?_)
 repeat first|refine tr ?_|refine br ?_
 refine znO (v:=.slice pu (zd1 x.b.data.toList).length cu) (D:=D) U zgw U U ((cA.block D (by omega) (by simpa using hDb)).trans hdf) ?_
 intro w' hw'
 have kA:zK wA b2 224 [.slice pu (zd1 x.b.data.toList).length cu]:=kA
 have huD:∀b∈zq (.slice pu (zd1 x.b.data.toList).length cu),b∉[D]:=fun b hb hm=>by
  rcases hu with⟨he,_,_⟩|⟨b',off,cap,cc,he,hs⟩
  ·rw[he]at hb;simp[zq]at hb
  rw[he]at hb
  simp[zq]at hb hm
  subst hb hm
  rw[show wx.heap[b]? = _ from hs.blk]at hdf
  cases hdf
 refine⟨(kA.chg hw' (by simpa using fun h=>hDb h.symm)).cell' U,?_,hfu,?_⟩
 ·exact zw.chg (zw.chg hu cA (zw.apart hu hb2 U)) hw' huD
 exact((hcx.own cA (by intro y hy;simp at hy;omega))).own hw' (by intro y hy;simp at hy;omega)
theorem zlP{x:zT}(h:zbq x=0)(hx:x.Rng):∃f g,zar zsm x.k=some (zeZ f g)∧zi TP f=true∧∀w,zL TP f #[x.v] w fun r w'=>zcH w' r (ztt x)∧(∀b∈zq r,w.heap.size≤b)∧zl [] w w':=by
 obtain⟨hf,hb⟩:=zd4 h
 obtain⟨hk,hbr,hm⟩:=zbl hf
 obtain⟨k,i,u,b⟩:=x
 rcases (show k=0∨k=1∨k=2∨k=3∨k=4 by simp at hk;omega) with rfl|rfl|rfl|rfl|rfl
 ·exact⟨_,_,U,zyt,fun w=>zwe _ w⟩
 ·exact⟨_,_,U,zwY,fun w=>zvW _ w hx⟩
 ·exact⟨_,_,U,zzC,fun w=>zwd _ w hx⟩
 ·exact⟨_,_,U,zyb,fun w=>zwa _ w (hm U)⟩
 exact⟨_,_,rfl,zxp,fun w=>zvl _ w (by simp at hb ⊢;omega)⟩
theorem zpN(l:List zT)(x:zT):zdE (l++[x])=zdE l++([UInt8.ofNat x.k.toNat]++ztt x):=by simp[zdE,zov]
theorem zlj:∀{l:List zT} {j:Nat} {x:zT},l[j]? = some x→zbq x≠0→(∀y∈l.take j,zbq y=0)→zim l=zbq x
 |[],_,_,h,_,_=>by simp at h
 |y::l,0,x,h,hx,_=>by simp at h;subst h;simp[zim,hx]
 |y::l,j+1,x,h,hx,ha=>by
  unfold zim
  rw[if_neg (by simp[ha y (by simp)])]
  exact zlj (by simpa using h) hx (fun z hz=>ha z (by simp[hz]))
theorem zcH.push{w:Wl}{v:Va}{l m:List UInt8}{n:Nat}{xs:List Va}(h:zw w 5 1 v n xs)(hn:n=l.length+m.length)(hx:xs=bv l++bv m):zcH w v (l++m):=by
 subst hn hx
 unfold zcH
 rw[List.length_append,zam]
 exact h
theorem ztn{v v':Va}{w w0:Wl}(ho:zq v'=zq v∨∃b,zq v'=[b]∧w.heap.size≤b)(hs:w0.heap.size≤w.heap.size):∀y∈zq v',y∈zq v∨w0.heap.size≤y:=by
 intro y hy
 rcases ho with o|⟨b,o,hb⟩
 ·rw[o]at hy;exact .inl hy
 rw[o]at hy;simp at hy;subst hy;right;omega
theorem zrh(v:Va)(l:List zT)(w:Wl)(hl:yn w v l)(hg:∀x∈l,x.Rng)(hn:l.length≤8) :
 zL TP 146 #[v] w fun r w'=>r=.tuple #[.string (if zim l=0 then zc9 l else e0),Ii (zim l)]∧zl [] w w':=by
 obtain⟨pv,cv,rfl,hcv⟩:=zO.val hl
 refine A1 Tryz.func146 U U ?_
 refine Sr (Oa U (Oa U (E1 0 U (Sr (Oa U (E2 0 4 U (zd (Sr (Om U (On zbn U (Om U (E4 4 8 9 10 U ?_))))))))))))
 refine zu ?_
 refine zX [4,8,9,10] (fun m F wx=>∃(j:Nat) (u:Va),m=l.length-j∧j≤l.length∧F=[(4,u),(8,.slice pv l.length cv),(9,Ii l.length),(10,Ii j)]∧zcH wx u (zdE (l.take j))∧(∀b∈zq u,w.heap.size≤b)∧zl [] w wx∧(∀y∈l.take j,zbq y=0)) (m:=l.length-0) ⟨0,_,rfl,Nat.zero_le _,rfl,zw.nil _ _ _,by simp[zq],zl.refl _ _,by simp⟩ ?_
 rintro m F wx⟨j,u,rfl,hj,rfl,hu,hfu,hcx,hall⟩
 have hkl:=zij hall
 rw[List.length_take,Nat.min_eq_left hj]at hkl
 refine Sr (Og (zF U U) U (E5 4 8 9 10 11 U (zd ?_)))
 refine zH U (fun hT=>?_) (fun hF=>?_)
 ·refine zk ?_
  have hlt:j<l.length:=by have:=of_decide_eq_true hT;omega
  have hx:l[j]? = some l[j]:=by simp[hlt]
  generalize l[j]=x at hx
  have hxr:=hg x (List.mem_of_getElem? hx)
  obtain⟨b,off,cap,hv,hcell⟩:=zO.at zc2 (zO.chg0 hl hcx) hx
  cases hv
  refine zd (zu (Sr ?_))
  refine Og (zm zbn yv U U _ U hlt) U ?_
  refine Og (zg zaX yv U U hcell) U ?_
  refine Oq (zD zcq U U ?_)
  intro b6 w6 e6 n6 c6 k6
  refine Oq (zv yv U U U U k6 (by simp[zT.cs]) (zT.one x) ?_)
  intro wA nA cA kA
  refine E5 4 6 8 9 10 U ?_
  have kA:zK wA b6 111 x.cs:=kA
  have hcA:zl [] wx wA:=c6.own cA (by intro y hy;simp at hy;omega)
  refine zd (Sr (Og (zg zaX yv U U (zB.of_blk0 kA)) U ?_))
  refine Oc zp4 U U U (zkA x _) ?_
  rintro v15 w15⟨rfl,c15⟩
  refine Oa U (E6 4 6 7 8 9 10 U ?_)
  have kB:=kA.chg0 c15
  have hcB:zl [] wx w15:=hcA.trans c15
  have huB:=zw.chg0 hu hcB
  refine zd ?_
  by_cases hc:zbq x=0
  ·refine za (Om U ?_)
   refine Og (vf (zZ U U) (by simp[hc])) U ?_
   refine E7 4 6 7 8 9 10 17 U (zb U (zk ?_))
   obtain⟨f,g,hgk,hbf,hlay⟩:=zlP hc hxr
   have hfine:=(zbl (zd4 hc).1).1
   have hkT:(ztt x).length≤234:=by have:=zk8 hc;rw[zov]at this;simp at this;omega
   have hd:zl (zq u) w15 w15.drew:=zl.drew _ _
   have hbu:b6∉zq u:=fun hm=>zw.apart huB kB rfl b6 hm (by simp)
   refine zN (fun wz=>zl (zq u) w15 wz) mix (by kernel_rfl) hd ?_
   refine Tm U (Td zby U (Tr (fun wz hz=>zj zdb U ((kB.chg hz hbu).cell' U)) U ?_))
   refine Tp (fun _=>yp za9 zad U (show IntKind.u8.wrap x.k=(((UInt8.ofNat x.k.toNat).toNat:Nat):Int) by rw[show x.k=((x.k.toNat:Nat):Int) by omega,zgm];simp)) U ?_
   refine za4 U (gn U) (zz zdc U (vs:=[_]) U (css:=[_]) ⟨U,trivial⟩ U U (cs:=[_]) U U ?_)
   intro b23 w23 e23 n23 c23 k23
   refine⟨.inl (hd.trans c23),?_⟩
   refine za4 U (gn U) (yE zdc yT U U (zw.chg0 huB ((zl.drew [] _).trans c23)) (zw.of_blk (n:=1) (c:=bv [UInt8.ofNat x.k.toNat]) k23 U (by simp[maxLen]) (zeB _)) (by simp only[maxLen];omega) (by omega) U ?_)
   intro v24 w24 i24 c24 o24 z24
   refine⟨.inl ((hd.trans c23).transS c24),?_⟩
   refine Tc zxo U U U (ztT _) ?_
   rintro v25 w25⟨b25,rfl,h25,k25,c25⟩
   refine⟨.inl (((hd.trans c23).transS c24).trans c25),?_⟩
   refine Td zby U (Tr (fun wz hz=>zj zdb U ((kB.chg hz hbu).cell' U)) U ?_)
   refine za4 U (gn U) (St.vl (zcL (κ:=y6 .i64) zjH (zM zad) zjr U U k25 hgk U) U U ?_)
   refine⟨.inl (((hd.trans c23).transS c24).trans c25),?_⟩
   refine Tp (fun _=>zgV zto U U) U (Tr (fun wz hz=>zg zaX yv U U (zB.of_blk0 (kB.chg hz hbu))) U ?_)
   refine Tc hbf U U U (hlay _) ?_
   rintro v31 w31⟨i31,f31,c31⟩
   refine⟨.inl ((((hd.trans c23).transS c24).trans c25).trans c31),?_⟩
   refine za4 U (gn U) (yE zdc yT U U (zw.chg0 (zw.chg0 i24 c25) c31) i31 (by simp only[maxLen];omega) (by omega) U ?_)
   intro v32 w32 i32 c32 o32 z32
   refine⟨.inl (((((hd.trans c23).transS c24).trans c25).trans c31).trans' c32 (ztn o24 c23.size)),?_⟩
   refine Ta U ?_
   refine zdX [4,8,9,10] (F':=[(4,_),(8,_),(9,_),(10,_)]) U ?_
   refine zn ?_
   have hcz:zl (zq u) w15 w32:=((((hd.trans c23).transS c24).trans c25).trans c31).trans' c32 (ztn o24 c23.size)
   have hwz:=(hcx.trans hcB).own hcz hfu
   have hs1:=hcx.size
   have hs2:=hcB.size
   have hs3:w15.heap.size≤w23.heap.size:=c23.size
   have hs4:=(c24.size)
   have hs5:=c25.size
   have hs6:=c31.size
   refine za ?_
   refine Og (zG U U (by omega)) U ?_
   refine Om U (N4 4 8 9 10 U ?_)
   refine⟨l.length-(j+1),by omega,j+1,v32,rfl,by omega,rfl,?_,zaH o32 (zaH o24 hfu (by omega)) (by omega),hwz,?_⟩
   ·rw[List.take_add_one,hx]
    show zcH w32 v32 (zdE (l.take j++[x]))
    rw[zpN,←List.append_assoc]
    refine zcH.push i32 ?_ ?_
    ·rw[List.length_append];rfl
    rw[zam]
   intro y hy
   rw[List.take_add_one,hx]at hy
   rcases List.mem_append.1 hy with hy|hy
   ·exact hall y hy
   simp at hy;subst hy;exact hc
  refine za (Om U ?_)
  refine Og (vt (zZ U U) (by simp[hc])) U ?_
  refine E7 4 6 7 8 9 10 17 U (zf U (Sr (Om U (Oa U (Oa U (E2 2 3 U (zh ?_)))))))
  repeat first|refine tr ?_|refine br ?_
  refine zbX U U U ?_
  rw[zlj hx hc hall,if_neg hc]
  exact⟨U,hcx.trans hcB⟩
 refine zI ?_
 repeat first|refine te ?_|refine bo rfl ?_
 refine zt _ ?_
 have he:l.length≤j:=by have:=of_decide_eq_false hF;omega
 rw[Tl he]at hu hall hkl
 have hE:=ziA.2 hall
 obtain⟨pu,cu,rfl,_⟩:=id (zw.val hu)
 refine zd (Sr (Om U (On yT U ?_)))
 refine Og (vf (ym U U) (df (by omega))) U ?_
 refine E2 4 36 U (zb U (zk (Sr (Om U (Og (zhi (l:=(zdE l)) yT za9 st9 U (zw.rd hu)) U (Oa U (Oa U (E2 2 3 U (zh ?_)))))))))
 refine zbX U U U ?_
 rw[hE,if_pos rfl]
 exact⟨U,hcx⟩
theorem zzx(x:zT)(w:Wl):zL TP 247 #[x.v] w fun r w'=>r=.bool (decide (x.k=0))∧zl [] w w':=by
 refine A1 Tryz.func247 U U ?_
 refine Sr ?_
 refine Ob U U ?_
 intro b1 w1 e1 n1 c1 k1
 refine Oa U (E1 1 U (Sr (Od zby U (Ol zdb U (k1.cell' U) (Og (zA U U) U (Oa U (E1 2 U (zh ?_))))))))
 refine zx U U ?_
 exact⟨U,c1⟩
theorem ztu(l:List zT):nnS l = !(l.any fun x=>decide (x.k=0)):=by
 rw[Bool.eq_iff_iff]
 simp[nnS]
theorem zzL(v:Va)(l:List zT)(w:Wl)(hl:yn w v l)(hg:∀x∈l,x.Rng)(hn:l.length≤8) :
 zL TP 194 #[v] w fun r w'=>r=.tuple #[.string (if zim l=0 then zc9 l else e0),.bool (nnS l)]∧zl [] w w':=by
 refine A1 Tryz.func194 U U ?_
 refine Sr (Oa U (Oa U (E1 0 U (Sr (Om U ?_)))))
 refine Oc zya U U U (zrh v l _ hl hg hn) ?_
 rintro v8 w8⟨rfl,c8⟩
 refine Om U (Oe U U (Oe U U (Oa U (Oa U (E2 0 4 U (Sr (Om U (Om U ?_))))))))
 refine Oc zuY U U U (zrk zc2 v l (fun x=>decide (x.k=0)) 247 [] _ (zO.chg0 hl c8) (by omega) zyL (fun x _ w1 _=>zzx x w1)) ?_
 rintro v13 w13⟨rfl,c13⟩
 refine Og (zE U) U (Oa U (Oa U (E2 2 3 U (zh ?_))))
 refine zbX U U U ?_
 exact⟨by rw[ztu],c8.trans c13⟩
theorem zth(a p v:Va)(st:List Int)(row:List zT)(w:Wl)(ha:zap w a st)(hp:p.oneCell'=true)(hv:yn w v row)(hg:∀x∈row,x.Rng)(hc:∀x∈row,zbq x=0)(hr:∀i∈st,0≤i∧i<row.length)(hn:st.length≤8)(hn':row.length≤1048576) :
 zL TP 138 #[.agg #[a,p],v] w fun r w'=>r=.tuple #[.string (zc9 (z4 row st)),.bool (nnS (z4 row st))]∧zl [] w w':=by
 have hmem:∀x∈z4 row st,x∈row:=fun x hx=>by
  rw[zeu,List.mem_map]at hx
  obtain⟨i,hi,rfl⟩:=hx
  exact(zg2 U (hr i hi)).1
 have hE:zim (z4 row st)=0:=ziA.2 fun x hx=>hc x (hmem x hx)
 obtain⟨pa,ca,rfl,_⟩:=id (zO.val ha)
 refine A2 Tryz.func138 U U ?_
 refine Sr ?_
 refine Ob U U ?_
 intro b2 w2 e2 n2 c2 k2
 refine Oa U (Oa U (E2 1 2 U (Sr (Om U (Od zn6 U (Ol zfh U (k2.cell' U) ?_))))))
 refine Oc zxO U U U (zwt v _ row st _ (zO.chg0 hv c2) (zO.chg0 ha c2) hr hn' (by omega)) ?_
 rintro v12 w12⟨u,rfl,iu,fu,c12⟩
 refine Om U (Oe U U (Oe U U (Oa U (Oa U (E1 6 U (Sr (Om U ?_)))))))
 refine Oc zw7 U U U (zzL u (z4 row st) _ iu (fun x hx=>hg x (hmem x hx)) (by rw[zl3];exact hn)) ?_
 rintro v16 w16⟨rfl,c16⟩
 refine Oe U U (Oe U U (Oa U (Oa U (E2 4 5 U (zh ?_)))))
 refine zbX U U U ?_
 rw[hE,if_pos rfl]
 exact⟨U,(c2.trans c12).trans c16⟩
theorem zsb(n:Nat):∀{k m:Nat},k≤m→be (n % 256 ^ m) k=be n k
 |0,_,_=>rfl
 |k+1,m,h=>by
  have e:n % 256 ^ m / 256 ^ k % 256=n / 256 ^ k % 256:=by
   have h1:n % 256 ^ m % 256 ^ (k+1)=n % 256 ^ (k+1):=Nat.mod_mod_of_dvd _ (Nat.pow_dvd_pow _ h)
   have h2:∀a:Nat,a / 256 ^ k % 256=a % 256 ^ (k+1) / 256 ^ k:=fun a=>by
    rw[Nat.pow_succ,Nat.mod_mul_right_div_self]
   rw[h2,h1,←h2]
  unfold be
  rw[e,zsb n (by omega)]
theorem znM(n z:Nat)(w:Wl)(hn:n<18446744073709551616)(hz:z=1∨z=2∨z=4∨z=8):zL TP 249 #[.int .u64 n,Ii z] w fun r w'=>zcH w' r (be n z)∧(∀b∈zq r,w.heap.size≤b)∧zl [] w w':=by
 have e1:IntKind.u64.wrap ((n:Int)*2 ^ (64-8*z))=((n*2 ^ (64-8*z) % 18446744073709551616:Nat):Int):=by rw[zcI];rcases hz with rfl|rfl|rfl|rfl<;>simp only[Nat.reducePow,Nat.reduceMul,Nat.reduceSub,Int.reducePow]<;>omega
 have e2:n*2 ^ (64-8*z) % 18446744073709551616 / 2 ^ (64-8*z)=n % 256 ^ z:=by rcases hz with rfl|rfl|rfl|rfl<;>simp only[Nat.reducePow,Nat.reduceMul,Nat.reduceSub]<;>omega
 have hz8:z≤8:=by omega
 have hp:n % 256 ^ z<256 ^ z:=Nat.mod_lt _ (Nat.pow_pos (by decide))
 refine A2 Tryz.func249 U U ?_
 refine Sr (Oa U (E2 0 1 U (Sr (Om U (Om U ?_)))))
 refine Og (zc8 U U (by omega)) U ?_
 refine Og (yV U U (by omega)) U ?_
 refine Og (zdv (64-8*z) U U (by omega) (by simp only[IntKind.bits];omega) e1) U ?_
 refine Om U ?_
 refine Og (zc8 U U (by omega)) U ?_
 refine Og (yV U U (by omega)) U ?_
 refine Og (zbW (64-8*z) U U (by omega) (by simp only[IntKind.bits];omega) (zle _ _)) U ?_
 refine Om U ?_
 refine Oc zux U U U (e2▸znU (n % 256 ^ z) z _ (Nat.lt_of_le_of_lt (Nat.mod_le _ _) hn) (by omega) hp) ?_
 rintro v18 w18⟨v18,rfl,i18,f18,c18⟩
 refine Om U (Oe U U (Oe U U (Oa U (Oa U (E1 5 U (Sr (Om U (Oa U (E1 4 U (zh ?_))))))))))
 refine zx U U ?_
 rw[e2,zsb n (Nat.le_refl z)]at i18
 exact⟨by unfold zcH;rw[zaG];exact i18,f18,c18⟩
theorem zv8(c:Col)(x:zT)(w:Wl)(hx:x.Rng)(hz:c.s=1∨c.s=2∨c.s=4∨c.s=8):zL TP 248 #[c.v,x.v] w fun r w'=>zcH w' r (be (x.i % 18446744073709551616).toNat c.s.toNat)∧(∀b∈zq r,w.heap.size≤b)∧zl [] w w':=by
 have hi:=hx.i
 obtain⟨z,hz1,hz2⟩:∃z:Nat,c.s=z∧(z=1∨z=2∨z=4∨z=8):=⟨c.s.toNat,by omega,by omega⟩
 refine A2 Tryz.func248 U U ?_
 refine Sr ?_
 refine Ob U U ?_
 intro b2 w2 e2 n2 c2 k2
 refine Ob U U ?_
 intro b3 w3 e3 n3 c3 k3
 refine Oa U (E2 2 3 U (Sr (Od zaw U (Ol ag2 U (k3.cell' U) ?_))))
 refine Og (yp zbO zfH U (show IntKind.u64.wrap x.i=(((x.i % 18446744073709551616).toNat:Nat):Int) by rw[zcI];omega)) U ?_
 refine Od zdM U ?_
 refine Ol ag3 U ((k2.chg0 c3).cell' (show _=some (Value.int .i64 (z:Int)) by rw[←hz1];rfl)) ?_
 refine Oc zva U U U (znM _ z _ (by omega) hz2) ?_
 rintro v10 w10⟨i10,f10,c10⟩
 refine Oa U (E1 4 U (zh ?_))
 refine zx U U ?_
 have hs:=(c2.trans c3).size
 rw[hz1]
 exact⟨i10,fun b hb=>Nat.le_trans hs (f10 b hb),(c2.trans c3).trans c10⟩
theorem zwh(c:Col)(x:zT)(w:Wl)(hx:x.Rng)(hz:c.s=1∨c.s=2∨c.s=4∨c.s=8):zL TP 254 #[c.v,x.v] w fun r w'=>zcH w' r (be x.u c.s.toNat)∧(∀b∈zq r,w.heap.size≤b)∧zl [] w w':=by
 obtain⟨z,hz1,hz2⟩:∃z:Nat,c.s=z∧(z=1∨z=2∨z=4∨z=8):=⟨c.s.toNat,by omega,by omega⟩
 refine A2 Tryz.func254 U U ?_
 refine Sr ?_
 refine Ob U U ?_
 intro b2 w2 e2 n2 c2 k2
 refine Ob U U ?_
 intro b3 w3 e3 n3 c3 k3
 refine Oa U (E2 2 3 U (Sr (Od zcb U (Ol zeV U (k3.cell' U) (Od zdM U ?_)))))
 refine Ol ag3 U ((k2.chg0 c3).cell' (show _=some (Value.int .i64 (z:Int)) by rw[←hz1];rfl)) ?_
 refine Oc zva U U U (znM _ z _ hx.u hz2) ?_
 rintro v9 w9⟨i9,f9,c9⟩
 refine Oa U (E1 4 U (zh ?_))
 refine zx U U ?_
 have hs:=(c2.trans c3).size
 rw[hz1]
 exact⟨i9,fun b hb=>Nat.le_trans hs (f9 b hb),(c2.trans c3).trans c9⟩
theorem zvR(c:Col)(x:zT)(w:Wl)(hx:x.i=0∨x.i=1):zL TP 256 #[c.v,x.v] w fun r w'=>zcH w' r [UInt8.ofNat x.i.toNat]∧(∀b∈zq r,w.heap.size≤b)∧zl [] w w':=by
 refine A2 Tryz.func256 U U ?_
 refine Sr ?_
 refine Ob U U ?_
 intro b2 w2 e2 n2 c2 k2
 refine Ob U U ?_
 intro b3 w3 e3 n3 c3 k3
 refine Oa U (E1 3 U (Sr (Od zaw U (Ol ag2 U (k3.cell' U) ?_))))
 refine Og (yp za9 zfH U (show IntKind.u8.wrap x.i=(((UInt8.ofNat x.i.toNat).toNat:Nat):Int) by rcases hx with h|h<;>rw[h]<;>rfl)) U ?_
 refine Oq (zz zdc U (vs:=[_]) U (css:=[_]) ⟨U,trivial⟩ U U (cs:=[_]) U U ?_)
 intro b8 w8 e8 n8 c8 k8
 refine Oa U (E1 4 U (zh ?_))
 refine zx U U ?_
 have hs:=(c2.trans c3).size
 exact⟨zw.of_blk (n:=1) k8 U (by simp[maxLen]) (zeB _),by intro b hb;simp[zq]at hb;omega,(c2.trans c3).trans c8⟩
theorem zvr(c:Col)(x:zT)(w:Wl)(hx:x.b.size≤1048576):zL TP 259 #[c.v,x.v] w fun r w'=>zcH w' r (zbD x.b)∧(∀b∈zq r,w.heap.size≤b)∧zl [] w w':=by
 refine A2 Tryz.func259 U U ?_
 refine Sr ?_
 refine Ob U U ?_
 intro b2 w2 e2 n2 c2 k2
 refine Ob U U ?_
 intro b3 w3 e3 n3 c3 k3
 refine Oa U (E1 3 U (Sr (Od zdj U (Ol ag9 U (k3.cell' U) ?_))))
 refine Oc zxu U U U (zwk x.b _ hx) ?_
 rintro v7 w7⟨i7,f7,c7⟩
 refine Oa U (E1 4 U (zh ?_))
 refine zx U U ?_
 have hs:=(c2.trans c3).size
 exact⟨i7,fun b hb=>Nat.le_trans hs (f7 b hb),(c2.trans c3).trans c7⟩
def zj0(f g h:FuncId):Va:=.agg #[.func (.func f) #[] #[],.func (.func g) #[] #[],.func (.func h) #[] #[]]
def zmY:List (Int×Va):=[(1,zj0 248 250 253),(2,zj0 254 255 253),(3,zj0 256 257 258),(4,zj0 259 260 261)]
theorem zn5(w:Wl):zL TP 195 #[] w fun r w'=>∃b,r=.map (some b)∧w.heap.size≤b∧zY (y6 .i64) w' b zmY∧zl [] w w':=by
 refine zL.of_W (args:=[]) Tryz.func195 U U U U ?_
 refine Sr (Oa U (zac [] (F':=[]) U (Sr ?_)))
 refine Oq (zbc (y6 .i64) U ?_)
 intro b1 w1 e1 n1 c1 k1
 refine Og (zC znF zjX U (vs:=[_,_,_]) U (css:=[_,_,_]) ⟨U,U,U,trivial⟩ U U (cs:=[_,_,_]) U) U ?_
 refine Oq (yr (κ:=y6 .i64) zkc (zM yY) U U U k1 ?_)
 intro wA nA cA kA
 refine Og (zC znF zjX U (vs:=[_,_,_]) U (css:=[_,_,_]) ⟨U,U,U,trivial⟩ U U (cs:=[_,_,_]) U) U ?_
 refine Oq (yr (κ:=y6 .i64) zkc (zM yY) U U U kA ?_)
 intro wB nB cB kB
 refine Og (zC znF zjX U (vs:=[_,_,_]) U (css:=[_,_,_]) ⟨U,U,U,trivial⟩ U U (cs:=[_,_,_]) U) U ?_
 refine Oq (yr (κ:=y6 .i64) zkc (zM yY) U U U kB ?_)
 intro wC nC cC kC
 refine Og (zC znF zjX U (vs:=[_,_,_]) U (css:=[_,_,_]) ⟨U,U,U,trivial⟩ U U (cs:=[_,_,_]) U) U ?_
 refine Oq (yr (κ:=y6 .i64) zkc (zM yY) U U U kC ?_)
 intro wD nD cD kD
 refine Om U (Oa U (E1 0 U (zh ?_)))
 refine zx U U ?_
 exact⟨b1,rfl,by omega,kD,c1.own ((((cA.transS cB).transS cC).transS cD)) (by intro x hx;simp at hx;omega)⟩
theorem zlJ{c:Col}{x:zT}(h:y7 c x=0)(hk:x.k≠0)(hx:x.Rng):∃f g k,zar zmY c.t=some (zj0 f g k)∧zi TP f=true∧∀w,zL TP f #[c.v,x.v] w fun r w'=>zcH w' r (zje c x)∧(∀b∈zq r,w.heap.size≤b)∧zl [] w w':=by
 obtain⟨hr,hc,_,h2⟩:=zbi h
 obtain⟨hkt,_⟩:=h2 hk
 obtain⟨hf,hb⟩:=zd4 hc
 obtain⟨_,hbr,hm⟩:=zbl hf
 obtain⟨s1,s2,s3,s4⟩:=zeK hr
 unfold zje
 rcases s4 with e|e|e|e<;>simp only[e, ↓reduceIte,Int.reduceEq]
 ·exact⟨_,_,_,U,zzj,fun w=>zv8 c x w hx (s1 (.inl e))⟩
 ·exact⟨_,_,_,U,zyK,fun w=>zwh c x w hx (s1 (.inr e))⟩
 ·exact⟨_,_,_,rfl,zwT,fun w=>zvR c x w (hm (by omega))⟩
 exact⟨_,_,_,rfl,zyH,fun w=>zvr c x w (by omega)⟩
theorem zg7:∀{cs:List Col} {xs:List zT} {j:Nat} {c:Col} {x:zT},cs[j]? = some c→xs[j]? = some x→zb5 (cs.take (j+1)) (xs.take (j+1))=zb5 (cs.take j) (xs.take j)++zes c x
 |[],_,_,_,_,h,_=>by simp at h
 |_::_,[],_,_,_,_,h=>by simp at h
 |c::cs,x::xs,0,c',x',hc,hx=>by simp at hc hx;subst hc hx;simp[zb5]
 |c::cs,x::xs,j+1,c',x',hc,hx=>by
  simp only[List.take_succ_cons,zb5]
  rw[zg7 (by simpa using hc) (by simpa using hx),List.append_assoc]
theorem ziL:∀{cs:List Col} {xs:List zT},zaz cs xs=0→∀j,zaz (cs.take j) (xs.take j)=0
 |[],_,_,j=>by simp[zaz]
 |_::_,[],_,j=>by simp[zaz]
 |c::cs,x::xs,h,0=>by simp[zaz]
 |c::cs,x::xs,h,j+1=>by
  unfold zaz at h
  by_cases h1:y7 c x=0
  ·rw[if_neg (by simp[h1])]at h
   simp only[List.take_succ_cons,zaz,h1,ziL h j]
   rfl
  rw[if_pos h1]at h;exact absurd h h1
theorem zsj(c k u v:Va)(s:yx)(l:List zT)(w:Wl)(hE:EOk w)(hs:zal w c k u s)(hm:s.Sm)(hl:yn w v l)(hg:∀x∈l,x.Rng)(hn:l.length≤1048576) :
 zL TP 139 #[.agg #[c,k,u],v] w fun r w'=>∃o,r=.tuple #[o,Ii (zai s l)]∧zcH w' o (if zai s l=0 then zb5 s.cols l else [])∧(∀b∈zq o,w.heap.size≤b)∧zl [] w w':=by
 obtain⟨pv,cv,rfl,hcv⟩:=zO.val hl
 refine A2 Tryz.func139 U U ?_
 refine Sr ?_
 refine Ob U U ?_
 intro b2 w2 e2 n2 c2 k2
 refine Oa U (Oa U (E2 1 2 U (zd (Sr (Og (zg zbQ zbL U U (zB.of_blk0 k2)) U (Om U ?_))))))
 refine Oc zvb U U U (zu3 c k u _ s l _ (hE.chg0 c2) (hs.chg0 c2) hm (zO.chg0 hl c2) hg hn) ?_
 rintro v13 w13⟨rfl,c13⟩
 refine Oa U (E3 1 2 6 U (zd ?_))
 by_cases hr:zai s l=0
 ·refine za (Om U ?_)
  refine Og (vf (zZ U U) (by simp[hr])) U ?_
  refine E4 1 2 6 15 U (zb U (zk ?_))
  obtain⟨hrs,hlen,hfit⟩:=zaU hr
  refine Sr (Oa U (E3 1 2 7 U (zd (zd ?_))))
  have hcA:=c2.trans c13
  have k2:=k2.chg0 c13
  refine za (Om U (On zbn U (Om U (E5 2 7 17 18 19 U (zu ?_)))))
  refine zX [2,7,17,18,19] (fun m F wx=>∃(j:Nat) (u:Va),m=l.length-j∧j≤l.length∧F=[(2,Pt b2),(7,u),(17,.slice pv l.length cv),(18,Ii l.length),(19,Ii j)]∧zcH wx u (zb5 (s.cols.take j) (l.take j))∧(∀b∈zq u,w13.heap.size≤b)∧zl [] w13 wx) (m:=l.length-0) ⟨0,_,rfl,Nat.zero_le _,rfl,zw.nil _ _ _,by simp[zq],zl.refl _ _⟩ ?_
  rintro m F wx⟨j,u',rfl,hj,rfl,hu,hfu,hcx⟩
  refine Sr (Og (zF U U) U (E6 2 7 17 18 19 20 U (zd ?_)))
  refine zH U (fun hT=>?_) (fun hF=>?_)
  ·refine zk ?_
   have hlt:j<l.length:=by have:=of_decide_eq_true hT;omega
   have hx:l[j]? = some l[j]:=by simp[hlt]
   have hy:s.cols[j]? = some (s.cols[j]'(by omega)):=by simp[hlt,←hlen]
   generalize l[j]=x at hx
   generalize s.cols[j]'(by omega)=y at hy
   have hxr:=hg x (List.mem_of_getElem? hx)
   have hfy:=zgl hfit hy hx
   have hel:=ziz hfy
   have hkl:=zeo (ziL hfit j)
   have h8:=(z6 hrs).1
   rw[List.length_take,Nat.min_eq_left (by omega)]at hkl
   obtain⟨b,off,cap,hv,hcell⟩:=zO.at zc2 (zO.chg0 hl (hcA.trans hcx)) hx
   cases hv
   have k2:=k2.chg0 hcx
   refine zd (zu (Sr (Om U ?_)))
   refine Og (zm zbn yv U U _ U hlt) U ?_
   refine Og (zg zaX yv U U hcell) U ?_
   refine Oq (zD zcq U U ?_)
   intro b9 w9 e9 n9 c9 k9
   refine Oa U ?_
   refine Oq (zv yv U U U U k9 (by simp[zT.cs]) (zT.one x) ?_)
   intro wA nA cA kA
   refine E7 2 7 8 9 17 18 19 U ?_
   have kA:zK wA b9 111 x.cs:=kA
   have hcB:zl [] wx wA:=c9.own cA (by intro y hy;simp at hy;omega)
   obtain⟨bc,offc,capc,hvc,hcellc⟩:=zO.at zb9 (zO.chg0 hs.cols ((hcA.trans hcx).trans hcB)) hy
   subst hvc
   have k2:=k2.chg0 hcB
   have huB:=zw.chg0 hu hcB
   refine zd (zd ?_)
   by_cases hk:x.k=0
   ·refine za (Od zby U (Ol zdb U (kA.cell' U) ?_))
    refine Og (vt (zA U U) (by simp[hk])) U ?_
    refine E8 2 7 8 9 17 18 19 26 U (zf U (zd ?_))
    have hkl2:(zes y x).length=1:=by simp[zes,hk]
    refine za (Om U ?_)
    refine Oq (zz zdc U (vs:=[_]) U (css:=[_]) ⟨U,trivial⟩ U U (cs:=[_]) U U ?_)
    intro b28 w28 e28 n28 c28 k28
    refine Oq (yE zdc yT U U (zw.chg0 huB c28) (zw.of_blk (n:=1) (c:=bv [0]) k28 U (by simp[maxLen]) (zeB _)) (by simp only[maxLen];omega) (by omega) U ?_)
    intro v29 w29 i29 c29 o29 z29
    refine Oa U (E5 2 7 17 18 19 U ?_)
    have hcz:zl (zq u') wA w29:=(((zl.refl (zq u') wA).trans c28).transS c29)
    have hwz:=(hcx.trans hcB).own hcz hfu
    have hs1:=hcx.size
    have hs2:=hcB.size
    have hs3:wA.heap.size≤w28.heap.size:=c28.size
    refine zI ?_
    repeat first|refine te ?_|refine bo rfl ?_
    refine zt _ ?_
    refine za ?_
    refine Og (zG U U (by omega)) U ?_
    refine Om U (N5 2 7 17 18 19 U ?_)
    refine⟨l.length-(j+1),by omega,j+1,v29,rfl,by omega,rfl,?_,zaH o29 hfu (by omega),hwz⟩
    rw[zg7 hy hx,show zes y x=[0] by simp[zes,hk]]
    refine zcH.push i29 ?_ ?_
    ·rfl
    rfl
   refine za (Od zby U (Ol zdb U (kA.cell' U) ?_))
   refine Og (vf (zA U U) (by simp[hk])) U ?_
   refine E8 2 7 8 9 17 18 19 26 U (zb U (zk ?_))
   obtain⟨f,g,q,hgk,hbf,hlay⟩:=zlJ hfy hk hxr
   have hkl2:(zes y x).length=(zje y x).length+1:=by simp[zes,hk]
   refine Sr (Od yW U (Ol zcr U (k2.cell' U) (Om U ?_)))
   refine Og (zm zbF zaL U U _ U (show j<s.cols.length by omega)) U ?_
   refine Og (zg zdy zaL U U hcellc) U ?_
   refine Oq (zD zj2 U U ?_)
   intro b10 w10 e10 n10 c10 k10
   refine Oq (zv zaL U U U U k10 (by simp[Col.cs]) (Col.one y) ?_)
   intro wB nB cB kB
   refine E7 2 7 9 10 17 18 19 U ?_
   have kB:zK wB b10 114 y.cs:=kB
   have hcC:zl [] wA wB:=c10.own cB (by intro y hy;simp at hy;omega)
   have kA:=kA.chg0 hcC
   have huC:=zw.chg0 huB hcC
   have hd:zl (zq u') wB wB.drew:=zl.drew _ _
   have hbu:b9∉zq u':=fun hm=>zw.apart huC kA rfl b9 hm (by simp)
   have hbv:b10∉zq u':=fun hm=>zw.apart huC kB rfl b10 hm (by simp)
   refine zN (fun wz=>zl (zq u') wB wz) mix (by kernel_rfl) hd ?_
   refine Tm U ?_
   refine za4 U (gn U) (zz zdc U (vs:=[_]) U (css:=[_]) ⟨U,trivial⟩ U U (cs:=[_]) U U ?_)
   intro b36 w36 e36 n36 c36 k36
   refine⟨.inl (hd.trans c36),?_⟩
   refine za4 U (gn U) (yE zdc yT U U (zw.chg0 huC ((zl.drew [] _).trans c36)) (zw.of_blk (n:=1) (c:=bv [1]) k36 U (by simp[maxLen]) (zeB _)) (by simp only[maxLen];omega) (by omega) U ?_)
   intro v37 w37 i37 c37 o37 z37
   refine⟨.inl ((hd.trans c36).transS c37),?_⟩
   refine Tc zuT U U U (zn5 _) ?_
   rintro v38 w38⟨b38,rfl,h38,k38,c38⟩
   refine⟨.inl (((hd.trans c36).transS c37).trans c38),?_⟩
   refine Td zh2 U (Tr (fun wz hz=>zj zoV U ((kB.chg hz hbv).cell' U)) U ?_)
   refine za4 U (gn U) (St.vl (zcL (κ:=y6 .i64) zkc (zM yY) zjX U U k38 hgk U) U U ?_)
   refine⟨.inl (((hd.trans c36).transS c37).trans c38),?_⟩
   refine Tp (fun _=>zgV zt3 U U) U (Tr (fun wz hz=>zg zdy zaL U U (zB.of_blk0 (kB.chg hz hbv))) U (Tr (fun wz hz=>zg zaX yv U U (zB.of_blk0 (kA.chg hz hbu))) U ?_))
   refine Tc hbf U U U (hlay _) ?_
   rintro v45 w45⟨i45,f45,c45⟩
   refine⟨.inl ((((hd.trans c36).transS c37).trans c38).trans c45),?_⟩
   refine za4 U (gn U) (yE zdc yT U U (zw.chg0 (zw.chg0 i37 c38) c45) i45 (by simp only[maxLen];omega) (by omega) U ?_)
   intro v46 w46 i46 c46 o46 z46
   refine⟨.inl (((((hd.trans c36).transS c37).trans c38).trans c45).trans' c46 (ztn o37 c36.size)),?_⟩
   refine Ta U ?_
   refine zdX [2,7,17,18,19] (F':=[(2,_),(7,_),(17,_),(18,_),(19,_)]) U ?_
   refine zn ?_
   have hcz:zl (zq u') wB w46:=((((hd.trans c36).transS c37).trans c38).trans c45).trans' c46 (ztn o37 c36.size)
   have hwz:=((hcx.trans hcB).trans hcC).own hcz hfu
   have hs1:=hcx.size
   have hs2:=hcB.size
   have hs0:=hcC.size
   have hs3:wB.heap.size≤w36.heap.size:=c36.size
   have hs4:=c37.size
   have hs5:=c38.size
   have hs6:=c45.size
   refine za ?_
   refine Og (zG U U (by omega)) U ?_
   refine Om U (N5 2 7 17 18 19 U ?_)
   refine⟨l.length-(j+1),by omega,j+1,v46,rfl,by omega,rfl,?_,zaH o46 (zaH o37 hfu (by omega)) (by omega),hwz⟩
   rw[zg7 hy hx,show zes y x=1::zje y x by simp[zes,hk],List.append_cons]
   refine zcH.push i46 ?_ ?_
   ·rw[List.length_append];rfl
   rw[zam]
  refine zI ?_
  repeat first|refine te ?_|refine bo rfl ?_
  refine zt _ ?_
  have he:l.length≤j:=by have:=of_decide_eq_false hF;omega
  rw[Tl he,Tl (by omega)]at hu
  refine Sr (Om U (Oa U (Oa U (E2 4 5 U (zh ?_)))))
  repeat first|refine tr ?_|refine br ?_
  refine zbX U U U ?_
  have hs1:=hcA.size
  rw[hr,if_pos rfl]
  exact⟨_,U,hu,fun b hb=>Nat.le_trans hs1 (hfu b hb),hcA.trans hcx⟩
 refine za (Om U ?_)
 refine Og (vt (zZ U U) (by simp[hr])) U ?_
 refine E4 1 2 6 15 U (zf U (Sr (Om U (Oa U (Oa U (E2 4 5 U (zh ?_)))))))
 repeat first|refine tr ?_|refine br ?_
 refine zbX U U U ?_
 rw[if_neg hr]
 exact⟨_,rfl,zw.nil _ _ _,by simp[zq],c2.trans c13⟩
end Go.Wk
