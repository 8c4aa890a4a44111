/- joined texts -/
import Derived.Test.YtkfpmjjcogigfaaGreatDoorL7
set_option linter.all false
namespace Go.Wk
open Go.Proofs
set_option linter.unusedSectionVars false
variable [Lw]
set_option maxRecDepth 10000
theorem zzn(v:Va)(n:Int)(bt:Nat)(old:Va)(w:Wl)(hE:EOk w)(hv:zbR w v n)(ht:zO w bt 28 [old]) :
 zS TP 62 #[v,.iface 140 (Pt bt)] w fun r w'=>r=.bool true∧zO w' bt 28 [Ii n]∧zk [bt] w w':=by
 refine A2 Tryz.func62 U U ?_
 have hbt:=ht.lt
 refine Sr (Oa U (E2 0 1 U (zf (zf ?_))))
 obtain⟨x,hx⟩:∃x,zha v=some x∧x=false:=⟨_,hv.notNil,rfl⟩
 refine za (Om U (Og (zcb zcE U hv.notNil) U (E3 0 1 9 U (zb U (zm (zf (Sr (Om U (Og (zcb zBS U U) U (E3 0 1 11 U (zb U (zm (zf ?_)))))))))))))
 have hn1:=zO.new w 140 [Pt bt]
 have hc1:=zk.alloc [] w (.cells #[Pt bt] 140)
 generalize hw1:w.alloc (.cells #[Pt bt] 140)=w1 at hc1
 have hv1:=zzt ⟨bt,0,none⟩ w
 rw[hw1]at hv1
 have hn1:zO w1 w.heap.size 140 [Pt bt]:=hw1▸hn1
 refine za (Om U ?_)
 refine Oq (zdi (P:=TP) (n:=Tryz.f62.ntmps) zxr U U hv1 U ?_)
 skip
 refine Oq (zF zBd U U ?_)
 intro b5 w5 e5 n5 c5 k5
 refine Oq (zt znO U U U U k5 (by simp) (by intro u hu;simp at hu;rcases hu with rfl|rfl|rfl<;>rfl) ?_)
 intro wA nA cA kA
 refine E3 0 1 5 U ?_
 have kA:zO wA b5 189 [hnd 140,.pointer (some ⟨w.heap.size,0,none⟩),.int .u64 150]:=kA
 have hsz:=hc1.size
 have hcA:zk [] w wA:=(hc1.trans c5).own cA (by intro y hy;simp at hy;omega)
 have hnA:=(hn1.chg0 c5).chg cA (by simp;have:=hn1.lt;omega)
 have hEA:=hE.chg0 hcA
 have htA:=ht.chg0 hcA
 refine Sr (Og (zh zqm znO U U (zv.of_blk0 kA)) U ?_)
 refine Oq (zdi (P:=TP) (n:=Tryz.f62.ntmps) zAH U U (zy8 ⟨w.heap.size,0,none⟩ wA) U ?_)
 skip
 refine Oa U (E4 0 1 5 6 U (zf (Sr (Om U ?_))))
 refine Oq (zb8 (ztZ _) zw0 U U (zvo _) U ?_)
 skip
 refine Og (vf (zJ U U) (zcp (by omega))) U ?_
 refine Om U (Oi U (zh zqm znO U U (zv.of_blk0 kA)) ?_)
 refine zf5 (gy U U U) (zdi (P:=TP) (n:=Tryz.f62.ntmps) zCj U U (zvt ⟨w.heap.size,0,none⟩ ⟨bt,0,none⟩ wA (hnA.cell' U)) U ?_)
 skip
 refine Of U (E5 0 1 5 6 23 U (zb U (zm (Sr (Om U ?_)))))
 refine Oq (zb8 (zx5 _) zCS U U (zuY _) U ?_)
 skip
 refine Oa U (E4 0 1 5 7 U (zf (Sr (Om U ?_))))
 refine Oq (zb8 (ztZ _) zw0 U U (zvh _) U ?_)
 skip
 refine Og (vt (zJ U U) (zfj (by omega))) U ?_
 refine Om U (Ov U (Oi U (zg zz3 U hEA) ?_))
 refine zf5 (gy U U U) (zb8 (zyY _) zBQ U U (zyA _) U ?_)
 skip
 refine Oi U (zC U) (Ot U (E5 0 1 5 7 35 U (zb U (zm (Sr (Om U (Om U (Og (zh zqm znO U U (zv.of_blk0 kA)) U (Om U ?_)))))))))
 refine Oc zz5 U U U (zDN v n bt old ⟨w.heap.size,0,none⟩ wA (hv.chg0 hcA) htA (hnA.cell' U) (by simp;omega)) ?_
 rintro v41 w41⟨rfl,hb,hc⟩
 refine Oa U (E1 4 U (zj ?_))
 refine zw U U ?_
 exact⟨U,hb,(hcA.any (S:=[bt])).transS hc⟩
theorem zzM(t:Va)(w:Wl):zS TP 62 #[.nilIface,t] w fun r w'=>r=.bool false∧w'=w:=by
 refine A2 Tryz.func62 U U ?_
 refine Sr (Oa U (E2 0 1 U (zf (Sr (Om U (Og (zcb zcE U U) U (E3 0 1 9 U (ze U (Sr (Oa U (E1 4 U (zj ?_))))))))))))
 repeat first|refine tr ?_|refine br ?_
 refine zw U U ?_
 exact⟨U,U⟩
def zxI:(Tryz.prog.info? 28).map (·.comparable)=some true:=by kernel_rfl
theorem zDC(v:Va)(n k:Int)(w:Wl)(hv:zbR w v n):zS TP 222 #[v,zde k,.bool true] w fun r w'=>r=.bool (decide (n=k))∧zk [] w w':=by
 refine A3 Tryz.func222 U U ?_
 refine Sr (Oa U (E3 0 1 2 U (zp ?_)))
 refine zQ [0,1,2] (fun m F wx=>∃u:Va,(zbR wx u n∧(m=0→u=zde n))∧F=[(0,u),(1,zde k),(2,.bool true)]∧zk [] w wx) (m:=1) ⟨v,⟨hv,fun h=>by omega⟩,rfl,zk.refl _ _⟩ ?_
 rintro m F wx⟨u,⟨hu,hm⟩,rfl,hcx⟩
 refine zp (zf (zf ?_))
 rcases hu with rfl|hu
 ·by_cases hnk:n=k
  ·refine za (Om U (Om U (Ov U (Ov U ?_))))
   refine Oi U (yv (v':=.bool true) (zmn zcE zxI znF U U) (by rw[dt hnk])) ?_
   refine Ot U (E4 0 1 2 19 U (ze U (Sr (Oa U (E1 6 U (zj ?_))))))
   repeat first|refine tr ?_|refine br ?_
   refine zw U U ?_
   exact⟨by rw[dt hnk],hcx⟩
  refine za (Om U (Om U (Ov U (Ov U ?_))))
  refine Oi U (yv (v':=.bool false) (zmn zcE zxI znF U U) (by rw[df hnk])) ?_
  refine Ot U (E4 0 1 2 19 U (zb U (zm (zf (Sr (Om U (Og (zb9 zo0 zqo U) U (Om U (Oe U U (Oe U U (Oa U (Oa U (E5 0 1 2 7 8 U (Sr (Om U (Om U (Ok U (Ok U (Ok U (Of U (E4 0 1 2 30 U (zb U (zm (Sr (Om U (E3 1 2 31 U (zp (Sr (Og (zb9 zo7 zkw U) U (Oe U U (Oe U U (E5 1 2 31 33 34 U (zb U (Sr ?_))))))))))))))))))))))))))))))))))
  refine Og (zb9 zoe zzF U) U (Oe U U (Oe U U (E5 1 2 31 40 41 U (zb U (Sr (Oa U (yO [] (F':=[]) U (Sr (Oa U (E1 6 U (zj ?_)))))))))))
  repeat first|refine tr ?_|refine br ?_
  refine zw U U ?_
  exact⟨by rw[df hnk],hcx⟩
 have hm1:m≠0:=fun h=>by
  have:=hm h
  subst this
  rcases hu with⟨b,c,h,_⟩|⟨k,h⟩|⟨k,h⟩<;>cases h
 rcases hu with⟨b,c,rfl,hb⟩|⟨kk,rfl⟩|⟨kk,rfl⟩
 ·refine za (Om U (Om U (Ov U (Ov U (Oi U (zlW zcE U U U) (Ot U (E4 0 1 2 19 U (zb U (zm (zf (Sr (Om U (Og (zb9 zm5 zqo U) U (Om U (Oe U U (Oe U U (Oa U (Oa U (E5 0 1 2 7 8 U (Sr (Om U (Om U (Ok U (Ok U (Ok U (Of U (E4 0 1 2 30 U (zb U (zm (Sr (Om U (E3 1 2 31 U (zp (Sr (Og (zb9 ziS zkw U) U ?_)))))))))))))))))))))))))))))))))))
  refine Oe U U (Oe U U (E5 1 2 31 33 34 U (ze U (Sr (Oa U (E3 1 2 9 U (Sr (Om U ?_))))))))
  refine Oq (zen (zuu _) zxk U U U (zt7 b c n _ hb) ?_)
  rintro v36 w36⟨rfl,rfl⟩
  refine Oa U (E3 0 1 2 U (Sr (Om U (Og (zcb zcE U U) U (E4 0 1 2 38 U (zb U (zT (zl (zl ?_)))))))))
  exact⟨0,by omega,_,⟨.inl U,fun _=>rfl⟩,rfl,hcx⟩
 ·refine za (Om U (Om U (Ov U (Ov U (Oi U (zlW zcE U U U) (Ot U (E4 0 1 2 19 U (zb U (zm (zf (Sr (Om U (Og (zb9 znZ zqo U) U (Om U (Oe U U (Oe U U (Oa U (Oa U (E5 0 1 2 7 8 U (Sr (Om U (Om U (Ok U (Ok U (Ok U (Of U (E4 0 1 2 30 U (zb U (zm (Sr (Om U (E3 1 2 31 U (zp (Sr (Og (zb9 ziM zkw U) U ?_)))))))))))))))))))))))))))))))))))
  refine Oe U U (Oe U U (E5 1 2 31 33 34 U (ze U (Sr (Oa U (E3 1 2 9 U (Sr (Om U ?_))))))))
  refine Oq (zen (zrQ _) zwI U U U (zuz kk n _) ?_)
  rintro v36 w36⟨rfl,c36⟩
  refine Oa U (E3 0 1 2 U (Sr (Om U (Og (zcb zcE U U) U (E4 0 1 2 38 U (zb U (zT (zl (zl ?_)))))))))
  exact⟨0,by omega,_,⟨.inl U,fun _=>rfl⟩,rfl,hcx.trans c36⟩
 refine za (Om U (Om U (Ov U (Ov U (Oi U (zlW zcE U U U) (Ot U (E4 0 1 2 19 U (zb U (zm (zf (Sr (Om U (Og (zb9 znP zqo U) U (Om U (Oe U U (Oe U U (Oa U (Oa U (E5 0 1 2 7 8 U (Sr (Om U (Om U (Ok U (Ok U (Ok U (Of U (E4 0 1 2 30 U (zb U (zm (Sr (Om U (E3 1 2 31 U (zp (Sr (Og (zb9 ziH zkw U) U ?_)))))))))))))))))))))))))))))))))))
 refine Oe U U (Oe U U (E5 1 2 31 33 34 U (ze U (Sr (Oa U (E3 1 2 9 U (Sr (Om U ?_))))))))
 refine Oq (zen (zsm _) zxM U U U (zsf kk n _) ?_)
 rintro v36 w36⟨rfl,c36⟩
 refine Oa U (E3 0 1 2 U (Sr (Om U (Og (zcb zcE U U) U (E4 0 1 2 38 U (zb U (zT (zl (zl ?_)))))))))
 exact⟨0,by omega,_,⟨.inl U,fun _=>rfl⟩,rfl,hcx.trans c36⟩
theorem zAb(v:Va)(n k:Int)(w:Wl)(hv:zbR w v n):zS TP 174 #[v,zde k] w fun r w'=>r=.bool (decide (n=k))∧zk [] w w':=by
 refine A2 Tryz.func174 U U ?_
 refine Sr (Oa U (E2 0 1 U (zf (zf ?_))))
 have hb:zn TP 222=true:=zw9
 refine za (Om U (Og (zcb zcE U hv.notNil) U (Om U (Ov U (Oi U (zcb zcE U U) (Of U (E3 0 1 11 U (zb U (zm (Sr (Om U ?_)))))))))))
 refine Oq (zdi (P:=TP) (n:=Tryz.f174.ntmps) zmj U U (zml _ _) U ?_)
 skip
 refine Oq (zb8 (zzP _) zCH U U (zBP _) U ?_)
 skip
 refine Oa U (E3 0 1 5 U (Sr (Om U (Om U (Om U ?_)))))
 refine Oc zw9 U U U (zDC v n k _ hv) ?_
 rintro v21 w21⟨rfl,c21⟩
 refine Oa U (E1 4 U (zj ?_))
 refine zw U U ?_
 exact⟨U,c21⟩
theorem zst(v:Va)(n:Int)(w:Wl)(hE:EOk w)(hv:v=.nilIface∧n=0∨zbR w v n):zS TP 191 #[v] w fun r w'=>r=Ii n∧zk [] w w':=by
 refine A1 Tryz.func191 U U ?_
 refine Sr ?_
 refine Oq (zF zuQ U U ?_)
 intro b2 w2 e2 n2 c2 k2
 refine E2 0 2 U (zf (zf ?_))
 rcases hv with⟨rfl,rfl⟩|hv
 ·refine za (Om U (Og (z5 zpk U) U ?_))
  refine Oc zvy U U U (zzM _ _) ?_
  rintro v5 w5⟨rfl,rfl⟩
  refine Og (zC U) U (E2 2 6 U (ze U (Sr ?_)))
  refine Oq (zt zoU U U U U k2 (by simp) (by intro u hu;simp at hu;subst hu;rfl) ?_)
  intro wA nA cA kA
  refine E1 2 U (zj ?_)
  repeat first|refine tr ?_|refine br ?_
  refine zkL U zkD U (kA.cell' U) ?_
  exact⟨rfl,c2.own cA (by intro y hy;simp at hy;omega)⟩
 refine za (Om U (Og (z5 zpk U) U ?_))
 refine Oc zvy U U U (zzn v n b2 _ _ (hE.chg0 c2) (hv.chg0 c2) k2) ?_
 rintro v5 w5⟨rfl,k5,c5⟩
 refine Og (zC U) U (E2 2 6 U (zb U (zm (Sr (Ol zkD U (k5.cell' U) ?_)))))
 refine Oq (zt zoU U U U U k5 (by simp) (by intro u hu;simp at hu;subst hu;rfl) ?_)
 intro wA nA cA kA
 refine E1 2 U (zj ?_)
 repeat first|refine tr ?_|refine br ?_
 refine zkL U zkD U (kA.cell' U) ?_
 exact⟨rfl,(c2.own c5 (by intro y hy;simp at hy;omega)).own cA (by intro y hy;simp at hy;omega)⟩
theorem zkm(v:Va)(n:Int)(w:Wl)(hE:EOk w)(hv:v=.nilIface∧n=0∨zbR w v n):zS TP 53 #[v] w fun r w'=>r=Ii n∧zk [] w w':=by
 refine A1 Tryz.func53 U U ?_
 refine Sr ?_
 refine Oq (zF zuQ U U ?_)
 intro b2 w2 e2 n2 c2 k2
 refine E2 0 2 U (zf (zf ?_))
 rcases hv with⟨rfl,rfl⟩|hv
 ·refine za (Om U (Og (zcb zcE U U) U (Om U (Ok U (Ok U (Ok U (Ok U (Ot U (E2 2 10 U (ze U (Sr ?_)))))))))))
  refine Oq (zt zoU U U U U k2 (by simp) (by intro u hu;simp at hu;subst hu;rfl) ?_)
  intro wA nA cA kA
  refine E1 2 U (zj ?_)
  repeat first|refine tr ?_|refine br ?_
  refine zkL U zkD U (kA.cell' U) ?_
  exact⟨rfl,c2.own cA (by intro y hy;simp at hy;omega)⟩
 refine za (Om U (Og (zcb zcE U hv.notNil) U (Om U (Ov U (Oi U (z5 zpk U) ?_)))))
 refine Ow U U zvy U U U (zzn v n b2 _ _ (hE.chg0 c2) (hv.chg0 c2) k2) ?_
 rintro v8 w8⟨rfl,k5,c5⟩
 refine Oi U (zC U) (Of U (E2 2 10 U (zb U (zm (Sr (Ol zkD U (k5.cell' U) ?_))))))
 refine Oq (zt zoU U U U U k5 (by simp) (by intro u hu;simp at hu;subst hu;rfl) ?_)
 intro wA nA cA kA
 refine E1 2 U (zj ?_)
 repeat first|refine tr ?_|refine br ?_
 refine zkL U zkD U (kA.cell' U) ?_
 exact⟨rfl,(c2.own c5 (by intro y hy;simp at hy;omega)).own cA (by intro y hy;simp at hy;omega)⟩
theorem zyf(v:Va)(n:Int)(w:Wl)(hE:EOk w)(hv:v=.nilIface∧n=0∨zbR w v n):zS TP 34 #[v] w fun r w'=>r=Ii n∧zk [] w w':=by
 refine A1 Tryz.func34 U U ?_
 refine Sr ?_
 refine Oq (zF zuQ U U ?_)
 intro b2 w2 e2 n2 c2 k2
 refine E2 0 2 U (zf (zf ?_))
 rcases hv with⟨rfl,rfl⟩|hv
 ·refine za (Om U (Og (zcb zcE U U) U (Om U (Ok U (Ok U (Ok U (Ok U (Ot U (E2 2 10 U (ze U (Sr ?_)))))))))))
  refine Oq (zt zoU U U U U k2 (by simp) (by intro u hu;simp at hu;subst hu;rfl) ?_)
  intro wA nA cA kA
  refine E1 2 U (zj ?_)
  repeat first|refine tr ?_|refine br ?_
  refine zkL U zkD U (kA.cell' U) ?_
  exact⟨rfl,c2.own cA (by intro y hy;simp at hy;omega)⟩
 refine za (Om U (Og (zcb zcE U hv.notNil) U (Om U (Ov U (Oi U (z5 zpk U) ?_)))))
 refine Ow U U zvy U U U (zzn v n b2 _ _ (hE.chg0 c2) (hv.chg0 c2) k2) ?_
 rintro v8 w8⟨rfl,k5,c5⟩
 refine Oi U (zC U) (Of U (E2 2 10 U (zb U (zm (Sr (Ol zkD U (k5.cell' U) ?_))))))
 refine Oq (zt zoU U U U U k5 (by simp) (by intro u hu;simp at hu;subst hu;rfl) ?_)
 intro wA nA cA kA
 refine E1 2 U (zj ?_)
 repeat first|refine tr ?_|refine br ?_
 refine zkL U zkD U (kA.cell' U) ?_
 exact⟨rfl,(c2.own c5 (by intro y hy;simp at hy;omega)).own cA (by intro y hy;simp at hy;omega)⟩
def zgd(w:Wl)(v:Va)(n:Int):Prop:=v=.nilIface∧n=0∨zbR w v n∧n≠0
theorem zgd.weak{w:Wl}{v:Va}{n:Int}(h:zgd w v n):v=.nilIface∧n=0∨zbR w v n:=h.imp id (·.1)
theorem zjv{w:Wl}{b:Nat}{c:By}{n:Int}(h:zO w b 410 [.string c,zde n]):zbR w (.iface 408 (Pt b)) n:=.inr (.inl ⟨b,c,rfl,h⟩)
theorem zp6{c:Col}{x:zX}(h:y9 c=false):yS c x=2:=by simp[yS,h]
theorem zwe{c:Col}{x:zX}(h:y9 c=true)(h2:za2 x≠0):yS c x=za2 x:=by simp[yS,h,h2]
theorem zl7{c:Col}{x:zX}(h:y9 c=true)(h2:za2 x=0)(h3:x.k=0):yS c x=if c.z then 0 else 131:=by simp[yS,h,h2,h3]
theorem zvO{c:Col}{x:zX}(h:y9 c=true)(h2:za2 x=0)(h3:x.k≠0)(h4:x.k≠c.t):yS c x=132:=by simp[yS,h,h2,h3,h4]
theorem zqd{c:Col}{x:zX}(h:y9 c=true)(h2:za2 x=0)(h3:x.k≠0)(h4:x.k=c.t):yS c x=if zbQ c x then 133 else 0:=by
 simp only[yS,h,h2,h4]
 rw[h4]at h3
 simp[h3]
theorem zoL(c:Col)(x:zX)(w:Wl)(hx:x.Rng):zS TP 246 #[c.v,x.v] w fun r w'=>zgd w' r (yS c x)∧zk [] w w':=by
 refine A2 Tryz.func246 U U ?_
 refine Sr ?_
 refine Ob U U ?_
 intro b2 w2 e2 n2 c2 k2
 refine Ob U U ?_
 intro b3 w3 e3 n3 c3 k3
 refine Oa U (E2 2 3 U ?_)
 have hk2:=k2.chg0 c3
 have hc3:zk [] w w3:=c2.trans c3
 refine zf (zf ?_)
 cases hr:y9 c with
 |false=>
  refine za (Og (zh zcI zad U U (zv.of_blk0 hk2)) U ?_)
  refine Oc zpA U U U (zi7 c _) ?_
  rintro v8 w8⟨h8,c8⟩
  rw[hr]at h8
  subst h8
  refine Og (zC U) U (E3 2 3 9 U (ze U (Sr (Od zbU U (Ol yI U ((hk2.chg0 c8).cell' U) (Og (z5 zdU U) U ?_))))))
  refine Og (zL zmx zmW U (vs:=[_,_]) U (css:=[_,_]) ⟨U,U,Tt⟩ U U (cs:=[_,_]) U) U ?_
  refine Ob U U ?_
  intro b14 w14 e14 n14 c14 k14
  refine Og (z5 zn5 U) U (Oa U (E1 4 U (zj ?_)))
  repeat first|refine tr ?_|refine br ?_
  refine zw U U ?_
  rw[zp6 hr]
  exact⟨.inr ⟨zjv k14,by omega⟩,(hc3.trans c8).trans c14⟩
 |true=>
  refine za (Og (zh zcI zad U U (zv.of_blk0 hk2)) U ?_)
  refine Oc zpA U U U (zi7 c _) ?_
  rintro v8 w8⟨h8,c8⟩
  rw[hr]at h8
  subst h8
  refine Og (zC U) U (E3 2 3 9 U (zb U (zm (zf (Sr (Og (zh zaJ ym U U (zv.of_blk0 (k3.chg0 c8))) U ?_))))))
  refine Oc zuD U U U (zlT x _) ?_
  rintro v17 w17⟨rfl,c17⟩
  refine Oa U (E3 2 3 5 U ?_)
  have hc17:zk [] w w17:=(hc3.trans c8).trans c17
  have hk2a:=hk2.chg0 (c8.trans c17)
  have hk3a:=k3.chg0 (c8.trans c17)
  refine zf ?_
  by_cases hc:za2 x=0
  ·refine za (Om U ?_)
   refine Og (vf (zJ U U) (by simp[hc])) U ?_
   refine E4 2 3 5 19 U (zb U (zm ?_))
   refine zR (fun F wA=>∃b6 s f k,F=[(2,Pt b2),(3,Pt b3),(6,Pt b6)]∧zO wA b6 412 [.func (.func s) #[] #[],Ii c.t,.func (.func f) #[] #[]]∧zk [] w17 wA∧k=c.t∧zn TP f=true∧(∀(x:zX) w,x.Rng→zS TP f #[Ii c.s,x.v] w fun r w'=>r=.bool (!zbQ c x)∧zk [] w w')) ?_ ?_
   ·have htn:zgR c=true:=by rw[zeO]at hr;simp only[Bool.and_eq_true]at hr;exact hr.1.1
    obtain⟨s,f,kk,hg,hkk,_,hbf,_,hff⟩:=zf4 htn
    have hC:=(zk.drew [] w17)
    refine zgC (fun wz=>zk [] w17 wz) (zbK.seq [1,2] (.two 0 (zbK.seq [] (.two 3 (zbK.seq [4,5] .done) 4 (zbK.seq [3,5] .done))) 4 (zbK.seq [0,3,5] .done))) mix (by kernel_rfl) hC ?_
    refine ye U U (gn U) (fun _=>zd zfI U) U U ?_
    refine ze0 U U (gn U) (fun wz hz=>zg zjK U ((hk2a.chg0 hz).cell' U)) U U ?_
    refine zge ?_ ?_
    ·refine zaC U U (gn U) (yX zpU U U U U (zjm _) ?_)
     rintro v27 w27⟨b27,rfl,h27,k27,c27⟩
     have hN27:=hC.size
     have hC:=hC.trans c27
     refine⟨.inl hC,?_⟩
     refine zge ?_ ?_
     ·refine zaC U U (gn U) (St.vl (zdz (κ:=zaP .i64) zgT (z0 zaN) zec U U k27 hg U) U U ?_)
      refine⟨.inl hC,?_⟩
      refine zaC U U (gn U) (zF zec U U ?_)
      intro b6 w6 e6 n6 c6 k6
      have hN6:=hC.size
      have hC:=hC.trans c6
      have k27:=k27.chg0 c6
      refine⟨.inl hC,?_⟩
      refine zaC U U (gn U) (zt zkO U U U U k6 (by simp) (by intro u hu;simp at hu;rcases hu with rfl|rfl|rfl<;>rfl) ?_)
      intro wA nA cA kA
      have hC:=hC.own cA (by intro y hy;simp at hy;omega)
      refine⟨.inl hC,?_⟩
      refine zd2 [2,3,6] (F':=[(2,_),(3,_),(6,_)]) U ?_
      exact⟨b6,s,f,c.t,rfl,by rw[←hkk];exact kA,hC,rfl,hbf,hff hr⟩
     refine zaC U U (gn U) (zF zec U U ?_)
     intro b6 w6 e6 n6 c6 k6
     have hN6:=hC.size
     have hC:=hC.trans c6
     have k27:=k27.chg0 c6
     refine⟨.inl hC,?_⟩
     refine zaC U U (gn U) (St.vl (zdz (κ:=zaP .i64) zgT (z0 zaN) zec U U k27 hg U) U U ?_)
     refine⟨.inl hC,?_⟩
     refine zaC U U (gn U) (zt zkO U U U U k6 (by simp) (by intro u hu;simp at hu;rcases hu with rfl|rfl|rfl<;>rfl) ?_)
     intro wA nA cA kA
     have hC:=hC.own cA (by intro y hy;simp at hy;omega)
     refine⟨.inl hC,?_⟩
     refine zd2 [2,3,6] (F':=[(2,_),(3,_),(6,_)]) U ?_
     exact⟨b6,s,f,c.t,rfl,by rw[←hkk];exact kA,hC,rfl,hbf,hff hr⟩
    refine zaC U U (gn U) (zF zec U U ?_)
    intro b6 w6 e6 n6 c6 k6
    have hN6:=hC.size
    have hC:=hC.trans c6
    refine⟨.inl hC,?_⟩
    refine zaC U U (gn U) (yX zpU U U U U (zjm _) ?_)
    rintro v27 w27⟨b27,rfl,h27,k27,c27⟩
    have hN27:=hC.size
    have hC:=hC.trans c27
    have k6:=k6.chg0 c27
    refine⟨.inl hC,?_⟩
    refine zaC U U (gn U) (St.vl (zdz (κ:=zaP .i64) zgT (z0 zaN) zec U U k27 hg U) U U ?_)
    refine⟨.inl hC,?_⟩
    refine zaC U U (gn U) (zt zkO U U U U k6 (by simp) (by intro u hu;simp at hu;rcases hu with rfl|rfl|rfl<;>rfl) ?_)
    intro wA nA cA kA
    have hC:=hC.own cA (by intro y hy;simp at hy;omega)
    refine⟨.inl hC,?_⟩
    refine zd2 [2,3,6] (F':=[(2,_),(3,_),(6,_)]) U ?_
    exact⟨b6,s,f,c.t,rfl,by rw[←hkk];exact kA,hC,rfl,hbf,hff hr⟩
   rintro F wA⟨b6,s,f,k,rfl,kA,hcA,rfl,hbf,hff⟩
   have hk2b:=hk2a.chg0 hcA
   have hk3b:=hk3a.chg0 hcA
   have hwA:=hc17.trans hcA
   refine zf (zp (zf ?_))
   by_cases h0:x.k=0
   ·refine za (Od zal U (Ol zbS U (hk3b.cell' U) ?_))
    refine Og (vt (zy U U) (dt (by omega))) U ?_
    refine Om U (Oi U (zd zfB U) (Oi U (zg ag4 U (hk2b.cell' U)) (Ot U (Oa U (E4 2 3 6 31 U ?_)))))
    refine zP U (fun hT=>?_) (fun hF=>?_)
    ·refine Sr (Oa U (E1 4 U (zj ?_)))
     repeat first|refine tr ?_|refine br ?_
     refine zw U U ?_
     exact⟨.inl ⟨rfl,by rw[zl7 hr hc h0,hT];rfl⟩,hwA⟩
    refine Sr (Od zal U (Ol zbS U (hk3b.cell' U) ?_))
    refine Og (vt (zy U U) (dt (by omega))) U ?_
    refine Oa U (E4 2 3 6 39 U (ze U (Sr (Od zbU U (Ol yI U (hk2b.cell' U) (Og (z5 zdU U) U ?_))))))
    refine Og (zL zmx zmW U (vs:=[_,_]) U (css:=[_,_]) ⟨U,U,Tt⟩ U U (cs:=[_,_]) U) U ?_
    refine Ob U U ?_
    intro b47 w47 e47 n47 c47 k47
    refine Og (z5 zn5 U) U (Oa U (E1 4 U (zj ?_)))
    repeat first|refine tr ?_|refine br ?_
    refine zw U U ?_
    rw[zl7 hr hc h0,hF]
    exact⟨.inr ⟨zjv k47,by decide⟩,hwA.trans c47⟩
   refine za (Od zal U (Ol zbS U (hk3b.cell' U) ?_))
   refine Og (vf (zy U U) (df (by omega))) U ?_
   refine Om U (Ok U (Ok U (Of U (Oa U (E4 2 3 6 31 U (zb U (Sr (Od zal U (Ol zbS U (hk3b.cell' U) ?_)))))))))
   refine Og (vf (zy U U) (df (by omega))) U ?_
   refine Oa U (E4 2 3 6 39 U (zb U (zf ?_)))
   by_cases h4:x.k=c.t
   ·refine za (Od zal U (Ol zbS U (hk3b.cell' U) (Od zpX U (Ol zbS U (kA.cell' U) ?_))))
    refine Og (vf (zJ U U) (zcp (by omega))) U ?_
    refine Oa U (E4 2 3 6 49 U (zb U (Sr (Od zwy U (Ol zBy U (kA.cell' U) (Od zbG U (Ol ag3 U (hk2b.cell' U) (Og (zh zaJ ym U U (zv.of_blk0 hk3b)) U ?_))))))))
    refine Oc hbf U U U (hff x _ hx) ?_
    rintro v67 w67⟨rfl,c67⟩
    refine Og (zC U) U (Oa U (E2 2 61 U ?_))
    cases hwd:zbQ c x with
    |true=>
     refine ze U (Sr (Od zbU U (Ol yI U ((hk2b.chg0 c67).cell' U) (Og (z5 zdU U) U ?_))))
     refine Og (zL zmx zmW U (vs:=[_,_]) U (css:=[_,_]) ⟨U,U,Tt⟩ U U (cs:=[_,_]) U) U ?_
     refine Ob U U ?_
     intro b73 w73 e73 n73 c73 k73
     refine Og (z5 zn5 U) U (Oa U (E1 4 U (zj ?_)))
     repeat first|refine tr ?_|refine br ?_
     refine zw U U ?_
     rw[zqd hr hc h0 h4,hwd]
     exact⟨.inr ⟨zjv k73,by decide⟩,(hwA.trans c67).trans c73⟩
    |false=>
     refine zb U (zT (zl (Sr (Oa U (E1 4 U (zj ?_))))))
     repeat first|refine tr ?_|refine br ?_
     refine zw U U ?_
     rw[zqd hr hc h0 h4,hwd]
     exact⟨.inl ⟨U,U⟩,hwA.trans c67⟩
   refine za (Od zal U (Ol zbS U (hk3b.cell' U) (Od zpX U (Ol zbS U (kA.cell' U) ?_))))
   refine Og (vt (zJ U U) (zfj (by omega))) U ?_
   refine Oa U (E4 2 3 6 49 U (ze U (Sr (Od zbU U (Ol yI U (hk2b.cell' U) (Og (z5 zdU U) U ?_))))))
   refine Og (zL zmx zmW U (vs:=[_,_]) U (css:=[_,_]) ⟨U,U,Tt⟩ U U (cs:=[_,_]) U) U ?_
   refine Ob U U ?_
   intro b59 w59 e59 n59 c59 k59
   refine Og (z5 zn5 U) U (Oa U (E1 4 U (zj ?_)))
   repeat first|refine tr ?_|refine br ?_
   refine zw U U ?_
   rw[zvO hr hc h0 h4]
   exact⟨.inr ⟨zjv k59,by decide⟩,hwA.trans c59⟩
  refine za (Om U ?_)
  refine Og (vt (zJ U U) (by simp[hc])) U ?_
  refine E4 2 3 5 19 U (ze U (Sr (Od zbU U (Ol yI U (hk2a.cell' U) (Om U (Og (z5 zdU U) U ?_))))))
  refine Og (zL zmx zmW U (vs:=[_,_]) U (css:=[_,_]) ⟨U,U,Tt⟩ U U (cs:=[_,_]) U) U ?_
  refine Ob U U ?_
  intro b25 w25 e25 n25 c25 k25
  refine Og (z5 zn5 U) U (Oa U (E1 4 U (zj ?_)))
  repeat first|refine tr ?_|refine br ?_
  refine zw U U ?_
  rw[zwe hr hc]
  exact⟨.inr ⟨zjv k25,hc⟩,hc17.trans c25⟩
theorem ziq:∀{cs:List Col} {xs:List zX} {j:Nat} {c:Col} {x:zX},cs[j]?=some c→xs[j]?=some x→yS c x≠0→(∀(i:Nat) c x,i<j→cs[i]?=some c→xs[i]?=some x→yS c x=0)→zbh cs xs=yS c x
 |[],_,_,_,_,h,_,_,_=>by simp at h
 |_::_,[],_,_,_,_,h,_,_=>by simp at h
 |c'::cs,x'::xs,0,c,x,hc,hx,hn,_=>by
  simp at hc hx;subst hc hx
  simp[zbh,hn]
 |c'::cs,x'::xs,j+1,c,x,hc,hx,hn,ha=>by
  have h0:=ha 0 c' x' (by omega) rfl rfl
  unfold zbh
  rw[if_neg (by simp[h0])]
  exact ziq (by simpa using hc) (by simpa using hx) hn (fun i c x hi h1 h2=>ha (i+1) c x (by omega) (by simpa using h1) (by simpa using h2))
theorem zib:∀{cs:List Col} {xs:List zX},(∀(i:Nat) c x,cs[i]?=some c→xs[i]?=some x→yS c x=0)→zbh cs xs=0
 |[],_,_=>by simp[zbh]
 |_::_,[],_=>by simp[zbh]
 |c::cs,x::xs,h=>by
  unfold zbh
  rw[if_neg (by simp[h 0 c x rfl rfl])]
  exact zib fun i c x h1 h2=>h (i+1) c x (by simpa using h1) (by simpa using h2)
theorem zCX(c k u v:Va)(s:yK)(l:List zX)(w:Wl)(hs:zai w c k u s)(hl:ya w v l)(hg:∀x∈l,x.Rng)(hn:l.length≤1048576)(hn':s.cols.length≤1048576) :
 zS TP 192 #[.agg #[c,k,u],v] w fun r w'=>zgd w' r (if l.length≠s.cols.length then 130 else zbh s.cols l)∧zk [] w w':=by
 obtain⟨pc,dc,rfl,hdc⟩:=zN.val hs.cols
 obtain⟨pv,cv,rfl,hle⟩:=zN.val hl
 refine A2 Tryz.func192 U U ?_
 refine Sr ?_
 refine Ob U U ?_
 intro b2 w2 e2 n2 c2 k2
 refine Oa U (E2 1 2 U (zf (zf ?_)))
 by_cases he:l.length=s.cols.length
 ·refine za (Om U (On yE U (Od yp U (Ol za9 U (k2.cell' U) (On zaO U ?_)))))
  refine Og (vf (zJ U U) (zcp (by omega))) U ?_
  refine E3 1 2 13 U (zb U (zm ?_))
  rw[if_neg (by simp[he])]
  refine zf (Sr (Om U (On yE U (Om U (E4 2 15 16 17 U (zp ?_))))))
  refine zQ [2,15,16,17] (fun m F wx=>∃j:Nat,m=l.length-j∧j≤l.length∧F=[(2,Pt b2),(15,.slice pv l.length cv),(16,Ii l.length),(17,Ii j)]∧zk [] w2 wx∧(∀i c x,i<j→s.cols[i]?=some c→l[i]?=some x→yS c x=0)) (m:=l.length-0) ⟨0,rfl,Zl _,rfl,zk.refl _ _,by intro i c x h;omega⟩ ?_
  rintro m F wx⟨j,rfl,hj,rfl,hcx,hall⟩
  have hcw:zk [] w wx:=c2.trans hcx
  have hk2:=k2.chg0 hcx
  refine Sr (Og (zz U U) U (E5 2 15 16 17 18 U (zf ?_)))
  refine zP U (fun hT=>?_) (fun hF=>?_)
  ·refine zm ?_
   have hlt:j<l.length:=by have:=of_decide_eq_true hT;omega
   have hx:l[j]?=some l[j]:=by simp[hlt]
   generalize l[j]=x at hx
   have hlt2:j<s.cols.length:=by omega
   have hcc:s.cols[j]?=some s.cols[j]:=by simp[hlt2]
   generalize s.cols[j]=c at hcc
   obtain⟨b,off,cap,hv,hcell⟩:=zN.at zbr (zN.chg0 hl hcw) hx
   cases hv
   obtain⟨bc,oc,cc,hvc,hcellc⟩:=zN.at zaE (zN.chg0 hs.cols hcw) hcc
   cases hvc
   refine zf (zp (Sr (Om U ?_)))
   refine Og (zi yE ym U U _ U hlt) U ?_
   refine Og (zh zaJ ym U U hcell) U ?_
   refine Oq (zF zdl U U ?_)
   intro b6 w6 e6 n6 c6 k6
   refine Oa U ?_
   refine Oq (zt ym U U U U k6 (by simp[zX.cs]) (zX.one x) ?_)
   intro wA nA cA kA
   refine E6 2 5 6 15 16 17 U ?_
   have hcA:zk [] wx wA:=c6.own cA (by intro y hy;simp at hy;omega)
   have kA:zO wA b6 111 x.cs:=kA
   have hk2A:=hk2.chg0 hcA
   have hdA:zk [] wA wA.drew:=zk.drew [] _
   refine zf ?_
   by_cases hf:yS c x=0
   ·refine zH (fun wz=>zk [] wA wz) mix (by kernel_rfl) hdA ?_
    refine Td yp U (Tr (fun wz hz=>zg za9 U ((hk2A.chg0 hz).cell' U)) U (Tm U ?_))
    refine Tp (fun _=>zi zaO zad U U _ U hlt2) U ?_
    refine Tr (fun wz hz=>zh zcI zad U U ((hcellc.chg0 hcA).chg0 hz)) U (Tr (fun wz hz=>zh zaJ ym U U (zv.of_blk0 (kA.chg0 hz))) U ?_)
    refine Tc ztB U U U (zoL c x _ (hg x (Mg hx))) ?_
    rintro v28 w28⟨h28,c28⟩
    have h28:=h28.resolve_right (fun h=>h.2 hf)
    obtain⟨rfl,_⟩:=h28
    refine⟨.inl (hdA.trans c28),?_⟩
    refine Ta U (D5 2 7 15 16 17 U (Sr (Om U (Og (zbs zcE U U) U (Om U (Ok U (Ok U (Ok U (Ok U (Of U (E6 2 7 15 16 17 36 U (zb U (zT (zl (za ?_)))))))))))))))
    refine Og (zG U U (by omega)) U ?_
    refine Om U (N4 2 15 16 17 U ?_)
    refine⟨l.length-(j+1),by omega,j+1,rfl,by omega,rfl,((hcx.trans hcA).trans hdA).trans c28,?_⟩
    intro i c' x' hi hc' hx'
    rcases Lg i j with hij|hij
    ·exact hall i c' x' hij hc' hx'
    have:i=j:=by omega
    subst this
    rw[hx]at hx';rw[hcc]at hc'
    cases hx';cases hc'
    exact hf
   refine zH (fun wz=>zk [] wA wz) mix (by kernel_rfl) hdA ?_
   refine Td yp U (Tr (fun wz hz=>zg za9 U ((hk2A.chg0 hz).cell' U)) U (Tm U ?_))
   refine Tp (fun _=>zi zaO zad U U _ U hlt2) U ?_
   refine Tr (fun wz hz=>zh zcI zad U U ((hcellc.chg0 hcA).chg0 hz)) U (Tr (fun wz hz=>zh zaJ ym U U (zv.of_blk0 (kA.chg0 hz))) U ?_)
   refine Tc ztB U U U (zoL c x _ (hg x (Mg hx))) ?_
   rintro v28 w28⟨h28,c28⟩
   have h28:=(h28.resolve_left (fun h=>hf h.2)).1
   refine⟨.inl (hdA.trans c28),?_⟩
   refine Ta U (D5 2 7 15 16 17 U (Sr (Om U (Og (zbs zcE U h28.notNil) U (Om U (Ov U (Oi U (z5 zdU U) ?_)))))))
   refine Ow U U zw6 U U U (zAb v28 (yS c x) 0 _ h28) ?_
   rintro v34 w34⟨h34,c34⟩
   rw[df hf]at h34
   subst h34
   refine Oi U (zC U) (Ot U (E6 2 7 15 16 17 36 U (ze U (Sr (Om U (Oa U (E1 4 U (zj ?_))))))))
   repeat first|refine tr ?_|refine br ?_
   refine zw U U ?_
   rw[ziq hcc hx hf hall]
   exact⟨.inr ⟨h28.chg0 c34,hf⟩,(((hcw.trans hcA).trans hdA).trans c28).trans c34⟩
  refine zI ?_
  repeat first|refine te ?_|refine bo rfl ?_
  refine zq _ ?_
  have hge:l.length≤j:=by have:=of_decide_eq_false hF;omega
  refine Sr (Oa U (E1 4 U (zj ?_)))
  repeat first|refine tr ?_|refine br ?_
  refine zw U U ?_
  refine⟨.inl ⟨U,zib fun i c x h1 h2=>hall i c x ?_ h1 h2⟩,hcw⟩
  have:=(Gs h2).1
  omega
 refine za (Om U (On yE U (Od yp U (Ol za9 U (k2.cell' U) (On zaO U ?_)))))
 refine Og (vt (zJ U U) (zfj (by omega))) U ?_
 refine E3 1 2 13 U (ze U (Sr (Og (z5 zdU U) U (Oa U (E1 4 U (zj ?_))))))
 repeat first|refine tr ?_|refine br ?_
 refine zw U U ?_
 rw[if_pos he]
 exact⟨.inr ⟨.inl U,by omega⟩,c2⟩
theorem zwB(c k u v:Va)(s:yK)(l:List zX)(w:Wl)(hE:EOk w)(hs:zai w c k u s)(hm:s.Sm)(hl:ya w v l)(hg:∀x∈l,x.Rng)(hn:l.length≤1048576) :
 zS TP 137 #[.agg #[c,k,u],v] w fun r w'=>r=Ii (zaf s l)∧zk [] w w':=by
 refine A2 Tryz.func137 U U ?_
 refine Sr ?_
 refine Ob U U ?_
 intro b2 w2 e2 n2 c2 k2
 refine Oa U (E2 1 2 U (zf (zf ?_)))
 unfold zaf
 cases hr:yJ s with
 |false=>
  refine za (Og (zh zaX zaS U U (zv.of_blk0 k2)) U ?_)
  refine Oc zlb U U U (zgB c k u s _ (hs.chg0 c2) hm) ?_
  rintro v7 w7⟨h7,c7⟩
  rw[hr]at h7
  change v7=Ii 2 at h7
  subst h7
  refine Oa U (E3 1 2 5 U (Sr (Om U ?_)))
  refine Og (vt (zJ U U) (zfj (by omega))) U ?_
  refine E4 1 2 5 9 U (ze U (Sr (Om U (Oa U (E1 4 U (zj ?_))))))
  repeat first|refine tr ?_|refine br ?_
  refine zw U U ?_
  exact⟨U,c2.trans c7⟩
 |true=>
  refine za (Og (zh zaX zaS U U (zv.of_blk0 k2)) U ?_)
  refine Oc zlb U U U (zgB c k u s _ (hs.chg0 c2) hm) ?_
  rintro v7 w7⟨h7,c7⟩
  rw[hr]at h7
  change v7=Ii 0 at h7
  subst h7
  refine Oa U (E3 1 2 5 U (Sr (Om U ?_)))
  refine Og (vf (zJ U U) (zcp (by omega))) U ?_
  refine E4 1 2 5 9 U (zb U (zm (zf ?_)))
  have hc7:=c2.trans c7
  refine za (Og (zh zaX zaS U U (zv.of_blk0 (k2.chg0 c7))) U (Om U ?_))
  refine Oc zBT U U U (zCX c k u v s l _ (hs.chg0 hc7) (zN.chg0 hl hc7) hg hn hm.cols) ?_
  rintro v13 w13⟨h13,c13⟩
  refine Oc zwU U U U (zst _ _ _ (hE.chg0 (hc7.trans c13)) h13.weak) ?_
  rintro v14 w14⟨rfl,c14⟩
  refine Oa U (E1 4 U (zj ?_))
  refine zw U U ?_
  exact⟨by simp,(hc7.trans c13).trans c14⟩
theorem zlq{row:List zX}{st:List Int}{j:Nat}{i:Int}(h:st[j]?=some i):yo row (st.take (j+1))=yo row (st.take j)++[zdg row i]:=by
 rw[zfo,zfo,List.take_add_one,h,List.map_append]
 rfl
theorem zN.push{α:Type}{w:Wl}{e k:Nat}{f:α→LA}{v:Va}{l:List α}{x:α}{n:Nat}{xs:LA}(h:zB w e k v n xs)(hn:n=l.length+1)(hx:xs=fl f l++f x):yl w e k f v (l++[x]):=by
 subst hn hx
 unfold yl
 rw[Sa,zik,show fl f [x]=f x by simp[fl]]
 exact h
theorem zhI(row:List zX)(st:List Int):(yo row st).length=st.length:=by simp[yo]
theorem zzc(v vi:Va)(row:List zX)(st:List Int)(w:Wl)(hv:ya w v row)(hi:yA w vi st)(hr:∀i∈st,0≤i∧i<row.length)(hn:row.length≤1048576)(hn':st.length≤1048576) :
 zS TP 193 #[v,vi] w fun r w'=>∃u,r=.tuple #[u,Ii 0]∧ya w' u (yo row st)∧(∀b∈zu u,w.heap.size≤b)∧zk [] w w':=by
 obtain⟨pi,ci,rfl,hci⟩:=zN.val hi
 refine A2 Tryz.func193 U U ?_
 refine Sr (Oa U (Oa U (E2 0 1 U (Sr (Oa U (E3 0 1 6 U (zf (Sr (Om U (On zaH U (Om U (E5 0 6 9 10 11 U (zp ?_)))))))))))))
 refine zQ [0,6,9,10,11] (fun m F wx=>∃(j:Nat) (u:Va),m=st.length-j∧j≤st.length∧F=[(0,v),(6,u),(9,.slice pi st.length ci),(10,Ii st.length),(11,Ii j)]∧yl wx 111 4 zX.cs u (yo row (st.take j))∧(∀b∈zu u,w.heap.size≤b)∧zk [] w wx) (m:=st.length-0) ⟨0,_,rfl,Zl _,rfl,yl.nil _ _ _ _,by simp[zu],zk.refl _ _⟩ ?_
 rintro m F wx⟨j,u,rfl,hj,rfl,hu,hfu,hcx⟩
 have hvx:=zN.chg0 hv hcx
 refine Sr (Og (zz U U) U (E6 0 6 9 10 11 12 U (zf ?_)))
 refine zP U (fun hT=>?_) (fun hF=>?_)
 ·refine zm ?_
  have hlt:j<st.length:=by have:=of_decide_eq_true hT;omega
  have hx:st[j]?=some st[j]:=by simp[hlt]
  generalize st[j]=i at hx
  have hri:=hr i (Mg hx)
  obtain⟨i,rfl⟩:∃k:Nat,i=(k:Int):=⟨i.toNat,by omega⟩
  obtain⟨bi,oi,cap,hve,hcell⟩:=yA.cell (zN.chg0 hi hcx) hx
  cases hve
  have hir:i<row.length:=by omega
  have hxv:row[i]?=some row[i]:=by simp[hir]
  have hat:zdg row (i:Int)=row[i]:=by unfold zdg;rw[Int.toNat_natCast,hxv];rfl
  generalize row[i]=x at hxv hat
  obtain⟨bv,ov,cv,hve,hcv⟩:=zN.at zbr hvx hxv
  subst hve
  refine zf (zp (Sr ?_))
  refine Og (zi zaH sz3 U U _ U hlt) U ?_
  refine Ol ag3 U hcell (Oa U (E6 0 6 8 9 10 11 U (zf (Sr (Om U ?_)))))
  refine Og (vf (zz U U) (df (by omega))) U ?_
  refine Om U (Ov U (Ov U (Oi U (zV yE U) ?_)))
  refine Oi U (vf (yc U U) (df (by omega))) ?_
  refine Of U (E7 0 6 8 9 10 11 22 U (zb U (zm ?_)))
  have hl:(yo row (st.take j)).length=j:=by rw[zhI,List.length_take];omega
  refine za (Om U (Om U (Om U ?_)))
  refine Og (zi yE ym U U _ U hir) U ?_
  refine Og (zh zaJ ym U U hcv) U ?_
  refine Oq (zA zj2 U (vs:=[_]) U (css:=[_]) ⟨U,Tt⟩ U U (cs:=[_,_,_,_]) U U ?_)
  intro b28 w28 e28 n28 c28 k28
  refine Oq (yr zj2 yE U U (zB.chg0 hu c28) (zB.of_blk (n:=1) k28 U (by simp[maxLen]) (zX.one x)) (by rw[hl];simp only[maxLen];omega) (by rw[hl];omega) U ?_)
  intro v29 w29 i29 c29 o29 z29
  refine Oa U (N5 0 6 9 10 11 U (zl (za ?_)))
  refine Og (zG U U (by omega)) U ?_
  refine Om U (N5 0 6 9 10 11 U ?_)
  have hsz:=hcx.size
  have hs28:=c28.size
  refine⟨st.length-(j+1),by omega,j+1,v29,rfl,by omega,rfl,?_,yt o29 hfu (by omega),?_⟩
  ·rw[zlq hx,hat]
   exact zN.push i29 U U
  exact(hcx.trans c28).own c29 hfu
 refine zI ?_
 repeat first|refine te ?_|refine bo rfl ?_
 refine zq _ ?_
 have he:st.length≤j:=by have:=of_decide_eq_false hF;omega
 refine Sr (Om U (Oa U (Oa U (E2 4 5 U (zj ?_)))))
 refine zcF U U U ?_
 rw[Tl he]at hu
 exact⟨u,U,hu.arr,hfu,hcx⟩
theorem zuw(x y:Col):zfg [1,0,0,2] x.cs y.cs=some (decide (x=y)):=by
 obtain⟨n,t,s,z⟩:=x
 obtain⟨n',t',s',z'⟩:=y
 simp only[Col.cs,zfg,zme,if_true,Option.some.injEq,Col.mk.injEq]
 rw[Bool.eq_iff_iff]
 simp
theorem zlM(u v:Va)(l m:List Col)(w:Wl)(hu:zim w u l)(hv:zim w v m)(hn:l.length≤1048576)(hn':m.length≤1048576) :
 zS TP 115 #[u,v] w fun r w'=>r=.bool (decide (l=m))∧zk [] w w':=by
 obtain⟨pu,cu,rfl,hcu⟩:=zN.val hu
 obtain⟨pv,cv,rfl,hcv⟩:=zN.val hv
 refine A2 Tryz.func115 U U ?_
 refine Sr (Oa U (E2 0 1 U (zf (zf ?_))))
 by_cases he:l.length=m.length
 ·refine za (Om U (On zaO U (Om U (On zaO U ?_))))
  refine Og (vf (zJ U U) (zcp (by omega))) U ?_
  refine E3 0 1 10 U (zb U (zm (zf (Sr (Om U (On zaO U (Om U (E4 0 1 12 13 U (zp ?_)))))))))
  refine zQ [0,1,12,13] (fun n F wx=>∃j:Nat,n=l.length-j∧j≤l.length∧F=[(0,.slice pu l.length cu),(1,.slice pv m.length cv),(12,Ii l.length),(13,Ii j)]∧l.take j=m.take j∧zk [] w wx) (m:=l.length-0) ⟨0,rfl,Zl _,rfl,by simp,zk.refl _ _⟩ ?_
  rintro n F wx⟨j,rfl,hj,rfl,heq,hcx⟩
  refine Sr (Og (zz U U) U (E5 0 1 12 13 14 U (zf ?_)))
  refine zP U (fun hT=>?_) (fun hF=>?_)
  ·refine zm ?_
   have hlt:j<l.length:=by have:=of_decide_eq_true hT;omega
   have hlt2:j<m.length:=by omega
   have hx:l[j]?=some l[j]:=by simp[hlt]
   have hy:m[j]?=some m[j]:=by simp[hlt2]
   generalize l[j]=x at hx
   generalize m[j]=y at hy
   obtain⟨b,off,cap,hve,hc1⟩:=zN.at zaE (zN.chg0 hu hcx) hx
   cases hve
   obtain⟨b',off',cap',hve,hc2⟩:=zN.at zaE (zN.chg0 hv hcx) hy
   cases hve
   have hd:zk [] wx wx.drew:=zk.drew [] _
   refine zf (zp (Sr (Om U (Oa U (E5 0 1 5 12 13 U (zf ?_))))))
   refine zH (fun wz=>zk [] wx wz) mix (by kernel_rfl) hd ?_
   refine Tm U (Tm U ?_)
   refine Tp (fun _=>zi zaO zad U U _ U hlt) U ?_
   refine Tr (fun wz hz=>zh zcI zad U U (hc1.chg0 hz)) U (Tm U (Tm U ?_))
   refine Tp (fun _=>zi zaO zad U U _ U hlt2) U ?_
   refine Tr (fun wz hz=>zh zcI zad U U (hc2.chg0 hz)) U (Tp (fun _=>zhX zxj U U (zuw x y)) U (D5 0 1 12 13 24 U ?_))
   refine zP U (fun hT=>?_) (fun hF=>?_)
   ·have hne:x≠y:=by simpa using hT
    refine Sr (Oa U (E1 4 U (zj ?_)))
    repeat first|refine tr ?_|refine br ?_
    refine zw U U ?_
    refine⟨?_,hcx.trans hd⟩
    have:l≠m:=by
     rintro rfl
     rw[hx]at hy
     exact hne (Option.some.inj hy)
    rw[df this]
   have hxy:x=y:=by simpa using hF
   refine zT (zl (za ?_))
   refine Og (zG U U (by omega)) U ?_
   refine Om U (N4 0 1 12 13 U ?_)
   refine⟨l.length-(j+1),by omega,j+1,rfl,by omega,rfl,?_,hcx.trans hd⟩
   rw[List.take_add_one,List.take_add_one,hx,hy,heq,hxy]
  refine zI ?_
  repeat first|refine te ?_|refine bo rfl ?_
  refine zq _ ?_
  have hge:l.length≤j:=by have:=of_decide_eq_false hF;omega
  refine Sr (Oa U (E1 4 U (zj ?_)))
  repeat first|refine tr ?_|refine br ?_
  refine zw U U ?_
  rw[Tl hge,Tl (by omega)]at heq
  exact⟨by rw[dt heq],hcx⟩
 refine za (Om U (On zaO U (Om U (On zaO U ?_))))
 refine Og (vt (zJ U U) (zfj (by omega))) U ?_
 refine E3 0 1 10 U (ze U (Sr (Oa U (E1 4 U (zj ?_)))))
 repeat first|refine tr ?_|refine br ?_
 refine zw U U ?_
 have:l≠m:=fun h=>he (by rw[h])
 exact⟨by rw[df this],zk.refl _ _⟩
theorem zo2(u v:Va)(l m:List Int)(w:Wl)(hu:yA w u l)(hv:yA w v m)(hn:l.length≤1048576)(hn':m.length≤1048576) :
 zS TP 116 #[u,v] w fun r w'=>r=.bool (decide (l=m))∧zk [] w w':=by
 obtain⟨pu,cu,rfl,hcu⟩:=zN.val hu
 obtain⟨pv,cv,rfl,hcv⟩:=zN.val hv
 refine A2 Tryz.func116 U U ?_
 refine Sr (Oa U (E2 0 1 U (zf (zf ?_))))
 by_cases he:l.length=m.length
 ·refine za (Om U (On zaH U (Om U (On zaH U ?_))))
  refine Og (vf (zJ U U) (zcp (by omega))) U ?_
  refine E3 0 1 10 U (zb U (zm (zf (Sr (Om U (On zaH U (Om U (E4 0 1 12 13 U (zp ?_)))))))))
  refine zQ [0,1,12,13] (fun n F wx=>∃j:Nat,n=l.length-j∧j≤l.length∧F=[(0,.slice pu l.length cu),(1,.slice pv m.length cv),(12,Ii l.length),(13,Ii j)]∧l.take j=m.take j∧zk [] w wx) (m:=l.length-0) ⟨0,rfl,Zl _,rfl,by simp,zk.refl _ _⟩ ?_
  rintro n F wx⟨j,rfl,hj,rfl,heq,hcx⟩
  refine Sr (Og (zz U U) U (E5 0 1 12 13 14 U (zf ?_)))
  refine zP U (fun hT=>?_) (fun hF=>?_)
  ·refine zm ?_
   have hlt:j<l.length:=by have:=of_decide_eq_true hT;omega
   have hlt2:j<m.length:=by omega
   have hx:l[j]?=some l[j]:=by simp[hlt]
   have hy:m[j]?=some m[j]:=by simp[hlt2]
   generalize l[j]=x at hx
   generalize m[j]=y at hy
   obtain⟨b,off,cap,hve,hc1⟩:=zN.at zhT (zN.chg0 hu hcx) hx
   cases hve
   obtain⟨b',off',cap',hve,hc2⟩:=zN.at zhT (zN.chg0 hv hcx) hy
   cases hve
   have hd:zk [] wx wx.drew:=zk.drew [] _
   refine zf (zp (Sr (Om U (Oa U (E5 0 1 5 12 13 U (zf ?_))))))
   refine zH (fun wz=>zk [] wx wz) mix (by kernel_rfl) hd ?_
   refine Tm U (Tm U ?_)
   refine Tp (fun _=>zi zaH sz3 U U _ U hlt) U ?_
   refine Tr (fun wz hz=>zg ag3 U (hc1.chg0 hz 0 _ U)) U ?_
   refine Tm U (Tm U ?_)
   refine Tp (fun _=>zi zaH sz3 U U _ U hlt2) U ?_
   refine Tr (fun wz hz=>zg ag3 U (hc2.chg0 hz 0 _ U)) U ?_
   refine Tp (fun _=>zJ U U) U (D5 0 1 12 13 24 U ?_)
   refine zP U (fun hT=>?_) (fun hF=>?_)
   ·have hne:x≠y:=by simpa using hT
    refine Sr (Oa U (E1 4 U (zj ?_)))
    repeat first|refine tr ?_|refine br ?_
    refine zw U U ?_
    refine⟨?_,hcx.trans hd⟩
    have:l≠m:=by
     rintro rfl
     rw[hx]at hy
     exact hne (Option.some.inj hy)
    rw[df this]
   have hxy:x=y:=by simpa using hF
   refine zT (zl (za ?_))
   refine Og (zG U U (by omega)) U ?_
   refine Om U (N4 0 1 12 13 U ?_)
   refine⟨l.length-(j+1),by omega,j+1,rfl,by omega,rfl,?_,hcx.trans hd⟩
   rw[List.take_add_one,List.take_add_one,hx,hy,heq,hxy]
  refine zI ?_
  repeat first|refine te ?_|refine bo rfl ?_
  refine zq _ ?_
  have hge:l.length≤j:=by have:=of_decide_eq_false hF;omega
  refine Sr (Oa U (E1 4 U (zj ?_)))
  repeat first|refine tr ?_|refine br ?_
  refine zw U U ?_
  rw[Tl hge,Tl (by omega)]at heq
  exact⟨by rw[dt heq],hcx⟩
 refine za (Om U (On zaH U (Om U (On zaH U ?_))))
 refine Og (vt (zJ U U) (zfj (by omega))) U ?_
 refine E3 0 1 10 U (ze U (Sr (Oa U (E1 4 U (zj ?_)))))
 repeat first|refine tr ?_|refine br ?_
 refine zw U U ?_
 have:l≠m:=fun h=>he (by rw[h])
 exact⟨by rw[df this],zk.refl _ _⟩
theorem zv6(v:Va)(l:List Int)(w:Wl)(h:yA w v l)(hn:l.length≤1048576):zS TP 226 #[v] w fun r w'=>yl w' 3 1 ics r l∧(∀b∈zu r,w.heap.size≤b)∧zk [] w w':=by
 obtain⟨p,c,rfl,_⟩:=zN.val h
 refine A1 Tryz.func226 U U ?_
 refine Sr (Oa U (E1 0 U (zf (Sr (Om U (Og (zlP zaH U U) U (E2 0 4 U ?_)))))))
 refine zP U (fun hT=>?_) (fun hF=>?_)
 ·refine Sr (Oa U (E1 2 U (zj ?_)))
  refine zbW ?_
  refine zw U U ?_
  obtain⟨p',cap,he,_,_,_,_,h6⟩:=h
  simp only[Value.slice.injEq]at he
  obtain⟨rfl,_,_⟩:=he
  have h2:l.length=0:=by
   rcases Nat.eq_zero_or_pos l.length with h0|h0
   ·exact h0
   obtain⟨b,off,rfl,_⟩:=h6 h0
   simp at hT
  have:l=[]:=List.length_eq_zero_iff.1 h2
  subst this
  exact⟨yl.nil _ _ _ _,by simp[zu],zk.refl _ _⟩
 refine zm (Sr ?_)
 refine Oq (zA zx9 U (vs:=[]) U (css:=[]) trivial U U (cs:=[]) U U ?_)
 intro b5 w5 e5 n5 c5 k5
 refine Om U ?_
 refine Oq (zcA zx9 zaH U U (zB.of_blk (n:=0) k5 (by simp) (by simp[maxLen]) (by simp)) (Rd.chg0 h c5) (by simp only[maxLen];omega) (by omega) U ?_)
 intro v7 w7 i7 c7 o7 z7
 refine Oa U (E1 2 U (zj ?_))
 refine zw U U ?_
 refine⟨by unfold yl;simpa using i7,?_,c5.own c7 (by simp[zu,←e5])⟩
 rcases o7 with o7|⟨b,o7,hb⟩
 ·rw[o7];simp[zu,←e5]
 rw[o7];intro x hx;simp at hx;subst hx;have:=c5.size;omega
theorem zCN(u v:Va)(ls ms:List (List Int))(w:Wl)(hu:zcm w u ls)(hv:zcm w v ms)(hn:ls.length≤1048576)(hn':ms.length≤1048576)(h1:∀l∈ls,l.length≤1048576)(h2:∀l∈ms,l.length≤1048576) :
 zS TP 181 #[u,v,.func (.func 116) #[] #[]] w fun r w'=>r=.bool (decide (ls=ms))∧zk [] w w':=by
 obtain⟨pu,cu,rfl,hcu⟩:=zbT.val hu
 obtain⟨pv,cv,rfl,hcv⟩:=zbT.val hv
 refine A3 Tryz.func181 U U ?_
 refine Sr (Oa U (E3 0 1 2 U (zf (zf ?_))))
 by_cases he:ls.length=ms.length
 ·refine za (Om U (On zbd U (Om U (On zbd U ?_))))
  refine Og (vf (zJ U U) (zcp (by omega))) U ?_
  refine E4 0 1 2 14 U (zb U (zm (zf (Sr (Om U (On zbd U (Om U (E5 1 2 15 16 17 U (zp ?_)))))))))
  refine zQ [1,2,15,16,17] (fun n F wx=>∃j:Nat,n=ls.length-j∧j≤ls.length∧F=[(1,.slice pv ms.length cv),(2,.func (.func 116) #[] #[]),(15,.slice pu ls.length cu),(16,Ii ls.length),(17,Ii j)]∧ls.take j=ms.take j∧zk [] w wx) (m:=ls.length-0) ⟨0,rfl,Zl _,rfl,by simp,zk.refl _ _⟩ ?_
  rintro n F wx⟨j,rfl,hj,rfl,heq,hcx⟩
  refine Sr (Og (zz U U) U (E6 1 2 15 16 17 18 U (zf ?_)))
  refine zP U (fun hT=>?_) (fun hF=>?_)
  ·refine zm ?_
   have hlt:j<ls.length:=by have:=of_decide_eq_true hT;omega
   have hlt2:j<ms.length:=by omega
   have hx:ls[j]?=some ls[j]:=by simp[hlt]
   have hy:ms[j]?=some ms[j]:=by simp[hlt2]
   generalize ls[j]=x at hx
   generalize ms[j]=y at hy
   obtain⟨b,off,cap,ux,hve,hc1,hux⟩:=zbT.at (hu.chg0 hcx) hx
   cases hve
   obtain⟨b',off',cap',uy,hve,hc2,huy⟩:=zbT.at (hv.chg0 hcx) hy
   cases hve
   refine zf (zp (Sr (Om U ?_)))
   refine Og (zi zbd zg6 U U _ U hlt) U ?_
   refine Ol zci U hc1 (Oa U (Oa U (E7 1 2 7 8 15 16 17 U (Sr (Om U (Om U ?_))))))
   refine Og (zi zbd zg6 U U _ U hlt2) U ?_
   refine Ol zci U hc2 (Oa U (E7 1 2 8 9 15 16 17 U (Sr (Om U (Om U (Om U ?_))))))
   refine Oc zr0 U U U (zo2 ux uy x y _ hux huy (h1 x (Mg hx)) (h2 y (Mg hy))) ?_
   rintro v29 w29⟨rfl,c29⟩
   refine Og (zC U) U (E6 1 2 15 16 17 30 U ?_)
   refine zP U (fun hT=>?_) (fun hF=>?_)
   ·have hne:x≠y:=by simpa using hT
    refine Sr (Oa U (E1 6 U (zj ?_)))
    repeat first|refine tr ?_|refine br ?_
    refine zw U U ?_
    refine⟨?_,hcx.trans c29⟩
    have:ls≠ms:=by
     rintro rfl
     rw[hx]at hy
     exact hne (Option.some.inj hy)
    rw[df this]
   have hxy:x=y:=by simpa using hF
   refine zT (zl (za ?_))
   refine Og (zG U U (by omega)) U ?_
   refine Om U (N5 1 2 15 16 17 U ?_)
   refine⟨ls.length-(j+1),by omega,j+1,rfl,by omega,rfl,?_,hcx.trans c29⟩
   rw[List.take_add_one,List.take_add_one,hx,hy,heq,hxy]
  refine zI ?_
  repeat first|refine te ?_|refine bo rfl ?_
  refine zq _ ?_
  have hge:ls.length≤j:=by have:=of_decide_eq_false hF;omega
  refine Sr (Oa U (E1 6 U (zj ?_)))
  repeat first|refine tr ?_|refine br ?_
  refine zw U U ?_
  rw[Tl hge,Tl (by omega)]at heq
  exact⟨by rw[dt heq],hcx⟩
 refine za (Om U (On zbd U (Om U (On zbd U ?_))))
 refine Og (vt (zJ U U) (zfj (by omega))) U ?_
 refine E4 0 1 2 14 U (ze U (Sr (Oa U (E1 6 U (zj ?_)))))
 repeat first|refine tr ?_|refine br ?_
 refine zw U U ?_
 have:ls≠ms:=fun h=>he (by rw[h])
 exact⟨by rw[df this],zk.refl _ _⟩
theorem zu2(u v:Va)(ls ms:List (List Int))(w:Wl)(hu:zcm w u ls)(hv:zcm w v ms)(hn:ls.length≤1048576)(hn':ms.length≤1048576)(h1:∀l∈ls,l.length≤1048576)(h2:∀l∈ms,l.length≤1048576) :
 zS TP 117 #[u,v,.func (.func 116) #[] #[]] w fun r w'=>r=.bool (decide (ls=ms))∧zk [] w w':=by
 refine A3 Tryz.func117 U U ?_
 refine Sr (Oa U (E3 0 1 2 U (Sr (Om U (Om U (Om U ?_))))))
 refine Oc zBI U U U (zCN u v ls ms _ hu hv hn hn' h1 h2) ?_
 rintro v10 w10⟨rfl,c10⟩
 refine Oa U (E1 6 U (zj ?_))
 refine zw U U ?_
 exact⟨U,c10⟩
theorem zg0(a b c a' b' c':Va)(s t:yK)(w:Wl)(hs:zai w a b c s)(ht:zai w a' b' c' t)(ms:s.Sm)(mt:t.Sm) :
 zS TP 69 #[.agg #[a,b,c],.agg #[a',b',c']] w fun r w'=>r=.bool (decide (s=t))∧zk [] w w':=by
 have hdec:decide (s=t)=(decide (s.cols=t.cols)&&decide (s.key=t.key)&&decide (s.uq=t.uq)):=by
  obtain⟨x,y,z⟩:=s
  obtain⟨x',y',z'⟩:=t
  rw[Bool.eq_iff_iff]
  simp[and_assoc]
 rw[hdec]
 refine A2 Tryz.func69 U U ?_
 refine Sr ?_
 refine Ob U U ?_
 intro b2 w2 e2 n2 c2 k2
 refine Ob U U ?_
 intro b3 w3 e3 n3 c3 k3
 refine Oa U (E2 2 3 U ?_)
 have hk2:=k2.chg0 c3
 have hc3:zk [] w w3:=c2.trans c3
 have hs3:=hs.chg0 hc3
 have ht3:=ht.chg0 hc3
 refine zf ?_
 by_cases h1:s.cols=t.cols
 ·by_cases h2:s.key=t.key
  ·refine za (Od yp U (Ol za9 U (hk2.cell' U) (Od yp U (Ol za9 U (k3.cell' U) ?_))))
   refine Oc zs6 U U U (zlM _ _ _ _ _ hs3.cols ht3.cols ms.cols mt.cols) ?_
   rintro v9 w9⟨h9,c9⟩
   rw[dt h1]at h9
   subst h9
   refine Om U (Oi U (zd zbp U) (Oi U (zg zci U ((hk2.chg0 c9).cell' U)) (Oi U (zd zbp U) (Oi U (zg zci U ((k3.chg0 c9).cell' U)) ?_))))
   refine Ow U U zr0 U U U (zo2 _ _ _ _ _ (zN.chg0 hs3.key c9) (zN.chg0 ht3.key c9) ms.key mt.key) ?_
   rintro v15 w15⟨h15,c15⟩
   rw[dt h2]at h15
   subst h15
   refine Ot U (Om U (Oi U (zd zay U) ?_))
   refine Oi U (zg zcL U ((hk2.chg0 (c9.trans c15)).cell' U)) ?_
   refine Oi U (zd zay U) ?_
   refine Oi U (zg zcL U ((k3.chg0 (c9.trans c15)).cell' U)) ?_
   refine Ow U U zB8 U U U (zu2 _ _ _ _ _ (hs3.uq.chg0 (c9.trans c15)) (ht3.uq.chg0 (c9.trans c15)) ms.uq mt.uq ms.each mt.each) ?_
   rintro v22 w22⟨rfl,c22⟩
   refine Ot U (Oa U (E1 4 U (zj ?_)))
   refine zw U U ?_
   exact⟨by simp[h1,h2],((hc3.trans c9).trans c15).trans c22⟩
  refine za (Od yp U (Ol za9 U (hk2.cell' U) (Od yp U (Ol za9 U (k3.cell' U) ?_))))
  refine Oc zs6 U U U (zlM _ _ _ _ _ hs3.cols ht3.cols ms.cols mt.cols) ?_
  rintro v9 w9⟨h9,c9⟩
  rw[dt h1]at h9
  subst h9
  refine Om U (Oi U (zd zbp U) (Oi U (zg zci U ((hk2.chg0 c9).cell' U)) (Oi U (zd zbp U) (Oi U (zg zci U ((k3.chg0 c9).cell' U)) ?_))))
  refine Ow U U zr0 U U U (zo2 _ _ _ _ _ (zN.chg0 hs3.key c9) (zN.chg0 ht3.key c9) ms.key mt.key) ?_
  rintro v15 w15⟨h15,c15⟩
  rw[df h2]at h15
  subst h15
  refine Ot U (Om U (Ok U (Ok U (Ok U (Ok U (Ok U (Of U (Oa U (E1 4 U (zj ?_))))))))))
  refine zw U U ?_
  exact⟨by simp[h2],(hc3.trans c9).trans c15⟩
 refine za (Od yp U (Ol za9 U (hk2.cell' U) (Od yp U (Ol za9 U (k3.cell' U) ?_))))
 refine Oc zs6 U U U (zlM _ _ _ _ _ hs3.cols ht3.cols ms.cols mt.cols) ?_
 rintro v9 w9⟨h9,c9⟩
 rw[df h1]at h9
 subst h9
 refine Om U (Ok U (Ok U (Ok U (Ok U (Ok U (Of U (Om U (Ok U (Ok U (Ok U (Ok U (Ok U (Of U (Oa U (E1 4 U (zj ?_))))))))))))))))
 refine zw U U ?_
 exact⟨by simp[h1],hc3.trans c9⟩
def zdA(w:Wl)(v:Va)(l:List UInt8):Prop:=zB w 5 1 v l.length (bv l)
theorem zqv{n:Nat}(h:n<9223372036854775808):n ^^^ 9223372036854775808=n+9223372036854775808:=by
 have e:(9223372036854775808:Nat)=2^63:=by decide
 rw[e] at *
 apply Nat.eq_of_testBit_eq
 intro j
 rw[Nat.testBit_xor,Nat.testBit_two_pow,Nat.add_comm]
 rcases Nat.lt_trichotomy j 63 with hj|hj|hj
 ·rw[Nat.testBit_two_pow_add_gt hj,df (by omega),Bool.xor_false]
 ·subst hj
  rw[Nat.testBit_two_pow_add_eq,dt rfl,Bool.xor_true]
 have p1:(2:Nat)^64≤2^j:=Nat.pow_le_pow_right (by decide) hj
 have h1:(2^63+n).testBit j=false:=Nat.testBit_lt_two_pow (by simp only[Nat.reducePow]at h p1 ⊢;omega)
 have h2:n.testBit j=false:=Nat.testBit_lt_two_pow (by simp only[Nat.reducePow]at h p1 ⊢;omega)
 rw[h1,h2,df (by omega)]
 rfl
theorem zrZ{n:Nat}(h:n<9223372036854775808):(n+9223372036854775808) ^^^ 9223372036854775808=n:=by
 rw[←zqv h,Nat.xor_assoc,Nat.xor_self,Nat.xor_zero]
theorem zmL{i:Int}(h : -9223372036854775808≤i∧i≤9223372036854775807):(i%18446744073709551616).toNat ^^^ 9223372036854775808=(i+9223372036854775808).toNat:=by
 rcases Int.lt_or_le i 0 with h0|h0
 ·have e:(i%18446744073709551616).toNat=(i+9223372036854775808).toNat+9223372036854775808:=by omega
  rw[e,zrZ (by omega)]
 have e:(i%18446744073709551616).toNat=i.toNat:=by omega
 rw[e,zqv (by omega)]
 omega
theorem zte(i:Int)(w:Wl)(h : -9223372036854775808≤i∧i≤9223372036854775807):zS TP 282 #[Ii i] w fun r w'=>r=.int .u64 ((i+9223372036854775808).toNat:Nat)∧w'=w:=by
 refine A1 Tryz.func282 U U ?_
 refine Sr (Oa U (E1 0 U (Sr (Om U ?_))))
 refine Og (yj zbC zeU U (show IntKind.u64.wrap i=(((i%18446744073709551616).toNat:Nat):Int) by rw[zc2];omega)) U ?_
 refine Og (zmN (b:=9223372036854775808) U U (by omega) (by decide)) U ?_
 refine Oa U (E1 2 U (zj ?_))
 refine zw U U ?_
 exact⟨by rw[zmL h],rfl⟩
def zgU(x:zX):List UInt8:=if x.k=1 then be (x.i+9223372036854775808).toNat 8 else if x.k=2 then zcD x.u else if x.k=3 then [UInt8.ofNat x.i.toNat] else if x.k=4 then zd9 x.b.data.toList else []
theorem zqg(x:zX):zeH x=UInt8.ofNat x.k.toNat::zgU x:=rfl
def zuC:List (Int×Va):=[(0,zfS 278 279),(1,zfS 280 283),(2,zfS 286 287),(3,zfS 289 290),(4,zfS 291 292)]
theorem zvn(w:Wl):zS TP 202 #[] w fun r w'=>∃b,r=.map (some b)∧w.heap.size≤b∧yf (zaP .i64) w' b zuC∧zk [] w w':=by
 refine zS.of_W (args:=[]) Tryz.func202 U U U U ?_
 refine Sr (Oa U (yO [] (F':=[]) U (Sr ?_)))
 refine Oq (zb5 (zaP .i64) U ?_)
 intro b1 w1 e1 n1 c1 k1
 refine Og (zL zne zkN U (vs:=[_,_]) U (css:=[_,_]) ⟨U,U,Tt⟩ U U (cs:=[_,_]) U) U ?_
 refine Oq (yQ (κ:=zaP .i64) zlz (z0 zaW) U U U k1 ?_)
 intro wA nA cA kA
 refine Og (zL zne zkN U (vs:=[_,_]) U (css:=[_,_]) ⟨U,U,Tt⟩ U U (cs:=[_,_]) U) U ?_
 refine Oq (yQ (κ:=zaP .i64) zlz (z0 zaW) U U U kA ?_)
 intro wB nB cB kB
 refine Og (zL zne zkN U (vs:=[_,_]) U (css:=[_,_]) ⟨U,U,Tt⟩ U U (cs:=[_,_]) U) U ?_
 refine Oq (yQ (κ:=zaP .i64) zlz (z0 zaW) U U U kB ?_)
 intro wC nC cC kC
 refine Og (zL zne zkN U (vs:=[_,_]) U (css:=[_,_]) ⟨U,U,Tt⟩ U U (cs:=[_,_]) U) U ?_
 refine Oq (yQ (κ:=zaP .i64) zlz (z0 zaW) U U U kC ?_)
 intro wD nD cD kD
 refine Og (zL zne zkN U (vs:=[_,_]) U (css:=[_,_]) ⟨U,U,Tt⟩ U U (cs:=[_,_]) U) U ?_
 refine Oq (yQ (κ:=zaP .i64) zlz (z0 zaW) U U U kD ?_)
 intro wE nE cE kE
 refine Om U (Oa U (E1 0 U (zj ?_)))
 refine zw U U ?_
 exact⟨b1,rfl,by omega,kE,c1.own (((((cA.transS cB).transS cC).transS cD).transS cE)) (by intro x hx;simp at hx;omega)⟩
theorem zzw(x:zX)(w:Wl):zS TP 278 #[x.v] w fun r w'=>zdA w' r []∧(∀b∈zu r,w.heap.size≤b)∧zk [] w w':=by
 refine A1 Tryz.func278 U U ?_
 refine Sr ?_
 refine Ob U U ?_
 intro b1 w1 e1 n1 c1 k1
 refine Oa U (yO [] (F':=[]) U (Sr (Oa U (E1 2 U (zj ?_)))))
 refine zw U U ?_
 exact⟨zB.nil _ _ _,by simp[zu],c1⟩
theorem zyJ(x:zX)(w:Wl)(hx:x.Rng):zS TP 280 #[x.v] w fun r w'=>zdA w' r (be (x.i+9223372036854775808).toNat 8)∧(∀b∈zu r,w.heap.size≤b)∧zk [] w w':=by
 have hi:=hx.i
 refine A1 Tryz.func280 U U ?_
 refine Sr ?_
 refine Ob U U ?_
 intro b1 w1 e1 n1 c1 k1
 refine Oa U (E1 1 U (Sr (Od yz U (Ol ag2 U (k1.cell' U) ?_))))
 refine Oc zAA U U U (zte x.i _ hi) ?_
 rintro v8 w8⟨rfl,rfl⟩
 refine Oc zxF U U U (zqG _ 8 _ (by omega) (by decide) (by simp only[Nat.reducePow];omega)) ?_
 rintro v9 w9⟨v9,rfl,i9,f9,c9⟩
 refine Om U (Oe U U (Oe U U (Oa U (Oa U (E1 3 U (Sr (Om U (Oa U (E1 2 U (zj ?_))))))))))
 refine zw U U ?_
 have hs:=c1.size
 exact⟨by unfold zdA;rw[za5];exact i9,fun b hb=>Nat.le_trans hs (f9 b hb),c1.trans c9⟩
theorem zyX(x:zX)(w:Wl)(hx:x.Rng):zS TP 286 #[x.v] w fun r w'=>zdA w' r (zcD x.u)∧(∀b∈zu r,w.heap.size≤b)∧zk [] w w':=by
 refine A1 Tryz.func286 U U ?_
 refine Sr ?_
 refine Ob U U ?_
 intro b1 w1 e1 n1 c1 k1
 refine Oa U (E1 1 U (Sr (Od zaT U (Ol zb2 U (k1.cell' U) ?_))))
 refine Oc zwG U U U (zn7 x.u _ hx.u) ?_
 rintro v5 w5⟨i5,f5,c5⟩
 refine Oa U (E1 2 U (zj ?_))
 refine zw U U ?_
 have hs:=c1.size
 exact⟨i5,fun b hb=>Nat.le_trans hs (f5 b hb),c1.trans c5⟩
theorem zyS(x:zX)(w:Wl)(hx:x.i=0∨x.i=1):zS TP 289 #[x.v] w fun r w'=>zdA w' r [UInt8.ofNat x.i.toNat]∧(∀b∈zu r,w.heap.size≤b)∧zk [] w w':=by
 refine A1 Tryz.func289 U U ?_
 refine Sr ?_
 refine Ob U U ?_
 intro b1 w1 e1 n1 c1 k1
 refine Oa U (E1 1 U (Sr (Od yz U (Ol ag2 U (k1.cell' U) ?_))))
 refine Og (yj zaZ zeU U (show IntKind.u8.wrap x.i=(((UInt8.ofNat x.i.toNat).toNat:Nat):Int) by rcases hx with h|h<;>rw[h]<;>rfl)) U ?_
 refine Oq (zA zbk U (vs:=[_]) U (css:=[_]) ⟨U,Tt⟩ U U (cs:=[_]) U U ?_)
 intro b6 w6 e6 n6 c6 k6
 refine Oa U (E1 2 U (zj ?_))
 refine zw U U ?_
 have hs:=c1.size
 exact⟨zB.of_blk (n:=1) k6 U (by simp[maxLen]) (zcX _),by intro b hb;simp[zu]at hb;omega,c1.trans c6⟩
def chN(len j:Nat):Nat:=min 8 (len-8*j)
def chV(b len j:Nat):Va:=cut (some ⟨b,0,none⟩) (8*j) (8*j+chN len j) (8*j+chN len j) 1
theorem zvL(v:Va)(w:Wl):zS TP 329 #[v,Ii 8] w fun r w'=>∃b2 b3,r=.func (.func 351) #[] #[Pt b2,Pt b3]∧zO w' b2 224 v.cells.toList∧zO w' b3 3 [Ii 8]∧w.heap.size≤b2∧w.heap.size≤b3∧zk [] w w':=by
 refine A2 Tryz.func329 U U ?_
 refine Sr ?_
 refine Ob U U ?_
 intro b2 w2 e2 n2 c2 k2
 refine Ob U U ?_
 intro b3 w3 e3 n3 c3 k3
 refine Oa U (E2 2 3 U (zf (Sr (Ol ag3 U (k3.cell' U) ?_))))
 refine Og (vf (zz U U) (df (by omega))) U ?_
 refine E3 2 3 6 U (zb U (zm (Sr (Og (zau U U) U (Oa U (E1 4 U (zj ?_)))))))
 refine zw U U ?_
 have hs:=c2.size
 exact⟨b2,b3,rfl,k2.chg0 c3,k3,by omega,by omega,c2.trans c3⟩
theorem zAo(w:Wl)(b2 b3 b len cap:Nat)(S0:List Nat)(keep:TypeId→Bool)(h2:zO w b2 224 [.slice (some ⟨b,0,none⟩) len cap])(h3:zO w b3 3 [Ii 8])(hl:len≤cap)(hn:len≤1048576)(k2:b2∉S0)(k3:b3∉S0) :
 zrM TP 351 #[Pt b2,Pt b3] (fun j:Nat => #[chV b len j]) S0 keep (fun j _=>8*j<len) (fun xs _=>xs=List.range ((len+7)/8)) (fun _ _=>True) ((len+7)/8) w:=by
 intro l J Jx W hcw hJ hJx hY h0
 have hab:∀{pre:List Nat} {W1 W2:Wl},zk [] W1 W2→J pre W1→J pre W2:=fun hc hj=>hJ _ _ _ none hj hc.grown0 (fun _ e=>by cases e)
 have f2:∀{W1:Wl},Kp S0 w.heap.size w W1→zO W1 b2 224 [.slice (some ⟨b,0,none⟩) len cap]:=fun hk=>(hk.2 b2 h2.lt k2).trans h2
 have f3:∀{W1:Wl},Kp S0 w.heap.size w W1→zO W1 b3 3 [Ii 8]:=fun hk=>(hk.2 b3 h3.lt k3).trans h3
 have hkw:Kp S0 w.heap.size w W:=⟨hcw.size,fun k hk _=>hcw.block k hk (by simp)⟩
 have hmono:∀{W1 W2:Wl},Kp S0 w.heap.size w W1→zk [] W1 W2→Kp S0 w.heap.size w W2:=fun hk hc=>⟨Nat.le_trans hk.1 hc.size,fun k hlt hn=>(hc.block k (Nat.lt_of_lt_of_le hlt hk.1) (by simp)).trans (hk.2 k hlt hn)⟩
 refine CallsIn.mono (R:=fun e W'=>∃u,e=.returned u∧(fun(_:Va) W'=>(∃xs,xs=List.range ((len+7)/8)∧J xs W')∨(∃pre,True∧Jx pre W')) u W') ?_ (fun e W' ⟨u,he,h⟩=>⟨⟨u,he⟩,h⟩)
 refine CallsIn.of_WX (args:=[_,_,_]) Tryz.func351 U U U U (zhH ?_)
 refine Sr (Oa U (E4 0 1 2 4 U (zp ?_)))
 refine zQ [0,1,2,4] (fun m F wx=>∃j:Nat,m=(len+7)/8-j∧j≤(len+7)/8∧F=[(0,.func (.yield l) #[] #[]),(1,Pt b2),(2,Pt b3),(4,Ii (8*j:Nat))]∧Kp S0 w.heap.size w wx∧J (List.range j) wx) (m:=(len+7)/8-0) ⟨0,U,Zl _,U,hkw,h0⟩ ?_
 rintro m F wx⟨j,rfl,hj,rfl,hkx,hJx0⟩
 refine zf (Sr (Om U (Ol zhe U ((f2 hkx).cell' U) (On y7 U (Og (zz U U) U (E5 0 1 2 4 9 U ?_))))))
 refine zP U (fun hT=>?_) (fun hF=>?_)
 ·refine zm ?_
  have hlt:8*j<len:=by have:=of_decide_eq_true hT;omega
  refine zf (zp (zf ?_))
  have hd:zk [] wx wx.drew:=zk.drew [] _
  refine zH (fun wz=>zk [] wx wz) mix (by kernel_rfl) hd ?_
  refine Tr (fun wz hz=>zg ag3 U ((f3 (hmono hkx hz)).cell' U)) U ?_
  refine Tr (fun wz hz=>zg zhe U ((f2 (hmono hkx hz)).cell' U)) U ?_
  refine Tm U ?_
  refine Tp (fun _=>zbe y7 sz5 U U _ U (show 8*j≤len by omega)) U ?_
  refine Tp (fun _=>zV y7 U) U (Tp (fun _=>zoJ U U) U (Ta U (D5 0 1 2 4 5 U ?_)))
  have hmin:(if ((len-8*j:Nat):Int)<8 then ((len-8*j:Nat):Int) else 8)=((chN len j:Nat):Int):=by unfold chN;split<;>omega
  rw[hmin]
  have hkd:=hmono hkx hd
  have hch:8*j+chN len j≤len:=by unfold chN;omega
  have hch0:chN len j≤8:=by unfold chN;omega
  have hy:=hY (List.range j) j wx.drew (hab hd hJx0) hlt (by rw[List.length_range];omega)
  refine zf ?_
  refine zfa ?_
  refine Xm U ?_
  refine yh (gn U) U (St.vl (zg zhe U ((f2 hkd).cell' U)) U U ?_)
  refine Xm U (Xm U (Xm U ?_))
  refine yh (gn U) U (St.vl (yv (v':=Ii ((8*j+chN len j:Nat):Int)) (zG U U (by omega)) (by congr 1)) U U ?_)
  refine Xm U (Xm U ?_)
  refine yh (gn U) U (St.vl (yv (v':=Ii ((8*j+chN len j:Nat):Int)) (zG U U (by omega)) (by congr 1)) U U ?_)
  refine yh (gn U) U (St.vl (zfF y7 sz5 U U U U _ _ _ U U U (by omega) (Nat.le_refl _) (by omega)) U U ?_)
  refine zgA (gn U) U U U hy ?_
  rintro v29 w29 hR29
  obtain⟨b29,rfl,hb29⟩:=yb hR29
  refine⟨_,U,?_⟩
  refine yh (gn U) U (St.vl (zC U) U U ?_)
  refine zcf [0,1,2,4,30] (F':=[(0,_),(1,_),(2,_),(4,_),(30,_)]) U ?_
  rcases hb29 with⟨rfl,hJ29,hk29⟩|⟨rfl,hJ29⟩
  ·refine zb U (zT (zl ?_))
   have hkf:Kp S0 w.heap.size w w29:=hkd.trans hk29.kp
   refine za (Om U (Ol ag3 U ((f3 hkf).cell' U) ?_))
   refine Og (yv (v':=Ii ((8*(j+1):Nat):Int)) (zG U U (by omega)) (by congr 1)) U ?_
   refine Oa U (N4 0 1 2 4 U ?_)
   refine⟨(len+7)/8-(j+1),by omega,j+1,rfl,by omega,rfl,hkf,?_⟩
   rw[List.range_succ]
   exact hJ29
  refine ze U (zj ?_)
  repeat first|refine tr ?_|refine br ?_
  refine zug U ?_
  exact .inr ⟨_,Tt,hJ29⟩
 refine zI ?_
 repeat first|refine te ?_|refine bo rfl ?_
 refine zq _ ?_
 refine zgL U ?_
 have he:j=(len+7)/8:=by have:=of_decide_eq_false hF;omega
 subst he
 exact .inl ⟨_,U,hJx0⟩
def zgN(c:List UInt8)(left:Int):List UInt8:=c++List.replicate (8-c.length) 0++[if 0<left then 9 else UInt8.ofNat c.length]
def zgc(l:List UInt8)(st:List UInt8×Int)(x:Nat):List UInt8×Int:=
 (st.1++zgN ((l.drop (8*x)).take 8) (st.2-((l.drop (8*x)).take 8).length),st.2-((l.drop (8*x)).take 8).length)
def zeV(l:List UInt8)(pre:List Nat):List UInt8×Int:=pre.foldl (zgc l) ([],(l.length:Int))
theorem zfy(l:List UInt8)(pre:List Nat)(x:Nat):zeV l (pre++[x])=zgc l (zeV l pre) x:=by simp[zeV]
theorem znY(l:List UInt8):∀(pre:List Nat) (n:Nat) (st:List UInt8×Int),(-(8*(n:Int))≤st.2∧st.2≤l.length∧st.1.length=9*n) →
 -(8*((n+pre.length:Nat):Int))≤(pre.foldl (zgc l) st).2∧(pre.foldl (zgc l) st).2≤l.length∧(pre.foldl (zgc l) st).1.length=9*(n+pre.length)
 |[],n,st,h=>h
 |x::pre,n,st,h=>by
  have hc:((l.drop (8*x)).take 8).length≤8:=by rw[List.length_take];omega
  have:=znY l pre (n+1) (zgc l st x) (by
   simp only[zgc,zgN,Sa,List.length_replicate,List.length_cons,List.length_nil]
   omega)
  rw[List.foldl_cons,List.length_cons,show n+(pre.length+1)=n+1+pre.length by omega]
  exact this
theorem zmP(l:List UInt8)(pre:List Nat) : -(8*(pre.length:Int))≤(zeV l pre).2∧(zeV l pre).2≤l.length∧(zeV l pre).1.length=9*pre.length:=by
 have:=znY l pre 0 ([],(l.length:Int)) (by simp)
 rw[Nat.zero_add]at this
 exact this
theorem zot(l:List UInt8):∀j:Nat,8*j<l.length→(zeV l (List.range j)).1++zd9 (l.drop (8*j))=zd9 l∧(zeV l (List.range j)).2=(l.length:Int)-8*j:=by
 intro j
 induction j with
 |zero=>intro _;simp[zeV]
 |succ j ih=>
  intro h
  obtain⟨h1,h2⟩:=ih (by omega)
  have hc:((l.drop (8*j)).take 8).length=8:=by rw[List.length_take,List.length_drop];omega
  rw[List.range_succ,zfy]
  simp only[zgc,zgN,hc,h2]
  refine⟨?_,by omega⟩
  rw[←h1,zfx (l:=l.drop (8*j)) (by rw[List.length_drop];omega),List.drop_drop,if_pos (by omega)]
  simp[Nat.mul_add]
theorem zkK{l:List UInt8}(h:l≠[]):(zeV l (List.range ((l.length+7)/8))).1=zd9 l:=by
 have hl:=List.length_pos_iff.2 h
 obtain⟨j,hj⟩:∃j,(l.length+7)/8=j+1:=⟨(l.length+7)/8-1,by omega⟩
 obtain⟨h1,h2⟩:=zot l j (by omega)
 rw[hj,List.range_succ,zfy]
 have hc:(l.drop (8*j)).take 8=l.drop (8*j):=Tl (by rw[List.length_drop];omega)
 have hlen:(l.drop (8*j)).length=l.length-8*j:=List.length_drop
 simp only[zgc,hc,h2,zgN]
 rw[←h1,zef (l:=l.drop (8*j)) (by omega)]
 congr 1
 unfold zlH
 rw[if_neg (by omega)]
theorem zx7(x:zX)(w:Wl)(hx:x.b.size≤1048576):zS TP 291 #[x.v] w fun r w'=>zdA w' r (zd9 x.b.data.toList)∧(∀b∈zu r,w.heap.size≤b)∧zk [] w w':=by
 have hsz:x.b.data.toList.length=x.b.size:=by simp
 refine zS.of_WM (args:=[_]) Tryz.func291 U U U U ?_
 refine Sr ?_
 refine Ob U U ?_
 intro b1 w1 e1 n1 c1 k1
 refine Oq (zF zAK U U ?_)
 intro b2 w2 e2 n2 c2 k2
 refine E2 1 2 U (Sr (Od zaK U (Ol yI U ((k1.chg0 c2).cell' U) (Og (yV st9 U) U ?_))))
 refine Oq (zF zr3 U U ?_)
 intro b3 w3 e3 n3 c3 k3
 refine Oq (zt sz3 U U U U k3 (by simp) (by intro u hu;simp at hu;subst hu;rfl) ?_)
 intro wA nA cA kA
 refine E3 1 2 3 U ?_
 have hcA:zk [] w wA:=((c1.trans c2).trans c3).own cA (by intro y hy;simp at hy;omega)
 have hk1:=((k1.chg0 c2).chg0 c3).chg cA (by simp;omega)
 have hk2:=(k2.chg0 c3).chg cA (by simp;omega)
 have hk3:zO wA b3 3 [Ii x.b.size]:=kA
 refine zR (fun F wx=>∃(D:Nat) (f12:Va),F=[(1000000,Ii D),(2,Pt b2),(3,Pt b3),(12,f12)]∧w.heap.size≤D∧wx.heap[D]?=some (.deferred (some []))∧w.heap.size≤b2∧∃u,zO wx b2 224 [u]∧zdA wx u (if x.b.size=0 then [] else zd9 x.b.data.toList)∧(∀b∈zu u,w.heap.size≤b)∧zk [] w wx) ?_ ?_
 ·refine Sr (Od zaK U (Ol yI U (hk1.cell' U) ?_))
  refine Oq (zmm st9 y7 zaZ U (by simp only[maxLen];omega) U ?_)
  intro b11 q11 w11 e11 c11 g11 i11
  refine Oc zCn U U U (zvL _ _) ?_
  rintro v12 w12⟨p2,p3,rfl,kp2,kp3,hp2,hp3,c12⟩
  refine E3 2 3 12 U ?_
  have kp2:zO w12 p2 224 [.slice (some ⟨b11,0,none⟩) x.b.size q11]:=kp2
  have hk2:=(hk2.chg0 c11).chg0 c12
  have hk3:=(hk3.chg0 c11).chg0 c12
  have hby:=i11.chg0 c12
  have hc12:zk [] w w12:=(hcA.trans c11).trans c12
  have hs11:=c11.size
  have hs12:=c12.size
  have hsA:=cA.size
  refine zp ?_
  generalize hl:x.b.data.toList=l at *
  refine zkv (α:=Nat) (gf:=351) (lb:=[Pt p2,Pt p3]) (encs:=fun j:Nat => #[chV b11 x.b.size j]) (S0:=[b2,b3]) (keep:=fun _=>false) (N:=(x.b.size+7)/8)
   (fun pre W=>∃u,zO W b2 224 [u]∧zdA W u (zeV l pre).1∧zO W b3 3 [Ii (zeV l pre).2]∧(∀b∈zu u,w12.heap.size≤b)∧zk [b2,b3] w12 W∧w12.heap.size≤W.heap.size)
   (fun _ _ _=>False)
   (fun j=>[(13,chV b11 x.b.size j),(2,Pt b2),(3,Pt b3),(12,.func (.func 351) #[] #[Pt p2,Pt p3])])
   (fun j=>[(2,Pt b2),(3,Pt b3),(4,chV b11 x.b.size j),(13,chV b11 x.b.size j)])
   rfl zBx (zAo w12 p2 p3 b11 x.b.size q11 [b2,b3] _ kp2 kp3 g11 hx ?_ ?_) (fun _=>rfl) (fun _ _ _ _ h=>h) (fun _ _ _ _ h=>h) (fun _ _ _ _ h=>h) ?_ (fun _ _ _ _ _ h=>h.elim) ?_ (fun _ _ h=>h.choose_spec.2.2.2.2.2) ?_ ?_ ?_ ?_ (fun _ _ _ _ _ _ h=>h.elim)
  ·simp;omega
  ·simp;omega
  ·rintro pre W W' hk ⟨u,h1,h2,h3,h4,h5,h6⟩
   exact⟨u,h1.bk hk,zB.bk h2 hk,h3.bk hk,h4,h5.bk (Nat.le_refl _) hk,by obtain⟨T,_,hc⟩:=hk;exact Nat.le_trans h6 hc.size⟩
  ·exact⟨_,hk2,zB.nil _ _ _,by simpa[zeV,hsz] using hk3,by simp[zu],zk.refl _ _,Nat.le_refl _⟩
  ·intro j a ha
   exact ha.vars1 U U
  ·intro l' j W
   refine yx ?_
   refine yh (gn U) U (St.vl (yg U) U U ?_)
   refine zfA [2,3,4,13] (F':=[(2,_),(3,_),(4,_),(13,_)]) U ?_
   exact⟨U,U,U⟩
  ·rintro l' pre j W ⟨u,hb2,hu,hb3,hfu,hcW,hsW⟩ hlt hlen
   have hsl:l.length=x.b.size:=hsz
   have hch:8*j+chN x.b.size j≤x.b.size:=by unfold chN;omega
   have hch8:chN x.b.size j≤8:=by unfold chN;omega
   have hchv:∃pj cj,chV b11 x.b.size j=.slice pj (chN x.b.size j) cj:=⟨_,_,by unfold chV;rw[show cut (some ⟨b11,0,none⟩) (8*j) (8*j+chN x.b.size j) (8*j+chN x.b.size j) 1=.slice _ (8*j+chN x.b.size j-8*j) (8*j+chN x.b.size j-8*j) from rfl,Nat.add_sub_cancel_left]⟩
   have hbyW:=hby.chg hcW (by intro b hb hm;simp[zu]at hb;subst hb;simp at hm;omega)
   have hcut:zbn W 5 1 (chV b11 x.b.size j) (chN x.b.size j) (bv ((l.drop (8*j)).take (chN x.b.size j))):=by
    have:=hbyW.cut (l:=8*j) (h:=8*j+chN x.b.size j) (m:=8*j+chN x.b.size j) (by omega) (Nat.le_refl _) (by omega) hch
    rw[Nat.add_sub_cancel_left]at this
    unfold chV
    simpa[bv,List.map_drop,List.map_take] using this
   have hcl:((l.drop (8*j)).take 8).length=chN x.b.size j:=by rw[List.length_take,List.length_drop,hsl];unfold chN;omega
   have hct:(l.drop (8*j)).take (chN x.b.size j)=(l.drop (8*j)).take 8:=by
    rcases Lg (x.b.size-8*j) 8 with h8|h8
    ·rw[show chN x.b.size j=x.b.size-8*j by unfold chN;omega,Tl (by rw[List.length_drop];omega),Tl (by rw[List.length_drop];omega)]
    rw[show chN x.b.size j=8 by unfold chN;omega]
   rw[hct]at hcut
   obtain⟨hg1,hg2,hg3⟩:=zmP l pre
   generalize hc8:(l.drop (8*j)).take 8=c at *
   generalize hn:chN x.b.size j=n at *
   obtain⟨pj,cj,hchv⟩:=hchv
   rw[hchv]at hcut ⊢
   generalize hgl:(zeV l pre).2=left at *
   refine zfO ?_
   refine zcW ?_
   refine yx ?_
   refine yh (gn U) U (zF zCi U U ?_)
   intro b5 w5 e5 n5 c5 k5
   refine zcf [2,3,4,5,13] (F':=[(2,_),(3,_),(4,_),(5,_),(13,_)]) U ?_
   have hs5:=c5.size
   refine zcW ?_
   refine yx ?_
   refine yh (gn U) U (St.vl (zi6 zpK sz5 U) U U ?_)
   refine Xm U ?_
   refine yh (gn U) U (zt0 y7 sz5 U U (hcut.chg0 c5) k5 (show min n 9=n by omega) (by simp;omega) U ?_)
   intro w16 n16 c16 k16
   refine zcf [2,3,4,5,13] (F':=[(2,_),(3,_),(4,_),(5,_),(13,_)]) U ?_
   have hcn:c.length=n:=hcl
   have kc:zO w16 b5 426 (bv (c++List.replicate (8-n) 0++[0])):=by
    have e:=zev [] (bv (List.replicate 9 0)) ((bv c).take (n*1))
    have e0:([Value.int .u8 0,.int .u8 0,.int .u8 0,.int .u8 0,.int .u8 0,.int .u8 0,.int .u8 0,.int .u8 0,.int .u8 0]:LA)=bv (List.replicate 9 0):=rfl
    rw[e0]at k16
    simp only[List.nil_append,List.length_nil]at e
    rw[e]at k16
    rw[Nat.mul_one,Tl (by rw[zdf];omega)]at k16
    have e2:(bv (List.replicate 9 (0:UInt8))).drop (bv c).length=bv (List.replicate (8-n) 0++[0]):=by
     rw[zdf,hcn]
     unfold bv
     rw[←List.map_drop,List.drop_replicate,show 9-n=(8-n)+1 by omega,List.replicate_succ']
    rw[e2,←yF,←List.append_assoc]at k16
    exact k16
   have hc16:zk [] W w16:=c5.own c16 (by intro y hy;simp at hy;omega)
   have hb2':=hb2.chg0 hc16
   have hb3':=hb3.chg0 hc16
   have hb2lt:=hb2.lt
   have hb3lt:=hb3.lt
   refine zcW ?_
   refine yx ?_
   refine yh (gn U) U (St.vl (zg ag3 U (hb3'.cell' U)) U U ?_)
   refine Xm U ?_
   refine yh (gn U) U (St.vl (zV y7 U) U U ?_)
   refine yh (gn U) U (St.vl (yM U U (by omega)) U U ?_)
   refine yh (gn U) U (zt sz3 U U U U hb3' (by simp) (by intro u hu;simp at hu;subst hu;rfl) ?_)
   intro wL nL cL kL
   refine zcf [2,3,4,5,13] (F':=[(2,_),(3,_),(4,_),(5,_),(13,_)]) U ?_
   have kL:zO wL b3 3 [Ii (left-n)]:=kL
   have kcL:=kc.chg cL (by simp;omega)
   have hb2L:=hb2'.chg cL (by simp;omega)
   have lay8:∀(A:List UInt8) (a:UInt8) (v:Va),A.length=8→yY (bv (A++[a])) 8 [v]=bv A++[v]:=fun A a v hA=>by
    rw[yF]
    have:=zev (bv A) (bv [a]) [v]
    rw[zdf,hA]at this
    simpa[bv] using this
   have hA8:(c++List.replicate (8-n) 0).length=8:=by rw[Sa,List.length_replicate];omega
   refine zcW ?_
   refine yx ?_
   refine Xm U ?_
   refine yh (gn U) U (St.vl (zV y7 U) U U ?_)
   refine yh (gn U) U (St.vl (yj zaZ zaB U (show IntKind.u8.wrap (n:Int)=(((UInt8.ofNat n).toNat:Nat):Int) by rw[zdP];simp)) U U ?_)
   refine yh (gn U) U (St.vl (zK zpK sz5 U U 8 U (by decide)) U U ?_)
   refine yh (gn U) U (zt sz5 U U U U kcL (by rw[zdf,Sa,hA8];simp) (by intro u hu;simp at hu;subst hu;rfl) ?_)
   intro wM nM cM kM
   refine zcf [2,3,5,13] (F':=[(2,_),(3,_),(5,_),(13,_)]) U ?_
   have kM:zO wM b5 426 (bv (c++List.replicate (8-n) 0++[UInt8.ofNat n])):=by
    have e:=lay8 _ 0 (.int .u8 ((UInt8.ofNat n).toNat:Nat)) hA8
    rw[yF]
    show zO wM b5 426 (_++[.int .u8 ((UInt8.ofNat n).toNat:Nat)])
    rw[←e]
    exact kM
   have kLM:=kL.chg cM (by simp;omega)
   have hb2M:=hb2L.chg cM (by simp;omega)
   have hcM:zk [b3] W wM:=((hc16.any (S:=[b3])).transS cL).trans' cM (by intro y hy;simp at hy;subst hy;right;omega)
   refine zrc (fun F wz=>F=[(2,Pt b2),(3,Pt b3),(5,Pt b5),(13,.slice pj n cj)]∧zO wz b5 426 (bv (zgN c (left-n)))∧zO wz b3 3 [Ii (left-n)]∧zO wz b2 224 [u]∧zk [b3] W wz) ?_ ?_
   ·refine zcW ?_
    refine yx ?_
    refine yh (gn U) U (St.vl (zg ag3 U (kLM.cell' U)) U U ?_)
    refine yh (gn U) U (St.vl (zU U U) U U ?_)
    refine zcf [2,3,5,13,26] (F':=[(2,_),(3,_),(5,_),(13,_),(26,_)]) U ?_
    refine zy9 U (fun hT=>?_) (fun hF=>?_)
    ·have hpos:0<left-n:=of_decide_eq_true hT
     refine yx ?_
     refine yh (gn U) U (St.vl (zK zpK sz5 U U 8 U (by decide)) U U ?_)
     refine yh (gn U) U (zt sz5 U U U U kM (by rw[zdf,Sa,hA8];simp) (by intro u hu;simp at hu;subst hu;rfl) ?_)
     intro wN nN cN kN
     refine zcf [2,3,5,13] (F':=[(2,_),(3,_),(5,_),(13,_)]) U ?_
     refine⟨rfl,?_,kLM.chg cN (by simp;omega),hb2M.chg cN (by simp;omega),hcM.trans' cN (by intro y hy;simp at hy;subst hy;right;omega)⟩
     have e:=lay8 (c++List.replicate (8-n) 0) (UInt8.ofNat n) (.int .u8 9) hA8
     unfold zgN
     rw[hcn,if_pos hpos,yF]
     show zO wN b5 426 (_++[.int .u8 9])
     rw[←e]
     exact kN
    have hpos:¬ 0<left-n:=of_decide_eq_false hF
    refine zu0 [2,3,5,13] U ?_
    refine zu7 ?_
    refine⟨U,?_,kLM,hb2M,hcM⟩
    unfold zgN
    rw[hcn,if_neg hpos]
    exact kM
   rintro F wY⟨rfl,kG,hl3,hu2,hcz⟩
   have hcB:zk [b2,b3] w12 wY:=hcW.transS (hcz.weak (by simp))
   have hsz2:=hcz.size
   have huz:=zB.chg hu hcz (zB.apart hu hb3 rfl)
   have hlg:(zgN c (left-n)).length=9:=by unfold zgN;rw[Sa,Sa,List.length_replicate];simp;omega
   have hrd:zbn wY 426 1 (.slice (some ⟨b5,0,none⟩) 9 9) 9 (bv (zgN c (left-n))):=by
    have:=zbn.of_blk kG (by rw[zdf,hlg];simp[maxLen]) (zcX _)
    rwa [zdf,hlg]at this
   have hd:zk [] wY wY.drew:=zk.drew [] _
   have hub:∀y∈zu u,y≠b2:=fun y hy he=>by subst he;have:=hfu _ hy;omega
   refine zoI (fun wz=>zk [] wY wz) mix (by kernel_rfl) hd ?_
   refine Tr (fun wz hz=>zg zhe U ((hu2.chg0 hz).cell' U)) U (Tp (fun _=>zi6 zpK sz5 U) U ?_)
   refine zaR U (gn U) (zo1 zbk y7 U U (zB.chg0 huz hd) (hrd.chg0 hd) (by rw[hg3];simp only[maxLen];omega) (by rw[hg3];omega) U ?_)
   intro v30 w30 i30 c30 o30 z30
   obtain⟨p30,q30,rfl,_⟩:=id (zB.val i30)
   refine⟨.inr (by kernel_rfl),?_⟩
   refine zaR U (gn U) (zt ztP U U U U (hu2.chg (hd.any.transS c30) (fun hm=>hub b2 hm U)) (by simp) (by intro y hy;simp at hy;subst hy;rfl) ?_)
   intro wO nO cO kO
   refine⟨.inr (by kernel_rfl),?_⟩
   refine zdI [2,3,13] (F':=[(2,_),(3,_),(13,_)]) U ?_
   have kO:zO wO b2 224 [_]:=kO
   have hcu:zk (zu u) wY w30:=hd.any.transS c30
   have hl3O:=(hl3.chg hcu (fun hm=>by have:=hfu _ hm;omega)).chg cO (by simp;omega)
   have hsz3:=hcu.size
   have hcut2:∀y∈zu u,∃e c,zO W y e c:=fun y hy=>by
    rcases hu with⟨rfl,_,_⟩|⟨b,off,cap,cc,rfl,hs⟩
    ·simp[zu]at hy
    simp[zu]at hy;subst hy;exact⟨_,_,hs.blk⟩
   have hall:zk (b2::b3::zu u) W wO:=by
    refine((hcz.weak (S2:=b2::b3::zu u) (by simp)).transS (hcu.weak (fun k hk=>by simp[hk]))).transS (cO.weak (by simp))
   refine⟨KeepsFrom.chg hall ?_,Kr.chg hall (by omega) ?_,_,kO,?_,?_,yt o30 hfu (by show w12.heap.size≤wY.heap.size;omega),?_,by have:=hall.size;omega⟩
   ·intro y hy
    simp at hy
    rcases hy with rfl|rfl|hy
    ·exact⟨_,_,hb2⟩
    ·exact⟨_,_,hb3⟩
    exact hcut2 y hy
   ·intro y hy
    simp at hy
    rcases hy with rfl|rfl|hy
    ·exact⟨.inl (by simp),_,_,hb2,rfl⟩
    ·exact⟨.inl (by simp),_,_,hb3,rfl⟩
    obtain⟨e,c,hbb⟩:=hcut2 y hy
    exact⟨.inr (hfu y hy),e,c,hbb,U⟩
   ·have h30:=zB.chg i30 cO (zB.apart i30 (hu2.chg hcu (fun hm=>hub b2 hm rfl)) rfl)
    rw[zfy,zgc,hc8,hgl,hcn]
    unfold zdA
    rw[yF,Sa,hlg]
    exact h30
   ·rw[zfy,zgc,hc8,hgl,hcn]
    exact hl3O
   exact hcW.trans' hall (by
    intro y hy
    simp at hy
    rcases hy with rfl|rfl|hy
    ·simp
    ·simp
    exact .inr (hfu y hy))
  rintro D xs W hD rfl⟨u,hb2,hu,hb3,hfu,hcW,hsW⟩ hdf
  refine zl ?_
  refine⟨D,_,rfl,by omega,hdf,by omega,u,hb2,?_,fun b hb=>by have:=hfu b hb;omega,(hc12.trans' hcW (by intro y hy;simp at hy;right;omega))⟩
  split
  ·rename_i h0
   have hl0:l=[]:=List.length_eq_zero_iff.1 (by omega)
   subst hl0
   rw[h0]at hu
   exact hu
  rename_i h0
  rw[←hsz,zkK (fun e=>h0 (by rw[←hsz,e];rfl))]at hu
  exact hu
 rintro F wx⟨D,f12,rfl,hD,hdf,hb2n,u,hb2,hu,hfu,hcx⟩
 have hDb:D≠b2:=by rintro rfl;rw[show wx.heap[D]?=_ from hb2]at hdf;cases hdf
 have hDl:=(Ga hdf).1
 refine zf (zf ?_)
 by_cases h0:x.b.size=0
 ·rw[if_pos h0]at hu
  obtain⟨pu,cu,rfl,_⟩:=id (zB.val hu)
  refine za (Ol zhe U (hb2.cell' U) (On y7 U (Og (vt (zy U U) U) U (yO [2,33] (F':=[(2,_),(33,_),(1000000,_)]) U (ze U (Sr ?_))))))
  refine Oq (zrB (l:=9) (m:=9) zbk U U (by omega) (by omega) (by omega) (by unfold maxLen;omega) (by omega) U ?_)
  intro b34 w34 e34 n34 c34 k34
  refine Oq (zt ztP U U U U (hb2.chg0 c34) (by simp) (by intro y hy;simp at hy;subst hy;rfl) ?_)
  intro wA nA cA kA
  refine yO [2] (F':=[(2,_),(1000000,_)]) U (zj ?_)
  repeat first|refine tr ?_|refine br ?_
  refine zpw (v:=.slice (some ⟨b34,0,none⟩) 9 9) (D:=D) U zhe U U ((cA.block D (by omega) (by simpa using hDb)).trans ((c34.block D hDl (by simp)).trans hdf)) ?_
  intro w' hw'
  have kA:zO wA b2 224 [.slice (some ⟨b34,0,none⟩) 9 9]:=kA
  have hb34:b34∉[D]:=by simp;omega
  have k34':=(k34.chg cA (by simp;have:=hb2.lt;omega)).chg hw' hb34
  refine⟨(kA.chg hw' (by simpa using fun h=>hDb h.symm)).cell' U,?_,?_,?_⟩
  ·have hl0:x.b.data.toList=[]:=List.length_eq_zero_iff.1 (by omega)
   rw[hl0]
   have e9:(madeCells (Value.int IntKind.u8 0).cells (9*1)).toList=bv (zd9 []):=(zul rfl 9).trans rfl
   rw[e9]at k34'
   exact zB.of_blk (n:=9) k34' U (by simp[maxLen]) (zcX (zd9 []))
  ·intro b hb
   have:=hcx.size
   simp[zu]at hb
   omega
  exact(((hcx.trans c34).own cA (by intro y hy;simp at hy;omega))).own hw' (by intro y hy;simp at hy;omega)
 rw[if_neg h0]at hu
 have hne:(zd9 x.b.data.toList).length≠0:=by
  intro h
  rw[←zkK (fun e=>h0 (by rw[←hsz,e];rfl)),(zmP _ _).2.2,List.length_range]at h
  omega
 obtain⟨pu,cu,rfl,_⟩:=id (zB.val hu)
 refine za (Ol zhe U (hb2.cell' U) (On y7 U ?_))
 refine Og (vf (zy U U) (df (by omega))) U ?_
 refine yO [2,33] (F':=[(2,_),(33,_),(1000000,_)]) U (zb U ?_)
 refine zae [2] U ?_
 refine zm (Sr (Ol zhe U (hb2.cell' U) ?_))
 refine Oq (zt ztP U U U U hb2 (by simp) (by intro y hy;simp at hy;subst hy;rfl) ?_)
 intro wA nA cA kA
 refine yO [2] (F':=[(2,_),(1000000,_)]) U (zj ?_)
 repeat first|refine tr ?_|refine br ?_
 refine zpw (v:=.slice pu (zd9 x.b.data.toList).length cu) (D:=D) U zhe U U ((cA.block D (by omega) (by simpa using hDb)).trans hdf) ?_
 intro w' hw'
 have kA:zO wA b2 224 [.slice pu (zd9 x.b.data.toList).length cu]:=kA
 have huD:∀b∈zu (.slice pu (zd9 x.b.data.toList).length cu),b∉[D]:=fun b hb hm=>by
  rcases hu with⟨he,_,_⟩|⟨b',off,cap,cc,he,hs⟩
  ·rw[he]at hb;simp[zu]at hb
  rw[he]at hb
  simp[zu]at hb hm
  subst hb hm
  rw[show wx.heap[b]?=_ from hs.blk]at hdf
  cases hdf
 refine⟨(kA.chg hw' (by simpa using fun h=>hDb h.symm)).cell' U,?_,hfu,?_⟩
 ·exact zB.chg (zB.chg hu cA (zB.apart hu hb2 U)) hw' huD
 exact((hcx.own cA (by intro y hy;simp at hy;omega))).own hw' (by intro y hy;simp at hy;omega)
theorem znz{x:zX}(h:za2 x=0)(hx:x.Rng):∃f g,zbb zuC x.k=some (zfS f g)∧zn TP f=true∧∀w,zS TP f #[x.v] w fun r w'=>zdA w' r (zgU x)∧(∀b∈zu r,w.heap.size≤b)∧zk [] w w':=by
 obtain⟨hf,hb⟩:=zd5 h
 obtain⟨hk,hbr,hm⟩:=zbN hf
 obtain⟨k,i,u,b⟩:=x
 rcases (show k=0∨k=1∨k=2∨k=3∨k=4 by simp at hk;omega) with rfl|rfl|rfl|rfl|rfl
 ·exact⟨_,_,U,zCo,fun w=>zzw _ w⟩
 ·exact⟨_,_,U,zCl,fun w=>zyJ _ w hx⟩
 ·exact⟨_,_,U,zA6,fun w=>zyX _ w hx⟩
 ·exact⟨_,_,U,zCZ,fun w=>zyS _ w (hm U)⟩
 exact⟨_,_,rfl,zAl,fun w=>zx7 _ w (by simp at hb ⊢;omega)⟩
theorem zqO(l:List zX)(x:zX):zd6 (l++[x])=zd6 l++([UInt8.ofNat x.k.toNat]++zgU x):=by simp[zd6,zqg]
theorem znm:∀{l:List zX} {j:Nat} {x:zX},l[j]?=some x→za2 x≠0→(∀y∈l.take j,za2 y=0)→zjY l=za2 x
 |[],_,_,h,_,_=>by simp at h
 |y::l,0,x,h,hx,_=>by simp at h;subst h;simp[zjY,hx]
 |y::l,j+1,x,h,hx,ha=>by
  unfold zjY
  rw[if_neg (by simp[ha y (by simp)])]
  exact znm (by simpa using h) hx (fun z hz=>ha z (by simp[hz]))
theorem zdA.push{w:Wl}{v:Va}{l m:List UInt8}{n:Nat}{xs:LA}(h:zB w 5 1 v n xs)(hn:n=l.length+m.length)(hx:xs=bv l++bv m):zdA w v (l++m):=by
 subst hn hx
 unfold zdA
 rw[Sa,yF]
 exact h
theorem zvN{v v':Va}{w w0:Wl}(ho:zu v'=zu v∨∃b,zu v'=[b]∧w.heap.size≤b)(hs:w0.heap.size≤w.heap.size):∀y∈zu v',y∈zu v∨w0.heap.size≤y:=by
 intro y hy
 rcases ho with o|⟨b,o,hb⟩
 ·rw[o]at hy;exact .inl hy
 rw[o]at hy;simp at hy;subst hy;right;omega
theorem zsU(v:Va)(l:List zX)(w:Wl)(hl:ya w v l)(hg:∀x∈l,x.Rng)(hn:l.length≤8) :
 zS TP 146 #[v] w fun r w'=>r=.tuple #[.string (if zjY l=0 then zcZ l else e0),Ii (zjY l)]∧zk [] w w':=by
 obtain⟨pv,cv,rfl,hcv⟩:=zN.val hl
 refine A1 Tryz.func146 U U ?_
 refine Sr (Oa U (Oa U (E1 0 U (Sr (Oa U (E2 0 4 U (zf (Sr (Om U (On yE U (Om U (E4 4 8 9 10 U (zp ?_)))))))))))))
 refine zQ [4,8,9,10] (fun m F wx=>∃(j:Nat) (u:Va),m=l.length-j∧j≤l.length∧F=[(4,u),(8,.slice pv l.length cv),(9,Ii l.length),(10,Ii j)]∧zdA wx u (zd6 (l.take j))∧(∀b∈zu u,w.heap.size≤b)∧zk [] w wx∧(∀y∈l.take j,za2 y=0)) (m:=l.length-0) ⟨0,_,rfl,Zl _,rfl,zB.nil _ _ _,by simp[zu],zk.refl _ _,by simp⟩ ?_
 rintro m F wx⟨j,u,rfl,hj,rfl,hu,hfu,hcx,hall⟩
 have hkl:=zhq hall
 rw[List.length_take,Nat.min_eq_left hj]at hkl
 refine Sr (Og (zz U U) U (E5 4 8 9 10 11 U (zf ?_)))
 refine zP U (fun hT=>?_) (fun hF=>?_)
 ·refine zm ?_
  have hlt:j<l.length:=by have:=of_decide_eq_true hT;omega
  have hx:l[j]?=some l[j]:=by simp[hlt]
  generalize l[j]=x at hx
  have hxr:=hg x (Mg hx)
  obtain⟨b,off,cap,hv,hcell⟩:=zN.at zbr (zN.chg0 hl hcx) hx
  cases hv
  refine zf (zp (Sr ?_))
  refine Og (zi yE ym U U _ U hlt) U ?_
  refine Og (zh zaJ ym U U hcell) U ?_
  refine Oq (zF zdl U U ?_)
  intro b6 w6 e6 n6 c6 k6
  refine Oq (zt ym U U U U k6 (by simp[zX.cs]) (zX.one x) ?_)
  intro wA nA cA kA
  refine E5 4 6 8 9 10 U ?_
  have kA:zO wA b6 111 x.cs:=kA
  have hcA:zk [] wx wA:=c6.own cA (by intro y hy;simp at hy;omega)
  refine zf (Sr (Og (zh zaJ ym U U (zv.of_blk0 kA)) U ?_))
  refine Oc zuD U U U (zlT x _) ?_
  rintro v15 w15⟨rfl,c15⟩
  refine Oa U (E6 4 6 7 8 9 10 U ?_)
  have kB:=kA.chg0 c15
  have hcB:zk [] wx w15:=hcA.trans c15
  have huB:=zB.chg0 hu hcB
  refine zf ?_
  by_cases hc:za2 x=0
  ·refine za (Om U ?_)
   refine Og (vf (zJ U U) (by simp[hc])) U ?_
   refine E7 4 6 7 8 9 10 17 U (zb U (zm ?_))
   obtain⟨f,g,hgk,hbf,hlay⟩:=znz hc hxr
   have hfine:=(zbN (zd5 hc).1).1
   have hkT:(zgU x).length≤234:=by have:=zke hc;rw[zqg]at this;simp at this;omega
   have hd:zk (zu u) w15 w15.drew:=zk.drew _ _
   have hbu:b6∉zu u:=fun hm=>zB.apart huB kB rfl b6 hm (by simp)
   refine zH (fun wz=>zk (zu u) w15 wz) mix (by kernel_rfl) hd ?_
   refine Tm U (Td zal U (Tr (fun wz hz=>zg zbS U ((kB.chg hz hbu).cell' U)) U ?_))
   refine Tp (fun _=>yj zaZ zaW U (show IntKind.u8.wrap x.k=(((UInt8.ofNat x.k.toNat).toNat:Nat):Int) by rw[show x.k=((x.k.toNat:Nat):Int) by omega,zdP];simp)) U ?_
   refine zaR U (gn U) (zA zbk U (vs:=[_]) U (css:=[_]) ⟨U,Tt⟩ U U (cs:=[_]) U U ?_)
   intro b23 w23 e23 n23 c23 k23
   refine⟨.inl (hd.trans c23),?_⟩
   refine zaR U (gn U) (yr zbk y7 U U (zB.chg0 huB ((zk.drew [] _).trans c23)) (zB.of_blk (n:=1) (c:=bv [UInt8.ofNat x.k.toNat]) k23 U (by simp[maxLen]) (zcX _)) (by simp only[maxLen];omega) (by omega) U ?_)
   intro v24 w24 i24 c24 o24 z24
   refine⟨.inl ((hd.trans c23).transS c24),?_⟩
   refine Tc zCV U U U (zvn _) ?_
   rintro v25 w25⟨b25,rfl,h25,k25,c25⟩
   refine⟨.inl (((hd.trans c23).transS c24).trans c25),?_⟩
   refine Td zal U (Tr (fun wz hz=>zg zbS U ((kB.chg hz hbu).cell' U)) U ?_)
   refine zaR U (gn U) (St.vl (zdz (κ:=zaP .i64) zlz (z0 zaW) zkN U U k25 hgk U) U U ?_)
   refine⟨.inl (((hd.trans c23).transS c24).trans c25),?_⟩
   refine Tp (fun _=>zir zwp U U) U (Tr (fun wz hz=>zh zaJ ym U U (zv.of_blk0 (kB.chg hz hbu))) U ?_)
   refine Tc hbf U U U (hlay _) ?_
   rintro v31 w31⟨i31,f31,c31⟩
   refine⟨.inl ((((hd.trans c23).transS c24).trans c25).trans c31),?_⟩
   refine zaR U (gn U) (yr zbk y7 U U (zB.chg0 (zB.chg0 i24 c25) c31) i31 (by simp only[maxLen];omega) (by omega) U ?_)
   intro v32 w32 i32 c32 o32 z32
   refine⟨.inl (((((hd.trans c23).transS c24).trans c25).trans c31).trans' c32 (zvN o24 c23.size)),?_⟩
   refine Ta U ?_
   refine zdI [4,8,9,10] (F':=[(4,_),(8,_),(9,_),(10,_)]) U ?_
   refine zl ?_
   have hcz:zk (zu u) w15 w32:=((((hd.trans c23).transS c24).trans c25).trans c31).trans' c32 (zvN o24 c23.size)
   have hwz:=(hcx.trans hcB).own hcz hfu
   have hs1:=hcx.size
   have hs2:=hcB.size
   have hs3:w15.heap.size≤w23.heap.size:=c23.size
   have hs4:=(c24.size)
   have hs5:=c25.size
   have hs6:=c31.size
   refine za ?_
   refine Og (zG U U (by omega)) U ?_
   refine Om U (N4 4 8 9 10 U ?_)
   refine⟨l.length-(j+1),by omega,j+1,v32,rfl,by omega,rfl,?_,yt o32 (yt o24 hfu (by omega)) (by omega),hwz,?_⟩
   ·rw[List.take_add_one,hx]
    show zdA w32 v32 (zd6 (l.take j++[x]))
    rw[zqO,←List.append_assoc]
    refine zdA.push i32 ?_ ?_
    ·rw[Sa];rfl
    rw[yF]
   intro y hy
   rw[List.take_add_one,hx]at hy
   rcases List.mem_append.1 hy with hy|hy
   ·exact hall y hy
   simp at hy;subst hy;exact hc
  refine za (Om U ?_)
  refine Og (vt (zJ U U) (by simp[hc])) U ?_
  refine E7 4 6 7 8 9 10 17 U (ze U (Sr (Om U (Oa U (Oa U (E2 2 3 U (zj ?_)))))))
  repeat first|refine tr ?_|refine br ?_
  refine zcF U U U ?_
  rw[znm hx hc hall,if_neg hc]
  exact⟨U,hcx.trans hcB⟩
 refine zI ?_
 repeat first|refine te ?_|refine bo rfl ?_
 refine zq _ ?_
 have he:l.length≤j:=by have:=of_decide_eq_false hF;omega
 rw[Tl he]at hu hall hkl
 have hE:=zjN.2 hall
 obtain⟨pu,cu,rfl,_⟩:=id (zB.val hu)
 refine zf (Sr (Om U (On y7 U ?_)))
 refine Og (vf (zU U U) (df (by omega))) U ?_
 refine E2 4 36 U (zb U (zm (Sr (Om U (Og (zgF (l:=(zd6 l)) y7 zaZ st9 U (zB.rd hu)) U (Oa U (Oa U (E2 2 3 U (zj ?_)))))))))
 refine zcF U U U ?_
 rw[hE,if_pos rfl]
 exact⟨U,hcx⟩
theorem zBh(x:zX)(w:Wl):zS TP 247 #[x.v] w fun r w'=>r=.bool (decide (x.k=0))∧zk [] w w':=by
 refine A1 Tryz.func247 U U ?_
 refine Sr ?_
 refine Ob U U ?_
 intro b1 w1 e1 n1 c1 k1
 refine Oa U (E1 1 U (Sr (Od zal U (Ol zbS U (k1.cell' U) (Og (zy U U) U (Oa U (E1 2 U (zj ?_))))))))
 refine zw U U ?_
 exact⟨U,c1⟩
theorem zvE(l:List zX):nnS l = !(l.any fun x=>decide (x.k=0)):=by
 rw[Bool.eq_iff_iff]
 simp[nnS]
theorem zDK(v:Va)(l:List zX)(w:Wl)(hl:ya w v l)(hg:∀x∈l,x.Rng)(hn:l.length≤8) :
 zS TP 194 #[v] w fun r w'=>r=.tuple #[.string (if zjY l=0 then zcZ l else e0),.bool (nnS l)]∧zk [] w w':=by
 refine A1 Tryz.func194 U U ?_
 refine Sr (Oa U (Oa U (E1 0 U (Sr (Om U ?_)))))
 refine Oc zAu U U U (zsU v l _ hl hg hn) ?_
 rintro v8 w8⟨rfl,c8⟩
 refine Om U (Oe U U (Oe U U (Oa U (Oa U (E2 0 4 U (Sr (Om U (Om U ?_))))))))
 refine Oc zxB U U U (zuH zbr v l (fun x=>decide (x.k=0)) 247 [] _ (zN.chg0 hl c8) (by omega) zBk (fun x _ w1 _=>zBh x w1)) ?_
 rintro v13 w13⟨rfl,c13⟩
 refine Og (zC U) U (Oa U (Oa U (E2 2 3 U (zj ?_))))
 refine zcF U U U ?_
 exact⟨by rw[zvE],c8.trans c13⟩
theorem zvA(a p v:Va)(st:List Int)(row:List zX)(w:Wl)(ha:yA w a st)(hp:p.oneCell'=true)(hv:ya w v row)(hg:∀x∈row,x.Rng)(hc:∀x∈row,za2 x=0)(hr:∀i∈st,0≤i∧i<row.length)(hn:st.length≤8)(hn':row.length≤1048576) :
 zS TP 138 #[.agg #[a,p],v] w fun r w'=>r=.tuple #[.string (zcZ (yo row st)),.bool (nnS (yo row st))]∧zk [] w w':=by
 have hmem:∀x∈yo row st,x∈row:=fun x hx=>by
  rw[zfo,List.mem_map]at hx
  obtain⟨i,hi,rfl⟩:=hx
  exact(zfp U (hr i hi)).1
 have hE:zjY (yo row st)=0:=zjN.2 fun x hx=>hc x (hmem x hx)
 obtain⟨pa,ca,rfl,_⟩:=id (zN.val ha)
 refine A2 Tryz.func138 U U ?_
 refine Sr ?_
 refine Ob U U ?_
 intro b2 w2 e2 n2 c2 k2
 refine Oa U (Oa U (E2 1 2 U (Sr (Om U (Od zpY U (Ol zci U (k2.cell' U) ?_))))))
 refine Oc zA4 U U U (zzc v _ row st _ (zN.chg0 hv c2) (zN.chg0 ha c2) hr hn' (by omega)) ?_
 rintro v12 w12⟨u,rfl,iu,fu,c12⟩
 refine Om U (Oe U U (Oe U U (Oa U (Oa U (E1 6 U (Sr (Om U ?_)))))))
 refine Oc zA8 U U U (zDK u (yo row st) _ iu (fun x hx=>hg x (hmem x hx)) (by rw[zhI];exact hn)) ?_
 rintro v16 w16⟨rfl,c16⟩
 refine Oe U U (Oe U U (Oa U (Oa U (E2 4 5 U (zj ?_)))))
 refine zcF U U U ?_
 rw[hE,if_pos rfl]
 exact⟨U,(c2.trans c12).trans c16⟩
theorem zt3(n:Nat):∀{k m:Nat},k≤m→be (n%256^m) k=be n k
 |0,_,_=>rfl
 |k+1,m,h=>by
  have e:n%256^m/256^k%256=n/256^k%256:=by
   have h1:n%256^m%256^(k+1)=n%256^(k+1):=Nat.mod_mod_of_dvd _ (Nat.pow_dvd_pow _ h)
   have h2:∀a:Nat,a/256^k%256=a%256^(k+1)/256^k:=fun a=>by
    rw[Nat.pow_succ,Nat.mod_mul_right_div_self]
   rw[h2,h1,←h2]
  unfold be
  rw[e,zt3 n (by omega)]
theorem zqF(n z:Nat)(w:Wl)(hn:n<18446744073709551616)(hz:z=1∨z=2∨z=4∨z=8):zS TP 249 #[.int .u64 n,Ii z] w fun r w'=>zdA w' r (be n z)∧(∀b∈zu r,w.heap.size≤b)∧zk [] w w':=by
 have e1:IntKind.u64.wrap ((n:Int)*2^(64-8*z))=((n*2^(64-8*z)%18446744073709551616:Nat):Int):=by rw[zc2];rcases hz with rfl|rfl|rfl|rfl<;>simp only[Nat.reducePow,Nat.reduceMul,Nat.reduceSub,Int.reducePow]<;>omega
 have e2:n*2^(64-8*z)%18446744073709551616/2^(64-8*z)=n%256^z:=by rcases hz with rfl|rfl|rfl|rfl<;>simp only[Nat.reducePow,Nat.reduceMul,Nat.reduceSub]<;>omega
 have hz8:z≤8:=by omega
 have hp:n%256^z<256^z:=Nat.mod_lt _ (Nat.pow_pos (by decide))
 refine A2 Tryz.func249 U U ?_
 refine Sr (Oa U (E2 0 1 U (Sr (Om U (Om U ?_)))))
 refine Og (zdG U U (by omega)) U ?_
 refine Og (yM U U (by omega)) U ?_
 refine Og (zeu (64-8*z) U U (by omega) (by simp only[IntKind.bits];omega) e1) U ?_
 refine Om U ?_
 refine Og (zdG U U (by omega)) U ?_
 refine Og (yM U U (by omega)) U ?_
 refine Og (zcw (64-8*z) U U (by omega) (by simp only[IntKind.bits];omega) (zlA _ _)) U ?_
 refine Om U ?_
 refine Oc zxF U U U (e2▸zqG (n%256^z) z _ (Nat.lt_of_le_of_lt (Nat.mod_le _ _) hn) (by omega) hp) ?_
 rintro v18 w18⟨v18,rfl,i18,f18,c18⟩
 refine Om U (Oe U U (Oe U U (Oa U (Oa U (E1 5 U (Sr (Om U (Oa U (E1 4 U (zj ?_))))))))))
 refine zw U U ?_
 rw[e2,zt3 n (Nat.le_refl z)]at i18
 exact⟨by unfold zdA;rw[za5];exact i18,f18,c18⟩
theorem zx8(c:Col)(x:zX)(w:Wl)(hx:x.Rng)(hz:c.s=1∨c.s=2∨c.s=4∨c.s=8):zS TP 248 #[c.v,x.v] w fun r w'=>zdA w' r (be (x.i%18446744073709551616).toNat c.s.toNat)∧(∀b∈zu r,w.heap.size≤b)∧zk [] w w':=by
 have hi:=hx.i
 obtain⟨z,hz1,hz2⟩:∃z:Nat,c.s=z∧(z=1∨z=2∨z=4∨z=8):=⟨c.s.toNat,by omega,by omega⟩
 refine A2 Tryz.func248 U U ?_
 refine Sr ?_
 refine Ob U U ?_
 intro b2 w2 e2 n2 c2 k2
 refine Ob U U ?_
 intro b3 w3 e3 n3 c3 k3
 refine Oa U (E2 2 3 U (Sr (Od yz U (Ol ag2 U (k3.cell' U) ?_))))
 refine Og (yj zbC zeU U (show IntKind.u64.wrap x.i=(((x.i%18446744073709551616).toNat:Nat):Int) by rw[zc2];omega)) U ?_
 refine Od zbG U ?_
 refine Ol ag3 U ((k2.chg0 c3).cell' (show _=some (Value.int .i64 (z:Int)) by rw[←hz1];rfl)) ?_
 refine Oc zwC U U U (zqF _ z _ (by omega) hz2) ?_
 rintro v10 w10⟨i10,f10,c10⟩
 refine Oa U (E1 4 U (zj ?_))
 refine zw U U ?_
 have hs:=(c2.trans c3).size
 rw[hz1]
 exact⟨i10,fun b hb=>Nat.le_trans hs (f10 b hb),(c2.trans c3).trans c10⟩
theorem zyn(c:Col)(x:zX)(w:Wl)(hx:x.Rng)(hz:c.s=1∨c.s=2∨c.s=4∨c.s=8):zS TP 254 #[c.v,x.v] w fun r w'=>zdA w' r (be x.u c.s.toNat)∧(∀b∈zu r,w.heap.size≤b)∧zk [] w w':=by
 obtain⟨z,hz1,hz2⟩:∃z:Nat,c.s=z∧(z=1∨z=2∨z=4∨z=8):=⟨c.s.toNat,by omega,by omega⟩
 refine A2 Tryz.func254 U U ?_
 refine Sr ?_
 refine Ob U U ?_
 intro b2 w2 e2 n2 c2 k2
 refine Ob U U ?_
 intro b3 w3 e3 n3 c3 k3
 refine Oa U (E2 2 3 U (Sr (Od zaT U (Ol zb2 U (k3.cell' U) (Od zbG U ?_)))))
 refine Ol ag3 U ((k2.chg0 c3).cell' (show _=some (Value.int .i64 (z:Int)) by rw[←hz1];rfl)) ?_
 refine Oc zwC U U U (zqF _ z _ hx.u hz2) ?_
 rintro v9 w9⟨i9,f9,c9⟩
 refine Oa U (E1 4 U (zj ?_))
 refine zw U U ?_
 have hs:=(c2.trans c3).size
 rw[hz1]
 exact⟨i9,fun b hb=>Nat.le_trans hs (f9 b hb),(c2.trans c3).trans c9⟩
theorem zzg(c:Col)(x:zX)(w:Wl)(hx:x.i=0∨x.i=1):zS TP 256 #[c.v,x.v] w fun r w'=>zdA w' r [UInt8.ofNat x.i.toNat]∧(∀b∈zu r,w.heap.size≤b)∧zk [] w w':=by
 refine A2 Tryz.func256 U U ?_
 refine Sr ?_
 refine Ob U U ?_
 intro b2 w2 e2 n2 c2 k2
 refine Ob U U ?_
 intro b3 w3 e3 n3 c3 k3
 refine Oa U (E1 3 U (Sr (Od yz U (Ol ag2 U (k3.cell' U) ?_))))
 refine Og (yj zaZ zeU U (show IntKind.u8.wrap x.i=(((UInt8.ofNat x.i.toNat).toNat:Nat):Int) by rcases hx with h|h<;>rw[h]<;>rfl)) U ?_
 refine Oq (zA zbk U (vs:=[_]) U (css:=[_]) ⟨U,Tt⟩ U U (cs:=[_]) U U ?_)
 intro b8 w8 e8 n8 c8 k8
 refine Oa U (E1 4 U (zj ?_))
 refine zw U U ?_
 have hs:=(c2.trans c3).size
 exact⟨zB.of_blk (n:=1) k8 U (by simp[maxLen]) (zcX _),by intro b hb;simp[zu]at hb;omega,(c2.trans c3).trans c8⟩
theorem zyK(c:Col)(x:zX)(w:Wl)(hx:x.b.size≤1048576):zS TP 259 #[c.v,x.v] w fun r w'=>zdA w' r (zcv x.b)∧(∀b∈zu r,w.heap.size≤b)∧zk [] w w':=by
 refine A2 Tryz.func259 U U ?_
 refine Sr ?_
 refine Ob U U ?_
 intro b2 w2 e2 n2 c2 k2
 refine Ob U U ?_
 intro b3 w3 e3 n3 c3 k3
 refine Oa U (E1 3 U (Sr (Od zaK U (Ol yI U (k3.cell' U) ?_))))
 refine Oc zBZ U U U (zyx x.b _ hx) ?_
 rintro v7 w7⟨i7,f7,c7⟩
 refine Oa U (E1 4 U (zj ?_))
 refine zw U U ?_
 have hs:=(c2.trans c3).size
 exact⟨i7,fun b hb=>Nat.le_trans hs (f7 b hb),(c2.trans c3).trans c7⟩
def zkM(f g h:FuncId):Va:=.agg #[.func (.func f) #[] #[],.func (.func g) #[] #[],.func (.func h) #[] #[]]
def zpa:List (Int×Va):=[(1,zkM 248 250 253),(2,zkM 254 255 253),(3,zkM 256 257 258),(4,zkM 259 260 261)]
theorem zqL(w:Wl):zS TP 195 #[] w fun r w'=>∃b,r=.map (some b)∧w.heap.size≤b∧yf (zaP .i64) w' b zpa∧zk [] w w':=by
 refine zS.of_W (args:=[]) Tryz.func195 U U U U ?_
 refine Sr (Oa U (yO [] (F':=[]) U (Sr ?_)))
 refine Oq (zb5 (zaP .i64) U ?_)
 intro b1 w1 e1 n1 c1 k1
 refine Og (zL zpJ zk2 U (vs:=[_,_,_]) U (css:=[_,_,_]) ⟨U,U,U,Tt⟩ U U (cs:=[_,_,_]) U) U ?_
 refine Oq (yQ (κ:=zaP .i64) zkP (z0 zaN) U U U k1 ?_)
 intro wA nA cA kA
 refine Og (zL zpJ zk2 U (vs:=[_,_,_]) U (css:=[_,_,_]) ⟨U,U,U,Tt⟩ U U (cs:=[_,_,_]) U) U ?_
 refine Oq (yQ (κ:=zaP .i64) zkP (z0 zaN) U U U kA ?_)
 intro wB nB cB kB
 refine Og (zL zpJ zk2 U (vs:=[_,_,_]) U (css:=[_,_,_]) ⟨U,U,U,Tt⟩ U U (cs:=[_,_,_]) U) U ?_
 refine Oq (yQ (κ:=zaP .i64) zkP (z0 zaN) U U U kB ?_)
 intro wC nC cC kC
 refine Og (zL zpJ zk2 U (vs:=[_,_,_]) U (css:=[_,_,_]) ⟨U,U,U,Tt⟩ U U (cs:=[_,_,_]) U) U ?_
 refine Oq (yQ (κ:=zaP .i64) zkP (z0 zaN) U U U kC ?_)
 intro wD nD cD kD
 refine Om U (Oa U (E1 0 U (zj ?_)))
 refine zw U U ?_
 exact⟨b1,rfl,by omega,kD,c1.own ((((cA.transS cB).transS cC).transS cD)) (by intro x hx;simp at hx;omega)⟩
theorem znX{c:Col}{x:zX}(h:yS c x=0)(hk:x.k≠0)(hx:x.Rng):∃f g k,zbb zpa c.t=some (zkM f g k)∧zn TP f=true∧∀w,zS TP f #[c.v,x.v] w fun r w'=>zdA w' r (zkG c x)∧(∀b∈zu r,w.heap.size≤b)∧zk [] w w':=by
 obtain⟨hr,hc,_,h2⟩:=zca h
 obtain⟨hkt,_⟩:=h2 hk
 obtain⟨hf,hb⟩:=zd5 hc
 obtain⟨_,hbr,hm⟩:=zbN hf
 obtain⟨s1,s2,s3,s4⟩:=zet hr
 unfold zkG
 rcases s4 with e|e|e|e<;>simp only[e, ↓reduceIte,Int.reduceEq]
 ·exact⟨_,_,_,U,zB0,fun w=>zx8 c x w hx (s1 (.inl e))⟩
 ·exact⟨_,_,_,U,zCK,fun w=>zyn c x w hx (s1 (.inr e))⟩
 ·exact⟨_,_,_,rfl,zBA,fun w=>zzg c x w (hm (by omega))⟩
 exact⟨_,_,_,rfl,zCE,fun w=>zyK c x w (by omega)⟩
theorem zic:∀{cs:List Col} {xs:List zX} {j:Nat} {c:Col} {x:zX},cs[j]?=some c→xs[j]?=some x→zcT (cs.take (j+1)) (xs.take (j+1))=zcT (cs.take j) (xs.take j)++zfs c x
 |[],_,_,_,_,h,_=>by simp at h
 |_::_,[],_,_,_,_,h=>by simp at h
 |c::cs,x::xs,0,c',x',hc,hx=>by simp at hc hx;subst hc hx;simp[zcT]
 |c::cs,x::xs,j+1,c',x',hc,hx=>by
  simp only[List.take_succ_cons,zcT]
  rw[zic (by simpa using hc) (by simpa using hx),List.append_assoc]
theorem zkj:∀{cs:List Col} {xs:List zX},zbh cs xs=0→∀j,zbh (cs.take j) (xs.take j)=0
 |[],_,_,j=>by simp[zbh]
 |_::_,[],_,j=>by simp[zbh]
 |c::cs,x::xs,h,0=>by simp[zbh]
 |c::cs,x::xs,h,j+1=>by
  unfold zbh at h
  by_cases h1:yS c x=0
  ·rw[if_neg (by simp[h1])]at h
   simp only[List.take_succ_cons,zbh,h1,zkj h j]
   rfl
  rw[if_pos h1]at h;exact absurd h h1
theorem zrY(c k u v:Va)(s:yK)(l:List zX)(w:Wl)(hE:EOk w)(hs:zai w c k u s)(hm:s.Sm)(hl:ya w v l)(hg:∀x∈l,x.Rng)(hn:l.length≤1048576) :
 zS TP 139 #[.agg #[c,k,u],v] w fun r w'=>∃o,r=.tuple #[o,Ii (zaf s l)]∧zdA w' o (if zaf s l=0 then zcT s.cols l else [])∧(∀b∈zu o,w.heap.size≤b)∧zk [] w w':=by
 obtain⟨pv,cv,rfl,hcv⟩:=zN.val hl
 refine A2 Tryz.func139 U U ?_
 refine Sr ?_
 refine Ob U U ?_
 intro b2 w2 e2 n2 c2 k2
 refine Oa U (Oa U (E2 1 2 U (zf (Sr (Og (zh zaX zaS U U (zv.of_blk0 k2)) U (Om U ?_))))))
 refine Oc zwQ U U U (zwB c k u _ s l _ (hE.chg0 c2) (hs.chg0 c2) hm (zN.chg0 hl c2) hg hn) ?_
 rintro v13 w13⟨rfl,c13⟩
 refine Oa U (E3 1 2 6 U (zf ?_))
 by_cases hr:zaf s l=0
 ·refine za (Om U ?_)
  refine Og (vf (zJ U U) (by simp[hr])) U ?_
  refine E4 1 2 6 15 U (zb U (zm ?_))
  obtain⟨hrs,hlen,hfit⟩:=zas hr
  refine Sr (Oa U (E3 1 2 7 U (zf (zf ?_))))
  have hcA:=c2.trans c13
  have k2:=k2.chg0 c13
  refine za (Om U (On yE U (Om U (E5 2 7 17 18 19 U (zp ?_)))))
  refine zQ [2,7,17,18,19] (fun m F wx=>∃(j:Nat) (u:Va),m=l.length-j∧j≤l.length∧F=[(2,Pt b2),(7,u),(17,.slice pv l.length cv),(18,Ii l.length),(19,Ii j)]∧zdA wx u (zcT (s.cols.take j) (l.take j))∧(∀b∈zu u,w13.heap.size≤b)∧zk [] w13 wx) (m:=l.length-0) ⟨0,_,rfl,Zl _,rfl,zB.nil _ _ _,by simp[zu],zk.refl _ _⟩ ?_
  rintro m F wx⟨j,u',rfl,hj,rfl,hu,hfu,hcx⟩
  refine Sr (Og (zz U U) U (E6 2 7 17 18 19 20 U (zf ?_)))
  refine zP U (fun hT=>?_) (fun hF=>?_)
  ·refine zm ?_
   have hlt:j<l.length:=by have:=of_decide_eq_true hT;omega
   have hx:l[j]?=some l[j]:=by simp[hlt]
   have hy:s.cols[j]?=some (s.cols[j]'(by omega)):=by simp[hlt,←hlen]
   generalize l[j]=x at hx
   generalize s.cols[j]'(by omega)=y at hy
   have hxr:=hg x (Mg hx)
   have hfy:=zhz hfit hy hx
   have hel:=zkt hfy
   have hkl:=ze4 (zkj hfit j)
   have h8:=(zZ hrs).1
   rw[List.length_take,Nat.min_eq_left (by omega)]at hkl
   obtain⟨b,off,cap,hv,hcell⟩:=zN.at zbr (zN.chg0 hl (hcA.trans hcx)) hx
   cases hv
   have k2:=k2.chg0 hcx
   refine zf (zp (Sr (Om U ?_)))
   refine Og (zi yE ym U U _ U hlt) U ?_
   refine Og (zh zaJ ym U U hcell) U ?_
   refine Oq (zF zdl U U ?_)
   intro b9 w9 e9 n9 c9 k9
   refine Oa U ?_
   refine Oq (zt ym U U U U k9 (by simp[zX.cs]) (zX.one x) ?_)
   intro wA nA cA kA
   refine E7 2 7 8 9 17 18 19 U ?_
   have kA:zO wA b9 111 x.cs:=kA
   have hcB:zk [] wx wA:=c9.own cA (by intro y hy;simp at hy;omega)
   obtain⟨bc,offc,capc,hvc,hcellc⟩:=zN.at zaE (zN.chg0 hs.cols ((hcA.trans hcx).trans hcB)) hy
   subst hvc
   have k2:=k2.chg0 hcB
   have huB:=zB.chg0 hu hcB
   refine zf (zf ?_)
   by_cases hk:x.k=0
   ·refine za (Od zal U (Ol zbS U (kA.cell' U) ?_))
    refine Og (vt (zy U U) (by simp[hk])) U ?_
    refine E8 2 7 8 9 17 18 19 26 U (ze U (zf ?_))
    have hkl2:(zfs y x).length=1:=by simp[zfs,hk]
    refine za (Om U ?_)
    refine Oq (zA zbk U (vs:=[_]) U (css:=[_]) ⟨U,Tt⟩ U U (cs:=[_]) U U ?_)
    intro b28 w28 e28 n28 c28 k28
    refine Oq (yr zbk y7 U U (zB.chg0 huB c28) (zB.of_blk (n:=1) (c:=bv [0]) k28 U (by simp[maxLen]) (zcX _)) (by simp only[maxLen];omega) (by omega) U ?_)
    intro v29 w29 i29 c29 o29 z29
    refine Oa U (E5 2 7 17 18 19 U ?_)
    have hcz:zk (zu u') wA w29:=(((zk.refl (zu u') wA).trans c28).transS c29)
    have hwz:=(hcx.trans hcB).own hcz hfu
    have hs1:=hcx.size
    have hs2:=hcB.size
    have hs3:wA.heap.size≤w28.heap.size:=c28.size
    refine zI ?_
    repeat first|refine te ?_|refine bo rfl ?_
    refine zq _ ?_
    refine za ?_
    refine Og (zG U U (by omega)) U ?_
    refine Om U (N5 2 7 17 18 19 U ?_)
    refine⟨l.length-(j+1),by omega,j+1,v29,rfl,by omega,rfl,?_,yt o29 hfu (by omega),hwz⟩
    rw[zic hy hx,show zfs y x=[0] by simp[zfs,hk]]
    refine zdA.push i29 ?_ ?_
    ·rfl
    rfl
   refine za (Od zal U (Ol zbS U (kA.cell' U) ?_))
   refine Og (vf (zy U U) (by simp[hk])) U ?_
   refine E8 2 7 8 9 17 18 19 26 U (zb U (zm ?_))
   obtain⟨f,g,q,hgk,hbf,hlay⟩:=znX hfy hk hxr
   have hkl2:(zfs y x).length=(zkG y x).length+1:=by simp[zfs,hk]
   refine Sr (Od yp U (Ol za9 U (k2.cell' U) (Om U ?_)))
   refine Og (zi zaO zad U U _ U (show j<s.cols.length by omega)) U ?_
   refine Og (zh zcI zad U U hcellc) U ?_
   refine Oq (zF zk0 U U ?_)
   intro b10 w10 e10 n10 c10 k10
   refine Oq (zt zad U U U U k10 (by simp[Col.cs]) (Col.one y) ?_)
   intro wB nB cB kB
   refine E7 2 7 9 10 17 18 19 U ?_
   have kB:zO wB b10 114 y.cs:=kB
   have hcC:zk [] wA wB:=c10.own cB (by intro y hy;simp at hy;omega)
   have kA:=kA.chg0 hcC
   have huC:=zB.chg0 huB hcC
   have hd:zk (zu u') wB wB.drew:=zk.drew _ _
   have hbu:b9∉zu u':=fun hm=>zB.apart huC kA rfl b9 hm (by simp)
   have hbv:b10∉zu u':=fun hm=>zB.apart huC kB rfl b10 hm (by simp)
   refine zH (fun wz=>zk (zu u') wB wz) mix (by kernel_rfl) hd ?_
   refine Tm U ?_
   refine zaR U (gn U) (zA zbk U (vs:=[_]) U (css:=[_]) ⟨U,Tt⟩ U U (cs:=[_]) U U ?_)
   intro b36 w36 e36 n36 c36 k36
   refine⟨.inl (hd.trans c36),?_⟩
   refine zaR U (gn U) (yr zbk y7 U U (zB.chg0 huC ((zk.drew [] _).trans c36)) (zB.of_blk (n:=1) (c:=bv [1]) k36 U (by simp[maxLen]) (zcX _)) (by simp only[maxLen];omega) (by omega) U ?_)
   intro v37 w37 i37 c37 o37 z37
   refine⟨.inl ((hd.trans c36).transS c37),?_⟩
   refine Tc zwN U U U (zqL _) ?_
   rintro v38 w38⟨b38,rfl,h38,k38,c38⟩
   refine⟨.inl (((hd.trans c36).transS c37).trans c38),?_⟩
   refine Td zfI U (Tr (fun wz hz=>zg zjK U ((kB.chg hz hbv).cell' U)) U ?_)
   refine zaR U (gn U) (St.vl (zdz (κ:=zaP .i64) zkP (z0 zaN) zk2 U U k38 hgk U) U U ?_)
   refine⟨.inl (((hd.trans c36).transS c37).trans c38),?_⟩
   refine Tp (fun _=>zir zwk U U) U (Tr (fun wz hz=>zh zcI zad U U (zv.of_blk0 (kB.chg hz hbv))) U (Tr (fun wz hz=>zh zaJ ym U U (zv.of_blk0 (kA.chg hz hbu))) U ?_))
   refine Tc hbf U U U (hlay _) ?_
   rintro v45 w45⟨i45,f45,c45⟩
   refine⟨.inl ((((hd.trans c36).transS c37).trans c38).trans c45),?_⟩
   refine zaR U (gn U) (yr zbk y7 U U (zB.chg0 (zB.chg0 i37 c38) c45) i45 (by simp only[maxLen];omega) (by omega) U ?_)
   intro v46 w46 i46 c46 o46 z46
   refine⟨.inl (((((hd.trans c36).transS c37).trans c38).trans c45).trans' c46 (zvN o37 c36.size)),?_⟩
   refine Ta U ?_
   refine zdI [2,7,17,18,19] (F':=[(2,_),(7,_),(17,_),(18,_),(19,_)]) U ?_
   refine zl ?_
   have hcz:zk (zu u') wB w46:=((((hd.trans c36).transS c37).trans c38).trans c45).trans' c46 (zvN o37 c36.size)
   have hwz:=((hcx.trans hcB).trans hcC).own hcz hfu
   have hs1:=hcx.size
   have hs2:=hcB.size
   have hs0:=hcC.size
   have hs3:wB.heap.size≤w36.heap.size:=c36.size
   have hs4:=c37.size
   have hs5:=c38.size
   have hs6:=c45.size
   refine za ?_
   refine Og (zG U U (by omega)) U ?_
   refine Om U (N5 2 7 17 18 19 U ?_)
   refine⟨l.length-(j+1),by omega,j+1,v46,rfl,by omega,rfl,?_,yt o46 (yt o37 hfu (by omega)) (by omega),hwz⟩
   rw[zic hy hx,show zfs y x=1::zkG y x by simp[zfs,hk],List.append_cons]
   refine zdA.push i46 ?_ ?_
   ·rw[Sa];rfl
   rw[yF]
  refine zI ?_
  repeat first|refine te ?_|refine bo rfl ?_
  refine zq _ ?_
  have he:l.length≤j:=by have:=of_decide_eq_false hF;omega
  rw[Tl he,Tl (by omega)]at hu
  refine Sr (Om U (Oa U (Oa U (E2 4 5 U (zj ?_)))))
  repeat first|refine tr ?_|refine br ?_
  refine zcF U U U ?_
  have hs1:=hcA.size
  rw[hr,if_pos rfl]
  exact⟨_,U,hu,fun b hb=>Nat.le_trans hs1 (hfu b hb),hcA.trans hcx⟩
 refine za (Om U ?_)
 refine Og (vt (zJ U U) (by simp[hr])) U ?_
 refine E4 1 2 6 15 U (ze U (Sr (Om U (Oa U (Oa U (E2 4 5 U (zj ?_)))))))
 repeat first|refine tr ?_|refine br ?_
 refine zcF U U U ?_
 rw[if_neg hr]
 exact⟨_,rfl,zB.nil _ _ _,by simp[zu],c2.trans c13⟩
end Go.Wk
