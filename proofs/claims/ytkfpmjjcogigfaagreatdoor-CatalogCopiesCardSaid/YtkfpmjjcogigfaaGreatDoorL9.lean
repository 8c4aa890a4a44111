/- joined texts -/
import Derived.Test.YtkfpmjjcogigfaaGreatDoorL8
set_option linter.all false
namespace Go.Wk
open Go.Proofs
set_option linter.unusedSectionVars false
variable [Lw]
set_option maxRecDepth 10000
theorem ziu(w:Wl):zS TP 216 #[.bool true] w fun r w'=>r=.tuple #[]∧w'=w:=by
 refine A1 Tryz.func216 U U ?_
 refine Sr (Om U (Og (zC U) U (E1 3 U (zb U (zT ?_)))))
 refine zgL U ?_
 exact⟨U,U⟩
theorem zbn.apart{w:Wl}{e k:Nat}{v:Va}{len:Nat}{xs:LA}(h:zbn w e k v len xs){b:Nat}{e':TypeId}{c:LA}(hb:zO w b e' c)(hne:Nat.beq e e'=false):∀x∈zu v,x∉[b]:=by
 rcases h with⟨rfl,_⟩|⟨b',off,cap,c',fr,rfl,h,_⟩
 ·simp[zu]
 intro x hx hm
 simp[zu]at hx
 simp at hm
 subst hx hm
 unfold zO at hb
 rw[h]at hb
 cases hb
 simp at hne
def zaq(w:Wl)(t:Va)(l:List UInt8)(b:Nat):Prop:=t=Pt b∧∃v,zO w b 333 [v]∧zbn w 5 1 v l.length (bv l)∧b∉zu v
theorem zaq.chg0{w w':Wl}{t:Va}{l:List UInt8}{b:Nat}(h:zaq w t l b)(hc:zk [] w w'):zaq w' t l b:=
 let ⟨h1,v,h2,h3,h4⟩:=h; ⟨h1,v,h2.chg0 hc,h3.chg0 hc,h4⟩
theorem zaq.lt{w:Wl}{t:Va}{l:List UInt8}{b:Nat}(h:zaq w t l b):b<w.heap.size:=
 let ⟨_,_,h2,_⟩:=h;h2.lt
theorem zaq.chg{w w':Wl}{t:Va}{l:List UInt8}{b:Nat}{S:List Nat}(h:zaq w t l b)(hc:zk S w w')(hS:∀y∈S,y≠b∧∃e c,zO w y e c∧Nat.beq 5 e=false):zaq w' t l b:=by
 obtain⟨h1,v,h2,h3,h4⟩:=h
 refine⟨h1,v,h2.chg hc (fun hm=>(hS b hm).1 U),h3.chg hc (fun y hy hm=>?_),h4⟩
 obtain⟨_,e,c,hb,hne⟩:=hS y hm
 exact h3.apart hb hne y hy (by simp)
theorem zu5{w:Wl}{p:Option Addr}{n cap:Nat}{l m:List UInt8}{z:Nat}(h:zbn w 5 1 (.slice p n cap) (l++m).length (bv (l++m)))(hz:l.length=z)(hc:(l++m).length≤cap)(k:Nat)(h1:z≤k)(h2:k≤cap):zbn w 5 1 (cut p 0 z k 1) l.length (bv l):=by
 obtain⟨p',c',he,_⟩:=h.val
 cases he
 subst hz
 have:=h.cut (l:=0) (h:=l.length) (m:=k) (by omega) h1 h2 (by simp)
 rw[yF]at this
 simpa[zdf] using this
theorem zu8{w:Wl}{p:Option Addr}{n cap:Nat}{l m:List UInt8}{z:Nat}(h:zbn w 5 1 (.slice p n cap) (l++m).length (bv (l++m)))(hz:l.length=z)(hc:(l++m).length≤cap):zbn w 5 1 (cut p z n cap 1) m.length (bv m):=by
 obtain⟨p',c',he,_⟩:=h.val
 cases he
 subst hz
 have:=h.cut (l:=l.length) (h:=(l++m).length) (m:=cap) (by simp) hc (Nat.le_refl _) (by simp)
 rw[yF]at this
 simp only[Nat.mul_one,Sa,Nat.add_sub_cancel_left]at this
 rw[List.drop_left' (zdf _),Tl (by rw[zdf];omega)]at this
 simpa using this
theorem zzb(v:Va)(l m:List UInt8)(w:Wl)(z:Nat)(hz:l.length=z)(hv:zbn w 5 1 v (l++m).length (bv (l++m))):zS TP 321 #[v,Ii z] w fun r w'=>zbn w' 5 1 r l.length (bv l)∧(∀x∈zu r,x∈zu v)∧w'=w:=by
 obtain⟨p,cap,rfl,hcap⟩:=hv.val
 have hzl:z≤(l++m).length:=by rw[Sa];omega
 refine A2 Tryz.func321 U U ?_
 refine Sr (Oa U (E2 0 1 U (Sr (Om U (Om U (On zqA U ?_))))))
 refine Og (vt (za7 U U) (dt (by omega))) U ?_
 refine Oc zle U U U (ziu _) ?_
 rintro v9 w9⟨rfl,rfl⟩
 refine E2 0 1 U (Sr (Om U (Om U (Om U ?_))))
 refine Og (zgK zqA sz5 U U U _ _ U U (Nat.le_refl _) (by omega)) U ?_
 refine Oa U (E1 4 U (zj ?_))
 refine zw U U ?_
 exact⟨zu5 hv hz hcap _ (Nat.le_refl _) (by omega),zB.cutBlk,rfl⟩
theorem zh9(t:Va)(b:Nat)(l m:List UInt8)(w:Wl)(z:Nat)(hz:l.length=z)(ht:zaq w t (l++m) b):zS TP 252 #[t,Ii z] w fun r w'=>zbn w' 5 1 r l.length (bv l)∧zaq w' t m b∧zk [b] w w':=by
 obtain⟨rfl,v,hb,hv,hbv⟩:=ht
 obtain⟨p,cap,rfl,hcap⟩:=id hv.val
 have hzl:z≤(l++m).length:=by rw[Sa];omega
 refine A2 Tryz.func252 U U ?_
 refine Sr (Oa U (E2 0 1 U (Sr (Om U (Og (zx U) U (Od zhM U (Ol zp7 U (hb.cell' U) (Om U ?_))))))))
 refine Oc zBJ U U U (zzb _ l m _ z hz hv) ?_
 rintro v11 w11⟨i11,q11,rfl⟩
 refine Oa U (E3 0 1 5 U (Sr (Om U (Om U (Og (zx U) U (Od zhM U (Ol zp7 U (hb.cell' U) (Om U ?_))))))))
 refine Og (zbe zqA sz5 U U _ U (by omega)) U ?_
 refine Og (zx U) U (Od zhM U ?_)
 refine Oq (zt zAD U U U U hb (by simp) (by intro u hu;rcases Mc hu with rfl|hu;rfl;cases hu) ?_)
 intro wA nA cA kA
 refine E1 5 U (Sr (Om U (Oa U (E1 4 U (zj ?_)))))
 refine zw U U ?_
 have hbA:∀x∈zu (cut p z (l++m).length cap 1),x∉[b]:=fun x hx hm=>hbv (by rw[←List.mem_singleton.1 hm];exact zB.cutBlk x hx)
 exact⟨i11.chg cA (fun x hx hm=>hbv (by rw[←List.mem_singleton.1 hm];exact q11 x hx)),⟨rfl,_,kA,(zu8 hv hz hcap).chg cA hbA,fun hm=>hbA b hm (by simp)⟩,cA⟩
theorem zuU(c:Col)(x:Int)(t:Va)(b:Nat)(m:List UInt8)(w:Wl)(hz:c.s=1∨c.s=2∨c.s=4∨c.s=8)(hx:zbV c.s≤x∧x ≤ -(zbV c.s+1))(ht:zaq w t (be (x%18446744073709551616).toNat c.s.toNat++m) b) :
 zS TP 250 #[c.v,t] w fun r w'=>r=(zX.mk 1 x 0 e0).v∧zaq w' t m b∧zk [b] w w':=by
 obtain⟨z,hz1,hz2⟩:∃z:Nat,c.s=z∧(z=1∨z=2∨z=4∨z=8):=⟨c.s.toNat,by omega,by omega⟩
 rw[hz1]at ht hx
 have hib:=zki (i:=x) hz2 hx
 refine A2 Tryz.func250 U U ?_
 refine Sr ?_
 refine Ob U U ?_
 intro b2 w2 e2 n2 c2 k2
 refine Oq (zF zdl U U ?_)
 intro b4 w4 e4 n4 c4 k4
 refine E3 1 2 4 U (Sr (Om U (Od zbG U ?_)))
 refine Ol ag3 U ((k2.chg0 c4).cell' (show _=some (Value.int .i64 (z:Int)) by rw[←hz1];rfl)) ?_
 refine Oc zkZ U U U (zh9 t b _ m _ z (za5 _ _) (ht.chg0 (c2.trans c4))) ?_
 rintro v12 w12⟨i12,t12,c12⟩
 refine Oc zwR U U U (ziN _ _ _ i12 (by rw[za5];omega)) ?_
 rintro v13 w13⟨rfl,rfl⟩
 refine Om U (Oe U U (Oe U U (Oa U (Oa U (E3 2 4 5 U ?_)))))
 have hbl:=ht.lt
 have hs2:=c2.size
 have hs4:=c4.size
 have k2:=(k2.chg0 c4).chg c12 (by simp;omega)
 have k4:=k4.chg c12 (by simp;omega)
 refine Sr (Od zbG U ?_)
 refine Ol ag3 U (k2.cell' (show _=some (Value.int .i64 (z:Int)) by rw[←hz1];rfl)) ?_
 refine Og (zdG U U (by omega)) U ?_
 refine Og (yM U U (by omega)) U ?_
 refine Oa U (E3 4 5 7 U (zf ?_))
 rw[ziD]
 refine za (Om U (Og (yj zeU zbC U U) U (Om U ?_)))
 refine Og (zeu (64-8*z) U U (by omega) (by simp only[IntKind.bits];omega) U) U ?_
 refine Om U ?_
 refine Og (zcw (64-8*z) U U (by omega) (by simp only[IntKind.bits];omega) hib) U ?_
 refine Og (zL zj4 zdl U (vs:=[_,_]) U (css:=[_,_]) ⟨U,U,Tt⟩ U U (cs:=[_,_,_,_]) U) U ?_
 refine Oq (zt ym U U U U k4 (by simp) (zX.one ⟨1,x,0,e0⟩) ?_)
 intro wA nA cA kA
 refine E1 4 U (zj ?_)
 refine zf0 U zaJ ym U U (zv.of_blk0 kA) ?_
 have hcz:zk [b] w wA:=((((zk.refl [b] w).trans c2).trans c4).transS c12).trans' cA (by intro y hy;simp at hy;subst hy;right;omega)
 exact⟨rfl,t12.chg cA (by intro y hy;simp at hy;subst hy;exact⟨by omega,_,_,k4,rfl⟩),hcz⟩
theorem zwu(c:Col)(n:Nat)(t:Va)(b:Nat)(m:List UInt8)(w:Wl)(hz:c.s=1∨c.s=2∨c.s=4∨c.s=8)(hx:(n:Int)<2^(8*c.s.toNat))(ht:zaq w t (be n c.s.toNat++m) b) :
 zS TP 255 #[c.v,t] w fun r w'=>r=(zX.mk 2 0 n e0).v∧zaq w' t m b∧zk [b] w w':=by
 obtain⟨z,hz1,hz2⟩:∃z:Nat,c.s=z∧(z=1∨z=2∨z=4∨z=8):=⟨c.s.toNat,by omega,by omega⟩
 rw[hz1]at ht hx
 have hn:n%256^z=n:=by
  refine Nat.mod_eq_of_lt ?_
  rcases hz2 with rfl|rfl|rfl|rfl<;>simp only[Int.toNat_natCast,Nat.reduceMul,Nat.reducePow,Int.reducePow]at hx ⊢<;>omega
 refine A2 Tryz.func255 U U ?_
 refine Sr ?_
 refine Ob U U ?_
 intro b2 w2 e2 n2 c2 k2
 refine Oq (zF zdl U U ?_)
 intro b4 w4 e4 n4 c4 k4
 refine E3 1 2 4 U (Sr (Om U (Od zbG U ?_)))
 refine Ol ag3 U ((k2.chg0 c4).cell' (show _=some (Value.int .i64 (z:Int)) by rw[←hz1];rfl)) ?_
 refine Oc zkZ U U U (zh9 t b _ m _ z (za5 _ _) (ht.chg0 (c2.trans c4))) ?_
 rintro v11 w11⟨i11,t11,c11⟩
 refine Oc zwR U U U (ziN _ _ _ i11 (by rw[za5];omega)) ?_
 rintro v12 w12⟨rfl,rfl⟩
 refine Om U (Oe U U (Oe U U (Oa U (Oa U (E2 4 5 U ?_)))))
 have hbl:=ht.lt
 have hs2:=c2.size
 have hs4:=c4.size
 have k4:=k4.chg c11 (by simp;omega)
 refine zf ?_
 rw[ziD,hn]
 refine za (Om U ?_)
 refine Og (zem zj4 zdl U (qs:=[(0,_),(2,_)]) U (css:=[_,_]) ⟨U,U,Tt⟩ (cs:=[_,_,_,_]) U) U ?_
 refine Oq (zt ym U U U U k4 (by simp) (zX.one ⟨2,0,n,e0⟩) ?_)
 intro wA nA cA kA
 refine E1 4 U (zj ?_)
 refine zf0 U zaJ ym U U (zv.of_blk0 kA) ?_
 have hcz:zk [b] w wA:=((((zk.refl [b] w).trans c2).trans c4).transS c11).trans' cA (by intro y hy;simp at hy;subst hy;right;omega)
 exact⟨rfl,t11.chg cA (by intro y hy;simp at hy;subst hy;exact⟨by omega,_,_,k4,rfl⟩),hcz⟩
theorem zwc(c:Col)(x:Int)(t:Va)(b:Nat)(m:List UInt8)(w:Wl)(hx:x=0∨x=1)(ht:zaq w t ([UInt8.ofNat x.toNat]++m) b) :
 zS TP 257 #[c.v,t] w fun r w'=>r=(zX.mk 3 x 0 e0).v∧zaq w' t m b∧zk [b] w w':=by
 have hx1:((UInt8.ofNat x.toNat).toNat:Int)=x:=by rcases hx with rfl|rfl<;>rfl
 refine A2 Tryz.func257 U U ?_
 refine Sr ?_
 refine Ob U U ?_
 intro b2 w2 e2 n2 c2 k2
 refine Oq (zF zdl U U ?_)
 intro b4 w4 e4 n4 c4 k4
 refine E2 1 4 U (Sr (Om U ?_))
 refine Oc zkZ U U U (zh9 t b _ m _ 1 U (ht.chg0 (c2.trans c4))) ?_
 rintro v7 w7⟨i7,t7,c7⟩
 obtain⟨bb,off,cap,rfl,hcell⟩:=i7.at1 (i:=0) (u:=.int .u8 x) (by rcases hx with rfl|rfl<;>rfl)
 refine Og (zi y7 sz5 U U 0 U (by simp)) U ?_
 refine Ol ag5 U hcell (Oa U (E2 4 5 U ?_))
 have hbl:=ht.lt
 have hs2:=c2.size
 have hs4:=c4.size
 have k4:=k4.chg c7 (by simp;omega)
 refine Sr (Om U ?_)
 refine Og (vt (za7 U U) (dt (by omega))) U ?_
 refine Oc zle U U U (ziu _) ?_
 rintro v12 w12⟨rfl,rfl⟩
 refine E2 4 5 U (Sr (Om U ?_))
 refine Og (yj zeU zaZ U (show IntKind.i64.wrap x=x by rcases hx with rfl|rfl<;>rfl)) U ?_
 refine Og (zL zj4 zdl U (vs:=[_,_]) U (css:=[_,_]) ⟨U,U,Tt⟩ U U (cs:=[_,_,_,_]) U) U ?_
 refine Oq (zt ym U U U U k4 (by simp) (zX.one ⟨3,x,0,e0⟩) ?_)
 intro wA nA cA kA
 refine E1 4 U (zj ?_)
 refine zf0 U zaJ ym U U (zv.of_blk0 kA) ?_
 have hcz:zk [b] w wA:=((((zk.refl [b] w).trans c2).trans c4).transS c7).trans' cA (by intro y hy;simp at hy;subst hy;right;omega)
 exact⟨rfl,t7.chg cA (by intro y hy;simp at hy;subst hy;exact⟨by omega,_,_,k4,rfl⟩),hcz⟩
theorem zCT(t:Va)(b:Nat)(s:By)(m:List UInt8)(w:Wl)(hs:s.size≤1048576)(hm:m.length≤1048576)(ht:zaq w t (zcv s++m) b) :
 zS TP 214 #[t,.func (.func 151) #[] #[]] w fun r w'=>r=.string s∧zaq w' t m b∧zk [b] w w':=by
 obtain⟨rfl,v,hb,hv,hbv⟩:=id ht
 refine A2 Tryz.func214 U U ?_
 refine Sr (Oa U (E2 0 1 U (Sr (Om U (Om U (Og (zx U) U (Od zhM U (Ol zp7 U (hb.cell' U) ?_))))))))
 refine Oc zzA U U U (zoA v s m _ hs hm hv) ?_
 rintro v14 w14⟨rfl,c14⟩
 refine Om U (Oe U U (Oe U U (Oe U U (Oa U (Oa U (Oa U (E4 0 5 6 7 U (Sr (Om U ?_)))))))))
 refine Og (vt (zy U U) (dt (by omega))) U ?_
 refine Oc zle U U U (ziu _) ?_
 rintro v20 w20⟨rfl,rfl⟩
 refine E3 0 5 6 U (Sr (Om U (Om U ?_)))
 refine Oc zkZ U U U (zh9 _ b (zcv s) m _ (zcv s).length U (ht.chg0 c14)) ?_
 rintro v23 w23⟨i23,t23,c23⟩
 refine E1 5 U (Sr (Om U (Oa U (E1 4 U (zj ?_)))))
 refine zw U U ?_
 exact⟨U,t23,((zk.refl [b] w).trans c14).transS c23⟩
theorem zwj(c:Col)(s:By)(t:Va)(b:Nat)(m:List UInt8)(w:Wl)(hs:s.size≤200)(hz:s.size≤c.s)(hm:m.length≤1048576)(ht:zaq w t (zcv s++m) b) :
 zS TP 260 #[c.v,t] w fun r w'=>r=(zX.mk 4 0 0 s).v∧zaq w' t m b∧zk [b] w w':=by
 refine A2 Tryz.func260 U U ?_
 refine Sr ?_
 refine Ob U U ?_
 intro b2 w2 e2 n2 c2 k2
 refine Oq (zF zdl U U ?_)
 intro b4 w4 e4 n4 c4 k4
 refine E3 1 2 4 U (Sr (Om U ?_))
 refine Oc zCk U U U (zCT t b s m _ (by omega) hm (ht.chg0 (c2.trans c4))) ?_
 rintro v7 w7⟨rfl,t7,c7⟩
 refine Oa U (E3 2 4 5 U ?_)
 have hbl:=ht.lt
 have hs2:=c2.size
 have hs4:=c4.size
 have k2:=(k2.chg0 c4).chg c7 (by simp;omega)
 have k4:=k4.chg c7 (by simp;omega)
 refine Sr (Om U (Og (yV st9 U) U (Od zbG U (Ol ag3 U (k2.cell' U) ?_))))
 refine Og (vt (za7 U U) (dt (by omega))) U ?_
 refine Oc zle U U U (ziu _) ?_
 rintro v13 w13⟨rfl,rfl⟩
 refine E2 4 5 U (Sr (Om U ?_))
 refine Og (zem zj4 zdl U (qs:=[(0,_),(3,_)]) U (css:=[_,_]) ⟨U,U,Tt⟩ (cs:=[_,_,_,_]) U) U ?_
 refine Oq (zt ym U U U U k4 (by simp) (zX.one ⟨4,0,0,s⟩) ?_)
 intro wA nA cA kA
 refine E1 4 U (zj ?_)
 refine zf0 U zaJ ym U U (zv.of_blk0 kA) ?_
 have hcz:zk [b] w wA:=((((zk.refl [b] w).trans c2).trans c4).transS c7).trans' cA (by intro y hy;simp at hy;subst hy;right;omega)
 exact⟨rfl,t7.chg cA (by intro y hy;simp at hy;subst hy;exact⟨by omega,_,_,k4,rfl⟩),hcz⟩
theorem zoG{c:Col}{x:zX}(h:yS c x=0)(hk:x.k≠0):∃f g k,zbb zpa c.t=some (zkM f g k)∧zn TP g=true∧∀w t b m,m.length≤1048576→zaq w t (zkG c x++m) b→zS TP g #[c.v,t] w fun r w'=>r=x.v∧zaq w' t m b∧zk [b] w w':=by
 obtain⟨hr,hc,_,h2⟩:=zca h
 obtain⟨hkt,hw⟩:=h2 hk
 obtain⟨hf,hb⟩:=zd5 hc
 obtain⟨_,hbr,hm⟩:=zbN hf
 obtain⟨s1,s2,s3,s4⟩:=zet hr
 obtain⟨k,i,u,by'⟩:=x
 unfold zkG
 simp only[zbQ]at hw
 simp only[ze9,zX.mk.injEq]at hbr
 rcases s4 with e|e|e|e<;>simp only[e, ↓reduceIte,Int.reduceEq]<;>simp only[e, ↓reduceIte,Int.reduceEq,decide_eq_false_iff_not]at hw hkt<;>subst hkt<;>simp at hbr<;>(try obtain⟨h1,h2⟩:=hbr)<;>subst_vars
 ·exact⟨_,_,_,rfl,zBb,fun w t b m _ ht=>zuU c i t b m w (s1 (.inl e)) (by omega) ht⟩
 ·exact⟨_,_,_,rfl,zAc,fun w t b m _ ht=>zwu c u t b m w (s1 (.inr e)) (by omega) ht⟩
 ·exact⟨_,_,_,U,zAY,fun w t b m _ ht=>zwc c i t b m w (hm U) ht⟩
 exact⟨_,_,_,rfl,zA1,fun w t b m hl ht=>zwj c by' t b m w hb (by omega) hl ht⟩
theorem zrF{cs:List Col}{xs:List zX}{j:Nat}{c:Col}{x:zX}(hc:cs[j]?=some c)(hx:xs[j]?=some x):zcT (cs.drop j) (xs.drop j)=zfs c x++zcT (cs.drop (j+1)) (xs.drop (j+1)):=by
 obtain⟨h1,rfl⟩:=Gs hc
 obtain⟨h2,rfl⟩:=Gs hx
 rw[List.drop_eq_getElem_cons h1,List.drop_eq_getElem_cons h2]
 rfl
theorem zjE:∀{cs:List Col} {xs:List zX} (j:Nat),zbh cs xs=0→zbh (cs.drop j) (xs.drop j)=0
 |_,_,0,h=>by simpa using h
 |[],_,_+1,_=>by simp[zbh]
 |_::_,[],_+1,_=>by simp[zbh]
 |c::cs,x::xs,j+1,h=>by
  unfold zbh at h
  by_cases h1:yS c x=0
  ·rw[if_neg (by simp[h1])]at h
   exact zjE j h
  rw[if_pos h1]at h;exact absurd h h1
theorem zaq.chgSl{w w':Wl}{t o:Va}{l:List UInt8}{b e k n:Nat}{xs:LA}(h:zaq w t l b)(ho:zB w e k o n xs)(h1:Nat.beq 5 e=false)(h2:Nat.beq e 333=false)(hc:zk (zu o) w w'):zaq w' t l b:=by
 refine h.chg hc fun y hy=>?_
 obtain⟨_,v,hb,_⟩:=h
 rcases ho with⟨rfl,_⟩|⟨b',off,cap,c,rfl,hs⟩
 ·simp[zu]at hy
 simp[zu]at hy
 subst hy
 exact⟨hs.blk.ne hb h2,_,_,hs.blk,h1⟩
theorem zaq.nl{w:Wl}{t:Va}{l:List UInt8}{b:Nat}(h:zaq w t l b):Nl w [b]:=by
 obtain⟨_,v,hb,hv,_⟩:=h
 obtain⟨p,c,rfl,_⟩:=hv.val
 exact Nl.one hb (by intro u hu;simp at hu;subst hu;rfl)
theorem zCc(c k u t:Va)(s:yK)(l:List zX)(b:Nat)(w:Wl)(hs:zai w c k u s)(hr:zaf s l=0)(ht:zaq w t (zcT s.cols l) b) :
 zS TP 234 #[t,.agg #[c,k,u]] w fun r w'=>zcc w' r l∧(∀y∈zu r,w.heap.size≤y)∧zaq w' t [] b∧zk [b] w w':=by
 obtain⟨hrs,hlen,hfit⟩:=zas hr
 have h8:=(zZ hrs).1
 have hbl:=ht.lt
 obtain⟨pc,cc,rfl,hcc⟩:=zN.val hs.cols
 refine A2 Tryz.func234 U U ?_
 refine Sr ?_
 refine Ob U U ?_
 intro b3 w3 e3 n3 c3 k3
 refine Oa U (E3 0 3 4 U (zf (Sr (Od yp U (Ol za9 U (k3.cell' U) (On zaO U (Om U (E5 0 4 10 11 12 U (zp ?_)))))))))
 refine zQ [0,4,10,11,12] (fun m F wx=>∃(j:Nat) (o:Va),m=s.cols.length-j∧j≤s.cols.length∧F=[(0,t),(4,o),(10,.slice pc s.cols.length cc),(11,Ii s.cols.length),(12,Ii j)]∧yl wx 111 4 zX.cs o (l.take j)∧(∀b∈zu o,w3.heap.size≤b)∧zaq wx t (zcT (s.cols.drop j) (l.drop j)) b∧zk [b] w3 wx) (m:=s.cols.length-0) ⟨0,_,rfl,Zl _,rfl,zB.nil _ _ _,by simp[zu],ht.chg0 c3,zk.refl _ _⟩ ?_
 rintro m F wx⟨j,o,rfl,hj,rfl,ho,hfo,htx,hcx⟩
 refine Sr (Og (zz U U) U (E6 0 4 10 11 12 13 U (zf ?_)))
 refine zP U (fun hT=>?_) (fun hF=>?_)
 ·refine zm ?_
  have hlt:j<s.cols.length:=by have:=of_decide_eq_true hT;omega
  have hx:l[j]?=some (l[j]'(by omega)):=by simp[hlt,hlen]
  have hy:s.cols[j]?=some s.cols[j]:=by simp[hlt]
  generalize l[j]'(by omega)=x at hx
  generalize s.cols[j]=y at hy
  have hfy:=zhz hfit hy hx
  have hel:=zkt hfy
  have hrl:=ze4 (zjE (j+1) hfit)
  rw[List.length_drop]at hrl
  rw[zrF hy hx]at htx
  have htl:(l.take j).length=j:=by rw[List.length_take];omega
  have hcols:zim wx (.slice pc s.cols.length cc) s.cols:=zN.chgC (zN.chg0 hs.cols c3) hcx zvj (ht.chg0 c3).nl
  obtain⟨bc,offc,capc,hvc,hcellc⟩:=zN.at zaE hcols hy
  cases hvc
  refine zf (zp (Sr ?_))
  refine Og (zi zaO zad U U _ U hlt) U ?_
  refine Og (zh zcI zad U U hcellc) U ?_
  refine Oq (zF zk0 U U ?_)
  intro b6 w6 e6 n6 c6 k6
  refine Oq (zt zad U U U U k6 (by simp[Col.cs]) (Col.one y) ?_)
  intro wA nA cA kA
  refine E6 0 4 6 10 11 12 U ?_
  have kA:zO wA b6 114 y.cs:=kA
  have hcA:zk [] wx wA:=c6.own cA (by intro y hy;simp at hy;omega)
  have hbx:=htx.lt
  have hob:∀z∈zu o,z∉[b]:=by
   obtain⟨_,v,hv,_⟩:=htx
   exact zB.apart ho hv U
  refine zf ?_
  by_cases hk:x.k=0
  ·rw[show zfs y x=[0] by simp[zfs,hk]]at htx
   have hyz:y.z=true:=(zca hfy).2.2.1 hk
   refine za (Om U ?_)
   refine Oc zkZ U U U (zh9 t b [0] _ _ 1 U (htx.chg0 hcA)) ?_
   rintro v17 w17⟨i17,t17,c17⟩
   obtain⟨bb,off,cap,rfl,hcell⟩:=i17.at1 (i:=0) (u:=.int .u8 0) rfl
   refine Og (zi y7 sz5 U U 0 U (by simp)) U ?_
   refine Ol ag5 U hcell (Oa U (E7 0 4 6 7 10 11 12 U ?_))
   have kA:=kA.chg c17 (by simp;omega)
   refine Sr (Om U ?_)
   refine Og (vf (zy U U) (df (by omega))) U ?_
   refine Om U (Ov U ?_)
   refine Oi U (vt (zy U U) (dt (by omega))) ?_
   refine Ov U (Oi U (zd zfB U) ?_)
   refine Oi U (zg ag4 U (kA.cell' (show _=some (Value.bool true) by rw[←hyz];rfl))) ?_
   refine Oi U (zD U U) (Of U ?_)
   refine Oc zle U U U (ziu _) ?_
   rintro v30 w30⟨rfl,rfl⟩
   refine E7 0 4 6 7 10 11 12 U (Sr ?_)
   refine Oq (zF zdl U U ?_)
   intro b8 w8 e8 n8 c8 k8
   refine E8 0 4 6 7 8 10 11 12 U (zf (Sr (Om U ?_)))
   refine Og (vf (zy U U) (df (by omega))) U ?_
   refine E8 0 4 6 8 10 11 12 32 U (zb U (zm ?_))
   have ho30:yl w30 111 4 zX.cs o (l.take j):=yl.chg (yl.chg0 ho hcA) c17 hob
   have hnull:x=zX.null:=by
    obtain⟨k,i,u,by'⟩:=x
    have:=(zbN (zd5 (zca hfy).2.1).1).2.1
    simp only at hk
    subst hk
    simpa[ze9,zX.null] using this
   subst hnull
   have k8:zO w8 b8 111 zX.null.cs:=k8
   have hcB:zk [b] wx w8:=((zk.refl [b] wx).trans hcA).transS c17 |>.trans c8
   refine za (Om U (Og (zh zaJ ym U U (zv.of_blk0 k8)) U ?_))
   refine Oq (zA zj2 U (vs:=[_]) U (css:=[_]) ⟨U,Tt⟩ U U (cs:=[_,_,_,_]) U U ?_)
   intro b43 w43 e43 n43 c43 k43
   refine Oq (yr zj2 yE U U (yl.chg0 (yl.chg0 ho30 c8) c43) (zB.of_blk (n:=1) k43 U (by simp[maxLen]) (zX.one _)) (by simp only[maxLen];omega) (by omega) U ?_)
   intro v44 w44 i44 c44 o44 z44
   refine Oa U (N5 0 4 10 11 12 U (zl ?_))
   have hs0:=hcx.size
   have hs1:=hcB.size
   have hs3:=c43.size
   have hwz:=hcx.trans' ((((zk.refl (zu o++[b]) wx).trans' hcB (by simp)).trans c43).trans' c44 (fun z hz=>.inl (by simp[hz]))) (by
    intro z hz
    rcases List.mem_append.1 hz with hz|hz
    ·exact .inr (hfo z hz)
    exact .inl hz)
   refine za ?_
   refine Og (zG U U (by omega)) U ?_
   refine Om U (N5 0 4 10 11 12 U ?_)
   refine⟨s.cols.length-(j+1),by omega,j+1,v44,rfl,by omega,rfl,?_,yt o44 hfo (by omega),?_,hwz⟩
   ·rw[List.take_add_one,hx]
    exact zN.push i44 U U
   exact((t17.chg0 c8).chg0 c43).chgSl (zB.chg0 (zB.chg0 ho30 c8) c43) U U c44
  rw[show zfs y x=1::zkG y x by simp[zfs,hk]]at htx
  refine za (Om U ?_)
  refine Oc zkZ U U U (zh9 t b [1] _ _ 1 U (htx.chg0 hcA)) ?_
  rintro v17 w17⟨i17,t17,c17⟩
  obtain⟨bb,off,cap,rfl,hcell⟩:=i17.at1 (i:=0) (u:=.int .u8 1) rfl
  refine Og (zi y7 sz5 U U 0 U (by simp)) U ?_
  refine Ol ag5 U hcell (Oa U (E7 0 4 6 7 10 11 12 U ?_))
  have kA:=kA.chg c17 (by simp;omega)
  refine Sr (Om U ?_)
  refine Og (vt (zy U U) (dt (by omega))) U ?_
  refine Om U (Ok U (Ok U (Ok U (Oh U U (Oh U U (Ok U (Ot U ?_)))))))
  refine Oc zle U U U (ziu _) ?_
  rintro v30 w30⟨rfl,rfl⟩
  refine E7 0 4 6 7 10 11 12 U (Sr ?_)
  refine Oq (zF zdl U U ?_)
  intro b8 w8 e8 n8 c8 k8
  refine E8 0 4 6 7 8 10 11 12 U (zf (Sr (Om U ?_)))
  refine Og (vt (zy U U) (dt (by omega))) U ?_
  refine E8 0 4 6 8 10 11 12 32 U (ze U ?_)
  obtain⟨f,g,q,hgk,hbf,hread⟩:=zoG hfy hk
  have hsz:=(((zk.refl [b] wx).trans hcA).transS c17).size
  have kA:=kA.chg0 c8
  refine zH (fun wz=>zk [] w8 wz) mix (by kernel_rfl) (zk.drew [] _) ?_
  refine Tc zwN U U U (zqL _) ?_
  rintro v33 w33⟨b33,rfl,h33,k33,c33⟩
  refine⟨.inl ((zk.drew [] _).trans c33),?_⟩
  refine Td zfI U (Tr (fun wz hz=>zg zjK U ((kA.chg0 hz).cell' U)) U ?_)
  refine zaR U (gn U) (St.vl (zdz (κ:=zaP .i64) zkP (z0 zaN) zk2 U U k33 hgk U) U U ?_)
  refine⟨.inl ((zk.drew [] _).trans c33),?_⟩
  refine Tp (fun _=>zir zuX U U) U (Tr (fun wz hz=>zh zcI zad U U (zv.of_blk0 (kA.chg0 hz))) U (Tm U ?_))
  refine Tc hbf U U U (hread _ t b _ (by omega) (t17.chg0 ((c8.trans (zk.drew [] _)).trans c33))) ?_
  rintro v40 w40⟨rfl,t40,c40⟩
  refine⟨.inr (by kernel_rfl),?_⟩
  refine zaR U (gn U) (zt ym U U U U (((k8.chg0 (zk.drew [] _)).chg0 c33).chg c40 (by simp;omega)) (by simp[zX.cs]) (zX.one x) ?_)
  intro wB nB cB kB
  refine⟨.inr (by kernel_rfl),?_⟩
  refine D6 0 4 8 10 11 12 U ?_
  have kB:zO wB b8 111 x.cs:=kB
  have hcB:zk [b] wx w8:=((zk.refl [b] wx).trans hcA).transS c17 |>.trans c8
  have hs0:=hcx.size
  have hs1:=hcB.size
  have hs2:=c33.size
  have hs3:=c40.size
  have hcD:zk [b] wx wB:=(((hcB.trans (zk.drew [] _)).trans c33).transS c40).trans' cB (by intro z hz;simp at hz;subst hz;right;omega)
  have hoB:yl wB 111 4 zX.cs o (l.take j):=yl.chg ho hcD hob
  refine za (Om U (Og (zh zaJ ym U U (zv.of_blk0 kB)) U ?_))
  refine Oq (zA zj2 U (vs:=[_]) U (css:=[_]) ⟨U,Tt⟩ U U (cs:=[_,_,_,_]) U U ?_)
  intro b43 w43 e43 n43 c43 k43
  refine Oq (yr zj2 yE U U (yl.chg0 hoB c43) (zB.of_blk (n:=1) k43 U (by simp[maxLen]) (zX.one _)) (by simp only[maxLen];omega) (by omega) U ?_)
  intro v44 w44 i44 c44 o44 z44
  refine Oa U (N5 0 4 10 11 12 U (zl ?_))
  have hs4:=c43.size
  have hs5:=hcD.size
  have hwz:=hcx.trans' ((((zk.refl (zu o++[b]) wx).trans' hcD (by simp)).trans c43).trans' c44 (fun z hz=>.inl (by simp[hz]))) (by
   intro z hz
   rcases List.mem_append.1 hz with hz|hz
   ·exact .inr (hfo z hz)
   exact .inl hz)
  refine za ?_
  refine Og (zG U U (by omega)) U ?_
  refine Om U (N5 0 4 10 11 12 U ?_)
  refine⟨s.cols.length-(j+1),by omega,j+1,v44,rfl,by omega,rfl,?_,yt o44 hfo (by omega),?_,hwz⟩
  ·rw[List.take_add_one,hx]
   exact zN.push i44 U U
  have tB:zaq wB t _ b:=t40.chg cB (by intro z hz;simp at hz;subst hz;exact⟨by omega,_,_,(((k8.chg0 (zk.drew [] _)).chg0 c33).chg c40 (by simp;omega)),rfl⟩)
  exact(tB.chg0 c43).chgSl (zB.chg0 hoB c43) U U c44
 refine zI ?_
 repeat first|refine te ?_|refine bo rfl ?_
 refine zq _ ?_
 have he:s.cols.length≤j:=by have:=of_decide_eq_false hF;omega
 rw[Tl (by omega)]at ho
 rw[List.drop_eq_nil_of_le he]at htx
 refine Sr (Om U (Oa U (E1 4 U (zj ?_))))
 refine zw U U ?_
 have hs1:=c3.size
 exact⟨ho,fun b hb=>Nat.le_trans hs1 (hfo b hb),htx,((zk.refl [b] w).trans c3).transS hcx⟩
theorem zsO(x y:Va)(w:Wl):CallsD TP 211 #[x,y] .returning w fun e u' w'=>(∃v,e=.returned v)∧u'=.returning∧w'=w:=by
 have hnn:∀w,(Op.equal 20 .nilIface .nilIface).run TP w=.ok true w:=fun w=>by
  obtain⟨ms,hu⟩:=zgi zBS
  exact zbm fun d=>by simp[Op.equalIn,run_underlying hu]
 have hrs:Tryz.f211.results = #[]:=rfl
 refine callsD_of_wpS Tryz.func211 U fun c₀ cs hu=>?_
 apply wpS_seq
 apply wpS_region
 simp[wpOpsS,go_sem,recoverD,hu,Exit.thenS]
 apply wpS_seq
 apply wpS_region
 simp[wpOpsS,go_sem,recoverD,hu,Exit.thenS,binOp,eqGuard,hnn]
 refine wpS_cond (t:=false) (by simp[Act.eval,Array.replicate]) ?_
 simp only[Bool.false_eq_true,if_false]
 refine wpS_of_wp (wp_skip ?_)
 cases c₀
 simp_all[bodyPostS,results]
theorem zyp(c k u v:Va)(s:yK)(l:List zX)(w:Wl)(hs:zai w c k u s)(hr:zaf s l=0)(hv:zbn w 5 1 v (zcT s.cols l).length (bv (zcT s.cols l))) :
 zS TP 187 #[.agg #[c,k,u],v] w fun r w'=>∃o,r=.tuple #[o,Ii (zcT s.cols l).length,Ii 0]∧zcc w' o l∧(∀y∈zu o,w.heap.size≤y)∧zk [] w w':=by
 obtain⟨pv,cv,rfl,hcv⟩:=hv.val
 obtain⟨hrs,hlen,hfit⟩:=zas hr
 have h8:=(zZ hrs).1
 have hel:=ze4 hfit
 refine zS.of_WD (args:=[_,_]) Tryz.func187 U U U U ?_
 refine Sr ?_
 refine Ob U U ?_
 intro b2 w2 e2 n2 c2 k2
 refine Oq (zF zzU U U ?_)
 intro b4 w4 e4 n4 c4 k4
 refine Oq (zF zr3 U U ?_)
 intro b5 w5 e5 n5 c5 k5
 refine Oq (zF zuQ U U ?_)
 intro b6 w6 e6 n6 c6 k6
 refine E5 1 2 4 5 6 U (Sr (Og (zau U U) U ?_))
 refine zwA U U ?_
 refine yO [1,2,4,5,6] (F':=[(1,_),(2,_),(4,_),(5,_),(6,_),(1000001,_)]) U (Sr (Om U ?_))
 refine Og (zL zAy zCu U (vs:=[_]) U (css:=[_]) ⟨U,Tt⟩ U U (cs:=[_]) U) U ?_
 refine Ob U U ?_
 intro b11 w11 e11 n11 c11 k11
 refine Oa U (yO [1,2,4,5,6,7] (F':=[(1,_),(2,_),(4,_),(5,_),(6,_),(7,_),(1000001,_)]) U ?_)
 have hcA:=((c2.trans c4).trans c5).trans c6
 have hlt:∀z∈zu (.slice pv (zcT s.cols l).length cv),z<w.heap.size:=hv.lt
 have hs2:=c2.size
 have hs4:=c4.size
 have hs5:=c5.size
 have hs6:=c6.size
 have hc11:zk [] w w11:=hcA.trans c11
 have tp:zaq w11 (Pt b11) (zcT s.cols l) b11:=⟨rfl,_,k11,hv.chg0 hc11,fun hm=>by have:=hlt b11 hm;omega⟩
 refine Sr (Om U ?_)
 refine Og (zh zaX zaS U U (zv.of_blk0 ((((k2.chg0 c4).chg0 c5).chg0 c6).chg0 c11))) U ?_
 refine Oc zAx U U U (zCc c k u _ s l b11 _ (hs.chg0 hc11) hr tp) ?_
 rintro v14 w14⟨i14,f14,⟨-,v2,hb14,hv14,-⟩,c14⟩
 obtain⟨p14,q14,rfl,-⟩:=id (yl.val i14)
 obtain⟨p2,q2,rfl,-⟩:=id hv14.val
 refine Oq (zt zeg U U U U ((((k4.chg0 c5).chg0 c6).chg0 c11).chg c14 (by simp;omega)) (by simp) (by intro u hu;simp at hu;subst hu;rfl) ?_)
 intro wA nA cA kA
 refine yO [1,4,5,6,7] (F':=[(1,_),(4,_),(5,_),(6,_),(7,_),(1000001,_)]) U (zf ?_)
 have kA:zO wA b4 36 [.slice p14 l.length q14]:=kA
 have hs11:=c11.size
 have hs14:=c14.size
 have hsA:=cA.size
 have hd:zk [] wA wA.drew:=zk.drew _ _
 have hbA:zO wA b11 333 [.slice p2 0 q2]:=hb14.chg cA (by simp;omega)
 have k5A:=((((k5.chg0 c6).chg0 c11).chg c14 (by simp;omega)).chg cA (by simp;omega)).chg0 hd
 have k6A:=(((k6.chg0 c11).chg c14 (by simp;omega)).chg cA (by simp;omega)).chg0 hd
 refine zH (fun wz=>wz.cell? ⟨b4,0,none⟩=some (.slice p14 l.length q14)∧wz.cell? ⟨b11,0,none⟩=some (.slice p2 0 q2)) mix (by kernel_rfl) ⟨(kA.chg0 hd).cell' U,(hbA.chg0 hd).cell' U⟩ ?_
 refine Tr (fun wz hz=>zg yU U hz.1) U (Tm U (Tp (fun _=>zV y7 U) U (Tm U (Tp (fun _=>zx U) U (Td zhM U (Tr (fun wz hz=>zg zp7 U hz.2) U (Tp (fun _=>zV zqA U) U ?_)))))))
 refine Tp (fun _=>yv (v':=Ii (((zcT s.cols l).length:Nat):Int)) (yM U U (by omega)) (by congr 1<;>omega)) U ?_
 refine zaR U (gn U) (zt zeg U U U U (kA.chg0 hd) (by simp) (by intro u hu;simp at hu;subst hu;rfl) ?_)
 intro wB nB cB kB
 refine⟨.inl ⟨kB.cell' U,((hbA.chg0 hd).chg cB (by simp;omega)).cell' U⟩,?_⟩
 refine zaR U (gn U) (zt sz3 U U U U (k5A.chg cB (by simp;omega)) (by simp) (by simp[Value.oneCell']) ?_)
 intro wC nC cC kC
 refine⟨.inr (by kernel_rfl),?_⟩
 refine zaR U (gn U) (zt zoU U U U U ((k6A.chg cB (by simp;omega)).chg cC (by simp;omega)) (by simp) (by simp[Value.oneCell']) ?_)
 intro wD nD cD kD
 refine⟨.inr (by kernel_rfl),?_⟩
 refine zhy [4,5,6] (F':=[(4,_),(5,_),(6,_),(1000001,_)]) U ?_
 refine zj ?_
 have kB:zO wB b4 36 [.slice p14 l.length q14]:=kB
 have kC:zO wC b5 3 [Ii (zcT s.cols l).length]:=kC
 have kD:zO wD b6 28 [Ii 0]:=kD
 have hB:=(kB.chg cC (by simp;omega)).chg cD (by simp;omega)
 have hC:=kC.chg cD (by simp;omega)
 refine zDP (Rd:=fun w'=>w'=wD) U zAe (zsO _ _ _) ?_
 rintro w' a ha rfl
 refine⟨.tuple #[.slice p14 l.length q14,Ii (zcT s.cols l).length,Ii 0],?_,?_⟩
 ·have h4:=ha.get 4 (Pt b4) rfl
  have h5:=ha.get 5 (Pt b5) rfl
  have h6:=ha.get 6 (Pt b6) rfl
  have g4:w'.cell? ⟨b4,0,none⟩=_:=hB.cell' rfl
  have g5:w'.cell? ⟨b5,0,none⟩=_:=hC.cell' rfl
  have g6:w'.cell? ⟨b6,0,none⟩=_:=kD.cell' rfl
  simp[results,h4,h5,h6,asAddr,loadVar,zaM yU,zaM ag3,zaM zkD,g4,g5,g6]
 refine⟨_,U,?_,?_,?_⟩
 ·refine yl.chg (yl.chg (yl.chg (yl.chg0 (yl.chg i14 cA ?_) hd) cB ?_) cC ?_) cD ?_<;>(intro y hy hm;have:=f14 y hy;simp at hm;omega)
 ·intro y hy
  have:=f14 y hy
  omega
 refine((((((hc11.trans' c14 ?_).trans' cA ?_).trans hd).trans' cB ?_).trans' cC ?_).trans' cD ?_)<;>(intro y hy;simp at hy;subst hy;right;omega)
theorem ztE(c k u v:Va)(s:yK)(l:List zX)(w:Wl)(hs:zai w c k u s)(hm:s.Sm)(hr:zaf s l=0)(hv:zbn w 5 1 v (zcT s.cols l).length (bv (zcT s.cols l))) :
 zS TP 127 #[.agg #[c,k,u],v] w fun r w'=>∃o,r=.tuple #[o,Ii 0]∧zcc w' o l∧(∀y∈zu o,w.heap.size≤y)∧zk [] w w':=by
 obtain⟨pv,cv,rfl,hcv⟩:=hv.val
 obtain⟨hrs,hlen,hfit⟩:=zas hr
 have h8:=(zZ hrs).1
 have hel:=ze4 hfit
 refine A2 Tryz.func127 U U ?_
 refine Sr ?_
 refine Ob U U ?_
 intro b2 w2 e2 n2 c2 k2
 refine Oa U (Oa U (E2 1 2 U (zf (Sr (Og (zh zaX zaS U U (zv.of_blk0 k2)) U ?_)))))
 refine Oc zlb U U U (zgB c k u s _ (hs.chg0 c2) hm) ?_
 rintro v11 w11⟨h11,c11⟩
 rw[hrs]at h11
 change v11=Ii 0 at h11
 subst h11
 refine Oa U (E3 1 2 6 U (Sr (Om U ?_)))
 refine Og (vf (zJ U U) (zcp (by omega))) U ?_
 refine E4 1 2 6 13 U (zb U (zm (zf ?_)))
 have hcA:=c2.trans c11
 refine za (Og (zh zaX zaS U U (zv.of_blk0 (k2.chg0 c11))) U (Om U ?_))
 refine Oc zCI U U U (zyp c k u _ s l _ (hs.chg0 hcA) hr (hv.chg0 hcA)) ?_
 rintro v18 w18⟨v18,rfl,i18,f18,c18⟩
 refine Om U (Oe U U (Oe U U (Oe U U (Oa U (Oa U (Oa U (E4 1 7 8 9 U (zf (Sr (Om U ?_))))))))))
 refine Og (vf (zJ U U) (zcp (by omega))) U ?_
 refine Om U (Ov U (Ov U (Oi U (zV y7 U) ?_)))
 refine Oi U (vf (zJ U U) (zcp (by omega))) ?_
 refine Of U (E2 7 29 U (zb U (zm (Sr (Om U (Oa U (Oa U (E2 4 5 U (zj ?_)))))))))
 refine zcF U U U ?_
 have hsz:=hcA.size
 exact⟨_,U,i18,fun y hy=>Nat.le_trans hsz (f18 y hy),hcA.trans c18⟩
theorem zcB{s:yK}(h:yJ s=true):s.Sm:=by
 obtain⟨h1,h2,h3,_,_,_,h7⟩:=zZ h
 have:=(zbl h3).1
 exact⟨by omega,by omega,by omega,fun l hl=>by have:=(zbl (h7 l hl)).1;omega⟩
def PgL(w:Wl):List Nat→List (LE)→Prop
 |[],[]=>True
 |p::ps,m::ms=>Pg w p m∧PgL w ps ms
 |_,_=>False
theorem PgL.chg0{w w':Wl}(hc:zk [] w w'):∀{ps:List Nat} {ms:List (LE)},PgL w ps ms→PgL w' ps ms
 |[],[],_=>trivial
 |_::_,_::_,h=>⟨h.1.chg0 hc,PgL.chg0 hc h.2⟩
theorem PgL.length{w:Wl}:∀{ps:List Nat} {ms:List (LE)},PgL w ps ms→ps.length=ms.length
 |[],[],_=>rfl
 |_::_,_::_,h=>by simp[PgL.length h.2]
theorem PgL.at{w:Wl}:∀{ps:List Nat} {ms:List (LE)} {i:Nat} {p:Nat} {m:LE},PgL w ps ms→ps[i]?=some p→ms[i]?=some m→Pg w p m
 |[],[],_,_,_,_,h,_=>by simp at h
 |_::_,_::_,0,_,_,h,hp,hm=>by simp at hp hm;subst hp hm;exact h.1
 |_::_,_::_,i+1,_,_,h,hp,hm=>h.2.at (by simpa using hp) (by simpa using hm)
theorem PgL.chgO{w w':Wl}{q:Nat}{ms':LE}(hq:Pg w q ms')(hc:zk [q] w w'):∀{ps:List Nat} {ms:List (LE)},q∉ps→PgL w ps ms→PgL w' ps ms
 |[],[],_,_=>trivial
 |p::_,_::_,hn,h=>⟨h.1.chgO hq (fun e=>hn (by simp[e])) hc,PgL.chgO hq hc (fun hm=>hn (by simp[hm])) h.2⟩
theorem PgL.put{w w':Wl}{q:Nat}{m m':LE}(hq:Pg w q m)(hc:zk [q] w w')(hq':Pg w' q m'):∀{ps:List Nat} {ms:List (LE)} {i:Nat},ps.Nodup→ps[i]?=some q→PgL w ps ms→PgL w' ps (ms.set i m')
 |[],[],_,_,h,_=>by simp at h
 |p::ps,a::ms,0,hn,h,hp=>by
  simp at h;subst h
  simp at hn
  exact⟨hq',PgL.chgO hq hc hn.1 hp.2⟩
 |p::ps,a::ms,i+1,hn,h,hp=>by
  simp at h hn
  have hmem:q∈ps:=Mg h
  exact⟨hp.1.chgO hq (fun e=>hn.1 (e▸hmem)) hc,PgL.put hq hc hq' hn.2 h hp.2⟩
theorem PgL.snoc{w:Wl}{q:Nat}{m:LE}(hq:Pg w q m):∀{ps:List Nat} {ms:List (LE)},PgL w ps ms→PgL w (ps++[q]) (ms++[m])
 |[],[],_=>⟨hq,Tt⟩
 |_::_,_::_,h=>⟨h.1,PgL.snoc hq h.2⟩
theorem Pg.nl{w:Wl}{p:Nat}{ls:LE}(h:Pg w p ls):Nl w [p]:=by
 obtain⟨v,hb,_,h1,_⟩:=h
 obtain⟨q,c,rfl,_⟩:=h1.val
 exact Nl.one hb (by intro y hy;simp at hy;subst hy;rfl)
def scs(x:Va×Nat):LA:=[x.1,.pointer (some ⟨x.2,0,none⟩)]
theorem zuM(x:Va×Nat):(scs x).length=2:=rfl
structure yZ(w:Wl)(t pm:Nat)(c k u sv:Va)(xs:List (Va×Nat))(s:yK)(main:LE)(subs:List (LE)):Prop where
 blk:zO w t 123 [Pt pm,c,k,u,sv]
 sch:zai w c k u s
 pg:Pg w pm main
 sl:yl w 126 2 scs sv xs
 ats:yn w 3 1 ics (xs.map (·.1)) (zW s)
 pgs:PgL w (xs.map (·.2)) subs
 nd:(pm::xs.map (·.2)).Nodup
 ge:∀p∈pm::xs.map (·.2),Lw.n≤p
section
variable {w w':Wl} {t pm:Nat} {c k u sv:Va} {xs:List (Va×Nat)} {s:yK} {main:LE} {subs:List (LE)}
theorem yZ.chg0(h:yZ w t pm c k u sv xs s main subs)(hc:zk [] w w'):yZ w' t pm c k u sv xs s main subs:=
 ⟨h.blk.chg0 hc,h.sch.chg0 hc,h.pg.chg0 hc,yl.chg0 h.sl hc,yn.chg0 h.ats hc,h.pgs.chg0 hc,h.nd,h.ge⟩
theorem yZ.keep(h:yZ w t pm c k u sv xs s main subs){q:Nat}{ms:LE}(hq:Pg w q ms)(hN:Lw.n≤q)(hc:zk [q] w w'){main':LE}{subs':List (LE)}(h1:Pg w' pm main')(h2:PgL w' (xs.map (·.2)) subs'):yZ w' t pm c k u sv xs s main' subs':=by
 obtain⟨v,hb,hv⟩:=hq
 have hn:∀y∈[v],zq7 y=false:=by obtain⟨_,h1,_⟩:=hv;obtain⟨p,c,rfl,_⟩:=h1.val;intro y hy;simp at hy;subst hy;rfl
 exact⟨h.blk.chg hc (by have:=h.blk.ne hb rfl;simpa using this),h.sch.chgB hb U hN hc,h1,yl.chg h.sl hc (zB.apart h.sl hb U),yn.chg hc (h.ats.apart hb U) h.ats,h2,h.nd,h.ge⟩
theorem yZ.putM(h:yZ w t pm c k u sv xs s main subs)(hc:zk [pm] w w'){main':LE}(h':Pg w' pm main'):yZ w' t pm c k u sv xs s main' subs:=
 h.keep h.pg (h.ge _ (by simp)) hc h' (PgL.chgO h.pg hc (by have:=h.nd;simp only[List.nodup_cons]at this;exact this.1) h.pgs)
theorem yZ.putS(h:yZ w t pm c k u sv xs s main subs){j q:Nat}{m m':LE}{a:Va}(hj:xs[j]?=some (a,q))(hm:subs[j]?=some m)(hc:zk [q] w w')(h':Pg w' q m'):yZ w' t pm c k u sv xs s main (subs.set j m'):=by
 have hq:(xs.map (·.2))[j]?=some q:=by rw[List.getElem?_map,hj];rfl
 have hp:=h.pgs.at hq hm
 have hnd:=h.nd
 simp only[List.nodup_cons]at hnd
 exact h.keep hp (h.ge q (List.mem_cons_of_mem _ (Mg hq))) hc (h.pg.chgO hp (fun e=>hnd.1 (e▸Mg hq)) hc) (PgL.put hp hc h' hnd.2 hq h.pgs)
theorem yZ.lens(h:yZ w t pm c k u sv xs s main subs):xs.length=(zW s).length∧subs.length=(zW s).length:=by
 have h1:=h.ats.length
 have h2:=h.pgs.length
 rw[List.length_map]at h1 h2
 omega
theorem yZ.at(h:yZ w t pm c k u sv xs s main subs){j:Nat}(hj:j<(zW s).length):∃a q st m b off cap,xs[j]?=some (a,q)∧(zW s)[j]?=some st∧subs[j]?=some m∧yA w a st∧Pg w q m∧sv=.slice (some ⟨b,off,none⟩) xs.length cap∧zv w b (off+j*2) [a,Pt q]∧q∈xs.map (·.2):=by
 obtain⟨l1,l2⟩:=h.lens
 have e1:(zW s)[j]?=some (zW s)[j]:=by simp[hj]
 have e2:xs[j]?=some (xs[j]'(by omega)):=by simp[l1,hj]
 have e3:subs[j]?=some (subs[j]'(by omega)):=by simp[l2,hj]
 generalize (zW s)[j]=st at e1
 generalize xs[j]'(by omega)=x at e2
 generalize subs[j]'(by omega)=m at e3
 obtain⟨a,q⟩:=x
 obtain⟨v,hv,ha⟩:=h.ats.at e1
 rw[List.getElem?_map,e2]at hv
 simp at hv
 subst hv
 have hq:(xs.map (·.2))[j]?=some q:=by rw[List.getElem?_map,e2];rfl
 obtain⟨b,off,cap,hsv,hcell⟩:=yl.at zuM h.sl e2
 exact⟨a,q,st,m,b,off,cap,e2,e1,e3,ha.arr,h.pgs.at hq e3,hsv,hcell,Mg hq⟩
end
def zab(w:Wl)(t:Nat)(own:List Nat)(s:yK)(rows:LV):Prop:=
 ∃pm c k u sv xs main subs,own=pm::xs.map (·.2)∧yZ w t pm c k u sv xs s main subs∧zcH s rows main subs
theorem zab.chg0{w w':Wl}{t:Nat}{own:List Nat}{s:yK}{rows:LV}(h:zab w t own s rows)(hc:zk [] w w'):zab w' t own s rows:=
 let ⟨pm,c,k,u,sv,xs,main,subs,h1,h2,h3⟩:=h; ⟨pm,c,k,u,sv,xs,main,subs,h1,h2.chg0 hc,h3⟩
theorem zab.ge{w:Wl}{t:Nat}{own:List Nat}{s:yK}{rows:LV}(h:zab w t own s rows):∀p∈own,Lw.n≤p:=by
 obtain⟨_,_,_,_,_,_,_,_,rfl,h2,_⟩:=h
 exact h2.ge
theorem zab.ok{w:Wl}{t:Nat}{own:List Nat}{s:yK}{rows:LV}(h:zab w t own s rows):yW s rows:=
 let ⟨_,_,_,_,_,_,_,_,_,_,h3⟩:=h;h3.ok
section
variable {t pm:Nat} {c k u sv:Va} {xs:List (Va×Nat)} {s:yK} {main:LE} {subs:List (LE)}
theorem yZ.scells{w:Wl}(h:yZ w t pm c k u sv xs s main subs):zv w t 1 [c,k,u]:=by
 intro i x hi
 have:=(zv.of_blk0 h.blk) (1+i) x (by
  rw[show [Pt pm,c,k,u,sv]=[Pt pm]++[c,k,u]++[sv] from rfl,List.append_assoc,List.getElem?_append_right (by simp)]
  simp only[List.length_cons,List.length_nil,Nat.zero_add,Nat.add_sub_cancel_left]
  rw[List.getElem?_append_left (Gs hi).1]
  exact hi)
 rw[Nat.zero_add]at this
 exact this
theorem zoh(v:Va)(l:List zX)(w:Wl)(hE:EOk w)(h:yZ w t pm c k u sv xs s main subs)(hr:yJ s=true)(hl:ya w v l)(hg:∀x∈l,x.Rng)(hn:l.length≤1048576) :
 zS TP 89 #[Pt t,v] w fun r w'=>zgd w' r (zaf s l)∧zk [] w w':=by
 refine A2 Tryz.func89 U U ?_
 refine Sr (Oa U (E2 0 1 U (zf (Sr (Om U (Og (y8 zky U U) U (E3 0 1 7 U (zb U (zm (zf (Sr (Om U (Og (zx U) U (Od zda U (Og (zh zaX zaS U U h.scells) U (Om U ?_))))))))))))))))
 refine Oc zwQ U U U (zwB c k u v s l _ hE h.sch (zcB hr) hl hg hn) ?_
 rintro v16 w16⟨rfl,c16⟩
 refine Oa U (E1 5 U (zf ?_))
 by_cases he:zaf s l=0
 ·refine za (Om U ?_)
  refine Og (vf (zJ U U) (by simp[he])) U ?_
  refine E2 5 18 U (zb U (zm (Sr (Oa U (E1 4 U (zj ?_))))))
  refine zw U U ?_
  exact⟨.inl ⟨U,he⟩,c16⟩
 refine za (Om U ?_)
 refine Og (vt (zJ U U) (by simp[he])) U ?_
 refine E2 5 18 U (ze U (Sr (Om U (Og (z5 zdU U) U ?_))))
 refine Og (zL zm6 zn9 U (vs:=[_,_]) U (css:=[_,_]) ⟨U,U,Tt⟩ U U (cs:=[_,_]) U) U ?_
 refine Og (z5 znM U) U (Oa U (E1 4 U (zj ?_)))
 repeat first|refine tr ?_|refine br ?_
 refine zw U U ?_
 exact⟨.inr ⟨.inr (.inr (.inl ⟨_,U⟩)),he⟩,c16⟩
end
theorem zjr{w:Wl}{a v:Va}{q:Nat}{s:yK}{st:List Int}{row:List zX}(hf:zaf s row=0)(hg:∀x∈row,x.Rng)(hst:st∈zW s)(ha:yA w a st)(hv:ya w v row) :
 zS TP 138 #[.agg #[a,Pt q],v] w fun r w'=>r=.tuple #[.string (zcZ (yo row st)),.bool (nnS (yo row st))]∧zk [] w w':=by
 obtain⟨hr,hl,_⟩:=zas hf
 obtain⟨h1,h2,_⟩:=zbl (zdN hr st hst)
 have h8:=(zZ hr).1
 exact zvA a _ v st row w ha U hv hg (zjj hf) (fun i hi=>by have:=h2 i hi;omega) (by omega) (by omega)
theorem zbB.st{s:yK}{rows:LV}{j:Nat}{st:List Int}{m:LE}:∀{sts:List (List Int)} {pss:List (LE)},zbB s rows sts pss→sts[j]?=some st→pss[j]?=some m→zfh s rows st m:=by
 intro sts pss h h1 h2
 obtain⟨ps,hp,hs⟩:=h.at' h1
 rw[h2]at hp
 cases hp
 exact hs
theorem yq{α:Type}{l:List α}{j:Nat}{x:α}(h:l[j]?=some x):l.take (j+1)=l.take j++[x]:=by rw[List.take_add_one,h];rfl
theorem znj{K:Type}[DecidableEq K](k:K)(v:Va):∀(es:List (K×Va)),(zcU es k v).length≤es.length+1
 |[]=>by simp[zcU]
 |p::r=>by
  unfold zcU
  split
  ·simp
  have:=znj k v r
  simp only[List.length_cons]
  omega
section
variable {t pm:Nat} {c k u sv:Va} {xs:List (Va×Nat)} {s:yK} {main:LE} {subs:List (LE)} {rows:LV}
theorem zjI(v:Va)(row:List zX)(w:Wl)(h:yZ w t pm c k u sv xs s main subs)(ht:zcH s rows main subs)(hf:zaf s row=0)(hl:ya w v row)(hg:∀x∈row,x.Rng) :
 zS TP 90 #[Pt t,v] w fun r w'=>∃b es,r=.map (some b)∧w.heap.size≤b∧yf zbM w' b es∧es.length≤4∧zb6 s rows row (zW s) es∧zk [] w w':=by
 obtain⟨l1,l2⟩:=h.lens
 obtain⟨psv,csv,rfl,hcsv⟩:=yl.val h.sl
 have hn3:=(zZ ht.ok.right).2.1
 have hn4:(zW s).length≤4:=by simp[zW];omega
 refine A2 Tryz.func90 U U ?_
 refine Sr (Oa U (E2 0 1 U (Sr ?_)))
 refine Oq (zb5 (zbM) U ?_)
 intro b12 w12 e12 n12 c12 k12
 refine Oa U (E3 0 1 5 U (zf (zf ?_)))
 have h2:=h.chg0 c12
 refine za (Om U (Og (zx U) U (Od zdS U (Ol ziT U (h2.blk.cell' U) (On zfv U (Om U (E5 1 5 16 17 18 U (zp ?_))))))))
 refine zQ [1,5,16,17,18] (fun m F wx=>∃(j:Nat) (es:List (By×Va)),m=xs.length-j∧j≤xs.length∧F=[(1,v),(5,.map (some b12)),(16,.slice psv xs.length csv),(17,Ii xs.length),(18,Ii j)]∧yf zbM wx b12 es∧es.length≤j∧zb6 s rows row ((zW s).take j) es∧zk [b12] w12 wx) (m:=xs.length-0) ⟨0,[],rfl,Zl _,rfl,k12,by simp,zb6.nil,zk.refl _ _⟩ ?_
 rintro m F wx⟨j,es,rfl,hj,rfl,hes,hint,hck,hcx⟩
 have hcw:zk [] w wx:=c12.own hcx (by intro y hy;simp at hy;omega)
 have hx:=h.chg0 hcw
 have hvx:=zN.chg0 hl hcw
 refine Sr (Og (zz U U) U (E6 1 5 16 17 18 19 U (zf ?_)))
 refine zP U (fun hT=>?_) (fun hF=>?_)
 ·refine zm ?_
  have hlt:j<xs.length:=by have:=of_decide_eq_true hT;omega
  obtain⟨a,q,st,m,b,off,cap,e1,e2,e3,ha,hq,hsv,hcell,hqm⟩:=hx.at (j:=j) (by omega)
  cases hsv
  have hst:st∈zW s:=Mg e2
  have hsub:=zbB.st ht.subs e2 e3
  refine zf (zp (Sr (Om U ?_)))
  refine Og (zi zfv zc1 U U _ U hlt) U ?_
  refine Og (zh zhA zc1 U U hcell) U ?_
  refine Oq (zF zjq U U ?_)
  intro b7 w7 e7 n7 c7 k7
  refine Oa U ?_
  refine Oq (zt zc1 U U U U k7 (by simp) (by intro u hu;simp at hu;rcases hu with rfl|rfl;exact zN.one1 ha;rfl) ?_)
  intro wA nA cA kA
  refine E7 1 5 6 7 16 17 18 U ?_
  have kA:zO wA b7 126 [a,Pt q]:=kA
  have hcA:zk [] wx wA:=c7.own cA (by intro y hy;simp at hy;omega)
  refine Sr (Og (zh zhA zc1 U U (zv.of_blk0 kA)) U (Om U ?_))
  refine Oc znG U U U (zjr hf hg hst (zN.chg0 ha hcA) (zN.chg0 hvx hcA)) ?_
  rintro v26 w26⟨rfl,c26⟩
  refine Om U (Oe U U (Oe U U (Oa U (Oa U (yO [1,5,6,7,8,9,16,17,18] (F':=[(1,_),(5,_),(6,_),(7,_),(8,_),(9,_),(16,_),(17,_),(18,_)]) U ?_)))))
  have hcB:zk [] wx w26:=hcA.trans c26
  have hbb:b12<w26.heap.size:=Nat.lt_of_lt_of_le hes.lt hcB.size
  refine Sr (Om U (yO [1,5,6,7,8,16,17,18,29] (F':=[(1,_),(5,_),(6,_),(7,_),(8,_),(16,_),(17,_),(18,_),(29,_)]) U ?_))
  cases hnn:nnS (yo row st) with
  |false=>
   refine zb U (zT (zl (za ?_)))
   refine Og (zG U U (by omega)) U ?_
   refine Om U (N5 1 5 16 17 18 U ?_)
   refine⟨xs.length-(j+1),by omega,j+1,es,rfl,by omega,rfl,hes.chg0 hcB,by omega,?_,hcx.trans hcB⟩
   rw[yq e2]
   exact hck.none (.inl hnn)
  |true=>
   refine ze U ?_
   have hget:=hsub.get ht.ok hst (vals:=yo row st) (zeT hf hg hst)
   refine Sr (Od zjg U (Ol zfV U ((kA.chg0 c26).cell' U) (Om U ?_)))
   refine Oc zyo U U U (f15 q m _ _ (hq.chg0 hcB) hsub.wf (by have:=hsub.le ht.ok;omega)) ?_
   rintro v34 w34⟨rfl,c34⟩
   refine Om U (Oe U U (Oe U U (Oa U (Oa U (E8 1 5 6 10 11 16 17 18 U ?_)))))
   have hcC:zk [] wx w34:=hcB.trans c34
   rw[hget]
   cases hro:zjW rows st (yo row st) with
   |none=>
    refine Sr (Om U (E8 1 5 6 10 16 17 18 37 U (zb U (zT (zl (za ?_))))))
    refine Og (zG U U (by omega)) U ?_
    refine Om U (N5 1 5 16 17 18 U ?_)
    refine⟨xs.length-(j+1),by omega,j+1,es,rfl,by omega,rfl,hes.chg0 hcC,by omega,?_,hcx.trans hcC⟩
    rw[yq e2]
    exact hck.none (.inr hro)
   |some r=>
    refine Sr (Om U (E8 1 5 6 10 16 17 18 37 U (ze U (za (Om U (Om U (Om U ?_)))))))
    refine Oq (zje (κ:=zbM) zs7 (zap st9) U U U (hes.chg0 hcC) ?_)
    intro wD nD cD kD
    refine N5 1 5 16 17 18 U (zl (za ?_))
    refine Og (zG U U (by omega)) U ?_
    refine Om U (N5 1 5 16 17 18 U ?_)
    refine⟨xs.length-(j+1),by omega,j+1,_,rfl,by omega,rfl,kD,?_,?_,(hcx.trans hcC).transS cD⟩
    ·exact Nat.le_trans (znj _ _ _) (by omega)
    rw[yq e2]
    exact hck.some ht.ok hst hro
 refine zI ?_
 repeat first|refine te ?_|refine bo rfl ?_
 refine zq _ ?_
 have he:xs.length≤j:=by have:=of_decide_eq_false hF;omega
 rw[Tl (by omega)]at hck
 refine Sr (Om U (Oa U (E1 4 U (zj ?_))))
 refine zw U U ?_
 exact⟨b12,es,rfl,by omega,hes,by omega,hck,c12.own hcx (by intro y hy;simp at hy;omega)⟩
end
section
variable {α β:Type} (f:α→β→β)
def zfn(a:List α)(l:List β)(j:Nat):List β:=List.zipWith f (a.take j) (l.take j)++l.drop j
variable {f} {a:List α} {l:List β} {j:Nat} {x:α} {y:β}
theorem zks:zfn f a l 0=l:=by simp[zfn]
theorem zls(h:a.length=l.length)(hj:l.length≤j):zfn f a l j=List.zipWith f a l:=by
 unfold zfn
 rw[Tl (by omega),Tl hj,List.drop_eq_nil_of_le hj,List.append_nil]
theorem zjZ(hx:a[j]?=some x)(hy:l[j]?=some y):(zfn f a l j)[j]?=some y:=by
 have h1:=(Gs hx).1
 have h2:=(Gs hy).1
 unfold zfn
 rw[List.getElem?_append_right (by simp;omega),List.getElem?_drop]
 rw[show j+(j-(List.zipWith f (a.take j) (l.take j)).length)=j by simp;omega]
 exact hy
theorem zg8(hx:a[j]?=some x)(hy:l[j]?=some y):zfn f a l (j+1)=(zfn f a l j).set j (f x y):=by
 have h1:=(Gs hx).1
 have h2:=(Gs hy).1
 have hz:(List.zipWith f (a.take j) (l.take j)).length=j:=by simp;omega
 unfold zfn
 rw[yq hx,yq hy,List.zipWith_append (by simp;omega)]
 rw[List.set_append_right _ _ (by omega),hz,Nat.sub_self]
 obtain⟨_,rfl⟩:=Gs hy
 rw[show l.drop j=l[j]::l.drop (j+1) from List.drop_eq_getElem_cons h2]
 simp only[List.set_cons_zero,List.append_assoc,List.cons_append,List.nil_append,List.zipWith_cons_cons,List.zipWith_nil_left]
theorem zkc(hx:a[j]?=some x)(hy:l[j]?=some y)(hf:f x y=y):zfn f a l (j+1)=zfn f a l j:=by
 rw[zg8 hx hy,hf]
 have:=zjZ (f:=f) hx hy
 obtain⟨h1,h2⟩:=Gs this
 conv=>lhs;rw[←h2]
 exact List.set_getElem_self h1
end
def zkW(row:List zX)(k:By)(st:List Int)(ps:LE):LE:=if nnS (yo row st) then zgM ps (zcZ (yo row st)) k else ps
def zhZ(row:List zX)(st:List Int)(ps:LE):LE:=if nnS (yo row st) then zds ps (zcZ (yo row st)) else ps
theorem zk9(row:List zX)(k:By):∀sts pss,ziE row k sts pss=List.zipWith (zkW row k) sts pss
 |[],_=>by simp[ziE]
 |_::_,[]=>by simp[ziE]
 |st::sts,ps::pss=>by simp only[ziE,List.zipWith_cons_cons,zk9 row k sts pss];rfl
theorem zjt(row:List zX):∀sts pss,zf8 row sts pss=List.zipWith (zhZ row) sts pss
 |[],_=>by simp[zf8]
 |_::_,[]=>by simp[zf8]
 |st::sts,ps::pss=>by simp only[zf8,List.zipWith_cons_cons,zjt row sts pss];rfl
theorem zkU{s:yK}{row:List zX}(hf:zaf s row=0){st:List Int}(hst:st∈zW s):(zcZ (yo row st)).size≤2000:=by
 have h1:=zhq (l:=yo row st) fun x hx=>zjj hf x (zgm hf hst x hx)
 have h2:=(zbl (zdN (zas hf).1 st hst)).1
 have e:(zcZ (yo row st)).size=(zd6 (yo row st)).length:=by simp[zcZ,ByteArray.size]
 rw[show (yo row st).length=st.length by simp[yo]]at h1
 omega
section
variable {t pm:Nat} {c k u sv:Va} {xs:List (Va×Nat)} {s:yK} {main:LE} {subs:List (LE)} {rows:LV}
set_option maxHeartbeats 400000 in
theorem zui(v:Va)(row:List zX)(w:Wl)(hE:EOk w)(h:yZ w t pm c k u sv xs s main subs)(ht:zcH s rows main subs)(hf:zaf s row=0)(hl:ya w v row)(hg:∀x∈row,x.Rng) :
 zS TP 91 #[Pt t,v] w fun _ w'=>yZ w' t pm c k u sv xs s (zgM main (z9 s row) (zeG s row)) (ziE row (z9 s row) (zW s) subs)∧zk (pm::xs.map (·.2)) w w':=by
 obtain⟨l1,l2⟩:=h.lens
 obtain⟨psv,csv,rfl,hcsv⟩:=yl.val h.sl
 have hn3:=(zZ ht.ok.right).2.1
 have hn4:(zW s).length≤4:=by simp[zW];omega
 have hn1:1≤(zW s).length:=by simp[zW]
 obtain⟨hrs,hlen,hfit⟩:=zas hf
 have h8:=(zZ hrs).1
 refine A2 Tryz.func91 U U ?_
 refine zf ?_
 obtain⟨a0,q0,stA,m0,b0,off0,cap0,e1,e2,e3,ha0,hq0,hsv0,hcell0,hqm0⟩:=h.at (j:=0) (by omega)
 have hstA:s.key=stA:=by simp[zW]at e2;exact e2
 subst hstA
 cases hsv0
 refine za (Om U (Og (zx U) U (Od zdS U (Ol ziT U (h.blk.cell' U) ?_))))
 refine Og (zi zfv zc1 U U 0 U (show 0<xs.length by omega)) U ?_
 refine Og (zh zhA zc1 U U hcell0) U (Om U ?_)
 refine Oc znG U U U (zjr hf hg (zdR s) ha0 hl) ?_
 rintro v20 w20⟨rfl,c20⟩
 refine Om U (Oe U U (Oe U U (Oa U (Oa U (E3 0 1 4 U ?_)))))
 have h1:=h.chg0 c20
 have hl1:=zN.chg0 hl c20
 refine Sr (Om U (Og (zx U) U (Od zda U (Og (zh zaX zaS U U h1.scells) U (Om U ?_)))))
 refine Oc zzI U U U (zrY c k u v s row _ (hE.chg0 c20) h1.sch (zcB hrs) hl1 hg (by omega)) ?_
 rintro v29 w29⟨o29,rfl,i29,f29,c29⟩
 rw[if_pos hf]at i29
 obtain⟨p29,q29,rfl,-⟩:=id (zB.val i29)
 refine Om U (Oe U U (Oe U U (Oa U (Oa U (E4 0 1 4 6 U ?_)))))
 have h2:=h1.chg0 c29
 have hl2:=zN.chg0 hl1 c29
 refine zf ?_
 refine zH (fun wz=>zk [] w29 wz) mix (by kernel_rfl) (zk.drew [] _) ?_
 refine Tm U (Tp (fun _=>zx U) U (Td zeQ U (Tr (fun wz hz=>zg zfV U ((h2.blk.chg0 hz).cell' U)) U (Tm U (Tm U (Tr (fun wz hz=>zgF (l:=(zcT s.cols row)) y7 zaZ st9 U (zB.rd (zB.chg0 i29 hz))) U ?_))))))
 refine Tc zxw U U U (f10 pm main (z9 s row) (zeG s row) _ (h2.pg.chg0 (zk.drew [] _)) ht.wf (by have:=ht.le;omega) (zkU hf (zdR s))) ?_
 rintro v39 w39⟨rfl,p39,c39⟩
 refine⟨.inr (by kernel_rfl),?_⟩
 refine D3 0 1 4 U ?_
 have h3:=(h2.chg0 (zk.drew [] _)).putM c39 p39
 have hc3:zk (pm::xs.map (·.2)) w w39:=((((zk.refl _ w).trans c20).trans c29).trans (zk.drew [] _)).trans' c39 (fun y hy=>.inl (by simp at hy;simp[hy]))
 have hl3:ya w39 v row:=by
  exact zN.chgC (zN.chg0 hl2 (zk.drew [] _)) c39 zoj (h2.pg.chg0 (zk.drew [] _)).nl
 refine Sr (Om U (Og (zx U) U (Od zdS U (Ol ziT U (h3.blk.cell' U) (On zfv U (Om U (E5 1 4 43 44 45 U (zp ?_))))))))
 refine zQ [1,4,43,44,45] (fun m F wx=>∃(j:Nat),m=xs.length-j∧j≤xs.length∧F=[(1,v),(4,.string (z9 s row)),(43,.slice (some ⟨b0,off0,none⟩) xs.length csv),(44,Ii xs.length),(45,Ii j)]∧yZ wx t pm c k u (.slice (some ⟨b0,off0,none⟩) xs.length csv) xs s (zgM main (z9 s row) (zeG s row)) (zfn (zkW row (z9 s row)) (zW s) subs j)∧ya wx v row∧zk (pm::xs.map (·.2)) w wx) (m:=xs.length-0) ⟨0,rfl,Zl _,rfl,by rw[zks];exact h3,hl3,hc3⟩ ?_
 rintro m F wx⟨j,rfl,hj,rfl,hx,hvx,hcx⟩
 refine Sr (Og (zz U U) U (E6 1 4 43 44 45 46 U (zf ?_)))
 refine zP U (fun hT=>?_) (fun hF=>?_)
 ·refine zm ?_
  have hlt:j<xs.length:=by have:=of_decide_eq_true hT;omega
  obtain⟨a,q,st,m,b,off,cap,e1,e2,e3,ha,hq,hsv,hcell,hqm⟩:=hx.at (j:=j) (by omega)
  cases hsv
  have hst:st∈zW s:=Mg e2
  have e3':subs[j]?=some (subs[j]'(by omega)):=by simp[show j<subs.length by omega]
  generalize subs[j]'(by omega)=m' at e3'
  have hmm:m=m':=by
   have:=zjZ (f:=zkW row (z9 s row)) e2 e3'
   rw[e3]at this
   cases this;rfl
  subst hmm
  have hsub:=zbB.st ht.subs e2 e3'
  refine zf (zp (Sr ?_))
  refine Og (zi zfv zc1 U U _ U hlt) U ?_
  refine Og (zh zhA zc1 U U hcell) U ?_
  refine Oq (zF zjq U U ?_)
  intro b9 w9 e9 n9 c9 k9
  refine Oq (zt zc1 U U U U k9 (by simp) (by intro u hu;simp at hu;rcases hu with rfl|rfl;exact zN.one1 ha;rfl) ?_)
  intro wA nA cA kA
  refine E6 1 4 9 43 44 45 U ?_
  have kA:zO wA b9 126 [a,Pt q]:=kA
  have hcA:zk [] wx wA:=c9.own cA (by intro y hy;simp at hy;omega)
  refine Sr (Og (zh zhA zc1 U U (zv.of_blk0 kA)) U (Om U ?_))
  refine Oc znG U U U (zjr hf hg hst (zN.chg0 ha hcA) (zN.chg0 hvx hcA)) ?_
  rintro v52 w52⟨rfl,c52⟩
  refine Om U (Oe U U (Oe U U (Oa U (Oa U (E8 1 4 9 10 11 43 44 45 U ?_)))))
  have hcB:zk [] wx w52:=hcA.trans c52
  refine Sr (Om U (E8 1 4 9 10 43 44 45 55 U ?_))
  cases hnn:nnS (yo row st) with
  |false=>
   refine zb U (zT (zl (za ?_)))
   refine Og (zG U U (by omega)) U ?_
   refine Om U (N5 1 4 43 44 45 U ?_)
   refine⟨xs.length-(j+1),by omega,j+1,rfl,by omega,rfl,?_,zN.chg0 hvx hcB,hcx.trans hcB⟩
   rw[zkc e2 e3' (by unfold zkW;rw[hnn];rfl)]
   exact hx.chg0 hcB
  |true=>
   refine ze U (za (Od zjg U (Ol zfV U ((kA.chg0 c52).cell' U) (Om U (Om U ?_)))))
   refine Oc zxw U U U (f10 q m (zcZ (yo row st)) (z9 s row) _ (hq.chg0 hcB) hsub.wf (by have:=hsub.le ht.ok;omega) (zkU hf hst)) ?_
   rintro v60 w60⟨rfl,p60,c60⟩
   refine N5 1 4 43 44 45 U (zl (za ?_))
   refine Og (zG U U (by omega)) U ?_
   refine Om U (N5 1 4 43 44 45 U ?_)
   refine⟨xs.length-(j+1),by omega,j+1,rfl,by omega,rfl,?_,?_,(hcx.trans hcB).trans' c60 (fun y hy=>.inl (by simp at hy;subst hy;exact List.mem_cons_of_mem _ hqm))⟩
   ·rw[zg8 e2 e3',show zkW row (z9 s row) st m=zgM m (zcZ (yo row st)) (z9 s row) by unfold zkW;rw[hnn];rfl]
    exact(hx.chg0 hcB).putS e1 e3 c60 p60
   exact zN.chgC (zN.chg0 hvx hcB) c60 zoj (hq.chg0 hcB).nl
 refine zI ?_
 repeat first|refine te ?_|refine bo rfl ?_
 refine zq _ ?_
 have he:xs.length≤j:=by have:=of_decide_eq_false hF;omega
 refine zgL U ?_
 rw[zk9,←zls (j:=j) (by omega) (by omega)]
 exact⟨hx,hcx⟩
end
theorem ztM{s:yK}{r:List zX}(hf:zaf s r=0):(zeG s r).size≤1680∧(zeG s r).data.toList=zcT s.cols r∧(zeG s r).size=(zcT s.cols r).length:=by
 obtain⟨hrs,_,hfit⟩:=zas hf
 have h8:=(zZ hrs).1
 have h1:=ze4 hfit
 have e:(zeG s r).size=(zcT s.cols r).length:=by simp[zeG,ByteArray.size]
 exact⟨by omega,by simp[zeG],e⟩
section
variable {t pm:Nat} {c k u sv:Va} {xs:List (Va×Nat)} {s:yK} {main:LE} {subs:List (LE)} {rows:LV}
theorem zmo(key:By)(w:Wl)(h:yZ w t pm c k u sv xs s main subs)(ht:zcH s rows main subs) :
 zS TP 82 #[Pt t,.string key] w fun r w'=>∃o,r=.tuple #[o,.bool (zc7 s rows key).isSome]∧zcc w' o ((zc7 s rows key).getD [])∧(∀b∈zu o,w.heap.size≤b)∧zk [] w w':=by
 refine A2 Tryz.func82 U U ?_
 refine Sr (Oa U (Oa U (E2 0 1 U (zf (Sr (Om U (Og (y8 zky U U) U (E3 0 1 11 U (zb U (zm (Sr (Om U (Og (zx U) U (Od zeQ U (Ol zfV U (h.blk.cell' U) (Om U ?_))))))))))))))))
 refine Oc zyo U U U (f15 pm main key _ h.pg ht.wf (by have:=ht.le;omega)) ?_
 rintro v18 w18⟨rfl,c18⟩
 refine Om U (Oe U U (Oe U U (Oa U (Oa U (E3 0 6 7 U ?_)))))
 have h1:=h.chg0 c18
 rw[ht.get]
 cases hg:zc7 s rows key with
 |none=>
  refine zf (Sr (Om U (Og (zC U) U (E3 0 6 22 U (ze U (Sr (Oa U (Oa U (E2 4 5 U (zj ?_))))))))))
  repeat first|refine tr ?_|refine br ?_
  refine zcF U U U ?_
  exact⟨_,rfl,yl.nil _ _ _ _,by simp[zu],c18⟩
 |some r=>
  obtain⟨hr,_⟩:=zd0 hg
  have hf:=ht.ok.fit r hr
  obtain⟨z1,z2,z3⟩:=ztM hf
  refine zf (Sr (Om U (Og (zC U) U (E3 0 6 22 U (zb U (zm (Sr (Om U (Og (zx U) U (Od zda U (Og (zh zaX zaS U U h1.scells) U (Om U ?_))))))))))))
  refine Oq (zmm st9 y7 zaZ U (by simp only[Option.map_some,Option.getD_some,maxLen];omega) U ?_)
  intro b29 q29 w29 e29 c29 g29 i29
  refine Oc zAL U U U (ztE c k u _ s r _ (h1.sch.chg0 c29) (zcB ht.ok.right) hf (by have e:=i29;simp only[Option.map_some,Option.getD_some]at e;rw[z2,z3]at e;exact e)) ?_
  rintro v30 w30⟨o30,rfl,i30,f30,c30⟩
  refine Om U (Oe U U (Oe U U (Oa U (Oa U (E1 8 U (Sr (Om U (Oa U (Oa U (E2 4 5 U (zj ?_)))))))))))
  refine zcF U U U ?_
  have hs:=c18.size
  have hs2:=c29.size
  exact⟨_,rfl,i30,fun b hb=>by have:=f30 b hb;omega,(c18.trans c29).trans c30⟩
theorem zzG(v:Va)(row:List zX)(w:Wl)(hE:EOk w)(h:yZ w t pm c k u sv xs s main subs)(ht:zcH s rows main subs)(hl:ya w v row)(hg:∀x∈row,x.Rng)(hn:row.length≤1048576) :
 zS TP 175 #[Pt t,v] w fun r w'=>r=.tuple #[.string (if zaf s row=0 then z9 s row else e0),Ii (zaf s row)]∧zk [] w w':=by
 obtain⟨l1,l2⟩:=h.lens
 have hn1:1≤(zW s).length:=by simp[zW]
 refine A2 Tryz.func175 U U ?_
 refine Sr (Oa U (Oa U (E2 0 1 U (zf (Sr (Om U (Om U ?_)))))))
 refine Oc zxZ U U U (zoh v row w hE h ht.ok.right hl hg hn) ?_
 rintro v11 w11⟨i11,c11⟩
 refine Oa U (E3 0 1 6 U ?_)
 have h1:=h.chg0 c11
 have hl1:=zN.chg0 hl c11
 rcases i11 with⟨rfl,he⟩|⟨i11,he⟩
 ·refine Sr (Om U (Og (zbs zcE U U) U (E4 0 1 6 13 U (zb U (zm ?_)))))
  obtain⟨a0,q0,stA,m0,b0,off0,cap0,e1,e2,e3,ha0,hq0,hsv0,hcell0,hqm0⟩:=h1.at (j:=0) (by omega)
  have hstA:s.key=stA:=by simp[zW]at e2;exact e2
  subst hstA
  subst hsv0
  refine Sr (Om U (Og (zx U) U (Od zdS U (Ol ziT U (h1.blk.cell' U) ?_))))
  refine Og (zi zfv zc1 U U 0 U (show 0<xs.length by omega)) U ?_
  refine Og (zh zhA zc1 U U hcell0) U (Om U ?_)
  refine Oc znG U U U (zjr he hg (zdR s) ha0 hl1) ?_
  rintro v24 w24⟨rfl,c24⟩
  refine Om U (Oe U U (Oe U U (Oa U (Oa U (E1 7 U (Sr (Om U (Oa U (Oa U (E2 4 5 U (zj ?_)))))))))))
  refine zcF U U U ?_
  rw[if_pos he,he]
  exact⟨U,c11.trans c24⟩
 refine Sr (Om U (Og (zbs zcE U i11.notNil) U (E4 0 1 6 13 U (ze U (Sr (Om U ?_))))))
 refine Oc zr1 U U U (zkm _ _ _ (hE.chg0 c11) (.inr i11)) ?_
 rintro v15 w15⟨rfl,c15⟩
 refine Oa U (Oa U (E2 4 5 U (zj ?_)))
 repeat first|refine tr ?_|refine br ?_
 refine zcF U U U ?_
 rw[if_neg he]
 exact⟨U,c11.trans c15⟩
theorem zkT(w:Wl)(h:yZ w t pm c k u sv xs s main subs)(ht:zcH s rows main subs) :
 zS TP 70 #[Pt t] w fun r w'=>r=Ii rows.length∧w'=w:=by
 refine A1 Tryz.func70 U U ?_
 refine Sr (Oa U (E1 0 U (zf (Sr (Om U (Og (y8 zky U U) U (E2 0 4 U (zb U (zm (Sr (Om U (Og (zx U) U (Od zeQ U (Ol zfV U (h.blk.cell' U) ?_))))))))))))))
 refine Oc zAF U U U (f13 pm main _ h.pg ht.wf.le (by have:=ht.le;omega)) ?_
 rintro v9 w9⟨rfl,rfl⟩
 refine Oa U (E1 2 U (zj ?_))
 refine zw U U ?_
 rw[ht.flat,List.length_map]
 exact⟨U,U⟩
end
section
variable {t pm:Nat} {c k u sv:Va} {xs:List (Va×Nat)} {s:yK} {main:LE} {subs:List (LE)} {rows:LV}
set_option maxHeartbeats 400000 in
theorem znV(key:By)(row:List zX)(w:Wl)(h:yZ w t pm c k u sv xs s main subs)(ht:zcH s rows main subs)(hr:zc7 s rows key=some row) :
 zS TP 176 #[Pt t,.string key] w fun o w'=>zcc w' o row∧(∀b∈zu o,w.heap.size≤b)∧yZ w' t pm c k u sv xs s (zds main (z9 s row)) (zf8 row (zW s) subs)∧zk (pm::xs.map (·.2)) w w':=by
 obtain⟨l1,l2⟩:=h.lens
 obtain⟨psv,csv,rfl,hcsv⟩:=yl.val h.sl
 have hn3:=(zZ ht.ok.right).2.1
 have hn4:(zW s).length≤4:=by simp[zW];omega
 obtain⟨hmr,hkr⟩:=zd0 hr
 have hf:=ht.ok.fit row hmr
 have hg:=ht.ok.rng row hmr
 obtain⟨hrs,hlen,hfit⟩:=zas hf
 have h8:=(zZ hrs).1
 refine A2 Tryz.func176 U U ?_
 refine Sr (Oa U (E2 0 1 U (Sr (Om U (Om U ?_)))))
 refine Oc zuB U U U (zmo key w h ht) ?_
 rintro v14 w14⟨o,rfl,io,fo,c14⟩
 refine Om U (Oe U U (Oe U U (Oa U (Oa U (E3 0 1 5 U ?_)))))
 rw[hr]at io
 have io:zcc w14 o row:=io
 have h1:=h.chg0 c14
 refine Sr (Om U (Og (zx U) U (Od zeQ U (Ol zfV U (h1.blk.cell' U) (Om U ?_)))))
 refine Oc zxJ U U U (f11 pm main key _ h1.pg ht.wf (by have:=ht.le;omega)) ?_
 rintro v22 w22⟨rfl,p22,c22⟩
 refine E2 0 5 U ?_
 rw[←hkr]at p22
 have h2:=h1.putM c22 p22
 have hc2:zk (pm::xs.map (·.2)) w w22:=((zk.refl _ w).trans c14).trans' c22 (fun y hy=>.inl (by simp at hy;simp[hy]))
 have io2:zcc w22 o row:=by
  obtain⟨vb,hb,_⟩:=h1.pg
  exact yl.chg io c22 (zB.apart io hb U)
 refine zf (Sr (Om U (Og (zx U) U (Od zdS U (Ol ziT U (h2.blk.cell' U) (On zfv U (Om U (E4 5 26 27 28 U (zp ?_)))))))))
 refine zQ [5,26,27,28] (fun m F wx=>∃(j:Nat),m=xs.length-j∧j≤xs.length∧F=[(5,o),(26,.slice psv xs.length csv),(27,Ii xs.length),(28,Ii j)]∧yZ wx t pm c k u (.slice psv xs.length csv) xs s (zds main (z9 s row)) (zfn (zhZ row) (zW s) subs j)∧zcc wx o row∧zk (pm::xs.map (·.2)) w wx) (m:=xs.length-0) ⟨0,rfl,Zl _,rfl,by rw[zks];exact h2,io2,hc2⟩ ?_
 rintro m F wx⟨j,rfl,hj,rfl,hx,hvx,hcx⟩
 refine Sr (Og (zz U U) U (E5 5 26 27 28 29 U (zf ?_)))
 refine zP U (fun hT=>?_) (fun hF=>?_)
 ·refine zm ?_
  have hlt:j<xs.length:=by have:=of_decide_eq_true hT;omega
  obtain⟨a,q,st,m,b,off,cap,e1,e2,e3,ha,hq,hsv,hcell,hqm⟩:=hx.at (j:=j) (by omega)
  cases hsv
  have hst:st∈zW s:=Mg e2
  have e3':subs[j]?=some (subs[j]'(by omega)):=by simp[show j<subs.length by omega]
  generalize subs[j]'(by omega)=m' at e3'
  have hmm:m=m':=by
   have:=zjZ (f:=zhZ row) e2 e3'
   rw[e3]at this
   cases this;rfl
  subst hmm
  have hsub:=zbB.st ht.subs e2 e3'
  refine zf (zp (Sr ?_))
  refine Og (zi zfv zc1 U U _ U hlt) U ?_
  refine Og (zh zhA zc1 U U hcell) U ?_
  refine Oq (zF zjq U U ?_)
  intro b8 w8 e8 n8 c8 k8
  refine Oq (zt zc1 U U U U k8 (by simp) (by intro u hu;simp at hu;rcases hu with rfl|rfl;exact zN.one1 ha;rfl) ?_)
  intro wA nA cA kA
  refine E5 5 8 26 27 28 U ?_
  have kA:zO wA b8 126 [a,Pt q]:=kA
  have hcA:zk [] wx wA:=c8.own cA (by intro y hy;simp at hy;omega)
  refine Sr (Og (zh zhA zc1 U U (zv.of_blk0 kA)) U (Om U ?_))
  refine Oc znG U U U (zjr hf hg hst (zN.chg0 ha hcA) (zN.chg0 hvx.arr hcA)) ?_
  rintro v35 w35⟨rfl,c35⟩
  refine Om U (Oe U U (Oe U U (Oa U (Oa U (E7 5 8 9 10 26 27 28 U ?_)))))
  have hcB:zk [] wx w35:=hcA.trans c35
  refine Sr (Om U (E7 5 8 9 26 27 28 38 U ?_))
  cases hnn:nnS (yo row st) with
  |false=>
   refine zb U (zT (zl (za ?_)))
   refine Og (zG U U (by omega)) U ?_
   refine Om U (N4 5 26 27 28 U ?_)
   refine⟨xs.length-(j+1),by omega,j+1,rfl,by omega,rfl,?_,yl.chg0 hvx hcB,hcx.trans hcB⟩
   rw[zkc e2 e3' (by unfold zhZ;rw[hnn];rfl)]
   exact hx.chg0 hcB
  |true=>
   refine ze U (za (Od zjg U (Ol zfV U ((kA.chg0 c35).cell' U) (Om U ?_))))
   refine Oc zxJ U U U (f11 q m (zcZ (yo row st)) _ (hq.chg0 hcB) hsub.wf (by have:=hsub.le ht.ok;omega)) ?_
   rintro v42 w42⟨rfl,p42,c42⟩
   refine N4 5 26 27 28 U (zl (za ?_))
   refine Og (zG U U (by omega)) U ?_
   refine Om U (N4 5 26 27 28 U ?_)
   refine⟨xs.length-(j+1),by omega,j+1,rfl,by omega,rfl,?_,?_,(hcx.trans hcB).trans' c42 (fun y hy=>.inl (by simp at hy;subst hy;exact List.mem_cons_of_mem _ hqm))⟩
   ·rw[zg8 e2 e3',show zhZ row st m=zds m (zcZ (yo row st)) by unfold zhZ;rw[hnn];rfl]
    exact(hx.chg0 hcB).putS e1 e3 c42 p42
   obtain⟨vb,hb,_⟩:=hq.chg0 hcB
   exact yl.chg (yl.chg0 hvx hcB) c42 (zB.apart (yl.chg0 hvx hcB) hb U)
 refine zI ?_
 repeat first|refine te ?_|refine bo rfl ?_
 refine zq _ ?_
 have he:xs.length≤j:=by have:=of_decide_eq_false hF;omega
 refine Sr (Om U (Oa U (E1 4 U (zj ?_))))
 refine zw U U ?_
 rw[zjt,←zls (j:=j) (by omega) (by omega)]
 exact⟨hvx,fo,hx,hcx⟩
end
theorem zuZ{w w':Wl}{own:List Nat}{e k n:Nat}{v:Va}{xs:LA}(h:zB w e k v n xs)(hp:∀p∈own,∃p' n c',zO w p 178 [.slice p' n c'])(hne:Nat.beq e 178=false)(hc:zk own w w'):zB w' e k v n xs:=
 zB.chg h hc fun b hb hm=>by
  obtain⟨_,_,_,hx⟩:=hp b hm
  exact h.apart hx hne b hb (by simp)
theorem Nl.own{w:Wl}{own:List Nat}(hp:∀p∈own,∃p' n c',zO w p 178 [.slice p' n c']):Nl w own:=fun b hb=>by
 obtain⟨p',n,c',hx⟩:=hp b hb
 exact Nl.one hx (by intro y hy;simp at hy;subst hy;rfl) b (by simp)
theorem ya.own{w w':Wl}{own:List Nat}{v:Va}{l:List zX}(h:ya w v l)(hp:∀p∈own,∃p' n c',zO w p 178 [.slice p' n c'])(hc:zk own w w'):ya w' v l:=zN.chgC h hc zoj (Nl.own hp)
theorem Pg.sl{w:Wl}{p:Nat}{ls:LE}(h:Pg w p ls):∃p' n c',zO w p 178 [.slice p' n c']:=by
 obtain⟨v,hb,us,hs,_⟩:=h
 obtain⟨p',c',rfl,_⟩:=hs.val
 exact⟨_,_,_,hb⟩
theorem zab.pages{w:Wl}{t:Nat}{own:List Nat}{s:yK}{rows:LV}(h:zab w t own s rows):∀p∈own,∃p' n c',zO w p 178 [.slice p' n c']:=by
 obtain⟨pm,c,k,u,sv,xs,main,subs,rfl,h2,h3⟩:=h
 have hL:∀{ps:List Nat} {ms:List (LE)},PgL w ps ms→∀p∈ps,∃p' n c',zO w p 178 [.slice p' n c']:=by
  intro ps
  induction ps with
  |nil=>intro _ _ p hp;cases hp
  |cons q ps ih=>
   intro ms hm p hp
   cases ms with
   |nil=>exact hm.elim
   |cons m ms=>
    rcases Mc hp with rfl|hp
    ·exact hm.1.sl
    exact ih hm.2 p hp
 intro p hp
 rcases Mc hp with rfl|hp
 ·exact h2.pg.sl
 exact hL h2.pgs p hp
theorem EOk.tab{w w':Wl}{t:Nat}{own:List Nat}{s:yK}{rows:LV}(hE:EOk w)(h:zab w t own s rows)(hc:zk own w w'):EOk w':=
 hE.chg hc fun hm=>by
  obtain⟨_,_,_,hx⟩:=h.pages 0 hm
  refine hE.ne hx ?_ U
  simp[rty]
theorem zb6.nil_iff{s:yK}{rows:LV}{row:List zX}{es:List (By×Va)}(h:zb6 s rows row (zW s) es):es=[]↔ziR s rows row=[]:=by
 constructor
 ·rintro rfl
  cases hg:ziR s rows row with
  |nil=>rfl
  |cons r l=>
   have:=(h.gone (z9 s r)).2 (by rw[hg];simp)
   simp[zb7]at this
 intro hg
 cases es with
 |nil=>rfl
 |cons p l=>
  have:=(h.gone p.1).1 (by simp[zb7])
  rw[hg]at this
  simp at this
theorem znK{s:yK}{rows:LV}{row:List zX}:ziR s rows row=[]↔(rows.any fun r=>zax s r row)=false:=by
 simp[ziR]
theorem zua(t:Nat)(own:List Nat)(s:yK)(rows:LV)(v:Va)(row:List zX)(w:Wl)(hE:EOk w)(h:zab w t own s rows)(hl:ya w v row)(hg:∀x∈row,x.Rng)(hn:row.length≤1048576) :
 zS TP 54 #[Pt t,v] w fun r w'=>zgd w' r (zeJ s rows row)∧zab w' t own s (insR s rows row)∧zk own w w':=by
 have hT:=h
 obtain⟨pm,c,k,u,sv,xs,main,subs,rfl,hm,ht⟩:=h
 refine A2 Tryz.func54 U U ?_
 refine Sr (Oa U (E2 0 1 U (zf (Sr (Om U (Om U ?_))))))
 refine Oc zxZ U U U (zoh v row w hE hm ht.ok.right hl hg hn) ?_
 rintro v9 w9⟨i9,c9⟩
 refine Oa U (E3 0 1 5 U ?_)
 have hm1:=hm.chg0 c9
 have hl1:=zN.chg0 hl c9
 rcases i9 with⟨rfl,he⟩|⟨i9,he⟩
 ·refine Sr (Om U (Og (zbs zcE U U) U (E4 0 1 5 11 U (zb U (zm (zf (Sr (Om U (Om U ?_)))))))))
  refine Oc zBf U U U (zjI v row _ hm1 ht he hl1 hg) ?_
  rintro v15 w15⟨bm,es,rfl,hbm,kes,_,hck,c15⟩
  refine Oq (zfc zs7 U kes U ?_)
  intro b16 w16 e16 n16 c16 k16
  refine E3 0 1 16 U ?_
  have hcA:=(c9.trans c15).trans c16
  refine zp ?_
  refine zQ [0,1,16] (fun m F wx=>m=0∧F=[(0,Pt t),(1,v),(16,Pt b16)]∧wx=w16) (m:=0) ⟨U,U,U⟩ ?_
  rintro m F wx⟨rfl,rfl,rfl⟩
  cases hes:es with
  |nil=>
   have hgn:=hck.nil_iff.1 hes
   refine Sr ?_
   refine Oq (zcP U k16 U (fun _=>?_) (fun p l1 l2 w' h=>absurd (hes.symm.trans h) (by simp)))
   skip
   refine Oe U U (E4 0 1 16 18 U (zf (zb U ?_)))
   refine zI ?_
   repeat first|refine te ?_|refine bo rfl ?_
   refine zq _ ?_
   refine zf (zf ?_)
   have hm2:=hm.chg0 hcA
   have hany:=znK.1 hgn
   have htk:zcN s rows row e0=false:=by rw[zhK ht.ok];exact hany
   have eI:zeJ s rows row=if 400≤rows.length then 3 else 0:=by
    unfold zeJ
    rw[if_neg (by simp[he]),htk]
    rfl
   rcases Lg rows.length 400 with hlt|hge
   ·rw[if_neg (by omega)]at eI
    refine za (Om U ?_)
    refine Oc zqT U U U (zkT _ hm2 ht) ?_
    rintro v26 w26⟨rfl,rfl⟩
    refine Og (vf (yc U U) (df (by omega))) U ?_
    refine E3 0 1 27 U (zb U (zm (Sr (Om U (Om U ?_)))))
    refine Oc zCW U U U (zui v row _ (hE.chg0 hcA) hm2 ht he (zN.chg0 hl hcA) hg) ?_
    rintro v33 w33⟨m33,c33⟩
    refine yO [] (F':=[]) U (Sr (Oa U (E1 4 U (zj ?_))))
    refine zw U U ?_
    have hfree:∀r∈rows,zax s r row=false:=fun r hr=>by simpa using List.any_eq_false.1 hany r hr
    unfold insR
    rw[eI,if_pos rfl]
    exact⟨.inl ⟨U,U⟩,⟨pm,c,k,u,sv,xs,_,_,U,m33,ht.come he hg hfree hlt⟩,hcA.any.transS c33⟩
   rw[if_pos hge]at eI
   refine za (Om U ?_)
   refine Oc zqT U U U (zkT _ hm2 ht) ?_
   rintro v26 w26⟨rfl,rfl⟩
   refine Og (vt (yc U U) (dt (by omega))) U ?_
   refine E3 0 1 27 U (ze U (Sr (Og (z5 zdU U) U ?_)))
   refine Og (zL zm6 zn9 U (vs:=[_,_]) U (css:=[_,_]) ⟨U,U,Tt⟩ U U (cs:=[_,_]) U) U ?_
   refine Og (z5 znM U) U (Oa U (E1 4 U (zj ?_)))
   repeat first|refine tr ?_|refine br ?_
   refine zw U U ?_
   unfold insR
   rw[eI,if_neg (by decide)]
   exact⟨.inr ⟨.inr (.inr (.inl ⟨_,rfl⟩)),by decide⟩,hT.chg0 hcA,hcA.any⟩
  |cons p l=>
   have hgn:ziR s rows row≠[]:=fun e=>by rw[hck.nil_iff.2 e]at hes;cases hes
   refine Sr ?_
   refine Oq (zcP U k16 U (fun h=>absurd (hes.symm.trans h) (by simp)) ?_)
   intro p l1 l2 w17 e17 n17 c17 k17
   refine Oe U U (E4 0 1 16 18 U (zf (ze U (zm (zp (Sr (Og (zfm U k17) U (Oe U U (Oa U (E1 6 U (Sr (Om U (Og (z5 zdU U) U ?_)))))))))))))
   refine Og (zL zm6 zn9 U (vs:=[_,_]) U (css:=[_,_]) ⟨U,U,Tt⟩ U U (cs:=[_,_]) U) U ?_
   refine Og (z5 znM U) U (Oa U (E1 4 U (zj ?_)))
   repeat first|refine tr ?_|refine br ?_
   refine zw U U ?_
   have hany:(rows.any fun r=>zax s r row)=true:=by
    cases ha:rows.any fun r=>zax s r row with
    |true=>rfl
    |false=>exact absurd (znK.2 ha) hgn
   have eI:zeJ s rows row=220:=by
    unfold zeJ
    rw[if_neg (by simp[he]),if_pos (by rw[zhK ht.ok];exact hany)]
   have hcB:zk [] w w17:=hcA.own c17 (by intro y hy;simp at hy;subst hy;have:=(c9.trans c15).size;omega)
   unfold insR
   rw[eI,if_neg (by decide)]
   exact⟨.inr ⟨.inr (.inr (.inl ⟨_,rfl⟩)),by decide⟩,hT.chg0 hcB,hcB.any⟩
 refine Sr (Om U (Og (zbs zcE U i9.notNil) U (E4 0 1 5 11 U (ze U (Sr (Om U (Oa U (E1 4 U (zj ?_)))))))))
 repeat first|refine tr ?_|refine br ?_
 refine zw U U ?_
 have e:zeJ s rows row=zaf s row:=by unfold zeJ;rw[if_pos he]
 unfold insR
 rw[e,if_neg he]
 exact⟨.inr ⟨i9,he⟩,hT.chg0 c9,c9.any⟩
theorem zrV(t:Nat)(own:List Nat)(s:yK)(rows:LV)(v:Va)(row:List zX)(w:Wl)(hE:EOk w)(h:zab w t own s rows)(hl:ya w v row)(hg:∀x∈row,x.Rng)(hn:row.length≤1048576) :
 zS TP 27 #[Pt t,v] w fun r w'=>r=Ii (zeJ s rows row)∧zab w' t own s (insR s rows row)∧zk own w w':=by
 refine A2 Tryz.func27 U U ?_
 refine Sr (Oa U (E2 0 1 U (Sr (Om U (Om U ?_)))))
 refine Oc zDo U U U (zua t own s rows v row w hE h hl hg hn) ?_
 rintro v7 w7⟨i7,t7,c7⟩
 refine Oc zr1 U U U (zkm _ _ _ (hE.tab h c7) i7.weak) ?_
 rintro v8 w8⟨rfl,c8⟩
 refine Oa U (E1 4 U (zj ?_))
 refine zw U U ?_
 exact⟨U,t7.chg0 c8,c7.trans c8⟩
theorem zrw{s:yK}{rows:LV}{k:By}(h:zc7 s rows k=none):zby s rows k=rows:=by
 unfold zby
 exact List.filter_eq_self.2 fun r hr=>by simpa using znb h r hr
theorem zsa(t:Nat)(own:List Nat)(s:yK)(rows:LV)(key:By)(w:Wl)(h:zab w t own s rows) :
 zS TP 110 #[Pt t,.string key] w fun r w'=>∃o,r=.tuple #[o,Ii (zyl s rows key)]∧ya w' o ((zc7 s rows key).getD [])∧(∀b∈zu o,w.heap.size≤b)∧zab w' t own s (zby s rows key)∧zk own w w':=by
 have hT:=h
 obtain⟨pm,c,k,u,sv,xs,main,subs,rfl,hm,ht⟩:=h
 refine A2 Tryz.func110 U U ?_
 refine Sr (Oa U (Oa U (E2 0 1 U (zf (Sr (Om U (Og (y8 zky U U) U (E3 0 1 9 U (zb U (zm (zf (Sr (Om U (Om U ?_))))))))))))))
 refine Oc zuB U U U (zmo key w hm ht) ?_
 rintro v13 w13⟨o13,rfl,i13,f13',c13⟩
 refine Om U (Oe U U (Oe U U (Oa U (Oa U (E3 0 1 7 U ?_)))))
 unfold zyl
 cases hgr:zc7 s rows key with
 |none=>
  refine Sr (Om U (Og (zC U) U (E3 0 1 17 U (ze U (Sr (Oa U (Oa U (E2 4 5 U (zj ?_)))))))))
  repeat first|refine tr ?_|refine br ?_
  refine zcF U U U ?_
  rw[zrw hgr]
  exact⟨_,rfl,zN.nil _ _ _ _,by simp[zu],hT.chg0 c13,c13.any⟩
 |some row=>
  obtain⟨hr,hk⟩:=zd0 hgr
  refine Sr (Om U (Og (zC U) U (E3 0 1 17 U (zb U (zm (Sr (Om U (Om U ?_))))))))
  refine Oc zxs U U U (znV key row _ (hm.chg0 c13) ht hgr) ?_
  rintro v20 w20⟨i20,f20',m20,c20⟩
  refine Oa U (Oa U (E2 4 5 U (zj ?_)))
  refine zcF U U U ?_
  have hs:=c13.size
  have hL:=ht.leave hr
  rw[hk]at hL m20
  exact⟨_,rfl,i20.arr,fun b hb=>by have:=f20' b hb;omega,⟨pm,c,k,u,sv,xs,_,_,rfl,m20,hL⟩,c13.any.transS c20⟩
theorem zkQ{s:yK}{rows:LV}{row:List zX}{key:By}{es:List (By×Va)}(h:zb6 s rows row (zW s) es):zcN s rows row key=true↔∃k∈zb7 es,k≠key:=by
 unfold zcN
 rw[List.any_eq_true]
 constructor
 ·rintro ⟨r,hr,hc⟩
  simp only[Bool.and_eq_true,decide_eq_true_eq]at hc
  exact⟨z9 s r,(h.gone _).2 (List.mem_map.2 ⟨r,zhN.2 ⟨hr,hc.2⟩,U⟩),hc.1⟩
 rintro⟨k,hk,hne⟩
 obtain⟨r,hr,rfl⟩:=List.mem_map.1 ((h.gone k).1 hk)
 obtain⟨h1,h2⟩:=zhN.1 hr
 exact⟨r,h1,by simp[hne,h2]⟩
set_option maxHeartbeats 400000 in
theorem zt6(t:Nat)(own:List Nat)(s:yK)(rows:LV)(v:Va)(row:List zX)(key:By)(w:Wl)(hE:EOk w)(h:zab w t own s rows)(hl:ya w v row)(hg:∀x∈row,x.Rng)(hn:row.length≤1048576) :
 zS TP 109 #[Pt t,.string key,v] w fun r w'=>∃o,r=.tuple #[o,Ii (zdn s rows key row)]∧ya w' o (zj5 s rows key row)∧(∀b∈zu o,w.heap.size≤b)∧zab w' t own s (updR s rows key row)∧zk own w w':=by
 have hT:=h
 obtain⟨pm,c,k,u,sv,xs,main,subs,rfl,hm,ht⟩:=h
 refine A3 Tryz.func109 U U ?_
 refine Sr (Oa U (Oa U (E3 0 1 2 U (zf (Sr (Om U (Om U ?_)))))))
 refine Oc zxZ U U U (zoh v row w hE hm ht.ok.right hl hg hn) ?_
 rintro v15 w15⟨i15,c15⟩
 refine Oa U (E4 0 1 2 8 U ?_)
 rcases i15 with⟨rfl,he⟩|⟨i15,he⟩
 ·refine Sr (Om U (Og (zbs zcE U U) U (E5 0 1 2 8 17 U (zb U (zm (zf (Sr (Om U (Om U ?_)))))))))
  refine Oc zuB U U U (zmo key _ (hm.chg0 c15) ht) ?_
  rintro v23 w23⟨o23,rfl,i23,f23',c23⟩
  refine Om U (Oe U U (Oe U U (Oa U (Oa U (E4 0 1 2 10 U ?_)))))
  have hc2:=c15.trans c23
  cases hgr:zc7 s rows key with
  |none=>
   refine Sr (Om U (Og (zC U) U (E4 0 1 2 27 U (ze U (Sr (Om U (Og (z5 zdU U) U ?_)))))))
   refine Og (zL zm6 zn9 U (vs:=[_,_]) U (css:=[_,_]) ⟨U,U,Tt⟩ U U (cs:=[_,_]) U) U ?_
   refine Og (z5 znM U) U ?_
   refine Oc zr1 U U U (zkm _ 5 _ (hE.chg0 hc2) (.inr (.inr (.inr (.inl ⟨_,U⟩))))) ?_
   rintro v32 w32⟨rfl,c32⟩
   refine Oa U (Oa U (E2 6 7 U (zj ?_)))
   repeat first|refine tr ?_|refine br ?_
   refine zcF U U U ?_
   have eU:zdn s rows key row=5:=by unfold zdn;rw[if_neg (by simp[he]),hgr];rfl
   unfold zj5 updR
   rw[eU,if_neg (by decide),if_neg (by decide)]
   exact⟨_,rfl,zN.nil _ _ _ _,by simp[zu],hT.chg0 (hc2.trans c32),(hc2.trans c32).any⟩
  |some old=>
   refine Sr (Om U (Og (zC U) U (E4 0 1 2 27 U (zb U (zm (zf (Sr (Om U (Om U ?_)))))))))
   refine Oc zBf U U U (zjI v row _ (hm.chg0 hc2) ht he (zN.chg0 hl hc2) hg) ?_
   rintro v35 w35⟨bm,es,rfl,hbm,kes,_,hck,c35⟩
   refine Oq (zfc zs7 U kes U ?_)
   intro b36 w36 e36 n36 c36 k36
   refine E4 0 1 2 36 U ?_
   have hcA:=(hc2.trans c35).trans c36
   refine zp ?_
   refine zQ [0,1,2,36] (fun m F wx=>∃(left:List (By×Va)) (last:Option (By×Va)),m=left.length∧F=[(0,Pt t),(1,.string key),(2,v),(36,Pt b36)]∧zf3 zbM wx b36 bm es left last∧(∀p∈es,p∉left→p.1=key)∧zk [b36] w36 wx) (m:=es.length) ⟨es,none,U,U,k36,fun p h1 h2=>absurd h1 h2,zk.refl _ _⟩ ?_
   rintro m F wx⟨left,last,rfl,rfl,hit,hvis,hcx⟩
   have hs36:=(hc2.trans c35).size
   have hcw:zk [] w wx:=hcA.own hcx (by intro y hy;simp at hy;subst hy;omega)
   cases hleft:left with
   |nil=>
    refine Sr ?_
    refine Oq (zcP U hit U (fun _=>?_) (fun p l1 l2 w' h=>absurd (hleft.symm.trans h) (by simp)))
    skip
    refine Oe U U (E5 0 1 2 36 38 U (zf (zb U ?_)))
    refine zI ?_
    repeat first|refine te ?_|refine bo rfl ?_
    refine zq _ ?_
    have htk:zcN s rows row key=false:=by
     cases hx:zcN s rows row key with
     |false=>rfl
     |true=>
      obtain⟨k',hk',hne⟩:=(zkQ hck).1 hx
      obtain⟨p,hp,rfl⟩:=List.mem_map.1 hk'
      exact absurd (hvis p hp (by rw[hleft];simp)) hne
    have eU:zdn s rows key row=0:=by unfold zdn;rw[if_neg (by simp[he]),hgr,htk];rfl
    obtain⟨_,_,hfree,hlt⟩:=zpg ht.ok eU
    obtain⟨hro,hko⟩:=zd0 hgr
    have hL:=ht.leave hro
    rw[hko]at hL
    refine Sr (Om U (Om U ?_))
    refine Oc zxs U U U (znV key old _ (hm.chg0 hcw) ht hgr) ?_
    rintro v51 w51⟨i51,f51',m51,c51⟩
    refine Oa U (E3 0 2 12 U ?_)
    rw[hko]at m51
    have hEx:=hE.chg0 hcw
    have hTx:=hT.chg0 hcw
    have hE51:=hEx.tab hTx c51
    have hl51:ya w51 v row:=ya.own (zN.chg0 hl hcw) hTx.pages c51
    refine Sr (Om U (Om U ?_))
    refine Oc zCW U U U (zui v row _ hE51 m51 hL he hl51 hg) ?_
    rintro v54 w54⟨m54,c54⟩
    refine E1 12 U (Sr (Om U (Oa U (Oa U (E2 6 7 U (zj ?_))))))
    refine zcF U U U ?_
    have hT51:zab w51 t (pm::xs.map (·.2)) s (zby s rows key):=⟨pm,c,k,u,sv,xs,_,_,rfl,m51,hL⟩
    unfold zj5 updR
    rw[eU,if_pos rfl,if_pos rfl,hgr]
    have hsx:=hcw.size
    exact⟨_,rfl,yl.arr (zuZ i51 hT51.pages U c54),fun b hb=>by have:=f51' b hb;omega,⟨pm,c,k,u,sv,xs,_,_,rfl,m54,hL.come he hg hfree hlt⟩,(hcw.any.transS c51).trans' c54 (fun _ h=>.inl h)⟩
   |cons p l=>
    refine Sr ?_
    refine Oq (zcP U hit U (fun h=>absurd (hleft.symm.trans h) (by simp)) ?_)
    intro p l1 l2 w37 e37 n37 c37 k37
    refine Oe U U (E5 0 1 2 36 38 U (zf (ze U (zm (zp (Sr (Og (zfm U k37) U (Oe U U (Oa U (E5 0 1 2 11 36 U (zf ?_)))))))))))
    have hpe:p∈es:=by
     obtain⟨_,_,_,_,_,_,_,hsub,_⟩:=hit
     exact hsub p (by rw[e37];simp)
    by_cases hpk:p.1=key
    ·refine za (Om U (Om U ?_))
     refine Og (vf (zcj U U) (by simp[hpk])) U ?_
     refine E6 0 1 2 11 36 43 U (zb U (zT (zl ?_)))
     refine⟨(l1++l2).length,by rw[←hleft,e37];simp,l1++l2,some p,rfl,rfl,k37,fun p' h1 h2=>?_,hcx.transS c37⟩
     by_cases hin:p'∈left
     ·rw[e37]at hin
      rcases List.mem_append.1 hin with hin|hin
      ·exact absurd (List.mem_append_left _ hin) h2
      rcases Mc hin with rfl|hin
      ·exact hpk
      exact absurd (List.mem_append_right _ hin) h2
     exact hvis p' h1 hin
    refine za (Om U (Om U ?_))
    refine Og (vt (zcj U U) (by simp[hpk])) U ?_
    refine E6 0 1 2 11 36 43 U (ze U (zf ?_))
    have hcB:zk [] w w37:=hcw.own c37 (by intro y hy;simp at hy;subst hy;omega)
    refine za (Om U (Og (z5 zdU U) U ?_))
    refine Og (zL zm6 zn9 U (vs:=[_,_]) U (css:=[_,_]) ⟨U,U,Tt⟩ U U (cs:=[_,_]) U) U ?_
    refine Og (z5 znM U) U ?_
    refine Oc zr1 U U U (zkm _ 220 _ (hE.chg0 hcB) (.inr (.inr (.inr (.inl ⟨_,U⟩))))) ?_
    rintro v48 w48⟨rfl,c48⟩
    refine Oa U (Oa U (E2 6 7 U (zj ?_)))
    repeat first|refine tr ?_|refine br ?_
    refine zcF U U U ?_
    have htk:zcN s rows row key=true:=(zkQ hck).2 ⟨p.1,List.mem_map.2 ⟨p,hpe,rfl⟩,hpk⟩
    have eU:zdn s rows key row=220:=by unfold zdn;rw[if_neg (by simp[he]),hgr,htk];rfl
    unfold zj5 updR
    rw[eU,if_neg (by decide),if_neg (by decide)]
    exact⟨_,rfl,zN.nil _ _ _ _,by simp[zu],hT.chg0 (hcB.trans c48),(hcB.trans c48).any⟩
 refine Sr (Om U (Og (zbs zcE U i15.notNil) U (E5 0 1 2 8 17 U (ze U (Sr (Om U ?_))))))
 refine Oc zr1 U U U (zkm _ _ _ (hE.chg0 c15) (.inr i15)) ?_
 rintro v19 w19⟨rfl,c19⟩
 refine Oa U (Oa U (E2 6 7 U (zj ?_)))
 repeat first|refine tr ?_|refine br ?_
 refine zcF U U U ?_
 have eU:zdn s rows key row=zaf s row:=by unfold zdn;rw[if_pos he]
 unfold zj5 updR
 rw[eU,if_neg he,if_neg he]
 exact⟨_,rfl,zN.nil _ _ _ _,by simp[zu],hT.chg0 (c15.trans c19),(c15.trans c19).any⟩
theorem zAq(s:By)(w:Wl):zS TP 319 #[.string s] w fun r w'=>r=.bool false∧w'=w:=by
 refine A1 Tryz.func319 U U ?_
 refine Sr (Oa U (E1 0 U (Sr (Om U (Om U ?_)))))
 refine Og (vf (zcj U U) (by simp)) U ?_
 refine Oa U (E1 2 U (zj ?_))
 refine zw U U ?_
 exact⟨U,U⟩
theorem ztg(s u:By)(w:Wl):zS TP 241 #[.string s,.string u] w fun r w'=>r=.bool (blt s u)∧w'=w:=by
 refine A2 Tryz.func241 U U ?_
 refine Sr (Oa U (E2 0 1 U (Sr (Om U ?_))))
 refine Oc zCY U U U (zAq s w) ?_
 rintro v6 w6⟨rfl,rfl⟩
 refine Om U (Ok U (Ok U (Ok U (Of U (Om U (Ov U (Ov U (Oi U (ziy U U) (Of U (Oa U (E1 4 U (zj ?_))))))))))))
 refine zw U U ?_
 exact⟨U,U⟩
def sv(l:List By):LA:=l.map .string
theorem zxx{l:List By}{pr tail:LA}{i:Nat}{a:By}(h:l[i]?=some a):(pr++(sv l++tail))[pr.length+i*1]?=some (.string a):=by
 have h1:=(Gs h).1
 rw[List.getElem?_append_right (by omega),Nat.add_sub_cancel_left,Nat.mul_one,List.getElem?_append_left (by simpa[sv] using h1),sv,List.getElem?_map,h]
 rfl
theorem zp8{l:List By}{pr tail:LA}{i:Nat}{a:By}(h:i<l.length):yY (pr++(sv l++tail)) (pr.length+i*1) [.string a]=pr++(sv (l.set i a)++tail):=by
 have h1:i<(sv l).length:=by simpa[sv] using h
 rw[Nat.mul_one]
 have e:yY (pr++(sv l++tail)) (pr.length+i) [.string a]=(pr++(sv l++tail)).set (pr.length+i) (.string a):=by
  rw[List.set_eq_take_append_cons_drop,if_pos (by rw[Sa,Sa];omega)]
  simp[yY]
 rw[e,List.set_append_right _ _ (by omega),Nat.add_sub_cancel_left,List.set_append_left _ _ h1]
 simp[sv,List.map_set]
theorem zsn(b cap:Nat)(l:List By)(pr tail:LA)(w:Wl)(hb:zO w b 9 (pr++(sv l++tail)))(h1:1≤l.length)(hn:l.length≤1048576) :
 zS TP 235 #[.slice (some ⟨b,pr.length,none⟩) l.length cap,Ii 0,Ii l.length] w fun _ w'=>∃l',zO w' b 9 (pr++(sv l'++tail))∧l'.Perm l∧zfL l' l'.length l'.length∧zk [b] w w':=by
 refine A3 Tryz.func235 U U ?_
 refine Sr (Om U ?_)
 refine Og (yv (v':=Ii ((1:Nat):Int)) (zG U U (by omega)) (by congr 1)) U ?_
 refine Oa U (E4 0 1 2 6 U (zp ?_))
 refine zQ [0,1,2,6] (fun m F wx=>∃(i:Nat) (x:List By),m=l.length-i∧1≤i∧i≤l.length∧F=[(0,.slice (some ⟨b,pr.length,none⟩) l.length cap),(1,Ii 0),(2,Ii l.length),(6,Ii i)]∧zO wx b 9 (pr++(sv x++tail))∧x.Perm l∧zfL x i i∧zk [b] w wx) (m:=l.length-1) ⟨1,l,U,Nat.le_refl _,h1,U,hb,List.Perm.refl _,zfL.one _ _,zk.refl _ _⟩ ?_
 rintro m F wx⟨i,x,rfl,hi1,hi,rfl,hbx,hp,hs,hcx⟩
 have hxl:=hp.length_eq
 refine zf (Sr (Om U (Om U (Og (zz U U) U (E5 0 1 2 6 12 U ?_)))))
 refine zP U (fun hT=>?_) (fun hF=>?_)
 ·refine zm ?_
  have hlt:i<l.length:=by have:=of_decide_eq_true hT;omega
  refine zf (zp (Sr (Om U (Oa U (E5 0 1 2 6 7 U (zp ?_))))))
  refine zQ [0,1,2,6,7] (fun m F wy=>∃(j:Nat) (y:List By),m=j∧j≤i∧F=[(0,.slice (some ⟨b,pr.length,none⟩) l.length cap),(1,Ii 0),(2,Ii l.length),(6,Ii i),(7,Ii j)]∧zO wy b 9 (pr++(sv y++tail))∧y.Perm l∧zfL y (i+1) j∧zk [b] w wy) (m:=i) ⟨i,x,U,Nat.le_refl _,U,hbx,hp,hs.next,hcx⟩ ?_
  rintro j F wy⟨j0,y,rfl,hj,rfl,hby,hpy,hsy,hcy⟩
  have hyl:=hpy.length_eq
  refine zf (zf ?_)
  by_cases hj0:j=0
  ·subst hj0
   refine zH (fun wz=>zk [] wy wz) mix (by kernel_rfl) (zk.drew [] _) ?_
   refine Tm U (Tm U ?_)
   refine Tp (fun _=>vf (zU U U) (df (by omega))) U ?_
   refine Tm U ?_
   iterate 10 refine Tk U ?_
   refine Tp (fun _=>zE U U) U (D6 0 1 2 6 7 30 U (zb U ?_))
   refine zI ?_
   repeat first|refine te ?_|refine bo rfl ?_
   refine zq _ ?_
   refine zl (za (Om U ?_))
   refine Og (yv (v':=Ii ((i+1:Nat):Int)) (zG U U (by omega)) (by congr 1)) U ?_
   refine Oa U (N4 0 1 2 6 U ?_)
   exact⟨l.length-(i+1),by omega,i+1,y,rfl,by omega,by omega,rfl,hby.chg0 (zk.drew [] _),hpy,hsy.done (fun _ _ h=>absurd U h) (by omega),hcy.trans (zk.drew [] _)⟩
  have hya:y[j-1]?=some (y[j-1]'(by omega)):=by simp
  have hyb:y[j]?=some (y[j]'(by omega)):=by simp
  generalize y[j-1]'(by omega)=a at hya
  generalize y[j]'(by omega)=c at hyb
  have hca:(pr++(sv y++tail))[pr.length+(j-1)*1]?=some (.string a):=zxx hya
  have hcb:(pr++(sv y++tail))[pr.length+j*1]?=some (.string c):=zxx hyb
  cases hlt2:blt c a with
  |false=>
   refine zH (fun wz=>zk [] wy wz) mix (by kernel_rfl) (zk.drew [] _) ?_
   refine Tm U (Tm U ?_)
   refine Tp (fun _=>vt (zU U U) (dt (by omega))) U ?_
   refine Tm U (Tq U U U (Tq U U U ?_))
   refine Tg U U (fun _=>zi zeL sz9 U U _ U (show j<l.length by omega)) U ?_
   refine Ts U U (fun wz hz=>zg yI U ((hby.chg0 hz).cell' hcb)) U (Tq U U U (Tq U U U ?_))
   refine Tg U U (fun _=>yv (v':=Ii ((j-1:Nat):Int)) (yM U U (by omega)) (by congr 1<;>omega)) U ?_
   refine Tg U U (fun _=>zi zeL sz9 U U _ U (show j-1<l.length by omega)) U ?_
   refine Ts U U (fun wz hz=>zg yI U ((hby.chg0 hz).cell' hca)) U ?_
   refine Tv U U zxn U U U (ztg c a _) ?_
   rintro v29 w29⟨rfl,rfl⟩
   refine⟨.inl (zk.drew [] _),?_⟩
   refine Tp (fun _=>zD U U) U (D6 0 1 2 6 7 30 U ?_)
   rw[hlt2]
   refine zb U ?_
   refine zI ?_
   repeat first|refine te ?_|refine bo rfl ?_
   refine zq _ ?_
   refine zl (za (Om U ?_))
   refine Og (yv (v':=Ii ((i+1:Nat):Int)) (zG U U (by omega)) (by congr 1)) U ?_
   refine Oa U (N4 0 1 2 6 U ?_)
   refine⟨l.length-(i+1),by omega,i+1,y,rfl,by omega,by omega,rfl,hby.chg0 (zk.drew [] _),hpy,hsy.done (fun x' y' _ e1 e2=>?_) (by omega),hcy.trans (zk.drew [] _)⟩
   rw[hya]at e1
   rw[hyb]at e2
   cases e1;cases e2
   exact hlt2
  |true=>
   refine zH (fun wz=>zk [] wy wz) mix (by kernel_rfl) (zk.drew [] _) ?_
   refine Tm U (Tm U ?_)
   refine Tp (fun _=>vt (zU U U) (dt (by omega))) U ?_
   refine Tm U (Tq U U U (Tq U U U ?_))
   refine Tg U U (fun _=>zi zeL sz9 U U _ U (show j<l.length by omega)) U ?_
   refine Ts U U (fun wz hz=>zg yI U ((hby.chg0 hz).cell' hcb)) U (Tq U U U (Tq U U U ?_))
   refine Tg U U (fun _=>yv (v':=Ii ((j-1:Nat):Int)) (yM U U (by omega)) (by congr 1<;>omega)) U ?_
   refine Tg U U (fun _=>zi zeL sz9 U U _ U (show j-1<l.length by omega)) U ?_
   refine Ts U U (fun wz hz=>zg yI U ((hby.chg0 hz).cell' hca)) U ?_
   refine Tv U U zxn U U U (ztg c a _) ?_
   rintro v29 w29⟨rfl,rfl⟩
   refine⟨.inl (zk.drew [] _),?_⟩
   refine Tp (fun _=>zD U U) U (D6 0 1 2 6 7 30 U ?_)
   rw[hlt2]
   refine ze U (zm (zf (zp ?_)))
   have hd:zk [] wy wy.drew.drew:=(zk.drew [] _).trans (zk.drew [] _)
   refine zH (fun wz=>zk [] wy wz) mix (by kernel_rfl) hd ?_
   refine Tm U (Tm U (Tm U (Tm U ?_)))
   refine Tp (fun _=>yv (v':=Ii ((j-1:Nat):Int)) (yM U U (by omega)) (by congr 1<;>omega)) U ?_
   refine Tm U (Tm U ?_)
   refine Tp (fun _=>yv (v':=Ii ((j-1:Nat):Int)) (yM U U (by omega)) (by congr 1<;>omega)) U ?_
   refine Tp (fun _=>zi zeL sz9 U U _ U (show j-1<l.length by omega)) U ?_
   refine Tr (fun wz hz=>zg yI U ((hby.chg0 hz).cell' hca)) U (Tm U (Tm U ?_))
   refine Tp (fun _=>zi zeL sz9 U U _ U (show j<l.length by omega)) U ?_
   refine Tr (fun wz hz=>zg yI U ((hby.chg0 hz).cell' hcb)) U ?_
   refine Tp (fun _=>zi zeL sz9 U U _ U (show j<l.length by omega)) U ?_
   refine zaR U (gn U) (zt sz9 U U U U (hby.chg0 hd) (by simp[sv];omega) (by simp[Value.oneCell']) ?_)
   intro wA nA cA kA
   refine⟨.inr (by kernel_rfl),?_⟩
   refine Tp (fun _=>zi zeL sz9 U U _ U (show j-1<l.length by omega)) U ?_
   refine zaR U (gn U) (zt sz9 U U U U (zp8 (pr:=pr) (a:=a) (show j<y.length by omega)▸kA) (by simp[sv];omega) (by simp[Value.oneCell']) ?_)
   intro wB nB cB kB
   refine⟨.inr (by kernel_rfl),?_⟩
   refine zdI [0,1,2,6,7] (F':=[(0,_),(1,_),(2,_),(6,_),(7,_)]) U ?_
   have kB:zO wB b 9 (pr++(sv (swB y j a c)++tail)):=by
    have e:=zp8 (pr:=pr) (tail:=tail) (l:=y.set j a) (i:=j-1) (a:=c) (by rw[List.length_set];omega)
    exact e▸kB
   refine zl (za (Om U ?_))
   refine Og (yv (v':=Ii ((j-1:Nat):Int)) (yM U U (by omega)) (by congr 1<;>omega)) U ?_
   refine Oa U (N5 0 1 2 6 7 U ?_)
   refine⟨j-1,by omega,j-1,swB y j a c,rfl,by omega,rfl,kB,(zsv hya hyb).trans hpy,hsy.step hj0 (by omega) hya hyb hlt2,?_⟩
   exact((hcy.trans hd).transS cA).transS cB
 refine zI ?_
 repeat first|refine te ?_|refine bo rfl ?_
 refine zq _ ?_
 refine zgL U ?_
 have he:i=l.length:=by have:=of_decide_eq_false hF;omega
 rw[←hxl]at he
 subst he
 exact⟨x,hbx,hp,hs,hcx⟩
theorem zB5(b cap:Nat)(l:List By)(pr tail:LA)(lim:Int)(w:Wl)(hb:zO w b 9 (pr++(sv l++tail)))(h1:1≤l.length)(hn:l.length≤12) :
 zS TP 189 #[.slice (some ⟨b,pr.length,none⟩) l.length cap,Ii 0,Ii l.length,Ii lim] w fun _ w'=>∃l',zO w' b 9 (pr++(sv l'++tail))∧l'.Perm l∧zfL l' l'.length l'.length∧zk [b] w w':=by
 refine A4 Tryz.func189 U U ?_
 refine Sr (Oa U (E5 0 1 2 3 8 U (Sr (Oa U (E6 0 1 2 3 8 9 U (zp ?_))))))
 refine zQ [0,1,2,3,8,9] (fun m F wx=>m=0∧F=[(0,.slice (some ⟨b,pr.length,none⟩) l.length cap),(1,Ii 0),(2,Ii l.length),(3,Ii lim),(8,.bool true),(9,.bool true)]∧wx=w) (m:=0) ⟨U,U,U⟩ ?_
 rintro m F wx⟨rfl,rfl,rfl⟩
 refine zp (Sr (Om U (Om U ?_)))
 refine Og (yv (v':=Ii ((l.length:Nat):Int)) (yM U U (by omega)) (by congr 1<;>omega)) U ?_
 refine Oa U (E7 0 1 2 3 8 9 10 U (zf (Sr (Om U ?_))))
 refine Og (vt (za7 U U) (dt (by omega))) U ?_
 refine E8 0 1 2 3 8 9 10 23 U (ze U (Sr (Om U (Om U (Om U ?_)))))
 refine Oc zwL U U U (zsn b cap l pr tail _ hb h1 (by omega)) ?_
 rintro v27 w27 hq
 refine yO [] (F':=[]) U (zj ?_)
 repeat first|refine tr ?_|refine br ?_
 refine zug U ?_
 exact hq
theorem ztu(n:Nat)(w:Wl)(hn:n<18446744073709551616):zS TP 190 #[.int .u64 n] w fun r w'=>∃i:Int,r=Ii i∧w'=w:=by
 refine A1 Tryz.func190 U U ?_
 refine Sr (Oa U (E1 0 U (zf (zb U (zm (Sr (Om U ?_)))))))
 refine Oc zwK U U U (zpN n w hn) ?_
 rintro v7 w7⟨L,rfl,_,_,rfl⟩
 refine Oa U (E1 2 U (zj ?_))
 refine zw U U ?_
 exact⟨_,U,U⟩
theorem zy4(b cap:Nat)(l:List By)(pr tail:LA)(w:Wl)(hb:zO w b 9 (pr++(sv l++tail)))(h1:1≤l.length)(hn:l.length≤12) :
 zS TP 131 #[.slice (some ⟨b,pr.length,none⟩) l.length cap] w fun _ w'=>∃l',zO w' b 9 (pr++(sv l'++tail))∧l'.Perm l∧zfL l' l'.length l'.length∧zk [b] w w':=by
 refine A1 Tryz.func131 U U ?_
 refine Sr (Om U (On zeL U (Oa U (E2 0 2 U (za (Om U (Om U (Om U ?_))))))))
 refine Og (yj zdF zaB U (zgE (n:=l.length) (by omega))) U ?_
 refine Oc zwF U U U (ztu l.length w (by omega)) ?_
 rintro v9 w9⟨i9,rfl,rfl⟩
 refine Oc zwP U U U (zB5 b cap l pr tail i9 _ hb h1 hn) ?_
 rintro v10 w10 hq
 refine zcJ [] (F':=[]) U ?_
 refine zgL U ?_
 exact hq
theorem zq1(p:Option Addr)(c:Nat)(w:Wl):zS TP 235 #[.slice p 0 c,Ii 0,Ii 0] w fun _ w'=>w'=w:=by
 refine A3 Tryz.func235 U U ?_
 refine Sr (Om U ?_)
 refine Og (yv (v':=Ii ((1:Nat):Int)) (zG U U (by omega)) (by congr 1)) U ?_
 refine Oa U (E4 0 1 2 6 U (zp ?_))
 refine zQ [0,1,2,6] (fun m F wx=>m=0∧F=[(0,.slice p 0 c),(1,Ii 0),(2,Ii 0),(6,Ii 1)]∧wx=w) (m:=0) ⟨U,U,U⟩ ?_
 rintro m F wx⟨rfl,rfl,rfl⟩
 refine zf (Sr (Om U (Om U ?_)))
 refine Og (vf (zz U U) (df (by omega))) U ?_
 refine E5 0 1 2 6 12 U (zb U ?_)
 refine zI ?_
 repeat first|refine te ?_|refine bo rfl ?_
 refine zq _ ?_
 refine zgL U ?_
 rfl
theorem zye(p:Option Addr)(c:Nat)(lim:Int)(w:Wl):zS TP 189 #[.slice p 0 c,Ii 0,Ii 0,Ii lim] w fun _ w'=>w'=w:=by
 refine A4 Tryz.func189 U U ?_
 refine Sr (Oa U (E5 0 1 2 3 8 U (Sr (Oa U (E6 0 1 2 3 8 9 U (zp ?_))))))
 refine zQ [0,1,2,3,8,9] (fun m F wx=>m=0∧F=[(0,.slice p 0 c),(1,Ii 0),(2,Ii 0),(3,Ii lim),(8,.bool true),(9,.bool true)]∧wx=w) (m:=0) ⟨U,U,U⟩ ?_
 rintro m F wx⟨rfl,rfl,rfl⟩
 refine zp (Sr (Om U (Om U ?_)))
 refine Og (yv (v':=Ii ((0:Nat):Int)) (yM U U (by omega)) (by congr 1<;>omega)) U ?_
 refine Oa U (E7 0 1 2 3 8 9 10 U (zf (Sr (Om U ?_))))
 refine Og (vt (za7 U U) (dt (by omega))) U ?_
 refine E8 0 1 2 3 8 9 10 23 U (ze U (Sr (Om U (Om U (Om U ?_)))))
 refine Oc zwL U U U (zq1 p c _) ?_
 rintro v27 w27 rfl
 refine yO [] (F':=[]) U (zj ?_)
 repeat first|refine tr ?_|refine br ?_
 refine zug U ?_
 rfl
theorem zps(p:Option Addr)(c:Nat)(w:Wl):zS TP 131 #[.slice p 0 c] w fun _ w'=>w'=w:=by
 refine A1 Tryz.func131 U U ?_
 refine Sr (Om U (On zeL U (Oa U (E2 0 2 U (za (Om U (Om U (Om U (Og (yj zdF zaB U U) U ?_)))))))))
 refine Oc zwF U U U (ztu 0 w (by omega)) ?_
 rintro v9 w9⟨i9,rfl,rfl⟩
 refine Oc zwP U U U (zye p c i9 _) ?_
 rintro v10 w10 rfl
 refine zcJ [] (F':=[]) U ?_
 refine zgL U ?_
 rfl
theorem zyU(b:Nat)(w:Wl):zS TP 86 #[.map (some b)] w fun r w'=>∃b1,r=.func (.func 132) #[] #[Pt b1]∧w.heap.size≤b1∧zO w' b1 80 [.map (some b)]∧zk [] w w':=by
 refine A1 Tryz.func86 U U ?_
 refine Sr ?_
 refine Ob U U ?_
 intro b1 w1 e1 n1 c1 k1
 refine Oa U (E1 1 U (Sr (Og (zau U U) U (Oa U (E1 2 U (zj ?_))))))
 refine zw U U ?_
 exact⟨b1,rfl,by omega,k1,c1⟩
theorem zk.grown1{w w':Wl}{r:Nat}(h:zk [r] w w'):w.grownBy w' (some r):=⟨h.os,h.tape,h.output,h.size,fun k hk hn=>h.block k hk (by simp;intro e;exact hn (by rw[e]))⟩
theorem zf3.kr{K:Type}[DecidableEq K]{κ:ziY K}{S:List Nat}{keep:TypeId→Bool}{B:Nat}{w w':Wl}{r b:Nat}{es left:List (K×Va)}{last:Option (K×Va)}(h:zf3 κ w r b es left last)(hk:Kr S keep B w w')(hr:B≤r)(hb:b<B)(hbS:b∉S):zf3 κ w' r b es left last:=by
 obtain⟨a,c,s,h1,h2,h3⟩:=h
 exact⟨a,c,s,hk.iters r _ hr h1 U,(hk.low b hb hbS).trans h2,h3⟩
theorem zf3.walk{K:Type}[DecidableEq K]{κ:ziY K}{w:Wl}{r b:Nat}{es left:List (K×Va)}{last:Option (K×Va)}(h:zf3 κ w r b es left last):∃o:Obj,w.heap[r]?=some o∧o.isWalk=true:=by
 obtain⟨a,c,s,h1,_⟩:=h
 exact⟨_,h1,U⟩
theorem zBo(w:Wl)(b1 bm:Nat)(es:List (By×Va))(S0:List Nat)(keep:TypeId→Bool)(h1:zO w b1 80 [.map (some bm)])(hm:yf zbM w bm es)(k1:b1∉S0)(km:bm∉S0) :
 zrM TP 132 #[Pt b1] (fun k:By => #[.string k]) S0 keep (fun _ _=>True) (fun xs _=>xs.Perm (zb7 es)) (fun _ _=>True) es.length w:=by
 intro l J Jx W hcw hJ hJx hY h0
 have hab:∀{pre:List By} {W1 W2:Wl},zk [] W1 W2→J pre W1→J pre W2:=fun hc hj=>hJ _ _ _ none hj hc.grown0 (fun _ e=>by cases e)
 have hkw:Kp S0 w.heap.size w W:=⟨hcw.size,fun k hk _=>hcw.block k hk (by simp)⟩
 refine CallsIn.mono (R:=fun e W'=>∃u,e=.returned u∧(fun(_:Va) W'=>(∃xs:List By,xs.Perm (zb7 es)∧J xs W')∨(∃pre,True∧Jx pre W')) u W') ?_ (fun e W' ⟨u,he,h⟩=>⟨⟨u,he⟩,h⟩)
 refine CallsIn.of_WX (args:=[_,_]) Tryz.func132 U U U U (zhH ?_)
 have h1W:=h1.chg0 hcw
 refine Sr (Ol zDS U (h1W.cell' U) ?_)
 refine Oq (zfc zDE U (hm.chg0 hcw) U ?_)
 intro b5 w5 e5 n5 c5 k5
 refine E2 0 5 U (zp ?_)
 have hkw5:Kp S0 w.heap.size w w5:=⟨Nat.le_trans hkw.1 c5.size,fun k hk hn=>(c5.block k (Nat.lt_of_lt_of_le hk hkw.1) (by simp)).trans (hkw.2 k hk hn)⟩
 refine zQ [0,5] (fun m F wx=>∃(pre:List By) (left:List (By×Va)) (last:Option (By×Va)),m=left.length∧F=[(0,.func (.yield l) #[] #[]),(5,Pt b5)]∧zf3 zbM wx b5 bm es left last∧Kp S0 w.heap.size w wx∧J pre wx∧(pre++zb7 left).Perm (zb7 es)) (m:=es.length) ⟨[],es,none,rfl,rfl,k5,hkw5,hab c5 h0,by simp⟩ ?_
 rintro m F wx⟨pre,left,last,rfl,rfl,hit,hkx,hJ0,hper⟩
 have hs1:=hkw.1
 cases hleft:left with
 |nil=>
  refine Sr ?_
  refine Oq (zcP U hit U (fun _=>?_) (fun p l1 l2 w' h=>absurd (hleft.symm.trans h) (by simp)))
  skip
  refine Oe U U (E3 0 5 7 U (zf (zb U ?_)))
  refine zI ?_
  repeat first|refine te ?_|refine bo rfl ?_
  refine zq _ ?_
  refine zgL U ?_
  rw[hleft]at hper
  exact .inl ⟨pre,by simpa[zb7] using hper,hJ0⟩
 |cons p0 l0=>
  refine Sr ?_
  refine Oq (zcP U hit U (fun h=>absurd (hleft.symm.trans h) (by simp)) ?_)
  intro p l1 l2 w6 e6 n6 c6 k6
  refine Oe U U (E3 0 5 7 U (zf (ze U (zm (zp (Sr (Og (zfm U k6) U (Oe U U (Oa U (E3 0 3 5 U ?_))))))))))
  have hJ6:J pre w6:=hJ _ _ _ (some b5) hJ0 c6.grown1 (fun r e=>by cases e;exact⟨by omega,hit.walk⟩)
  have hk6:Kp S0 w.heap.size w w6:=⟨Nat.le_trans hkx.1 c6.size,fun k hk hn=>(c6.block k (Nat.lt_of_lt_of_le hk hkx.1) (by simp;omega)).trans (hkx.2 k hk hn)⟩
  have hlen:pre.length+left.length=es.length:=by
   have:=hper.length_eq
   simpa[zb7] using this
  have hy:=hY pre p.1 w6 hJ6 trivial (by rw[←hlen,hleft];simp)
  refine zf ?_
  refine zfa ?_
  refine Xm U (Xm U ?_)
  refine zgA (gn U) U U U hy ?_
  rintro v12 w12 hR12
  obtain⟨b12,rfl,hb12⟩:=yb hR12
  refine⟨_,U,?_⟩
  refine yh (gn U) U (St.vl (zC U) U U ?_)
  refine zcf [0,5,13] (F':=[(0,_),(5,_),(13,_)]) U ?_
  rcases hb12 with⟨rfl,hJ12,hk12⟩|⟨rfl,hJ12⟩
  ·refine zb U (zT (zl ?_))
   refine⟨(l1++l2).length,by rw[←hleft,e6];simp,pre++[p.1],l1++l2,some p,rfl,rfl,k6.kr hk12 (by omega) hm.lt km,hk6.trans hk12.kp,hJ12,?_⟩
   refine List.Perm.trans ?_ hper
   rw[e6,List.append_assoc]
   refine List.Perm.append_left pre ?_
   simp only[zb7,List.map_append,List.map_cons,List.singleton_append]
   exact List.perm_middle.symm
  refine ze U (zj ?_)
  repeat first|refine tr ?_|refine br ?_
  refine zug U ?_
  exact .inr ⟨_,Tt,hJ12⟩
end Go.Wk
