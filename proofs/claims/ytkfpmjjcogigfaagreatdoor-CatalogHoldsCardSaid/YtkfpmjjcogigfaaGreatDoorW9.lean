/- joined texts -/
import Derived.Test.YtkfpmjjcogigfaaGreatDoorW8
set_option linter.all false
namespace Go.Wk
open Go.Proofs
set_option linter.unusedSectionVars false
variable [Lw]
set_option maxRecDepth 10000
theorem zhn(w:Wl):zL TP 216 #[.bool true] w fun r w'=>r=.tuple #[]∧w'=w:=by
 refine A1 Tryz.func216 U U ?_
 refine Sr (Om U (Og (zE U) U (E1 3 U (zb U (z0 ?_)))))
 refine zkK U ?_
 exact⟨U,U⟩
theorem zaA.apart{w:Wl}{e k:Nat}{v:Va}{len:Nat}{xs:List Va}(h:zaA w e k v len xs){b:Nat}{e':TypeId}{c:List Va}(hb:zK w b e' c)(hne:Nat.beq e e'=false):∀x∈zq v,x∉[b]:=by
 rcases h with⟨rfl,_⟩|⟨b',off,cap,c',fr,rfl,h,_⟩
 ·simp[zq]
 intro x hx hm
 simp[zq]at hx
 simp at hm
 subst hx hm
 unfold zK at hb
 rw[h]at hb
 cases hb
 simp at hne
def yG(w:Wl)(t:Va)(l:List UInt8)(b:Nat):Prop:=t=Pt b∧∃v,zK w b 333 [v]∧zaA w 5 1 v l.length (bv l)∧b∉zq v
theorem yG.chg0{w w':Wl}{t:Va}{l:List UInt8}{b:Nat}(h:yG w t l b)(hc:zl [] w w'):yG w' t l b:=
 let ⟨h1,v,h2,h3,h4⟩:=h; ⟨h1,v,h2.chg0 hc,h3.chg0 hc,h4⟩
theorem yG.lt{w:Wl}{t:Va}{l:List UInt8}{b:Nat}(h:yG w t l b):b<w.heap.size:=
 let ⟨_,_,h2,_⟩:=h;h2.lt
theorem yG.chg{w w':Wl}{t:Va}{l:List UInt8}{b:Nat}{S:List Nat}(h:yG w t l b)(hc:zl S w w')(hS:∀y∈S,y≠b∧∃e c,zK w y e c∧Nat.beq 5 e=false):yG w' t l b:=by
 obtain⟨h1,v,h2,h3,h4⟩:=h
 refine⟨h1,v,h2.chg hc (fun hm=>(hS b hm).1 U),h3.chg hc (fun y hy hm=>?_),h4⟩
 obtain⟨_,e,c,hb,hne⟩:=hS y hm
 exact h3.apart hb hne y hy (by simp)
theorem ztM{w:Wl}{p:Option Addr}{n cap:Nat}{l m:List UInt8}{z:Nat}(h:zaA w 5 1 (.slice p n cap) (l++m).length (bv (l++m)))(hz:l.length=z)(hc:(l++m).length≤cap)(k:Nat)(h1:z≤k)(h2:k≤cap):zaA w 5 1 (cut p 0 z k 1) l.length (bv l):=by
 obtain⟨p',c',he,_⟩:=h.val
 cases he
 subst hz
 have:=h.cut (l:=0) (h:=l.length) (m:=k) (by omega) h1 h2 (by simp)
 rw[zam]at this
 simpa[zct] using this
theorem ztl{w:Wl}{p:Option Addr}{n cap:Nat}{l m:List UInt8}{z:Nat}(h:zaA w 5 1 (.slice p n cap) (l++m).length (bv (l++m)))(hz:l.length=z)(hc:(l++m).length≤cap):zaA w 5 1 (cut p z n cap 1) m.length (bv m):=by
 obtain⟨p',c',he,_⟩:=h.val
 cases he
 subst hz
 have:=h.cut (l:=l.length) (h:=(l++m).length) (m:=cap) (by simp) hc (Nat.le_refl _) (by simp)
 rw[zam]at this
 simp only[Nat.mul_one,List.length_append,Nat.add_sub_cancel_left]at this
 rw[List.drop_left' (zct _),Tl (by rw[zct];omega)]at this
 simpa using this
theorem zwK(v:Va)(l m:List UInt8)(w:Wl)(z:Nat)(hz:l.length=z)(hv:zaA w 5 1 v (l++m).length (bv (l++m))):zL TP 321 #[v,Ii z] w fun r w'=>zaA w' 5 1 r l.length (bv l)∧(∀x∈zq r,x∈zq v)∧w'=w:=by
 obtain⟨p,cap,rfl,hcap⟩:=hv.val
 have hzl:z≤(l++m).length:=by rw[List.length_append];omega
 refine A2 Tryz.func321 U U ?_
 refine Sr (Oa U (E2 0 1 U (Sr (Om U (Om U (On znX U ?_))))))
 refine Og (vt (zbt U U) (dt (by omega))) U ?_
 refine Oc zju U U U (zhn _) ?_
 rintro v9 w9⟨rfl,rfl⟩
 refine E2 0 1 U (Sr (Om U (Om U (Om U ?_))))
 refine Og (zfK znX sz5 U U U _ _ U U (Nat.le_refl _) (by omega)) U ?_
 refine Oa U (E1 4 U (zh ?_))
 refine zx U U ?_
 exact⟨ztM hv hz hcap _ (Nat.le_refl _) (by omega),zw.cutBlk,rfl⟩
theorem zhf(t:Va)(b:Nat)(l m:List UInt8)(w:Wl)(z:Nat)(hz:l.length=z)(ht:yG w t (l++m) b):zL TP 252 #[t,Ii z] w fun r w'=>zaA w' 5 1 r l.length (bv l)∧yG w' t m b∧zl [b] w w':=by
 obtain⟨rfl,v,hb,hv,hbv⟩:=ht
 obtain⟨p,cap,rfl,hcap⟩:=id hv.val
 have hzl:z≤(l++m).length:=by rw[List.length_append];omega
 refine A2 Tryz.func252 U U ?_
 refine Sr (Oa U (E2 0 1 U (Sr (Om U (Og (zp U) U (Od zgI U (Ol znZ U (hb.cell' U) (Om U ?_))))))))
 refine Oc zzJ U U U (zwK _ l m _ z hz hv) ?_
 rintro v11 w11⟨i11,q11,rfl⟩
 refine Oa U (E3 0 1 5 U (Sr (Om U (Om U (Og (zp U) U (Od zgI U (Ol znZ U (hb.cell' U) (Om U ?_))))))))
 refine Og (zaV znX sz5 U U _ U (by omega)) U ?_
 refine Og (zp U) U (Od zgI U ?_)
 refine Oq (zv zzB U U U U hb (by simp) (by intro u hu;rcases List.mem_cons.1 hu with rfl|hu;rfl;cases hu) ?_)
 intro wA nA cA kA
 refine E1 5 U (Sr (Om U (Oa U (E1 4 U (zh ?_)))))
 refine zx U U ?_
 have hbA:∀x∈zq (cut p z (l++m).length cap 1),x∉[b]:=fun x hx hm=>hbv (by rw[←List.mem_singleton.1 hm];exact zw.cutBlk x hx)
 exact⟨i11.chg cA (fun x hx hm=>hbv (by rw[←List.mem_singleton.1 hm];exact q11 x hx)),⟨rfl,_,kA,(ztl hv hz hcap).chg cA hbA,fun hm=>hbA b hm (by simp)⟩,cA⟩
theorem ztA(c:Col)(x:Int)(t:Va)(b:Nat)(m:List UInt8)(w:Wl)(hz:c.s=1∨c.s=2∨c.s=4∨c.s=8)(hx:zcy c.s≤x∧x ≤ -(zcy c.s+1))(ht:yG w t (be (x % 18446744073709551616).toNat c.s.toNat++m) b) :
 zL TP 250 #[c.v,t] w fun r w'=>r=(zT.mk 1 x 0 e0).v∧yG w' t m b∧zl [b] w w':=by
 obtain⟨z,hz1,hz2⟩:∃z:Nat,c.s=z∧(z=1∨z=2∨z=4∨z=8):=⟨c.s.toNat,by omega,by omega⟩
 rw[hz1]at ht hx
 have hib:=zi1 (i:=x) hz2 hx
 refine A2 Tryz.func250 U U ?_
 refine Sr ?_
 refine Ob U U ?_
 intro b2 w2 e2 n2 c2 k2
 refine Oq (zD zcq U U ?_)
 intro b4 w4 e4 n4 c4 k4
 refine E3 1 2 4 U (Sr (Om U (Od zdM U ?_)))
 refine Ol ag3 U ((k2.chg0 c4).cell' (show _=some (Value.int .i64 (z:Int)) by rw[←hz1];rfl)) ?_
 refine Oc zjF U U U (zhf t b _ m _ z (zaG _ _) (ht.chg0 (c2.trans c4))) ?_
 rintro v12 w12⟨i12,t12,c12⟩
 refine Oc zu4 U U U (zhr _ _ _ i12 (by rw[zaG];omega)) ?_
 rintro v13 w13⟨rfl,rfl⟩
 refine Om U (Oe U U (Oe U U (Oa U (Oa U (E3 2 4 5 U ?_)))))
 have hbl:=ht.lt
 have hs2:=c2.size
 have hs4:=c4.size
 have k2:=(k2.chg0 c4).chg c12 (by simp;omega)
 have k4:=k4.chg c12 (by simp;omega)
 refine Sr (Od zdM U ?_)
 refine Ol ag3 U (k2.cell' (show _=some (Value.int .i64 (z:Int)) by rw[←hz1];rfl)) ?_
 refine Og (zc8 U U (by omega)) U ?_
 refine Og (yV U U (by omega)) U ?_
 refine Oa U (E3 4 5 7 U (zd ?_))
 rw[zhq]
 refine za (Om U (Og (yp zfH zbO U U) U (Om U ?_)))
 refine Og (zdv (64-8*z) U U (by omega) (by simp only[IntKind.bits];omega) U) U ?_
 refine Om U ?_
 refine Og (zbW (64-8*z) U U (by omega) (by simp only[IntKind.bits];omega) hib) U ?_
 refine Og (zC ziq zcq U (vs:=[_,_]) U (css:=[_,_]) ⟨U,U,trivial⟩ U U (cs:=[_,_,_,_]) U) U ?_
 refine Oq (zv yv U U U U k4 (by simp) (zT.one ⟨1,x,0,e0⟩) ?_)
 intro wA nA cA kA
 refine E1 4 U (zh ?_)
 refine zg4 U zaX yv U U (zB.of_blk0 kA) ?_
 have hcz:zl [b] w wA:=((((zl.refl [b] w).trans c2).trans c4).transS c12).trans' cA (by intro y hy;simp at hy;subst hy;right;omega)
 exact⟨rfl,t12.chg cA (by intro y hy;simp at hy;subst hy;exact⟨by omega,_,_,k4,rfl⟩),hcz⟩
theorem zs2(c:Col)(n:Nat)(t:Va)(b:Nat)(m:List UInt8)(w:Wl)(hz:c.s=1∨c.s=2∨c.s=4∨c.s=8)(hx:(n:Int)<2 ^ (8*c.s.toNat))(ht:yG w t (be n c.s.toNat++m) b) :
 zL TP 255 #[c.v,t] w fun r w'=>r=(zT.mk 2 0 n e0).v∧yG w' t m b∧zl [b] w w':=by
 obtain⟨z,hz1,hz2⟩:∃z:Nat,c.s=z∧(z=1∨z=2∨z=4∨z=8):=⟨c.s.toNat,by omega,by omega⟩
 rw[hz1]at ht hx
 have hn:n % 256 ^ z=n:=by
  refine Nat.mod_eq_of_lt ?_
  rcases hz2 with rfl|rfl|rfl|rfl<;>simp only[Int.toNat_natCast,Nat.reduceMul,Nat.reducePow,Int.reducePow]at hx ⊢<;>omega
 refine A2 Tryz.func255 U U ?_
 refine Sr ?_
 refine Ob U U ?_
 intro b2 w2 e2 n2 c2 k2
 refine Oq (zD zcq U U ?_)
 intro b4 w4 e4 n4 c4 k4
 refine E3 1 2 4 U (Sr (Om U (Od zdM U ?_)))
 refine Ol ag3 U ((k2.chg0 c4).cell' (show _=some (Value.int .i64 (z:Int)) by rw[←hz1];rfl)) ?_
 refine Oc zjF U U U (zhf t b _ m _ z (zaG _ _) (ht.chg0 (c2.trans c4))) ?_
 rintro v11 w11⟨i11,t11,c11⟩
 refine Oc zu4 U U U (zhr _ _ _ i11 (by rw[zaG];omega)) ?_
 rintro v12 w12⟨rfl,rfl⟩
 refine Om U (Oe U U (Oe U U (Oa U (Oa U (E2 4 5 U ?_)))))
 have hbl:=ht.lt
 have hs2:=c2.size
 have hs4:=c4.size
 have k4:=k4.chg c11 (by simp;omega)
 refine zd ?_
 rw[zhq,hn]
 refine za (Om U ?_)
 refine Og (zbP ziq zcq U (qs:=[(0,_),(2,_)]) U (css:=[_,_]) ⟨U,U,trivial⟩ (cs:=[_,_,_,_]) U) U ?_
 refine Oq (zv yv U U U U k4 (by simp) (zT.one ⟨2,0,n,e0⟩) ?_)
 intro wA nA cA kA
 refine E1 4 U (zh ?_)
 refine zg4 U zaX yv U U (zB.of_blk0 kA) ?_
 have hcz:zl [b] w wA:=((((zl.refl [b] w).trans c2).trans c4).transS c11).trans' cA (by intro y hy;simp at hy;subst hy;right;omega)
 exact⟨rfl,t11.chg cA (by intro y hy;simp at hy;subst hy;exact⟨by omega,_,_,k4,rfl⟩),hcz⟩
theorem ztR(c:Col)(x:Int)(t:Va)(b:Nat)(m:List UInt8)(w:Wl)(hx:x=0∨x=1)(ht:yG w t ([UInt8.ofNat x.toNat]++m) b) :
 zL TP 257 #[c.v,t] w fun r w'=>r=(zT.mk 3 x 0 e0).v∧yG w' t m b∧zl [b] w w':=by
 have hx1:((UInt8.ofNat x.toNat).toNat:Int)=x:=by rcases hx with rfl|rfl<;>rfl
 refine A2 Tryz.func257 U U ?_
 refine Sr ?_
 refine Ob U U ?_
 intro b2 w2 e2 n2 c2 k2
 refine Oq (zD zcq U U ?_)
 intro b4 w4 e4 n4 c4 k4
 refine E2 1 4 U (Sr (Om U ?_))
 refine Oc zjF U U U (zhf t b _ m _ 1 U (ht.chg0 (c2.trans c4))) ?_
 rintro v7 w7⟨i7,t7,c7⟩
 obtain⟨bb,off,cap,rfl,hcell⟩:=i7.at1 (i:=0) (u:=.int .u8 x) (by rcases hx with rfl|rfl<;>rfl)
 refine Og (zm yT sz5 U U 0 U (by simp)) U ?_
 refine Ol ag5 U hcell (Oa U (E2 4 5 U ?_))
 have hbl:=ht.lt
 have hs2:=c2.size
 have hs4:=c4.size
 have k4:=k4.chg c7 (by simp;omega)
 refine Sr (Om U ?_)
 refine Og (vt (zbt U U) (dt (by omega))) U ?_
 refine Oc zju U U U (zhn _) ?_
 rintro v12 w12⟨rfl,rfl⟩
 refine E2 4 5 U (Sr (Om U ?_))
 refine Og (yp zfH za9 U (show IntKind.i64.wrap x=x by rcases hx with rfl|rfl<;>rfl)) U ?_
 refine Og (zC ziq zcq U (vs:=[_,_]) U (css:=[_,_]) ⟨U,U,trivial⟩ U U (cs:=[_,_,_,_]) U) U ?_
 refine Oq (zv yv U U U U k4 (by simp) (zT.one ⟨3,x,0,e0⟩) ?_)
 intro wA nA cA kA
 refine E1 4 U (zh ?_)
 refine zg4 U zaX yv U U (zB.of_blk0 kA) ?_
 have hcz:zl [b] w wA:=((((zl.refl [b] w).trans c2).trans c4).transS c7).trans' cA (by intro y hy;simp at hy;subst hy;right;omega)
 exact⟨rfl,t7.chg cA (by intro y hy;simp at hy;subst hy;exact⟨by omega,_,_,k4,rfl⟩),hcz⟩
theorem zw8(t:Va)(b:Nat)(s:By)(m:List UInt8)(w:Wl)(hs:s.size≤1048576)(hm:m.length≤1048576)(ht:yG w t (zbD s++m) b) :
 zL TP 214 #[t,.func (.func 151) #[] #[]] w fun r w'=>r=.string s∧yG w' t m b∧zl [b] w w':=by
 obtain⟨rfl,v,hb,hv,hbv⟩:=id ht
 refine A2 Tryz.func214 U U ?_
 refine Sr (Oa U (E2 0 1 U (Sr (Om U (Om U (Og (zp U) U (Od zgI U (Ol znZ U (hb.cell' U) ?_))))))))
 refine Oc zyf U U U (zno v s m _ hs hm hv) ?_
 rintro v14 w14⟨rfl,c14⟩
 refine Om U (Oe U U (Oe U U (Oe U U (Oa U (Oa U (Oa U (E4 0 5 6 7 U (Sr (Om U ?_)))))))))
 refine Og (vt (zA U U) (dt (by omega))) U ?_
 refine Oc zju U U U (zhn _) ?_
 rintro v20 w20⟨rfl,rfl⟩
 refine E3 0 5 6 U (Sr (Om U (Om U ?_)))
 refine Oc zjF U U U (zhf _ b (zbD s) m _ (zbD s).length U (ht.chg0 c14)) ?_
 rintro v23 w23⟨i23,t23,c23⟩
 refine E1 5 U (Sr (Om U (Oa U (E1 4 U (zh ?_)))))
 refine zx U U ?_
 exact⟨U,t23,((zl.refl [b] w).trans c14).transS c23⟩
theorem ztm(c:Col)(s:By)(t:Va)(b:Nat)(m:List UInt8)(w:Wl)(hs:s.size≤200)(hz:s.size≤c.s)(hm:m.length≤1048576)(ht:yG w t (zbD s++m) b) :
 zL TP 260 #[c.v,t] w fun r w'=>r=(zT.mk 4 0 0 s).v∧yG w' t m b∧zl [b] w w':=by
 refine A2 Tryz.func260 U U ?_
 refine Sr ?_
 refine Ob U U ?_
 intro b2 w2 e2 n2 c2 k2
 refine Oq (zD zcq U U ?_)
 intro b4 w4 e4 n4 c4 k4
 refine E3 1 2 4 U (Sr (Om U ?_))
 refine Oc zzy U U U (zw8 t b s m _ (by omega) hm (ht.chg0 (c2.trans c4))) ?_
 rintro v7 w7⟨rfl,t7,c7⟩
 refine Oa U (E3 2 4 5 U ?_)
 have hbl:=ht.lt
 have hs2:=c2.size
 have hs4:=c4.size
 have k2:=(k2.chg0 c4).chg c7 (by simp;omega)
 have k4:=k4.chg c7 (by simp;omega)
 refine Sr (Om U (Og (zax st9 U) U (Od zdM U (Ol ag3 U (k2.cell' U) ?_))))
 refine Og (vt (zbt U U) (dt (by omega))) U ?_
 refine Oc zju U U U (zhn _) ?_
 rintro v13 w13⟨rfl,rfl⟩
 refine E2 4 5 U (Sr (Om U ?_))
 refine Og (zbP ziq zcq U (qs:=[(0,_),(3,_)]) U (css:=[_,_]) ⟨U,U,trivial⟩ (cs:=[_,_,_,_]) U) U ?_
 refine Oq (zv yv U U U U k4 (by simp) (zT.one ⟨4,0,0,s⟩) ?_)
 intro wA nA cA kA
 refine E1 4 U (zh ?_)
 refine zg4 U zaX yv U U (zB.of_blk0 kA) ?_
 have hcz:zl [b] w wA:=((((zl.refl [b] w).trans c2).trans c4).transS c7).trans' cA (by intro y hy;simp at hy;subst hy;right;omega)
 exact⟨rfl,t7.chg cA (by intro y hy;simp at hy;subst hy;exact⟨by omega,_,_,k4,rfl⟩),hcz⟩
theorem zns{c:Col}{x:zT}(h:y7 c x=0)(hk:x.k≠0):∃f g k,zar zmY c.t=some (zj0 f g k)∧zi TP g=true∧∀w t b m,m.length≤1048576→yG w t (zje c x++m) b→zL TP g #[c.v,t] w fun r w'=>r=x.v∧yG w' t m b∧zl [b] w w':=by
 obtain⟨hr,hc,_,h2⟩:=zbi h
 obtain⟨hkt,hw⟩:=h2 hk
 obtain⟨hf,hb⟩:=zd4 hc
 obtain⟨_,hbr,hm⟩:=zbl hf
 obtain⟨s1,s2,s3,s4⟩:=zeK hr
 obtain⟨k,i,u,by'⟩:=x
 unfold zje
 simp only[zb1]at hw
 simp only[ze1,zT.mk.injEq]at hbr
 rcases s4 with e|e|e|e<;>simp only[e, ↓reduceIte,Int.reduceEq]<;>simp only[e, ↓reduceIte,Int.reduceEq,decide_eq_false_iff_not]at hw hkt<;>subst hkt<;>simp at hbr<;>(try obtain⟨h1,h2⟩:=hbr)<;>subst_vars
 ·exact⟨_,_,_,rfl,zzG,fun w t b m _ ht=>ztA c i t b m w (s1 (.inl e)) (by omega) ht⟩
 ·exact⟨_,_,_,rfl,zxq,fun w t b m _ ht=>zs2 c u t b m w (s1 (.inr e)) (by omega) ht⟩
 ·exact⟨_,_,_,U,zwU,fun w t b m _ ht=>ztR c i t b m w (hm U) ht⟩
 exact⟨_,_,_,rfl,zxg,fun w t b m hl ht=>ztm c by' t b m w hb (by omega) hl ht⟩
theorem zpn{cs:List Col}{xs:List zT}{j:Nat}{c:Col}{x:zT}(hc:cs[j]? = some c)(hx:xs[j]? = some x):zb5 (cs.drop j) (xs.drop j)=zes c x++zb5 (cs.drop (j+1)) (xs.drop (j+1)):=by
 obtain⟨h1,rfl⟩:=Gs hc
 obtain⟨h2,rfl⟩:=Gs hx
 rw[List.drop_eq_getElem_cons h1,List.drop_eq_getElem_cons h2]
 rfl
theorem ziG:∀{cs:List Col} {xs:List zT} (j:Nat),zaz cs xs=0→zaz (cs.drop j) (xs.drop j)=0
 |_,_,0,h=>by simpa using h
 |[],_,_+1,_=>by simp[zaz]
 |_::_,[],_+1,_=>by simp[zaz]
 |c::cs,x::xs,j+1,h=>by
  unfold zaz at h
  by_cases h1:y7 c x=0
  ·rw[if_neg (by simp[h1])]at h
   exact ziG j h
  rw[if_pos h1]at h;exact absurd h h1
theorem yG.chgSl{w w':Wl}{t o:Va}{l:List UInt8}{b e k n:Nat}{xs:List Va}(h:yG w t l b)(ho:zw w e k o n xs)(h1:Nat.beq 5 e=false)(h2:Nat.beq e 333=false)(hc:zl (zq o) w w'):yG w' t l b:=by
 refine h.chg hc fun y hy=>?_
 obtain⟨_,v,hb,_⟩:=h
 rcases ho with⟨rfl,_⟩|⟨b',off,cap,c,rfl,hs⟩
 ·simp[zq]at hy
 simp[zq]at hy
 subst hy
 exact⟨hs.blk.ne hb h2,_,_,hs.blk,h1⟩
theorem yG.nl{w:Wl}{t:Va}{l:List UInt8}{b:Nat}(h:yG w t l b):Nl w [b]:=by
 obtain⟨_,v,hb,hv,_⟩:=h
 obtain⟨p,c,rfl,_⟩:=hv.val
 exact Nl.one hb (by intro u hu;simp at hu;subst hu;rfl)
theorem zy8(c k u t:Va)(s:yx)(l:List zT)(b:Nat)(w:Wl)(hs:zal w c k u s)(hr:zai s l=0)(ht:yG w t (zb5 s.cols l) b) :
 zL TP 234 #[t,.agg #[c,k,u]] w fun r w'=>zdU w' r l∧(∀y∈zq r,w.heap.size≤y)∧yG w' t [] b∧zl [b] w w':=by
 obtain⟨hrs,hlen,hfit⟩:=zaU hr
 have h8:=(z6 hrs).1
 have hbl:=ht.lt
 obtain⟨pc,cc,rfl,hcc⟩:=zO.val hs.cols
 refine A2 Tryz.func234 U U ?_
 refine Sr ?_
 refine Ob U U ?_
 intro b3 w3 e3 n3 c3 k3
 refine Oa U (E3 0 3 4 U (zd (Sr (Od yW U (Ol zcr U (k3.cell' U) (On zbF U (Om U (E5 0 4 10 11 12 U (zu ?_)))))))))
 refine zX [0,4,10,11,12] (fun m F wx=>∃(j:Nat) (o:Va),m=s.cols.length-j∧j≤s.cols.length∧F=[(0,t),(4,o),(10,.slice pc s.cols.length cc),(11,Ii s.cols.length),(12,Ii j)]∧yh wx 111 4 zT.cs o (l.take j)∧(∀b∈zq o,w3.heap.size≤b)∧yG wx t (zb5 (s.cols.drop j) (l.drop j)) b∧zl [b] w3 wx) (m:=s.cols.length-0) ⟨0,_,rfl,Nat.zero_le _,rfl,zw.nil _ _ _,by simp[zq],ht.chg0 c3,zl.refl _ _⟩ ?_
 rintro m F wx⟨j,o,rfl,hj,rfl,ho,hfo,htx,hcx⟩
 refine Sr (Og (zF U U) U (E6 0 4 10 11 12 13 U (zd ?_)))
 refine zH U (fun hT=>?_) (fun hF=>?_)
 ·refine zk ?_
  have hlt:j<s.cols.length:=by have:=of_decide_eq_true hT;omega
  have hx:l[j]? = some (l[j]'(by omega)):=by simp[hlt,hlen]
  have hy:s.cols[j]? = some s.cols[j]:=by simp[hlt]
  generalize l[j]'(by omega)=x at hx
  generalize s.cols[j]=y at hy
  have hfy:=zgl hfit hy hx
  have hel:=ziz hfy
  have hrl:=zeo (ziG (j+1) hfit)
  rw[List.length_drop]at hrl
  rw[zpn hy hx]at htx
  have htl:(l.take j).length=j:=by rw[List.length_take];omega
  have hcols:zg5 wx (.slice pc s.cols.length cc) s.cols:=zO.chgC (zO.chg0 hs.cols c3) hcx zs9 (ht.chg0 c3).nl
  obtain⟨bc,offc,capc,hvc,hcellc⟩:=zO.at zb9 hcols hy
  cases hvc
  refine zd (zu (Sr ?_))
  refine Og (zm zbF zaL U U _ U hlt) U ?_
  refine Og (zg zdy zaL U U hcellc) U ?_
  refine Oq (zD zj2 U U ?_)
  intro b6 w6 e6 n6 c6 k6
  refine Oq (zv zaL U U U U k6 (by simp[Col.cs]) (Col.one y) ?_)
  intro wA nA cA kA
  refine E6 0 4 6 10 11 12 U ?_
  have kA:zK wA b6 114 y.cs:=kA
  have hcA:zl [] wx wA:=c6.own cA (by intro y hy;simp at hy;omega)
  have hbx:=htx.lt
  have hob:∀z∈zq o,z∉[b]:=by
   obtain⟨_,v,hv,_⟩:=htx
   exact zw.apart ho hv U
  refine zd ?_
  by_cases hk:x.k=0
  ·rw[show zes y x=[0] by simp[zes,hk]]at htx
   have hyz:y.z=true:=(zbi hfy).2.2.1 hk
   refine za (Om U ?_)
   refine Oc zjF U U U (zhf t b [0] _ _ 1 U (htx.chg0 hcA)) ?_
   rintro v17 w17⟨i17,t17,c17⟩
   obtain⟨bb,off,cap,rfl,hcell⟩:=i17.at1 (i:=0) (u:=.int .u8 0) rfl
   refine Og (zm yT sz5 U U 0 U (by simp)) U ?_
   refine Ol ag5 U hcell (Oa U (E7 0 4 6 7 10 11 12 U ?_))
   have kA:=kA.chg c17 (by simp;omega)
   refine Sr (Om U ?_)
   refine Og (vf (zA U U) (df (by omega))) U ?_
   refine Om U (Oj U U ?_)
   refine Oy U U (vt (zA U U) (dt (by omega))) ?_
   refine Oj U U (Oy U U (ze zkr U) ?_)
   refine Oy U U (zj ag4 U (kA.cell' (show _=some (Value.bool true) by rw[←hyz];rfl))) ?_
   refine Oy U U (zW U U) (Of U ?_)
   refine Oc zju U U U (zhn _) ?_
   rintro v30 w30⟨rfl,rfl⟩
   refine E7 0 4 6 7 10 11 12 U (Sr ?_)
   refine Oq (zD zcq U U ?_)
   intro b8 w8 e8 n8 c8 k8
   refine E8 0 4 6 7 8 10 11 12 U (zd (Sr (Om U ?_)))
   refine Og (vf (zA U U) (df (by omega))) U ?_
   refine E8 0 4 6 8 10 11 12 32 U (zb U (zk ?_))
   have ho30:yh w30 111 4 zT.cs o (l.take j):=yh.chg (yh.chg0 ho hcA) c17 hob
   have hnull:x=zT.null:=by
    obtain⟨k,i,u,by'⟩:=x
    have:=(zbl (zd4 (zbi hfy).2.1).1).2.1
    simp only at hk
    subst hk
    simpa[ze1,zT.null] using this
   subst hnull
   have k8:zK w8 b8 111 zT.null.cs:=k8
   have hcB:zl [b] wx w8:=((zl.refl [b] wx).trans hcA).transS c17 |>.trans c8
   refine za (Om U (Og (zg zaX yv U U (zB.of_blk0 k8)) U ?_))
   refine Oq (zz zmD U (vs:=[_]) U (css:=[_]) ⟨U,trivial⟩ U U (cs:=[_,_,_,_]) U U ?_)
   intro b43 w43 e43 n43 c43 k43
   refine Oq (yE zmD zbn U U (yh.chg0 (yh.chg0 ho30 c8) c43) (zw.of_blk (n:=1) k43 U (by simp[maxLen]) (zT.one _)) (by simp only[maxLen];omega) (by omega) U ?_)
   intro v44 w44 i44 c44 o44 z44
   refine Oa U (N5 0 4 10 11 12 U (zn ?_))
   have hs0:=hcx.size
   have hs1:=hcB.size
   have hs3:=c43.size
   have hwz:=hcx.trans' ((((zl.refl (zq o++[b]) wx).trans' hcB (by simp)).trans c43).trans' c44 (fun z hz=>.inl (by simp[hz]))) (by
    intro z hz
    rcases List.mem_append.1 hz with hz|hz
    ·exact .inr (hfo z hz)
    exact .inl hz)
   refine za ?_
   refine Og (zG U U (by omega)) U ?_
   refine Om U (N5 0 4 10 11 12 U ?_)
   refine⟨s.cols.length-(j+1),by omega,j+1,v44,rfl,by omega,rfl,?_,zaH o44 hfo (by omega),?_,hwz⟩
   ·rw[List.take_add_one,hx]
    exact zO.push i44 U U
   exact((t17.chg0 c8).chg0 c43).chgSl (zw.chg0 (zw.chg0 ho30 c8) c43) U U c44
  rw[show zes y x=1::zje y x by simp[zes,hk]]at htx
  refine za (Om U ?_)
  refine Oc zjF U U U (zhf t b [1] _ _ 1 U (htx.chg0 hcA)) ?_
  rintro v17 w17⟨i17,t17,c17⟩
  obtain⟨bb,off,cap,rfl,hcell⟩:=i17.at1 (i:=0) (u:=.int .u8 1) rfl
  refine Og (zm yT sz5 U U 0 U (by simp)) U ?_
  refine Ol ag5 U hcell (Oa U (E7 0 4 6 7 10 11 12 U ?_))
  have kA:=kA.chg c17 (by simp;omega)
  refine Sr (Om U ?_)
  refine Og (vt (zA U U) (dt (by omega))) U ?_
  refine Om U (Oz U U (Oz U U (Oz U U (Oh U U (Oh U U (Oz U U (Ot U ?_)))))))
  refine Oc zju U U U (zhn _) ?_
  rintro v30 w30⟨rfl,rfl⟩
  refine E7 0 4 6 7 10 11 12 U (Sr ?_)
  refine Oq (zD zcq U U ?_)
  intro b8 w8 e8 n8 c8 k8
  refine E8 0 4 6 7 8 10 11 12 U (zd (Sr (Om U ?_)))
  refine Og (vt (zA U U) (dt (by omega))) U ?_
  refine E8 0 4 6 8 10 11 12 32 U (zf U ?_)
  obtain⟨f,g,q,hgk,hbf,hread⟩:=zns hfy hk
  have hsz:=(((zl.refl [b] wx).trans hcA).transS c17).size
  have kA:=kA.chg0 c8
  refine zN (fun wz=>zl [] w8 wz) mix (by kernel_rfl) (zl.drew [] _) ?_
  refine Tc zuT U U U (zn5 _) ?_
  rintro v33 w33⟨b33,rfl,h33,k33,c33⟩
  refine⟨.inl ((zl.drew [] _).trans c33),?_⟩
  refine Td zh2 U (Tr (fun wz hz=>zj zoV U ((kA.chg0 hz).cell' U)) U ?_)
  refine za4 U (gn U) (St.vl (zcL (κ:=y6 .i64) zkc (zM yY) zjX U U k33 hgk U) U U ?_)
  refine⟨.inl ((zl.drew [] _).trans c33),?_⟩
  refine Tp (fun _=>zgV zsO U U) U (Tr (fun wz hz=>zg zdy zaL U U (zB.of_blk0 (kA.chg0 hz))) U (Tm U ?_))
  refine Tc hbf U U U (hread _ t b _ (by omega) (t17.chg0 ((c8.trans (zl.drew [] _)).trans c33))) ?_
  rintro v40 w40⟨rfl,t40,c40⟩
  refine⟨.inr (by kernel_rfl),?_⟩
  refine za4 U (gn U) (zv yv U U U U (((k8.chg0 (zl.drew [] _)).chg0 c33).chg c40 (by simp;omega)) (by simp[zT.cs]) (zT.one x) ?_)
  intro wB nB cB kB
  refine⟨.inr (by kernel_rfl),?_⟩
  refine D6 0 4 8 10 11 12 U ?_
  have kB:zK wB b8 111 x.cs:=kB
  have hcB:zl [b] wx w8:=((zl.refl [b] wx).trans hcA).transS c17 |>.trans c8
  have hs0:=hcx.size
  have hs1:=hcB.size
  have hs2:=c33.size
  have hs3:=c40.size
  have hcD:zl [b] wx wB:=(((hcB.trans (zl.drew [] _)).trans c33).transS c40).trans' cB (by intro z hz;simp at hz;subst hz;right;omega)
  have hoB:yh wB 111 4 zT.cs o (l.take j):=yh.chg ho hcD hob
  refine za (Om U (Og (zg zaX yv U U (zB.of_blk0 kB)) U ?_))
  refine Oq (zz zmD U (vs:=[_]) U (css:=[_]) ⟨U,trivial⟩ U U (cs:=[_,_,_,_]) U U ?_)
  intro b43 w43 e43 n43 c43 k43
  refine Oq (yE zmD zbn U U (yh.chg0 hoB c43) (zw.of_blk (n:=1) k43 U (by simp[maxLen]) (zT.one _)) (by simp only[maxLen];omega) (by omega) U ?_)
  intro v44 w44 i44 c44 o44 z44
  refine Oa U (N5 0 4 10 11 12 U (zn ?_))
  have hs4:=c43.size
  have hs5:=hcD.size
  have hwz:=hcx.trans' ((((zl.refl (zq o++[b]) wx).trans' hcD (by simp)).trans c43).trans' c44 (fun z hz=>.inl (by simp[hz]))) (by
   intro z hz
   rcases List.mem_append.1 hz with hz|hz
   ·exact .inr (hfo z hz)
   exact .inl hz)
  refine za ?_
  refine Og (zG U U (by omega)) U ?_
  refine Om U (N5 0 4 10 11 12 U ?_)
  refine⟨s.cols.length-(j+1),by omega,j+1,v44,rfl,by omega,rfl,?_,zaH o44 hfo (by omega),?_,hwz⟩
  ·rw[List.take_add_one,hx]
   exact zO.push i44 U U
  have tB:yG wB t _ b:=t40.chg cB (by intro z hz;simp at hz;subst hz;exact⟨by omega,_,_,(((k8.chg0 (zl.drew [] _)).chg0 c33).chg c40 (by simp;omega)),rfl⟩)
  exact(tB.chg0 c43).chgSl (zw.chg0 hoB c43) U U c44
 refine zI ?_
 repeat first|refine te ?_|refine bo rfl ?_
 refine zt _ ?_
 have he:s.cols.length≤j:=by have:=of_decide_eq_false hF;omega
 rw[Tl (by omega)]at ho
 rw[List.drop_eq_nil_of_le he]at htx
 refine Sr (Om U (Oa U (E1 4 U (zh ?_))))
 refine zx U U ?_
 have hs1:=c3.size
 exact⟨ho,fun b hb=>Nat.le_trans hs1 (hfo b hb),htx,((zl.refl [b] w).trans c3).transS hcx⟩
theorem zqO(x y:Va)(w:Wl):CallsD TP 211 #[x,y] .returning w fun e u' w'=>(∃v,e=.returned v)∧u'=.returning∧w'=w:=by
 have hnn:∀w,(Op.equal 20 .nilIface .nilIface).run TP w=.ok true w:=fun w=>by
  obtain⟨ms,hu⟩:=zff zyn
  exact zbb fun d=>by simp[Op.equalIn,run_underlying hu]
 have hrs:Tryz.f211.results = #[]:=rfl
 refine callsD_of_wpS Tryz.func211 U fun c₀ cs hu=>?_
 apply wpS_seq
 apply wpS_region
 simp[wpOpsS,go_sem,recoverD,hu,Exit.thenS]
 apply wpS_seq
 apply wpS_region
 simp[wpOpsS,go_sem,recoverD,hu,Exit.thenS,binOp,eqGuard,hnn]
 refine wpS_cond (t:=false) (by simp[Act.eval,Array.replicate]) ?_
 simp only[Bool.false_eq_true,if_false]
 refine wpS_of_wp (wp_skip ?_)
 cases c₀
 simp_all[bodyPostS,results]
theorem zv1(c k u v:Va)(s:yx)(l:List zT)(w:Wl)(hs:zal w c k u s)(hr:zai s l=0)(hv:zaA w 5 1 v (zb5 s.cols l).length (bv (zb5 s.cols l))) :
 zL TP 187 #[.agg #[c,k,u],v] w fun r w'=>∃o,r=.tuple #[o,Ii (zb5 s.cols l).length,Ii 0]∧zdU w' o l∧(∀y∈zq o,w.heap.size≤y)∧zl [] w w':=by
 obtain⟨pv,cv,rfl,hcv⟩:=hv.val
 obtain⟨hrs,hlen,hfit⟩:=zaU hr
 have h8:=(z6 hrs).1
 have hel:=zeo hfit
 refine zL.of_WD (args:=[_,_]) Tryz.func187 U U U U ?_
 refine Sr ?_
 refine Ob U U ?_
 intro b2 w2 e2 n2 c2 k2
 refine Oq (zD zz8 U U ?_)
 intro b4 w4 e4 n4 c4 k4
 refine Oq (zD zr3 U U ?_)
 intro b5 w5 e5 n5 c5 k5
 refine Oq (zD zsV U U ?_)
 intro b6 w6 e6 n6 c6 k6
 refine E5 1 2 4 5 6 U (Sr (Og (y9 U U) U ?_))
 refine zta U U ?_
 refine zac [1,2,4,5,6] (F':=[(1,_),(2,_),(4,_),(5,_),(6,_),(1000001,_)]) U (Sr (Om U ?_))
 refine Og (zC zxL zzc U (vs:=[_]) U (css:=[_]) ⟨U,trivial⟩ U U (cs:=[_]) U) U ?_
 refine Ob U U ?_
 intro b11 w11 e11 n11 c11 k11
 refine Oa U (zac [1,2,4,5,6,7] (F':=[(1,_),(2,_),(4,_),(5,_),(6,_),(7,_),(1000001,_)]) U ?_)
 have hcA:=((c2.trans c4).trans c5).trans c6
 have hlt:∀z∈zq (.slice pv (zb5 s.cols l).length cv),z<w.heap.size:=hv.lt
 have hs2:=c2.size
 have hs4:=c4.size
 have hs5:=c5.size
 have hs6:=c6.size
 have hc11:zl [] w w11:=hcA.trans c11
 have tp:yG w11 (Pt b11) (zb5 s.cols l) b11:=⟨rfl,_,k11,hv.chg0 hc11,fun hm=>by have:=hlt b11 hm;omega⟩
 refine Sr (Om U ?_)
 refine Og (zg zbQ zbL U U (zB.of_blk0 ((((k2.chg0 c4).chg0 c5).chg0 c6).chg0 c11))) U ?_
 refine Oc zyE U U U (zy8 c k u _ s l b11 _ (hs.chg0 hc11) hr tp) ?_
 rintro v14 w14⟨i14,f14,⟨-,v2,hb14,hv14,-⟩,c14⟩
 obtain⟨p14,q14,rfl,-⟩:=id (yh.val i14)
 obtain⟨p2,q2,rfl,-⟩:=id hv14.val
 refine Oq (zv zpQ U U U U ((((k4.chg0 c5).chg0 c6).chg0 c11).chg c14 (by simp;omega)) (by simp) (by intro u hu;simp at hu;subst hu;rfl) ?_)
 intro wA nA cA kA
 refine zac [1,4,5,6,7] (F':=[(1,_),(4,_),(5,_),(6,_),(7,_),(1000001,_)]) U (zd ?_)
 have kA:zK wA b4 36 [.slice p14 l.length q14]:=kA
 have hs11:=c11.size
 have hs14:=c14.size
 have hsA:=cA.size
 have hd:zl [] wA wA.drew:=zl.drew _ _
 have hbA:zK wA b11 333 [.slice p2 0 q2]:=hb14.chg cA (by simp;omega)
 have k5A:=((((k5.chg0 c6).chg0 c11).chg c14 (by simp;omega)).chg cA (by simp;omega)).chg0 hd
 have k6A:=(((k6.chg0 c11).chg c14 (by simp;omega)).chg cA (by simp;omega)).chg0 hd
 refine zN (fun wz=>wz.cell? ⟨b4,0,none⟩=some (.slice p14 l.length q14)∧wz.cell? ⟨b11,0,none⟩=some (.slice p2 0 q2)) mix (by kernel_rfl) ⟨(kA.chg0 hd).cell' U,(hbA.chg0 hd).cell' U⟩ ?_
 refine Tr (fun wz hz=>zj zbA U hz.1) U (Tm U (Tp (fun _=>z5 yT U) U (Tm U (Tp (fun _=>zp U) U (Td zgI U (Tr (fun wz hz=>zj znZ U hz.2) U (Tp (fun _=>z5 znX U) U ?_)))))))
 refine Tp (fun _=>yQ (v':=Ii (((zb5 s.cols l).length:Nat):Int)) (yV U U (by omega)) (by congr 1<;>omega)) U ?_
 refine za4 U (gn U) (zv zpQ U U U U (kA.chg0 hd) (by simp) (by intro u hu;simp at hu;subst hu;rfl) ?_)
 intro wB nB cB kB
 refine⟨.inl ⟨kB.cell' U,((hbA.chg0 hd).chg cB (by simp;omega)).cell' U⟩,?_⟩
 refine za4 U (gn U) (zv sz3 U U U U (k5A.chg cB (by simp;omega)) (by simp) (by simp[Value.oneCell']) ?_)
 intro wC nC cC kC
 refine⟨.inr (by kernel_rfl),?_⟩
 refine za4 U (gn U) (zv zmJ U U U U ((k6A.chg cB (by simp;omega)).chg cC (by simp;omega)) (by simp) (by simp[Value.oneCell']) ?_)
 intro wD nD cD kD
 refine⟨.inr (by kernel_rfl),?_⟩
 refine zjv [4,5,6] (F':=[(4,_),(5,_),(6,_),(1000001,_)]) U ?_
 refine zh ?_
 have kB:zK wB b4 36 [.slice p14 l.length q14]:=kB
 have kC:zK wC b5 3 [Ii (zb5 s.cols l).length]:=kC
 have kD:zK wD b6 28 [Ii 0]:=kD
 have hB:=(kB.chg cC (by simp;omega)).chg cD (by simp;omega)
 have hC:=kC.chg cD (by simp;omega)
 refine zzZ (Rd:=fun w'=>w'=wD) U zyl (zqO _ _ _) ?_
 rintro w' a ha rfl
 refine⟨.tuple #[.slice p14 l.length q14,Ii (zb5 s.cols l).length,Ii 0],?_,?_⟩
 ·have h4:=ha.get 4 (Pt b4) rfl
  have h5:=ha.get 5 (Pt b5) rfl
  have h6:=ha.get 6 (Pt b6) rfl
  have g4:w'.cell? ⟨b4,0,none⟩=_:=hB.cell' rfl
  have g5:w'.cell? ⟨b5,0,none⟩=_:=hC.cell' rfl
  have g6:w'.cell? ⟨b6,0,none⟩=_:=kD.cell' rfl
  simp[results,h4,h5,h6,asAddr,loadVar,zao zbA,zao ag3,zao zjh,g4,g5,g6]
 refine⟨_,U,?_,?_,?_⟩
 ·refine yh.chg (yh.chg (yh.chg (yh.chg0 (yh.chg i14 cA ?_) hd) cB ?_) cC ?_) cD ?_<;>(intro y hy hm;have:=f14 y hy;simp at hm;omega)
 ·intro y hy
  have:=f14 y hy
  omega
 refine((((((hc11.trans' c14 ?_).trans' cA ?_).trans hd).trans' cB ?_).trans' cC ?_).trans' cD ?_)<;>(intro y hy;simp at hy;subst hy;right;omega)
theorem zr6(c k u v:Va)(s:yx)(l:List zT)(w:Wl)(hs:zal w c k u s)(hm:s.Sm)(hr:zai s l=0)(hv:zaA w 5 1 v (zb5 s.cols l).length (bv (zb5 s.cols l))) :
 zL TP 127 #[.agg #[c,k,u],v] w fun r w'=>∃o,r=.tuple #[o,Ii 0]∧zdU w' o l∧(∀y∈zq o,w.heap.size≤y)∧zl [] w w':=by
 obtain⟨pv,cv,rfl,hcv⟩:=hv.val
 obtain⟨hrs,hlen,hfit⟩:=zaU hr
 have h8:=(z6 hrs).1
 have hel:=zeo hfit
 refine A2 Tryz.func127 U U ?_
 refine Sr ?_
 refine Ob U U ?_
 intro b2 w2 e2 n2 c2 k2
 refine Oa U (Oa U (E2 1 2 U (zd (Sr (Og (zg zbQ zbL U U (zB.of_blk0 k2)) U ?_)))))
 refine Oc zj4 U U U (zfF c k u s _ (hs.chg0 c2) hm) ?_
 rintro v11 w11⟨h11,c11⟩
 rw[hrs]at h11
 change v11=Ii 0 at h11
 subst h11
 refine Oa U (E3 1 2 6 U (Sr (Om U ?_)))
 refine Og (vf (zZ U U) (zb6 (by omega))) U ?_
 refine E4 1 2 6 13 U (zb U (zk (zd ?_)))
 have hcA:=c2.trans c11
 refine za (Og (zg zbQ zbL U U (zB.of_blk0 (k2.chg0 c11))) U (Om U ?_))
 refine Oc zyD U U U (zv1 c k u _ s l _ (hs.chg0 hcA) hr (hv.chg0 hcA)) ?_
 rintro v18 w18⟨v18,rfl,i18,f18,c18⟩
 refine Om U (Oe U U (Oe U U (Oe U U (Oa U (Oa U (Oa U (E4 1 7 8 9 U (zd (Sr (Om U ?_))))))))))
 refine Og (vf (zZ U U) (zb6 (by omega))) U ?_
 refine Om U (Oj U U (Oj U U (Oy U U (z5 yT U) ?_)))
 refine Oy U U (vf (zZ U U) (zb6 (by omega))) ?_
 refine Of U (E2 7 29 U (zb U (zk (Sr (Om U (Oa U (Oa U (E2 4 5 U (zh ?_)))))))))
 refine zbX U U U ?_
 have hsz:=hcA.size
 exact⟨_,U,i18,fun y hy=>Nat.le_trans hsz (f18 y hy),hcA.trans c18⟩
theorem zbB{s:yx}(h:zaq s=true):s.Sm:=by
 obtain⟨h1,h2,h3,_,_,_,h7⟩:=z6 h
 have:=(zbr h3).1
 exact⟨by omega,by omega,by omega,fun l hl=>by have:=(zbr (h7 l hl)).1;omega⟩
def PgL(w:Wl):List Nat→List (LE)→Prop
 |[],[]=>True
 |p::ps,m::ms=>Pg w p m∧PgL w ps ms
 |_,_=>False
theorem PgL.chg0{w w':Wl}(hc:zl [] w w'):∀{ps:List Nat} {ms:List (LE)},PgL w ps ms→PgL w' ps ms
 |[],[],_=>trivial
 |_::_,_::_,h=>⟨h.1.chg0 hc,PgL.chg0 hc h.2⟩
theorem PgL.length{w:Wl}:∀{ps:List Nat} {ms:List (LE)},PgL w ps ms→ps.length=ms.length
 |[],[],_=>rfl
 |_::_,_::_,h=>by simp[PgL.length h.2]
theorem PgL.at{w:Wl}:∀{ps:List Nat} {ms:List (LE)} {i:Nat} {p:Nat} {m:LE},PgL w ps ms→ps[i]? = some p→ms[i]? = some m→Pg w p m
 |[],[],_,_,_,_,h,_=>by simp at h
 |_::_,_::_,0,_,_,h,hp,hm=>by simp at hp hm;subst hp hm;exact h.1
 |_::_,_::_,i+1,_,_,h,hp,hm=>h.2.at (by simpa using hp) (by simpa using hm)
theorem PgL.chgO{w w':Wl}{q:Nat}{ms':LE}(hq:Pg w q ms')(hc:zl [q] w w'):∀{ps:List Nat} {ms:List (LE)},q∉ps→PgL w ps ms→PgL w' ps ms
 |[],[],_,_=>trivial
 |p::_,_::_,hn,h=>⟨h.1.chgO hq (fun e=>hn (by simp[e])) hc,PgL.chgO hq hc (fun hm=>hn (by simp[hm])) h.2⟩
theorem PgL.put{w w':Wl}{q:Nat}{m m':LE}(hq:Pg w q m)(hc:zl [q] w w')(hq':Pg w' q m'):∀{ps:List Nat} {ms:List (LE)} {i:Nat},ps.Nodup→ps[i]? = some q→PgL w ps ms→PgL w' ps (ms.set i m')
 |[],[],_,_,h,_=>by simp at h
 |p::ps,a::ms,0,hn,h,hp=>by
  simp at h;subst h
  simp at hn
  exact⟨hq',PgL.chgO hq hc hn.1 hp.2⟩
 |p::ps,a::ms,i+1,hn,h,hp=>by
  simp at h hn
  have hmem:q∈ps:=List.mem_of_getElem? h
  exact⟨hp.1.chgO hq (fun e=>hn.1 (e▸hmem)) hc,PgL.put hq hc hq' hn.2 h hp.2⟩
theorem PgL.snoc{w:Wl}{q:Nat}{m:LE}(hq:Pg w q m):∀{ps:List Nat} {ms:List (LE)},PgL w ps ms→PgL w (ps++[q]) (ms++[m])
 |[],[],_=>⟨hq,trivial⟩
 |_::_,_::_,h=>⟨h.1,PgL.snoc hq h.2⟩
theorem Pg.nl{w:Wl}{p:Nat}{ls:LE}(h:Pg w p ls):Nl w [p]:=by
 obtain⟨v,hb,_,h1,_⟩:=h
 obtain⟨q,c,rfl,_⟩:=h1.val
 exact Nl.one hb (by intro y hy;simp at hy;subst hy;rfl)
def scs(x:Va×Nat):List Va:=[x.1,.pointer (some ⟨x.2,0,none⟩)]
theorem zt6(x:Va×Nat):(scs x).length=2:=rfl
structure yI(w:Wl)(t pm:Nat)(c k u sv:Va)(xs:List (Va×Nat))(s:yx)(main:LE)(subs:List (LE)):Prop where
 blk:zK w t 123 [Pt pm,c,k,u,sv]
 sch:zal w c k u s
 pg:Pg w pm main
 sl:yh w 126 2 scs sv xs
 ats:ye w 3 1 ics (xs.map (·.1)) (zQ s)
 pgs:PgL w (xs.map (·.2)) subs
 nd:(pm::xs.map (·.2)).Nodup
 ge:∀p∈pm::xs.map (·.2),Lw.n≤p
section
variable {w w':Wl} {t pm:Nat} {c k u sv:Va} {xs:List (Va×Nat)} {s:yx} {main:LE} {subs:List (LE)}
theorem yI.chg0(h:yI w t pm c k u sv xs s main subs)(hc:zl [] w w'):yI w' t pm c k u sv xs s main subs:=
 ⟨h.blk.chg0 hc,h.sch.chg0 hc,h.pg.chg0 hc,yh.chg0 h.sl hc,ye.chg0 h.ats hc,h.pgs.chg0 hc,h.nd,h.ge⟩
theorem yI.keep(h:yI w t pm c k u sv xs s main subs){q:Nat}{ms:LE}(hq:Pg w q ms)(hN:Lw.n≤q)(hc:zl [q] w w'){main':LE}{subs':List (LE)}(h1:Pg w' pm main')(h2:PgL w' (xs.map (·.2)) subs'):yI w' t pm c k u sv xs s main' subs':=by
 obtain⟨v,hb,hv⟩:=hq
 have hn:∀y∈[v],zo7 y=false:=by obtain⟨_,h1,_⟩:=hv;obtain⟨p,c,rfl,_⟩:=h1.val;intro y hy;simp at hy;subst hy;rfl
 exact⟨h.blk.chg hc (by have:=h.blk.ne hb rfl;simpa using this),h.sch.chgB hb U hN hc,h1,yh.chg h.sl hc (zw.apart h.sl hb U),ye.chg hc (h.ats.apart hb U) h.ats,h2,h.nd,h.ge⟩
theorem yI.putM(h:yI w t pm c k u sv xs s main subs)(hc:zl [pm] w w'){main':LE}(h':Pg w' pm main'):yI w' t pm c k u sv xs s main' subs:=
 h.keep h.pg (h.ge _ (by simp)) hc h' (PgL.chgO h.pg hc (by have:=h.nd;simp only[List.nodup_cons]at this;exact this.1) h.pgs)
theorem yI.putS(h:yI w t pm c k u sv xs s main subs){j q:Nat}{m m':LE}{a:Va}(hj:xs[j]? = some (a,q))(hm:subs[j]? = some m)(hc:zl [q] w w')(h':Pg w' q m'):yI w' t pm c k u sv xs s main (subs.set j m'):=by
 have hq:(xs.map (·.2))[j]? = some q:=by rw[List.getElem?_map,hj];rfl
 have hp:=h.pgs.at hq hm
 have hnd:=h.nd
 simp only[List.nodup_cons]at hnd
 exact h.keep hp (h.ge q (List.mem_cons_of_mem _ (List.mem_of_getElem? hq))) hc (h.pg.chgO hp (fun e=>hnd.1 (e▸List.mem_of_getElem? hq)) hc) (PgL.put hp hc h' hnd.2 hq h.pgs)
theorem yI.lens(h:yI w t pm c k u sv xs s main subs):xs.length=(zQ s).length∧subs.length=(zQ s).length:=by
 have h1:=h.ats.length
 have h2:=h.pgs.length
 rw[List.length_map]at h1 h2
 omega
theorem yI.at(h:yI w t pm c k u sv xs s main subs){j:Nat}(hj:j<(zQ s).length):∃a q st m b off cap,xs[j]? = some (a,q)∧(zQ s)[j]? = some st∧subs[j]? = some m∧zap w a st∧Pg w q m∧sv=.slice (some ⟨b,off,none⟩) xs.length cap∧zB w b (off+j*2) [a,Pt q]∧q∈xs.map (·.2):=by
 obtain⟨l1,l2⟩:=h.lens
 have e1:(zQ s)[j]? = some (zQ s)[j]:=by simp[hj]
 have e2:xs[j]? = some (xs[j]'(by omega)):=by simp[l1,hj]
 have e3:subs[j]? = some (subs[j]'(by omega)):=by simp[l2,hj]
 generalize (zQ s)[j]=st at e1
 generalize xs[j]'(by omega)=x at e2
 generalize subs[j]'(by omega)=m at e3
 obtain⟨a,q⟩:=x
 obtain⟨v,hv,ha⟩:=h.ats.at e1
 rw[List.getElem?_map,e2]at hv
 simp at hv
 subst hv
 have hq:(xs.map (·.2))[j]? = some q:=by rw[List.getElem?_map,e2];rfl
 obtain⟨b,off,cap,hsv,hcell⟩:=yh.at zt6 h.sl e2
 exact⟨a,q,st,m,b,off,cap,e2,e1,e3,ha.arr,h.pgs.at hq e3,hsv,hcell,List.mem_of_getElem? hq⟩
end
def yw(w:Wl)(t:Nat)(own:List Nat)(s:yx)(rows:LV):Prop:=
 ∃pm c k u sv xs main subs,own=pm::xs.map (·.2)∧yI w t pm c k u sv xs s main subs∧zbV s rows main subs
theorem yw.chg0{w w':Wl}{t:Nat}{own:List Nat}{s:yx}{rows:LV}(h:yw w t own s rows)(hc:zl [] w w'):yw w' t own s rows:=
 let ⟨pm,c,k,u,sv,xs,main,subs,h1,h2,h3⟩:=h; ⟨pm,c,k,u,sv,xs,main,subs,h1,h2.chg0 hc,h3⟩
theorem yw.ge{w:Wl}{t:Nat}{own:List Nat}{s:yx}{rows:LV}(h:yw w t own s rows):∀p∈own,Lw.n≤p:=by
 obtain⟨_,_,_,_,_,_,_,_,rfl,h2,_⟩:=h
 exact h2.ge
theorem yw.ok{w:Wl}{t:Nat}{own:List Nat}{s:yx}{rows:LV}(h:yw w t own s rows):yA s rows:=
 let ⟨_,_,_,_,_,_,_,_,_,_,h3⟩:=h;h3.ok
section
variable {t pm:Nat} {c k u sv:Va} {xs:List (Va×Nat)} {s:yx} {main:LE} {subs:List (LE)}
theorem yI.scells{w:Wl}(h:yI w t pm c k u sv xs s main subs):zB w t 1 [c,k,u]:=by
 intro i x hi
 have:=(zB.of_blk0 h.blk) (1+i) x (by
  rw[show [Pt pm,c,k,u,sv]=[Pt pm]++[c,k,u]++[sv] from rfl,List.append_assoc,List.getElem?_append_right (by simp)]
  simp only[List.length_cons,List.length_nil,Nat.zero_add,Nat.add_sub_cancel_left]
  rw[List.getElem?_append_left (Gs hi).1]
  exact hi)
 rw[Nat.zero_add]at this
 exact this
theorem znA(v:Va)(l:List zT)(w:Wl)(hE:EOk w)(h:yI w t pm c k u sv xs s main subs)(hr:zaq s=true)(hl:yn w v l)(hg:∀x∈l,x.Rng)(hn:l.length≤1048576) :
 zL TP 89 #[Pt t,v] w fun r w'=>ze7 w' r (zai s l)∧zl [] w w':=by
 refine A2 Tryz.func89 U U ?_
 refine Sr (Oa U (E2 0 1 U (zd (Sr (Om U (Og (zan zkN U U) U (E3 0 1 7 U (zb U (zk (zd (Sr (Om U ?_))))))))))))
 refine Og (zp U) U (Od zcQ U (Og (zg zbQ zbL U U h.scells) U (Om U ?_)))
 refine Oc zvb U U U (zu3 c k u v s l _ hE h.sch (zbB hr) hl hg hn) ?_
 rintro v16 w16⟨rfl,c16⟩
 refine Oa U (E1 5 U (zd ?_))
 by_cases he:zai s l=0
 ·refine za (Om U ?_)
  refine Og (vf (zZ U U) (by simp[he])) U ?_
  refine E2 5 18 U (zb U (zk (Sr (Oa U (E1 4 U (zh ?_))))))
  refine zx U U ?_
  exact⟨.inl ⟨U,he⟩,c16⟩
 refine za (Om U ?_)
 refine Og (vt (zZ U U) (by simp[he])) U ?_
 refine E2 5 18 U (zf U (Sr (Om U (Og (zS zcX U) U ?_))))
 refine Og (zC zlV zl2 U (vs:=[_,_]) U (css:=[_,_]) ⟨U,U,trivial⟩ U U (cs:=[_,_]) U) U ?_
 refine Og (zS zl1 U) U (Oa U (E1 4 U (zh ?_)))
 repeat first|refine tr ?_|refine br ?_
 refine zx U U ?_
 exact⟨.inr ⟨.inr (.inr (.inl ⟨_,U⟩)),he⟩,c16⟩
end
theorem ziE{w:Wl}{a v:Va}{q:Nat}{s:yx}{st:List Int}{row:List zT}(hf:zai s row=0)(hg:∀x∈row,x.Rng)(hst:st∈zQ s)(ha:zap w a st)(hv:yn w v row) :
 zL TP 138 #[.agg #[a,Pt q],v] w fun r w'=>r=.tuple #[.string (zc9 (z4 row st)),.bool (nnS (z4 row st))]∧zl [] w w':=by
 obtain⟨hr,hl,_⟩:=zaU hf
 obtain⟨h1,h2,_⟩:=zbr (zeR hr st hst)
 have h8:=(z6 hr).1
 exact zth a _ v st row w ha U hv hg (zkH hf) (fun i hi=>by have:=h2 i hi;omega) (by omega) (by omega)
theorem zaN.st{s:yx}{rows:LV}{j:Nat}{st:List Int}{m:LE}:∀{sts:List (List Int)} {pss:List (LE)},zaN s rows sts pss→sts[j]? = some st→pss[j]? = some m→zeh s rows st m:=by
 intro sts pss h h1 h2
 obtain⟨ps,hp,hs⟩:=h.at' h1
 rw[h2]at hp
 cases hp
 exact hs
theorem zbU{α:Type}{l:List α}{j:Nat}{x:α}(h:l[j]? = some x):l.take (j+1)=l.take j++[x]:=by rw[List.take_add_one,h];rfl
theorem zmd{K:Type}[DecidableEq K](k:K)(v:Va):∀(es:List (K×Va)),(zb3 es k v).length≤es.length+1
 |[]=>by simp[zb3]
 |p::r=>by
  unfold zb3
  split
  ·simp
  have:=zmd k v r
  simp only[List.length_cons]
  omega
section
variable {t pm:Nat} {c k u sv:Va} {xs:List (Va×Nat)} {s:yx} {main:LE} {subs:List (LE)} {rows:LV}
theorem ziI(v:Va)(row:List zT)(w:Wl)(h:yI w t pm c k u sv xs s main subs)(ht:zbV s rows main subs)(hf:zai s row=0)(hl:yn w v row)(hg:∀x∈row,x.Rng) :
 zL TP 90 #[Pt t,v] w fun r w'=>∃b es,r=.map (some b)∧w.heap.size≤b∧zY zbo w' b es∧es.length≤4∧zbh s rows row (zQ s) es∧zl [] w w':=by
 obtain⟨l1,l2⟩:=h.lens
 obtain⟨psv,csv,rfl,hcsv⟩:=yh.val h.sl
 have hn3:=(z6 ht.ok.right).2.1
 have hn4:(zQ s).length≤4:=by simp[zQ];omega
 refine A2 Tryz.func90 U U ?_
 refine Sr (Oa U (E2 0 1 U (Sr ?_)))
 refine Oq (zbc (zbo) U ?_)
 intro b12 w12 e12 n12 c12 k12
 refine Oa U (E3 0 1 5 U (zd (zd ?_)))
 have h2:=h.chg0 c12
 refine za (Om U (Og (zp U) U (Od zcT U (Ol zhw U (h2.blk.cell' U) (On zey U (Om U (E5 1 5 16 17 18 U (zu ?_))))))))
 refine zX [1,5,16,17,18] (fun m F wx=>∃(j:Nat) (es:List (By×Va)),m=xs.length-j∧j≤xs.length∧F=[(1,v),(5,.map (some b12)),(16,.slice psv xs.length csv),(17,Ii xs.length),(18,Ii j)]∧zY zbo wx b12 es∧es.length≤j∧zbh s rows row ((zQ s).take j) es∧zl [b12] w12 wx) (m:=xs.length-0) ⟨0,[],rfl,Nat.zero_le _,rfl,k12,by simp,zbh.nil,zl.refl _ _⟩ ?_
 rintro m F wx⟨j,es,rfl,hj,rfl,hes,hint,hck,hcx⟩
 have hcw:zl [] w wx:=c12.own hcx (by intro y hy;simp at hy;omega)
 have hx:=h.chg0 hcw
 have hvx:=zO.chg0 hl hcw
 refine Sr (Og (zF U U) U (E6 1 5 16 17 18 19 U (zd ?_)))
 refine zH U (fun hT=>?_) (fun hF=>?_)
 ·refine zk ?_
  have hlt:j<xs.length:=by have:=of_decide_eq_true hT;omega
  obtain⟨a,q,st,m,b,off,cap,e1,e2,e3,ha,hq,hsv,hcell,hqm⟩:=hx.at (j:=j) (by omega)
  cases hsv
  have hst:st∈zQ s:=List.mem_of_getElem? e2
  have hsub:=zaN.st ht.subs e2 e3
  refine zd (zu (Sr (Om U ?_)))
  refine Og (zm zey zcl U U _ U hlt) U ?_
  refine Og (zg zgn zcl U U hcell) U ?_
  refine Oq (zD zi5 U U ?_)
  intro b7 w7 e7 n7 c7 k7
  refine Oa U ?_
  refine Oq (zv zcl U U U U k7 (by simp) (by intro u hu;simp at hu;rcases hu with rfl|rfl;exact zO.one1 ha;rfl) ?_)
  intro wA nA cA kA
  refine E7 1 5 6 7 16 17 18 U ?_
  have kA:zK wA b7 126 [a,Pt q]:=kA
  have hcA:zl [] wx wA:=c7.own cA (by intro y hy;simp at hy;omega)
  refine Sr (Og (zg zgn zcl U U (zB.of_blk0 kA)) U (Om U ?_))
  refine Oc zk4 U U U (ziE hf hg hst (zO.chg0 ha hcA) (zO.chg0 hvx hcA)) ?_
  rintro v26 w26⟨rfl,c26⟩
  refine Om U (Oe U U (Oe U U (Oa U (Oa U (zac [1,5,6,7,8,9,16,17,18] (F':=[(1,_),(5,_),(6,_),(7,_),(8,_),(9,_),(16,_),(17,_),(18,_)]) U ?_)))))
  have hcB:zl [] wx w26:=hcA.trans c26
  have hbb:b12<w26.heap.size:=Nat.lt_of_lt_of_le hes.lt hcB.size
  refine Sr (Om U (zac [1,5,6,7,8,16,17,18,29] (F':=[(1,_),(5,_),(6,_),(7,_),(8,_),(16,_),(17,_),(18,_),(29,_)]) U ?_))
  cases hnn:nnS (z4 row st) with
  |false=>
   refine zb U (z0 (zn (za ?_)))
   refine Og (zG U U (by omega)) U ?_
   refine Om U (N5 1 5 16 17 18 U ?_)
   refine⟨xs.length-(j+1),by omega,j+1,es,rfl,by omega,rfl,hes.chg0 hcB,by omega,?_,hcx.trans hcB⟩
   rw[zbU e2]
   exact hck.none (.inl hnn)
  |true=>
   refine zf U ?_
   have hget:=hsub.get ht.ok hst (vals:=z4 row st) (zdV hf hg hst)
   refine Sr (Od zhY U (Ol zfc U ((kA.chg0 c26).cell' U) (Om U ?_)))
   refine Oc zvT U U U (f15 q m _ _ (hq.chg0 hcB) hsub.wf (by have:=hsub.le ht.ok;omega)) ?_
   rintro v34 w34⟨rfl,c34⟩
   refine Om U (Oe U U (Oe U U (Oa U (Oa U (E8 1 5 6 10 11 16 17 18 U ?_)))))
   have hcC:zl [] wx w34:=hcB.trans c34
   rw[hget]
   cases hro:ziM rows st (z4 row st) with
   |none=>
    refine Sr (Om U (E8 1 5 6 10 16 17 18 37 U (zb U (z0 (zn (za ?_))))))
    refine Og (zG U U (by omega)) U ?_
    refine Om U (N5 1 5 16 17 18 U ?_)
    refine⟨xs.length-(j+1),by omega,j+1,es,rfl,by omega,rfl,hes.chg0 hcC,by omega,?_,hcx.trans hcC⟩
    rw[zbU e2]
    exact hck.none (.inr hro)
   |some r=>
    refine Sr (Om U (E8 1 5 6 10 16 17 18 37 U (zf U (za (Om U (Om U (Om U ?_)))))))
    refine Oq (zh1 (κ:=zbo) zqc (yN st9) U U U (hes.chg0 hcC) ?_)
    intro wD nD cD kD
    refine N5 1 5 16 17 18 U (zn (za ?_))
    refine Og (zG U U (by omega)) U ?_
    refine Om U (N5 1 5 16 17 18 U ?_)
    refine⟨xs.length-(j+1),by omega,j+1,_,rfl,by omega,rfl,kD,?_,?_,(hcx.trans hcC).transS cD⟩
    ·exact Nat.le_trans (zmd _ _ _) (by omega)
    rw[zbU e2]
    exact hck.some ht.ok hst hro
 refine zI ?_
 repeat first|refine te ?_|refine bo rfl ?_
 refine zt _ ?_
 have he:xs.length≤j:=by have:=of_decide_eq_false hF;omega
 rw[Tl (by omega)]at hck
 refine Sr (Om U (Oa U (E1 4 U (zh ?_))))
 refine zx U U ?_
 exact⟨b12,es,rfl,by omega,hes,by omega,hck,c12.own hcx (by intro y hy;simp at hy;omega)⟩
end
section
variable {α β:Type} (f:α→β→β)
def zed(a:List α)(l:List β)(j:Nat):List β:=List.zipWith f (a.take j) (l.take j)++l.drop j
variable {f} {a:List α} {l:List β} {j:Nat} {x:α} {y:β}
theorem ziB:zed f a l 0=l:=by simp[zed]
theorem zj7(h:a.length=l.length)(hj:l.length≤j):zed f a l j=List.zipWith f a l:=by
 unfold zed
 rw[Tl (by omega),Tl hj,List.drop_eq_nil_of_le hj,List.append_nil]
theorem zis(hx:a[j]? = some x)(hy:l[j]? = some y):(zed f a l j)[j]? = some y:=by
 have h1:=(Gs hx).1
 have h2:=(Gs hy).1
 unfold zed
 rw[List.getElem?_append_right (by simp;omega),List.getElem?_drop]
 rw[show j+(j-(List.zipWith f (a.take j) (l.take j)).length)=j by simp;omega]
 exact hy
theorem zf7(hx:a[j]? = some x)(hy:l[j]? = some y):zed f a l (j+1)=(zed f a l j).set j (f x y):=by
 have h1:=(Gs hx).1
 have h2:=(Gs hy).1
 have hz:(List.zipWith f (a.take j) (l.take j)).length=j:=by simp;omega
 unfold zed
 rw[zbU hx,zbU hy,List.zipWith_append (by simp;omega)]
 rw[List.set_append_right _ _ (by omega),hz,Nat.sub_self]
 obtain⟨_,rfl⟩:=Gs hy
 rw[show l.drop j=l[j]::l.drop (j+1) from List.drop_eq_getElem_cons h2]
 simp only[List.set_cons_zero,List.append_assoc,List.cons_append,List.nil_append,List.zipWith_cons_cons,List.zipWith_nil_left]
theorem zi6(hx:a[j]? = some x)(hy:l[j]? = some y)(hf:f x y=y):zed f a l (j+1)=zed f a l j:=by
 rw[zf7 hx hy,hf]
 have:=zis (f:=f) hx hy
 obtain⟨h1,h2⟩:=Gs this
 conv=>lhs;rw[←h2]
 exact List.set_getElem_self h1
end
def zjD(row:List zT)(k:By)(st:List Int)(ps:LE):LE:=if nnS (z4 row st) then zfV ps (zc9 (z4 row st)) k else ps
def zg8(row:List zT)(st:List Int)(ps:LE):LE:=if nnS (z4 row st) then zcB ps (zc9 (z4 row st)) else ps
theorem zjC(row:List zT)(k:By):∀sts pss,zhA row k sts pss=List.zipWith (zjD row k) sts pss
 |[],_=>by simp[zhA]
 |_::_,[]=>by simp[zhA]
 |st::sts,ps::pss=>by simp only[zhA,List.zipWith_cons_cons,zjC row k sts pss];rfl
theorem zi7(row:List zT):∀sts pss,zft row sts pss=List.zipWith (zg8 row) sts pss
 |[],_=>by simp[zft]
 |_::_,[]=>by simp[zft]
 |st::sts,ps::pss=>by simp only[zft,List.zipWith_cons_cons,zi7 row sts pss];rfl
theorem zj1{s:yx}{row:List zT}(hf:zai s row=0){st:List Int}(hst:st∈zQ s):(zc9 (z4 row st)).size≤2000:=by
 have h1:=zij (l:=z4 row st) fun x hx=>zkH hf x (ziY hf hst x hx)
 have h2:=(zbr (zeR (zaU hf).1 st hst)).1
 have e:(zc9 (z4 row st)).size=(zdE (z4 row st)).length:=by simp[zc9,ByteArray.size]
 rw[show (z4 row st).length=st.length by simp[z4]]at h1
 omega
section
variable {t pm:Nat} {c k u sv:Va} {xs:List (Va×Nat)} {s:yx} {main:LE} {subs:List (LE)} {rows:LV}
set_option maxHeartbeats 400000 in
theorem zse(v:Va)(row:List zT)(w:Wl)(hE:EOk w)(h:yI w t pm c k u sv xs s main subs)(ht:zbV s rows main subs)(hf:zai s row=0)(hl:yn w v row)(hg:∀x∈row,x.Rng) :
 zL TP 91 #[Pt t,v] w fun _ w'=>yI w' t pm c k u sv xs s (zfV main (zV s row) (ze9 s row)) (zhA row (zV s row) (zQ s) subs)∧zl (pm::xs.map (·.2)) w w':=by
 obtain⟨l1,l2⟩:=h.lens
 obtain⟨psv,csv,rfl,hcsv⟩:=yh.val h.sl
 have hn3:=(z6 ht.ok.right).2.1
 have hn4:(zQ s).length≤4:=by simp[zQ];omega
 have hn1:1≤(zQ s).length:=by simp[zQ]
 obtain⟨hrs,hlen,hfit⟩:=zaU hf
 have h8:=(z6 hrs).1
 refine A2 Tryz.func91 U U ?_
 refine zd ?_
 obtain⟨a0,q0,stA,m0,b0,off0,cap0,e1,e2,e3,ha0,hq0,hsv0,hcell0,hqm0⟩:=h.at (j:=0) (by omega)
 have hstA:s.key=stA:=by simp[zQ]at e2;exact e2
 subst hstA
 cases hsv0
 refine za (Om U (Og (zp U) U (Od zcT U (Ol zhw U (h.blk.cell' U) ?_))))
 refine Og (zm zey zcl U U 0 U (show 0<xs.length by omega)) U ?_
 refine Og (zg zgn zcl U U hcell0) U (Om U ?_)
 refine Oc zk4 U U U (ziE hf hg (zfA s) ha0 hl) ?_
 rintro v20 w20⟨rfl,c20⟩
 refine Om U (Oe U U (Oe U U (Oa U (Oa U (E3 0 1 4 U ?_)))))
 have h1:=h.chg0 c20
 have hl1:=zO.chg0 hl c20
 refine Sr (Om U (Og (zp U) U (Od zcQ U (Og (zg zbQ zbL U U h1.scells) U (Om U ?_)))))
 refine Oc zxv U U U (zsj c k u v s row _ (hE.chg0 c20) h1.sch (zbB hrs) hl1 hg (by omega)) ?_
 rintro v29 w29⟨o29,rfl,i29,f29,c29⟩
 rw[if_pos hf]at i29
 obtain⟨p29,q29,rfl,-⟩:=id (zw.val i29)
 refine Om U (Oe U U (Oe U U (Oa U (Oa U (E4 0 1 4 6 U ?_)))))
 have h2:=h1.chg0 c29
 have hl2:=zO.chg0 hl1 c29
 refine zd ?_
 refine zN (fun wz=>zl [] w29 wz) mix (by kernel_rfl) (zl.drew [] _) ?_
 refine Tm U (Tp (fun _=>zp U) U (Td zeQ U (Tr (fun wz hz=>zj zfc U ((h2.blk.chg0 hz).cell' U)) U (Tm U (Tm U (Tr (fun wz hz=>zhi (l:=(zb5 s.cols row)) yT za9 st9 U (zw.rd (zw.chg0 i29 hz))) U ?_))))))
 refine Tc zuu U U U (f10 pm main (zV s row) (ze9 s row) _ (h2.pg.chg0 (zl.drew [] _)) ht.wf (by have:=ht.le;omega) (zj1 hf (zfA s))) ?_
 rintro v39 w39⟨rfl,p39,c39⟩
 refine⟨.inr (by kernel_rfl),?_⟩
 refine D3 0 1 4 U ?_
 have h3:=(h2.chg0 (zl.drew [] _)).putM c39 p39
 have hc3:zl (pm::xs.map (·.2)) w w39:=((((zl.refl _ w).trans c20).trans c29).trans (zl.drew [] _)).trans' c39 (fun y hy=>.inl (by simp at hy;simp[hy]))
 have hl3:yn w39 v row:=by
  exact zO.chgC (zO.chg0 hl2 (zl.drew [] _)) c39 zmK (h2.pg.chg0 (zl.drew [] _)).nl
 refine Sr (Om U (Og (zp U) U (Od zcT U (Ol zhw U (h3.blk.cell' U) (On zey U (Om U (E5 1 4 43 44 45 U (zu ?_))))))))
 refine zX [1,4,43,44,45] (fun m F wx=>∃(j:Nat),m=xs.length-j∧j≤xs.length∧F=[(1,v),(4,.string (zV s row)),(43,.slice (some ⟨b0,off0,none⟩) xs.length csv),(44,Ii xs.length),(45,Ii j)]∧yI wx t pm c k u (.slice (some ⟨b0,off0,none⟩) xs.length csv) xs s (zfV main (zV s row) (ze9 s row)) (zed (zjD row (zV s row)) (zQ s) subs j)∧yn wx v row∧zl (pm::xs.map (·.2)) w wx) (m:=xs.length-0) ⟨0,rfl,Nat.zero_le _,rfl,by rw[ziB];exact h3,hl3,hc3⟩ ?_
 rintro m F wx⟨j,rfl,hj,rfl,hx,hvx,hcx⟩
 refine Sr (Og (zF U U) U (E6 1 4 43 44 45 46 U (zd ?_)))
 refine zH U (fun hT=>?_) (fun hF=>?_)
 ·refine zk ?_
  have hlt:j<xs.length:=by have:=of_decide_eq_true hT;omega
  obtain⟨a,q,st,m,b,off,cap,e1,e2,e3,ha,hq,hsv,hcell,hqm⟩:=hx.at (j:=j) (by omega)
  cases hsv
  have hst:st∈zQ s:=List.mem_of_getElem? e2
  have e3':subs[j]? = some (subs[j]'(by omega)):=by simp[show j<subs.length by omega]
  generalize subs[j]'(by omega)=m' at e3'
  have hmm:m=m':=by
   have:=zis (f:=zjD row (zV s row)) e2 e3'
   rw[e3]at this
   cases this;rfl
  subst hmm
  have hsub:=zaN.st ht.subs e2 e3'
  refine zd (zu (Sr ?_))
  refine Og (zm zey zcl U U _ U hlt) U ?_
  refine Og (zg zgn zcl U U hcell) U ?_
  refine Oq (zD zi5 U U ?_)
  intro b9 w9 e9 n9 c9 k9
  refine Oq (zv zcl U U U U k9 (by simp) (by intro u hu;simp at hu;rcases hu with rfl|rfl;exact zO.one1 ha;rfl) ?_)
  intro wA nA cA kA
  refine E6 1 4 9 43 44 45 U ?_
  have kA:zK wA b9 126 [a,Pt q]:=kA
  have hcA:zl [] wx wA:=c9.own cA (by intro y hy;simp at hy;omega)
  refine Sr (Og (zg zgn zcl U U (zB.of_blk0 kA)) U (Om U ?_))
  refine Oc zk4 U U U (ziE hf hg hst (zO.chg0 ha hcA) (zO.chg0 hvx hcA)) ?_
  rintro v52 w52⟨rfl,c52⟩
  refine Om U (Oe U U (Oe U U (Oa U (Oa U (E8 1 4 9 10 11 43 44 45 U ?_)))))
  have hcB:zl [] wx w52:=hcA.trans c52
  refine Sr (Om U (E8 1 4 9 10 43 44 45 55 U ?_))
  cases hnn:nnS (z4 row st) with
  |false=>
   refine zb U (z0 (zn (za ?_)))
   refine Og (zG U U (by omega)) U ?_
   refine Om U (N5 1 4 43 44 45 U ?_)
   refine⟨xs.length-(j+1),by omega,j+1,rfl,by omega,rfl,?_,zO.chg0 hvx hcB,hcx.trans hcB⟩
   rw[zi6 e2 e3' (by unfold zjD;rw[hnn];rfl)]
   exact hx.chg0 hcB
  |true=>
   refine zf U (za (Od zhY U (Ol zfc U ((kA.chg0 c52).cell' U) (Om U (Om U ?_)))))
   refine Oc zuu U U U (f10 q m (zc9 (z4 row st)) (zV s row) _ (hq.chg0 hcB) hsub.wf (by have:=hsub.le ht.ok;omega) (zj1 hf hst)) ?_
   rintro v60 w60⟨rfl,p60,c60⟩
   refine N5 1 4 43 44 45 U (zn (za ?_))
   refine Og (zG U U (by omega)) U ?_
   refine Om U (N5 1 4 43 44 45 U ?_)
   refine⟨xs.length-(j+1),by omega,j+1,rfl,by omega,rfl,?_,?_,(hcx.trans hcB).trans' c60 (fun y hy=>.inl (by simp at hy;subst hy;exact List.mem_cons_of_mem _ hqm))⟩
   ·rw[zf7 e2 e3',show zjD row (zV s row) st m=zfV m (zc9 (z4 row st)) (zV s row) by unfold zjD;rw[hnn];rfl]
    exact(hx.chg0 hcB).putS e1 e3 c60 p60
   exact zO.chgC (zO.chg0 hvx hcB) c60 zmK (hq.chg0 hcB).nl
 refine zI ?_
 repeat first|refine te ?_|refine bo rfl ?_
 refine zt _ ?_
 have he:xs.length≤j:=by have:=of_decide_eq_false hF;omega
 refine zkK U ?_
 rw[zjC,←zj7 (j:=j) (by omega) (by omega)]
 exact⟨hx,hcx⟩
end
theorem zrz{s:yx}{r:List zT}(hf:zai s r=0):(ze9 s r).size≤1680∧(ze9 s r).data.toList=zb5 s.cols r∧(ze9 s r).size=(zb5 s.cols r).length:=by
 obtain⟨hrs,_,hfit⟩:=zaU hf
 have h8:=(z6 hrs).1
 have h1:=zeo hfit
 have e:(ze9 s r).size=(zb5 s.cols r).length:=by simp[ze9,ByteArray.size]
 exact⟨by omega,by simp[ze9],e⟩
section
variable {t pm:Nat} {c k u sv:Va} {xs:List (Va×Nat)} {s:yx} {main:LE} {subs:List (LE)} {rows:LV}
theorem znS(key:By)(w:Wl)(h:yI w t pm c k u sv xs s main subs)(ht:zbV s rows main subs) :
 zL TP 82 #[Pt t,.string key] w fun r w'=>∃o,r=.tuple #[o,.bool (zbN s rows key).isSome]∧zdU w' o ((zbN s rows key).getD [])∧(∀b∈zq o,w.heap.size≤b)∧zl [] w w':=by
 refine A2 Tryz.func82 U U ?_
 refine Sr (Oa U (Oa U (E2 0 1 U (zd (Sr (Om U (Og (zan zkN U U) U (E3 0 1 11 U (zb U (zk (Sr (Om U ?_))))))))))))
 refine Og (zp U) U (Od zeQ U (Ol zfc U (h.blk.cell' U) (Om U ?_)))
 refine Oc zvT U U U (f15 pm main key _ h.pg ht.wf (by have:=ht.le;omega)) ?_
 rintro v18 w18⟨rfl,c18⟩
 refine Om U (Oe U U (Oe U U (Oa U (Oa U (E3 0 6 7 U ?_)))))
 have h1:=h.chg0 c18
 rw[ht.get]
 cases hg:zbN s rows key with
 |none=>
  refine zd (Sr (Om U (Og (zE U) U (E3 0 6 22 U (zf U (Sr (Oa U (Oa U (E2 4 5 U (zh ?_))))))))))
  repeat first|refine tr ?_|refine br ?_
  refine zbX U U U ?_
  exact⟨_,rfl,yh.nil _ _ _ _,by simp[zq],c18⟩
 |some r=>
  obtain⟨hr,_⟩:=zbY hg
  have hf:=ht.ok.fit r hr
  obtain⟨z1,z2,z3⟩:=zrz hf
  refine zd (Sr (Om U (Og (zE U) U (E3 0 6 22 U (zb U (zk (Sr (Om U (Og (zp U) U (Od zcQ U (Og (zg zbQ zbL U U h1.scells) U (Om U ?_))))))))))))
  refine Oq (zk2 st9 yT za9 U (by simp only[Option.map_some,Option.getD_some,maxLen];omega) U ?_)
  intro b29 q29 w29 e29 c29 g29 i29
  refine Oc zxh U U U (zr6 c k u _ s r _ (h1.sch.chg0 c29) (zbB ht.ok.right) hf (by have e:=i29;simp only[Option.map_some,Option.getD_some]at e;rw[z2,z3]at e;exact e)) ?_
  rintro v30 w30⟨o30,rfl,i30,f30,c30⟩
  refine Om U (Oe U U (Oe U U (Oa U (Oa U (E1 8 U (Sr (Om U (Oa U (Oa U (E2 4 5 U (zh ?_)))))))))))
  refine zbX U U U ?_
  have hs:=c18.size
  have hs2:=c29.size
  exact⟨_,rfl,i30,fun b hb=>by have:=f30 b hb;omega,(c18.trans c29).trans c30⟩
theorem zx3(v:Va)(row:List zT)(w:Wl)(hE:EOk w)(h:yI w t pm c k u sv xs s main subs)(ht:zbV s rows main subs)(hl:yn w v row)(hg:∀x∈row,x.Rng)(hn:row.length≤1048576) :
 zL TP 175 #[Pt t,v] w fun r w'=>r=.tuple #[.string (if zai s row=0 then zV s row else e0),Ii (zai s row)]∧zl [] w w':=by
 obtain⟨l1,l2⟩:=h.lens
 have hn1:1≤(zQ s).length:=by simp[zQ]
 refine A2 Tryz.func175 U U ?_
 refine Sr (Oa U (Oa U (E2 0 1 U (zd (Sr (Om U (Om U ?_)))))))
 refine Oc zws U U U (znA v row w hE h ht.ok.right hl hg hn) ?_
 rintro v11 w11⟨i11,c11⟩
 refine Oa U (E3 0 1 6 U ?_)
 have h1:=h.chg0 c11
 have hl1:=zO.chg0 hl c11
 rcases i11 with⟨rfl,he⟩|⟨i11,he⟩
 ·refine Sr (Om U (Og (zaE zbS U U) U (E4 0 1 6 13 U (zb U (zk ?_)))))
  obtain⟨a0,q0,stA,m0,b0,off0,cap0,e1,e2,e3,ha0,hq0,hsv0,hcell0,hqm0⟩:=h1.at (j:=0) (by omega)
  have hstA:s.key=stA:=by simp[zQ]at e2;exact e2
  subst hstA
  subst hsv0
  refine Sr (Om U (Og (zp U) U (Od zcT U (Ol zhw U (h1.blk.cell' U) ?_))))
  refine Og (zm zey zcl U U 0 U (show 0<xs.length by omega)) U ?_
  refine Og (zg zgn zcl U U hcell0) U (Om U ?_)
  refine Oc zk4 U U U (ziE he hg (zfA s) ha0 hl1) ?_
  rintro v24 w24⟨rfl,c24⟩
  refine Om U (Oe U U (Oe U U (Oa U (Oa U (E1 7 U (Sr (Om U (Oa U (Oa U (E2 4 5 U (zh ?_)))))))))))
  refine zbX U U U ?_
  rw[if_pos he,he]
  exact⟨U,c11.trans c24⟩
 refine Sr (Om U (Og (zaE zbS U i11.notNil) U (E4 0 1 6 13 U (zf U (Sr (Om U ?_))))))
 refine Oc zqo U U U (zib _ _ _ (hE.chg0 c11) (.inr i11)) ?_
 rintro v15 w15⟨rfl,c15⟩
 refine Oa U (Oa U (E2 4 5 U (zh ?_)))
 repeat first|refine tr ?_|refine br ?_
 refine zbX U U U ?_
 rw[if_neg he]
 exact⟨U,c11.trans c15⟩
theorem zjo(w:Wl)(h:yI w t pm c k u sv xs s main subs)(ht:zbV s rows main subs) :
 zL TP 70 #[Pt t] w fun r w'=>r=Ii rows.length∧w'=w:=by
 refine A1 Tryz.func70 U U ?_
 refine Sr (Oa U (E1 0 U (zd (Sr (Om U (Og (zan zkN U U) U (E2 0 4 U (zb U (zk (Sr (Om U (Og (zp U) U ?_))))))))))))
 refine Od zeQ U (Ol zfc U (h.blk.cell' U) ?_)
 refine Oc zy9 U U U (f13 pm main _ h.pg ht.wf.le (by have:=ht.le;omega)) ?_
 rintro v9 w9⟨rfl,rfl⟩
 refine Oa U (E1 2 U (zh ?_))
 refine zx U U ?_
 rw[ht.flat,List.length_map]
 exact⟨U,U⟩
end
section
variable {t pm:Nat} {c k u sv:Va} {xs:List (Va×Nat)} {s:yx} {main:LE} {subs:List (LE)} {rows:LV}
set_option maxHeartbeats 400000 in
theorem zkX(key:By)(row:List zT)(w:Wl)(h:yI w t pm c k u sv xs s main subs)(ht:zbV s rows main subs)(hr:zbN s rows key=some row) :
 zL TP 176 #[Pt t,.string key] w fun o w'=>zdU w' o row∧(∀b∈zq o,w.heap.size≤b)∧yI w' t pm c k u sv xs s (zcB main (zV s row)) (zft row (zQ s) subs)∧zl (pm::xs.map (·.2)) w w':=by
 obtain⟨l1,l2⟩:=h.lens
 obtain⟨psv,csv,rfl,hcsv⟩:=yh.val h.sl
 have hn3:=(z6 ht.ok.right).2.1
 have hn4:(zQ s).length≤4:=by simp[zQ];omega
 obtain⟨hmr,hkr⟩:=zbY hr
 have hf:=ht.ok.fit row hmr
 have hg:=ht.ok.rng row hmr
 obtain⟨hrs,hlen,hfit⟩:=zaU hf
 have h8:=(z6 hrs).1
 refine A2 Tryz.func176 U U ?_
 refine Sr (Oa U (E2 0 1 U (Sr (Om U (Om U ?_)))))
 refine Oc ztj U U U (znS key w h ht) ?_
 rintro v14 w14⟨o,rfl,io,fo,c14⟩
 refine Om U (Oe U U (Oe U U (Oa U (Oa U (E3 0 1 5 U ?_)))))
 rw[hr]at io
 have io:zdU w14 o row:=io
 have h1:=h.chg0 c14
 refine Sr (Om U (Og (zp U) U (Od zeQ U (Ol zfc U (h1.blk.cell' U) (Om U ?_)))))
 refine Oc zun U U U (f11 pm main key _ h1.pg ht.wf (by have:=ht.le;omega)) ?_
 rintro v22 w22⟨rfl,p22,c22⟩
 refine E2 0 5 U ?_
 rw[←hkr]at p22
 have h2:=h1.putM c22 p22
 have hc2:zl (pm::xs.map (·.2)) w w22:=((zl.refl _ w).trans c14).trans' c22 (fun y hy=>.inl (by simp at hy;simp[hy]))
 have io2:zdU w22 o row:=by
  obtain⟨vb,hb,_⟩:=h1.pg
  exact yh.chg io c22 (zw.apart io hb U)
 refine zd (Sr (Om U (Og (zp U) U (Od zcT U (Ol zhw U (h2.blk.cell' U) (On zey U (Om U (E4 5 26 27 28 U (zu ?_)))))))))
 refine zX [5,26,27,28] (fun m F wx=>∃(j:Nat),m=xs.length-j∧j≤xs.length∧F=[(5,o),(26,.slice psv xs.length csv),(27,Ii xs.length),(28,Ii j)]∧yI wx t pm c k u (.slice psv xs.length csv) xs s (zcB main (zV s row)) (zed (zg8 row) (zQ s) subs j)∧zdU wx o row∧zl (pm::xs.map (·.2)) w wx) (m:=xs.length-0) ⟨0,rfl,Nat.zero_le _,rfl,by rw[ziB];exact h2,io2,hc2⟩ ?_
 rintro m F wx⟨j,rfl,hj,rfl,hx,hvx,hcx⟩
 refine Sr (Og (zF U U) U (E5 5 26 27 28 29 U (zd ?_)))
 refine zH U (fun hT=>?_) (fun hF=>?_)
 ·refine zk ?_
  have hlt:j<xs.length:=by have:=of_decide_eq_true hT;omega
  obtain⟨a,q,st,m,b,off,cap,e1,e2,e3,ha,hq,hsv,hcell,hqm⟩:=hx.at (j:=j) (by omega)
  cases hsv
  have hst:st∈zQ s:=List.mem_of_getElem? e2
  have e3':subs[j]? = some (subs[j]'(by omega)):=by simp[show j<subs.length by omega]
  generalize subs[j]'(by omega)=m' at e3'
  have hmm:m=m':=by
   have:=zis (f:=zg8 row) e2 e3'
   rw[e3]at this
   cases this;rfl
  subst hmm
  have hsub:=zaN.st ht.subs e2 e3'
  refine zd (zu (Sr ?_))
  refine Og (zm zey zcl U U _ U hlt) U ?_
  refine Og (zg zgn zcl U U hcell) U ?_
  refine Oq (zD zi5 U U ?_)
  intro b8 w8 e8 n8 c8 k8
  refine Oq (zv zcl U U U U k8 (by simp) (by intro u hu;simp at hu;rcases hu with rfl|rfl;exact zO.one1 ha;rfl) ?_)
  intro wA nA cA kA
  refine E5 5 8 26 27 28 U ?_
  have kA:zK wA b8 126 [a,Pt q]:=kA
  have hcA:zl [] wx wA:=c8.own cA (by intro y hy;simp at hy;omega)
  refine Sr (Og (zg zgn zcl U U (zB.of_blk0 kA)) U (Om U ?_))
  refine Oc zk4 U U U (ziE hf hg hst (zO.chg0 ha hcA) (zO.chg0 hvx.arr hcA)) ?_
  rintro v35 w35⟨rfl,c35⟩
  refine Om U (Oe U U (Oe U U (Oa U (Oa U (E7 5 8 9 10 26 27 28 U ?_)))))
  have hcB:zl [] wx w35:=hcA.trans c35
  refine Sr (Om U (E7 5 8 9 26 27 28 38 U ?_))
  cases hnn:nnS (z4 row st) with
  |false=>
   refine zb U (z0 (zn (za ?_)))
   refine Og (zG U U (by omega)) U ?_
   refine Om U (N4 5 26 27 28 U ?_)
   refine⟨xs.length-(j+1),by omega,j+1,rfl,by omega,rfl,?_,yh.chg0 hvx hcB,hcx.trans hcB⟩
   rw[zi6 e2 e3' (by unfold zg8;rw[hnn];rfl)]
   exact hx.chg0 hcB
  |true=>
   refine zf U (za (Od zhY U (Ol zfc U ((kA.chg0 c35).cell' U) (Om U ?_))))
   refine Oc zun U U U (f11 q m (zc9 (z4 row st)) _ (hq.chg0 hcB) hsub.wf (by have:=hsub.le ht.ok;omega)) ?_
   rintro v42 w42⟨rfl,p42,c42⟩
   refine N4 5 26 27 28 U (zn (za ?_))
   refine Og (zG U U (by omega)) U ?_
   refine Om U (N4 5 26 27 28 U ?_)
   refine⟨xs.length-(j+1),by omega,j+1,rfl,by omega,rfl,?_,?_,(hcx.trans hcB).trans' c42 (fun y hy=>.inl (by simp at hy;subst hy;exact List.mem_cons_of_mem _ hqm))⟩
   ·rw[zf7 e2 e3',show zg8 row st m=zcB m (zc9 (z4 row st)) by unfold zg8;rw[hnn];rfl]
    exact(hx.chg0 hcB).putS e1 e3 c42 p42
   obtain⟨vb,hb,_⟩:=hq.chg0 hcB
   exact yh.chg (yh.chg0 hvx hcB) c42 (zw.apart (yh.chg0 hvx hcB) hb U)
 refine zI ?_
 repeat first|refine te ?_|refine bo rfl ?_
 refine zt _ ?_
 have he:xs.length≤j:=by have:=of_decide_eq_false hF;omega
 refine Sr (Om U (Oa U (E1 4 U (zh ?_))))
 refine zx U U ?_
 rw[zi7,←zj7 (j:=j) (by omega) (by omega)]
 exact⟨hvx,fo,hx,hcx⟩
end
theorem zsX{w w':Wl}{own:List Nat}{e k n:Nat}{v:Va}{xs:List Va}(h:zw w e k v n xs)(hp:∀p∈own,∃p' n c',zK w p 178 [.slice p' n c'])(hne:Nat.beq e 178=false)(hc:zl own w w'):zw w' e k v n xs:=
 zw.chg h hc fun b hb hm=>by
  obtain⟨_,_,_,hx⟩:=hp b hm
  exact h.apart hx hne b hb (by simp)
theorem Nl.own{w:Wl}{own:List Nat}(hp:∀p∈own,∃p' n c',zK w p 178 [.slice p' n c']):Nl w own:=fun b hb=>by
 obtain⟨p',n,c',hx⟩:=hp b hb
 exact Nl.one hx (by intro y hy;simp at hy;subst hy;rfl) b (by simp)
theorem yn.own{w w':Wl}{own:List Nat}{v:Va}{l:List zT}(h:yn w v l)(hp:∀p∈own,∃p' n c',zK w p 178 [.slice p' n c'])(hc:zl own w w'):yn w' v l:=zO.chgC h hc zmK (Nl.own hp)
theorem Pg.sl{w:Wl}{p:Nat}{ls:LE}(h:Pg w p ls):∃p' n c',zK w p 178 [.slice p' n c']:=by
 obtain⟨v,hb,us,hs,_⟩:=h
 obtain⟨p',c',rfl,_⟩:=hs.val
 exact⟨_,_,_,hb⟩
theorem yw.pages{w:Wl}{t:Nat}{own:List Nat}{s:yx}{rows:LV}(h:yw w t own s rows):∀p∈own,∃p' n c',zK w p 178 [.slice p' n c']:=by
 obtain⟨pm,c,k,u,sv,xs,main,subs,rfl,h2,h3⟩:=h
 have hL:∀{ps:List Nat} {ms:List (LE)},PgL w ps ms→∀p∈ps,∃p' n c',zK w p 178 [.slice p' n c']:=by
  intro ps
  induction ps with
  |nil=>intro _ _ p hp;cases hp
  |cons q ps ih=>
   intro ms hm p hp
   cases ms with
   |nil=>exact hm.elim
   |cons m ms=>
    rcases List.mem_cons.1 hp with rfl|hp
    ·exact hm.1.sl
    exact ih hm.2 p hp
 intro p hp
 rcases List.mem_cons.1 hp with rfl|hp
 ·exact h2.pg.sl
 exact hL h2.pgs p hp
theorem EOk.tab{w w':Wl}{t:Nat}{own:List Nat}{s:yx}{rows:LV}(hE:EOk w)(h:yw w t own s rows)(hc:zl own w w'):EOk w':=
 hE.chg hc fun hm=>by
  obtain⟨_,_,_,hx⟩:=h.pages 0 hm
  refine hE.ne hx ?_ U
  simp[rty]
theorem zbh.nil_iff{s:yx}{rows:LV}{row:List zT}{es:List (By×Va)}(h:zbh s rows row (zQ s) es):es=[]↔zhx s rows row=[]:=by
 constructor
 ·rintro rfl
  cases hg:zhx s rows row with
  |nil=>rfl
  |cons r l=>
   have:=(h.gone (zV s r)).2 (by rw[hg];simp)
   simp[zd6]at this
 intro hg
 cases es with
 |nil=>rfl
 |cons p l=>
  have:=(h.gone p.1).1 (by simp[zd6])
  rw[hg]at this
  simp at this
theorem zlt{s:yx}{rows:LV}{row:List zT}:zhx s rows row=[]↔(rows.any fun r=>zak s r row)=false:=by
 simp[zhx]
theorem zqv(t:Nat)(own:List Nat)(s:yx)(rows:LV)(v:Va)(row:List zT)(w:Wl)(hE:EOk w)(h:yw w t own s rows)(hl:yn w v row)(hg:∀x∈row,x.Rng)(hn:row.length≤1048576) :
 zL TP 54 #[Pt t,v] w fun r w'=>ze7 w' r (zfi s rows row)∧yw w' t own s (zfu s rows row)∧zl own w w':=by
 have hT:=h
 obtain⟨pm,c,k,u,sv,xs,main,subs,rfl,hm,ht⟩:=h
 refine A2 Tryz.func54 U U ?_
 refine Sr (Oa U (E2 0 1 U (zd (Sr (Om U (Om U ?_))))))
 refine Oc zws U U U (znA v row w hE hm ht.ok.right hl hg hn) ?_
 rintro v9 w9⟨i9,c9⟩
 refine Oa U (E3 0 1 5 U ?_)
 have hm1:=hm.chg0 c9
 have hl1:=zO.chg0 hl c9
 rcases i9 with⟨rfl,he⟩|⟨i9,he⟩
 ·refine Sr (Om U (Og (zaE zbS U U) U (E4 0 1 5 11 U (zb U (zk (zd (Sr (Om U (Om U ?_)))))))))
  refine Oc zyp U U U (ziI v row _ hm1 ht he hl1 hg) ?_
  rintro v15 w15⟨bm,es,rfl,hbm,kes,_,hck,c15⟩
  refine Oq (zfP zqc U kes U ?_)
  intro b16 w16 e16 n16 c16 k16
  refine E3 0 1 16 U ?_
  have hcA:=(c9.trans c15).trans c16
  refine zu ?_
  refine zX [0,1,16] (fun m F wx=>m=0∧F=[(0,Pt t),(1,v),(16,Pt b16)]∧wx=w16) (m:=0) ⟨U,U,U⟩ ?_
  rintro m F wx⟨rfl,rfl,rfl⟩
  cases hes:es with
  |nil=>
   have hgn:=hck.nil_iff.1 hes
   refine Sr ?_
   refine Oq (zc0 U k16 U (fun _=>?_) (fun p l1 l2 w' h=>absurd (hes.symm.trans h) (by simp)))
   skip
   refine Oe U U (E4 0 1 16 18 U (zd (zb U ?_)))
   refine zI ?_
   repeat first|refine te ?_|refine bo rfl ?_
   refine zt _ ?_
   refine zd (zd ?_)
   have hm2:=hm.chg0 hcA
   have hany:=zlt.1 hgn
   have htk:zc5 s rows row e0=false:=by rw[zgz ht.ok];exact hany
   have eI:zfi s rows row=if 400≤rows.length then 3 else 0:=by
    unfold zfi
    rw[if_neg (by simp[he]),htk]
    rfl
   rcases Nat.lt_or_ge rows.length 400 with hlt|hge
   ·rw[if_neg (by omega)]at eI
    refine za (Om U ?_)
    refine Oc zpy U U U (zjo _ hm2 ht) ?_
    rintro v26 w26⟨rfl,rfl⟩
    refine Og (vf (yj U U) (df (by omega))) U ?_
    refine E3 0 1 27 U (zb U (zk (Sr (Om U (Om U ?_)))))
    refine Oc zx2 U U U (zse v row _ (hE.chg0 hcA) hm2 ht he (zO.chg0 hl hcA) hg) ?_
    rintro v33 w33⟨m33,c33⟩
    refine zac [] (F':=[]) U (Sr (Oa U (E1 4 U (zh ?_))))
    refine zx U U ?_
    have hfree:∀r∈rows,zak s r row=false:=fun r hr=>by simpa using List.any_eq_false.1 hany r hr
    unfold zfu
    rw[eI,if_pos rfl]
    exact⟨.inl ⟨U,U⟩,⟨pm,c,k,u,sv,xs,_,_,U,m33,ht.come he hg hfree hlt⟩,hcA.any.transS c33⟩
   rw[if_pos hge]at eI
   refine za (Om U ?_)
   refine Oc zpy U U U (zjo _ hm2 ht) ?_
   rintro v26 w26⟨rfl,rfl⟩
   refine Og (vt (yj U U) (dt (by omega))) U ?_
   refine E3 0 1 27 U (zf U (Sr (Og (zS zcX U) U ?_)))
   refine Og (zC zlV zl2 U (vs:=[_,_]) U (css:=[_,_]) ⟨U,U,trivial⟩ U U (cs:=[_,_]) U) U ?_
   refine Og (zS zl1 U) U (Oa U (E1 4 U (zh ?_)))
   repeat first|refine tr ?_|refine br ?_
   refine zx U U ?_
   unfold zfu
   rw[eI,if_neg (by decide)]
   exact⟨.inr ⟨.inr (.inr (.inl ⟨_,rfl⟩)),by decide⟩,hT.chg0 hcA,hcA.any⟩
  |cons p l=>
   have hgn:zhx s rows row≠[]:=fun e=>by rw[hck.nil_iff.2 e]at hes;cases hes
   refine Sr ?_
   refine Oq (zc0 U k16 U (fun h=>absurd (hes.symm.trans h) (by simp)) ?_)
   intro p l1 l2 w17 e17 n17 c17 k17
   refine Oe U U (E4 0 1 16 18 U (zd (zf U (zk (zu (Sr (Og (zfL U k17) U (Oe U U (Oa U (E1 6 U (Sr (Om U (Og (zS zcX U) U ?_)))))))))))))
   refine Og (zC zlV zl2 U (vs:=[_,_]) U (css:=[_,_]) ⟨U,U,trivial⟩ U U (cs:=[_,_]) U) U ?_
   refine Og (zS zl1 U) U (Oa U (E1 4 U (zh ?_)))
   repeat first|refine tr ?_|refine br ?_
   refine zx U U ?_
   have hany:(rows.any fun r=>zak s r row)=true:=by
    cases ha:rows.any fun r=>zak s r row with
    |true=>rfl
    |false=>exact absurd (zlt.2 ha) hgn
   have eI:zfi s rows row=220:=by
    unfold zfi
    rw[if_neg (by simp[he]),if_pos (by rw[zgz ht.ok];exact hany)]
   have hcB:zl [] w w17:=hcA.own c17 (by intro y hy;simp at hy;subst hy;have:=(c9.trans c15).size;omega)
   unfold zfu
   rw[eI,if_neg (by decide)]
   exact⟨.inr ⟨.inr (.inr (.inl ⟨_,rfl⟩)),by decide⟩,hT.chg0 hcB,hcB.any⟩
 refine Sr (Om U (Og (zaE zbS U i9.notNil) U (E4 0 1 5 11 U (zf U (Sr (Om U (Oa U (E1 4 U (zh ?_)))))))))
 repeat first|refine tr ?_|refine br ?_
 refine zx U U ?_
 have e:zfi s rows row=zai s row:=by unfold zfi;rw[if_pos he]
 unfold zfu
 rw[e,if_neg he]
 exact⟨.inr ⟨i9,he⟩,hT.chg0 c9,c9.any⟩
theorem zsu(t:Nat)(own:List Nat)(s:yx)(rows:LV)(v:Va)(row:List zT)(w:Wl)(hE:EOk w)(h:yw w t own s rows)(hl:yn w v row)(hg:∀x∈row,x.Rng)(hn:row.length≤1048576) :
 zL TP 27 #[Pt t,v] w fun r w'=>r=Ii (zfi s rows row)∧yw w' t own s (zfu s rows row)∧zl own w w':=by
 refine A2 Tryz.func27 U U ?_
 refine Sr (Oa U (E2 0 1 U (Sr (Om U (Om U ?_)))))
 refine Oc zzN U U U (zqv t own s rows v row w hE h hl hg hn) ?_
 rintro v7 w7⟨i7,t7,c7⟩
 refine Oc zqo U U U (zib _ _ _ (hE.tab h c7) i7.weak) ?_
 rintro v8 w8⟨rfl,c8⟩
 refine Oa U (E1 4 U (zh ?_))
 refine zx U U ?_
 exact⟨U,t7.chg0 c8,c7.trans c8⟩
theorem zpd{s:yx}{rows:LV}{k:By}(h:zbN s rows k=none):zay s rows k=rows:=by
 unfold zay
 exact List.filter_eq_self.2 fun r hr=>by simpa using zld h r hr
theorem zqT(t:Nat)(own:List Nat)(s:yx)(rows:LV)(key:By)(w:Wl)(h:yw w t own s rows) :
 zL TP 110 #[Pt t,.string key] w fun r w'=>∃o,r=.tuple #[o,Ii (zvi s rows key)]∧yn w' o ((zbN s rows key).getD [])∧(∀b∈zq o,w.heap.size≤b)∧yw w' t own s (zay s rows key)∧zl own w w':=by
 have hT:=h
 obtain⟨pm,c,k,u,sv,xs,main,subs,rfl,hm,ht⟩:=h
 refine A2 Tryz.func110 U U ?_
 refine Sr (Oa U (Oa U (E2 0 1 U (zd (Sr (Om U (Og (zan zkN U U) U (E3 0 1 9 U (zb U (zk (zd (Sr ?_))))))))))))
 refine Om U (Om U ?_)
 refine Oc ztj U U U (znS key w hm ht) ?_
 rintro v13 w13⟨o13,rfl,i13,f13',c13⟩
 refine Om U (Oe U U (Oe U U (Oa U (Oa U (E3 0 1 7 U ?_)))))
 unfold zvi
 cases hgr:zbN s rows key with
 |none=>
  refine Sr (Om U (Og (zE U) U (E3 0 1 17 U (zf U (Sr (Oa U (Oa U (E2 4 5 U (zh ?_)))))))))
  repeat first|refine tr ?_|refine br ?_
  refine zbX U U U ?_
  rw[zpd hgr]
  exact⟨_,rfl,zO.nil _ _ _ _,by simp[zq],hT.chg0 c13,c13.any⟩
 |some row=>
  obtain⟨hr,hk⟩:=zbY hgr
  refine Sr (Om U (Og (zE U) U (E3 0 1 17 U (zb U (zk (Sr (Om U (Om U ?_))))))))
  refine Oc zuO U U U (zkX key row _ (hm.chg0 c13) ht hgr) ?_
  rintro v20 w20⟨i20,f20',m20,c20⟩
  refine Oa U (Oa U (E2 4 5 U (zh ?_)))
  refine zbX U U U ?_
  have hs:=c13.size
  have hL:=ht.leave hr
  rw[hk]at hL m20
  exact⟨_,rfl,i20.arr,fun b hb=>by have:=f20' b hb;omega,⟨pm,c,k,u,sv,xs,_,_,rfl,m20,hL⟩,c13.any.transS c20⟩
theorem zjR{s:yx}{rows:LV}{row:List zT}{key:By}{es:List (By×Va)}(h:zbh s rows row (zQ s) es):zc5 s rows row key=true↔∃k∈zd6 es,k≠key:=by
 unfold zc5
 rw[List.any_eq_true]
 constructor
 ·rintro ⟨r,hr,hc⟩
  simp only[Bool.and_eq_true,decide_eq_true_eq]at hc
  exact⟨zV s r,(h.gone _).2 (List.mem_map.2 ⟨r,zgp.2 ⟨hr,hc.2⟩,U⟩),hc.1⟩
 rintro⟨k,hk,hne⟩
 obtain⟨r,hr,rfl⟩:=List.mem_map.1 ((h.gone k).1 hk)
 obtain⟨h1,h2⟩:=zgp.1 hr
 exact⟨r,h1,by simp[hne,h2]⟩
set_option maxHeartbeats 400000 in
theorem zrS(t:Nat)(own:List Nat)(s:yx)(rows:LV)(v:Va)(row:List zT)(key:By)(w:Wl)(hE:EOk w)(h:yw w t own s rows)(hl:yn w v row)(hg:∀x∈row,x.Rng)(hn:row.length≤1048576) :
 zL TP 109 #[Pt t,.string key,v] w fun r w'=>∃o,r=.tuple #[o,Ii (zeH s rows key row)]∧yn w' o (zrO s rows key row)∧(∀b∈zq o,w.heap.size≤b)∧yw w' t own s (zfo s rows key row)∧zl own w w':=by
 have hT:=h
 obtain⟨pm,c,k,u,sv,xs,main,subs,rfl,hm,ht⟩:=h
 refine A3 Tryz.func109 U U ?_
 refine Sr (Oa U (Oa U (E3 0 1 2 U (zd (Sr (Om U (Om U ?_)))))))
 refine Oc zws U U U (znA v row w hE hm ht.ok.right hl hg hn) ?_
 rintro v15 w15⟨i15,c15⟩
 refine Oa U (E4 0 1 2 8 U ?_)
 rcases i15 with⟨rfl,he⟩|⟨i15,he⟩
 ·refine Sr (Om U (Og (zaE zbS U U) U (E5 0 1 2 8 17 U (zb U (zk (zd (Sr (Om U (Om U ?_)))))))))
  refine Oc ztj U U U (znS key _ (hm.chg0 c15) ht) ?_
  rintro v23 w23⟨o23,rfl,i23,f23',c23⟩
  refine Om U (Oe U U (Oe U U (Oa U (Oa U (E4 0 1 2 10 U ?_)))))
  have hc2:=c15.trans c23
  cases hgr:zbN s rows key with
  |none=>
   refine Sr (Om U (Og (zE U) U (E4 0 1 2 27 U (zf U (Sr (Om U (Og (zS zcX U) U ?_)))))))
   refine Og (zC zlV zl2 U (vs:=[_,_]) U (css:=[_,_]) ⟨U,U,trivial⟩ U U (cs:=[_,_]) U) U ?_
   refine Og (zS zl1 U) U ?_
   refine Oc zqo U U U (zib _ 5 _ (hE.chg0 hc2) (.inr (.inr (.inr (.inl ⟨_,U⟩))))) ?_
   rintro v32 w32⟨rfl,c32⟩
   refine Oa U (Oa U (E2 6 7 U (zh ?_)))
   repeat first|refine tr ?_|refine br ?_
   refine zbX U U U ?_
   have eU:zeH s rows key row=5:=by unfold zeH;rw[if_neg (by simp[he]),hgr];rfl
   unfold zrO zfo
   rw[eU,if_neg (by decide),if_neg (by decide)]
   exact⟨_,rfl,zO.nil _ _ _ _,by simp[zq],hT.chg0 (hc2.trans c32),(hc2.trans c32).any⟩
  |some old=>
   refine Sr (Om U (Og (zE U) U (E4 0 1 2 27 U (zb U (zk (zd (Sr (Om U (Om U ?_)))))))))
   refine Oc zyp U U U (ziI v row _ (hm.chg0 hc2) ht he (zO.chg0 hl hc2) hg) ?_
   rintro v35 w35⟨bm,es,rfl,hbm,kes,_,hck,c35⟩
   refine Oq (zfP zqc U kes U ?_)
   intro b36 w36 e36 n36 c36 k36
   refine E4 0 1 2 36 U ?_
   have hcA:=(hc2.trans c35).trans c36
   refine zu ?_
   refine zX [0,1,2,36] (fun m F wx=>∃(left:List (By×Va)) (last:Option (By×Va)),m=left.length∧F=[(0,Pt t),(1,.string key),(2,v),(36,Pt b36)]∧ziJ zbo wx b36 bm es left last∧(∀p∈es,p∉left→p.1=key)∧zl [b36] w36 wx) (m:=es.length) ⟨es,none,U,U,k36,fun p h1 h2=>absurd h1 h2,zl.refl _ _⟩ ?_
   rintro m F wx⟨left,last,rfl,rfl,hit,hvis,hcx⟩
   have hs36:=(hc2.trans c35).size
   have hcw:zl [] w wx:=hcA.own hcx (by intro y hy;simp at hy;subst hy;omega)
   cases hleft:left with
   |nil=>
    refine Sr ?_
    refine Oq (zc0 U hit U (fun _=>?_) (fun p l1 l2 w' h=>absurd (hleft.symm.trans h) (by simp)))
    skip
    refine Oe U U (E5 0 1 2 36 38 U (zd (zb U ?_)))
    refine zI ?_
    repeat first|refine te ?_|refine bo rfl ?_
    refine zt _ ?_
    have htk:zc5 s rows row key=false:=by
     cases hx:zc5 s rows row key with
     |false=>rfl
     |true=>
      obtain⟨k',hk',hne⟩:=(zjR hck).1 hx
      obtain⟨p,hp,rfl⟩:=List.mem_map.1 hk'
      exact absurd (hvis p hp (by rw[hleft];simp)) hne
    have eU:zeH s rows key row=0:=by unfold zeH;rw[if_neg (by simp[he]),hgr,htk];rfl
    obtain⟨_,_,hfree,hlt⟩:=znj ht.ok eU
    obtain⟨hro,hko⟩:=zbY hgr
    have hL:=ht.leave hro
    rw[hko]at hL
    refine Sr (Om U (Om U ?_))
    refine Oc zuO U U U (zkX key old _ (hm.chg0 hcw) ht hgr) ?_
    rintro v51 w51⟨i51,f51',m51,c51⟩
    refine Oa U (E3 0 2 12 U ?_)
    rw[hko]at m51
    have hEx:=hE.chg0 hcw
    have hTx:=hT.chg0 hcw
    have hE51:=hEx.tab hTx c51
    have hl51:yn w51 v row:=yn.own (zO.chg0 hl hcw) hTx.pages c51
    refine Sr (Om U (Om U ?_))
    refine Oc zx2 U U U (zse v row _ hE51 m51 hL he hl51 hg) ?_
    rintro v54 w54⟨m54,c54⟩
    refine E1 12 U (Sr (Om U (Oa U (Oa U (E2 6 7 U (zh ?_))))))
    refine zbX U U U ?_
    have hT51:yw w51 t (pm::xs.map (·.2)) s (zay s rows key):=⟨pm,c,k,u,sv,xs,_,_,rfl,m51,hL⟩
    unfold zrO zfo
    rw[eU,if_pos rfl,if_pos rfl,hgr]
    have hsx:=hcw.size
    exact⟨_,rfl,yh.arr (zsX i51 hT51.pages U c54),fun b hb=>by have:=f51' b hb;omega,⟨pm,c,k,u,sv,xs,_,_,rfl,m54,hL.come he hg hfree hlt⟩,(hcw.any.transS c51).trans' c54 (fun _ h=>.inl h)⟩
   |cons p l=>
    refine Sr ?_
    refine Oq (zc0 U hit U (fun h=>absurd (hleft.symm.trans h) (by simp)) ?_)
    intro p l1 l2 w37 e37 n37 c37 k37
    refine Oe U U (E5 0 1 2 36 38 U (zd (zf U (zk (zu (Sr (Og (zfL U k37) U (Oe U U (Oa U (E5 0 1 2 11 36 U (zd ?_)))))))))))
    have hpe:p∈es:=by
     obtain⟨_,_,_,_,_,_,_,hsub,_⟩:=hit
     exact hsub p (by rw[e37];simp)
    by_cases hpk:p.1=key
    ·refine za (Om U (Om U ?_))
     refine Og (vf (zkJ U U) (by simp[hpk])) U ?_
     refine E6 0 1 2 11 36 43 U (zb U (z0 (zn ?_)))
     refine⟨(l1++l2).length,by rw[←hleft,e37];simp,l1++l2,some p,rfl,rfl,k37,fun p' h1 h2=>?_,hcx.transS c37⟩
     by_cases hin:p'∈left
     ·rw[e37]at hin
      rcases List.mem_append.1 hin with hin|hin
      ·exact absurd (List.mem_append_left _ hin) h2
      rcases List.mem_cons.1 hin with rfl|hin
      ·exact hpk
      exact absurd (List.mem_append_right _ hin) h2
     exact hvis p' h1 hin
    refine za (Om U (Om U ?_))
    refine Og (vt (zkJ U U) (by simp[hpk])) U ?_
    refine E6 0 1 2 11 36 43 U (zf U (zd ?_))
    have hcB:zl [] w w37:=hcw.own c37 (by intro y hy;simp at hy;subst hy;omega)
    refine za (Om U (Og (zS zcX U) U ?_))
    refine Og (zC zlV zl2 U (vs:=[_,_]) U (css:=[_,_]) ⟨U,U,trivial⟩ U U (cs:=[_,_]) U) U ?_
    refine Og (zS zl1 U) U ?_
    refine Oc zqo U U U (zib _ 220 _ (hE.chg0 hcB) (.inr (.inr (.inr (.inl ⟨_,U⟩))))) ?_
    rintro v48 w48⟨rfl,c48⟩
    refine Oa U (Oa U (E2 6 7 U (zh ?_)))
    repeat first|refine tr ?_|refine br ?_
    refine zbX U U U ?_
    have htk:zc5 s rows row key=true:=(zjR hck).2 ⟨p.1,List.mem_map.2 ⟨p,hpe,rfl⟩,hpk⟩
    have eU:zeH s rows key row=220:=by unfold zeH;rw[if_neg (by simp[he]),hgr,htk];rfl
    unfold zrO zfo
    rw[eU,if_neg (by decide),if_neg (by decide)]
    exact⟨_,rfl,zO.nil _ _ _ _,by simp[zq],hT.chg0 (hcB.trans c48),(hcB.trans c48).any⟩
 refine Sr (Om U (Og (zaE zbS U i15.notNil) U (E5 0 1 2 8 17 U (zf U (Sr (Om U ?_))))))
 refine Oc zqo U U U (zib _ _ _ (hE.chg0 c15) (.inr i15)) ?_
 rintro v19 w19⟨rfl,c19⟩
 refine Oa U (Oa U (E2 6 7 U (zh ?_)))
 repeat first|refine tr ?_|refine br ?_
 refine zbX U U U ?_
 have eU:zeH s rows key row=zai s row:=by unfold zeH;rw[if_pos he]
 unfold zrO zfo
 rw[eU,if_neg he,if_neg he]
 exact⟨_,rfl,zO.nil _ _ _ _,by simp[zq],hT.chg0 (c15.trans c19),(c15.trans c19).any⟩
def sv(l:List By):List Va:=l.map .string
end Go.Wk
