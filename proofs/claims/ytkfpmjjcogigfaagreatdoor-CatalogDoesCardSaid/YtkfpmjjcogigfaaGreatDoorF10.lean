/- joined texts -/
import Derived.Test.YtkfpmjjcogigfaaGreatDoorF9
set_option linter.all false
namespace Go.Wk
open Go.Proofs
set_option linter.unusedSectionVars false
variable [Lw]
set_option maxRecDepth 10000
theorem zA.notD{w:Wl}{e k n D:Nat}{v:Va}{xs:List Va}{x:Option (List Deferred)}(h:zA w e k v n xs)(hD:w.heap[D]? = some (.deferred x)):∀b∈zu v,b∉[D]:=by
 rcases h with⟨rfl,_,_⟩|⟨b,off,cap,cc,rfl,hs⟩
 ·simp[zu]
 intro y hy hm
 simp[zu]at hy
 simp at hm
 have:=hs.blk
 rw[←hm,hy,show w.heap[b]? = _ from this]at hD
 cases hD
theorem zt5(b1 bm:Nat)(es:List (By×Va))(w:Wl)(h1:zO w b1 80 [.map (some bm)])(hm:yf zce w bm es)(hn:es.length≤1048576) :
 zT TP 188 #[.slice none 0 0,.func (.func 132) #[] #[Pt b1]] w fun r w'=>∃l:List By,l.Perm (zbX es)∧zA w' 9 1 r l.length (sv l)∧(∀b∈zu r,w.heap.size≤b)∧zk [] w w':=by
 refine zT.of_WM (args:=[_,_]) Tryz.func188 U U U U ?_
 refine Sr ?_
 refine Ob U U ?_
 intro b2 w2 e2 n2 c2 k2
 refine Oa U (E2 1 2 U ?_)
 have k2:zO w2 b2 105 [.slice none 0 0]:=k2
 have h1lt:=h1.lt
 have hmlt:=hm.lt
 refine zQ (fun F wx=>∃(D:Nat) (f6:Va),F=[(1000000,Ii D),(2,Pt b2),(6,f6)]∧w.heap.size≤D∧wx.heap[D]? = some (.deferred (some []))∧∃(l:List By) (u:Va),zO wx b2 105 [u]∧l.Perm (zbX es)∧zA wx 9 1 u l.length (sv l)∧(∀b∈zu u,w.heap.size≤b)∧zk [] w wx) ?_ ?_
 ·refine Sr (Om U (E2 2 6 U (zp ?_)))
  refine zj7 (α:=By) (gf:=132) (lb:=[Pt b1]) (encs:=fun k:By => #[.string k]) (S0:=[b2]) (keep:=fun _=>false) (N:=es.length)
   (fun pre W=>∃u,zO W b2 105 [u]∧zA W 9 1 u pre.length (sv pre)∧(∀b∈zu u,w2.heap.size≤b)∧zk [b2] w2 W∧w2.heap.size≤W.heap.size)
   (fun _ _ _=>False)
   (fun k=>[(7,.string k),(2,Pt b2),(6,.func (.func 132) #[] #[Pt b1])])
   (fun k=>[(2,Pt b2),(5,.string k),(7,.string k)])
   rfl zAW (zBk w2 b1 bm es [b2] _ (h1.chg0 c2) (hm.chg0 c2) ?_ ?_) (fun _=>rfl) (fun _ _ _ _ h=>h) (fun _ _ _ _ h=>h) (fun _ _ _ _ h=>h) ?_ (fun _ _ _ _ _ h=>h.elim) ?_ (fun _ _ h=>h.choose_spec.2.2.2.2) ?_ ?_ ?_ ?_ (fun _ _ _ _ _ _ h=>h.elim)
  ·simp;omega
  ·simp;omega
  ·rintro pre W W' hk ⟨u,h1,h2,h4,h5,h6⟩
   exact⟨u,h1.bk hk,zA.bk h2 hk,h4,h5.bk (Nat.le_refl _) hk,by obtain⟨T,_,hc⟩:=hk;exact Nat.le_trans h6 hc.size⟩
  ·exact⟨_,k2,zA.nil _ _ _,by simp[zu],zk.refl _ _,Nat.le_refl _⟩
  ·intro j a ha
   exact ha.vars1 U U
  ·intro l' j W
   refine zam ?_
   refine yC (gn U) U (St.vl (yg U) U U ?_)
   refine zfW [2,5,7] (F':=[(2,_),(5,_),(7,_)]) U ?_
   exact⟨U,U,U⟩
  ·rintro l' pre k W ⟨u,hb2,hu,hfu,hcW,hsW⟩-hlen
   refine zgl ?_
   have hb2lt:=hb2.lt
   have hbu:b2∉zu u:=fun hm=>by have:=hfu _ hm;omega
   refine zam ?_
   refine yC (gn U) U (St.vl (zg zrX U (hb2.cell' U)) U U ?_)
   refine Xm U ?_
   refine yC (gn U) U (zz zxc U (vs:=[_]) U (css:=[_]) ⟨U,trivial⟩ U U (cs:=[_]) U U ?_)
   intro b10 w10 e10 n10 c10 k10
   refine yC (gn U) U (yo zxc zeF U U (zA.chg0 hu c10) (zA.of_blk (n:=1) k10 U (by simp[maxLen]) (by simp[Value.oneCell'])) (by simp only[maxLen];omega) (by omega) U ?_)
   intro v11 w11 i11 c11 o11 z11
   obtain⟨p11,q11,rfl,_⟩:=id (zA.val i11)
   refine yC (gn U) U (zt zwB U U U U ((hb2.chg0 c10).chg c11 hbu) (by simp) (by simp[Value.oneCell']) ?_)
   intro wA nA cA kA
   refine zfW [2,7] (F':=[(2,_),(7,_)]) U ?_
   have kA:zO wA b2 105 [.slice p11 (pre.length+1) q11]:=kA
   have hu11:=(hb2.chg0 c10).chg c11 hbu
   have hcut:∀y∈zu u,∃e c,zO W y e c:=fun y hy=>by
    rcases hu with⟨rfl,_,_⟩|⟨b,off,cap,cc,rfl,hs⟩
    ·simp[zu]at hy
    simp[zu]at hy;subst hy;exact⟨_,_,hs.blk⟩
   have hall:zk (b2::zu u) W wA:=((c10.any (S:=b2::zu u)).transS (c11.weak (by intro y hy;simp[hy]))).transS (cA.weak (by simp))
   have hs10:=c10.size
   refine⟨KeepsFrom.chg hall ?_,Kr.chg hall (by omega) ?_,_,kA,?_,yq o11 hfu (by omega),?_,by have:=hall.size;omega⟩
   ·intro y hy
    rcases List.mem_cons.1 hy with rfl|hy
    ·exact⟨_,_,hb2⟩
    exact hcut y hy
   ·intro y hy
    rcases List.mem_cons.1 hy with rfl|hy
    ·exact⟨.inl (by simp),_,_,hb2,rfl⟩
    obtain⟨e,c,hbb⟩:=hcut y hy
    exact⟨.inr (hfu y hy),e,c,hbb,U⟩
   ·have:=zA.chg i11 cA (zA.apart i11 hu11 rfl)
    rw[List.length_append]
    simpa[sv] using this
   exact hcW.trans' hall (by
    intro y hy
    rcases List.mem_cons.1 hy with rfl|hy
    ·simp
    exact .inr (hfu y hy))
  rintro D xs W hD hp⟨u,hb2,hu,hfu,hcW,hsW⟩ hdf
  refine zl ?_
  have hs2:=c2.size
  exact⟨D,_,rfl,by omega,hdf,xs,u,hb2,hp,hu,fun b hb=>by have:=hfu b hb;omega,c2.own hcW (by intro y hy;simp at hy;omega)⟩
 rintro F wx⟨D,f6,rfl,hD,hdf,l,u,hb2,hp,hu,hfu,hcx⟩
 refine Sr (Ol zrX U (hb2.cell' U) (Oa U (yB [4] (F':=[(4,_),(1000000,_)]) U (zj ?_))))
 refine zxz (D:=D) U U U hdf fun w' hcD=>?_
 exact⟨l,hp,zA.chg hu hcD (hu.notD hdf),hfu,hcx.own hcD (by intro y hy;simp at hy;omega)⟩
theorem zqF(b1 bm:Nat)(es:List (By×Va))(w:Wl)(h1:zO w b1 80 [.map (some bm)])(hm:yf zce w bm es)(hn:es.length≤1048576) :
 zT TP 130 #[.func (.func 132) #[] #[Pt b1]] w fun r w'=>∃l:List By,l.Perm (zbX es)∧zA w' 9 1 r l.length (sv l)∧(∀b∈zu r,w.heap.size≤b)∧zk [] w w':=by
 refine A1 Tryz.func130 U U ?_
 refine Sr (Oa U (E1 0 U (Sr (Om U ?_))))
 refine Oc zBY U U U (zt5 b1 bm es w h1 hm hn) ?_
 rintro v4 w4 hq
 refine Oa U (E1 2 U (zj ?_))
 refine zw U U ?_
 exact hq
theorem zsC(b1 bm:Nat)(es:List (By×Va))(w:Wl)(h1:zO w b1 80 [.map (some bm)])(hm:yf zce w bm es)(hn:es.length≤12)(hnd:(zbX es).Nodup) :
 zT TP 85 #[.func (.func 132) #[] #[Pt b1]] w fun r w'=>∃l:List By,l.Perm (zbX es)∧(l.Pairwise fun a b=>blt a b=true)∧zA w' 9 1 r l.length (sv l)∧(∀b∈zu r,w.heap.size≤b)∧zk [] w w':=by
 refine A1 Tryz.func85 U U ?_
 refine Sr (Oa U (E1 0 U (Sr (Om U ?_))))
 refine Oc zA6 U U U (zqF b1 bm es w h1 hm (by omega)) ?_
 rintro v5 w5⟨l,hp,il,fl',c5⟩
 refine Oa U (E1 3 U ?_)
 have hlen:=hp.length_eq
 have hl2:l.length=es.length:=by rw[hlen];simp[zbX]
 have hln:l.Nodup:=hp.nodup_iff.2 hnd
 rcases id il with⟨rfl,hz,_⟩|⟨b,off,cap,cc,rfl,hs⟩
 ·have hl0:l=[]:=List.length_eq_zero_iff.1 hz
  subst hl0
  refine Sr (Om U ?_)
  refine Oc zsR U U U (zpF _ _ _) ?_
  rintro v7 w7 rfl
  refine E1 3 U (Sr (Om U (Oa U (E1 2 U (zj ?_)))))
  refine zw U U ?_
  exact⟨[],hp,List.Pairwise.nil,il,fl',c5⟩
 have e1:cc=cc.take off++(sv l++cc.drop (off+l.length)):=by
  have h1:=hs.xs
  rw[Nat.mul_one]at h1
  rw[h1,show cc.drop (off+l.length)=(cc.drop off).drop l.length by rw[List.drop_drop],List.take_append_drop,List.take_append_drop]
 have e2:(cc.take off).length=off:=by rw[List.length_take];have:=hs.fit;omega
 have hb:zO w5 b 9 (cc.take off++(sv l++cc.drop (off+l.length))):=e1▸hs.blk
 generalize cc.take off=hd at *
 generalize cc.drop (off+l.length)=tail at *
 subst e2
 by_cases hl0:l.length=0
 ·have hl0:l=[]:=List.length_eq_zero_iff.1 hl0
  subst hl0
  refine Sr (Om U ?_)
  refine Oc zsR U U U (zpF _ _ _) ?_
  rintro v7 w7 rfl
  refine E1 3 U (Sr (Om U (Oa U (E1 2 U (zj ?_)))))
  refine zw U U ?_
  exact⟨[],hp,List.Pairwise.nil,il,fl',c5⟩
 refine Sr (Om U ?_)
 refine Oc zsR U U U (zyj b cap l hd tail _ hb (by omega) (by omega)) ?_
 rintro v7 w7⟨l',kb',hp',hs',c7⟩
 refine E1 3 U (Sr (Om U (Oa U (E1 2 U (zj ?_)))))
 refine zw U U ?_
 have hll:=hp'.length_eq
 refine⟨l',hp'.trans hp,hs'.pair (hp'.nodup_iff.2 hln),.inr ⟨b,hd.length,cap,_,by rw[hll],kb',?_,hs.max,?_,?_,?_⟩,fl',?_⟩
 ·rw[hll];exact hs.le
 ·have:=hs.fit
  rw[e1]at this
  simp[sv]at this ⊢
  omega
 ·rw[Nat.mul_one,List.drop_left' rfl,List.take_left' (by simp[sv])]
 ·intro x hx
  have h1:=hs.one
  rw[e1]at h1
  rcases List.mem_append.1 hx with hx|hx
  ·exact h1 x (by simp[hx])
  rcases List.mem_append.1 hx with hx|hx
  ·simp[sv]at hx
   obtain⟨a,_,rfl⟩:=hx
   rfl
  exact h1 x (by simp[hx])
 exact c5.own c7 (by intro y hy;simp at hy;subst hy;exact fl' _ (by simp[zu]))
theorem ztk(bm:Nat)(es:List (By×Va))(w:Wl)(hm:yf zce w bm es)(hn:es.length≤12)(hnd:(zbX es).Nodup) :
 zT TP 48 #[.map (some bm)] w fun r w'=>∃l:List By,l.Perm (zbX es)∧(l.Pairwise fun a b=>blt a b=true)∧zA w' 9 1 r l.length (sv l)∧(∀b∈zu r,w.heap.size≤b)∧zk [] w w':=by
 refine A1 Tryz.func48 U U ?_
 refine Sr (Oa U (E1 0 U (Sr (Om U ?_))))
 refine Oc zDe U U U (zyb bm w) ?_
 rintro v4 w4⟨b1,rfl,hb1,k1,c4⟩
 refine Oc zDl U U U (zsC b1 bm es _ k1 (hm.chg0 c4) hn hnd) ?_
 rintro v5 w5⟨l,hp,hs,il,fl',c5⟩
 refine Oa U (E1 2 U (zj ?_))
 refine zw U U ?_
 have hsz:=c4.size
 exact⟨l,hp,hs,il,fun b hb=>Nat.le_trans hsz (fl' b hb),c4.trans c5⟩
section
variable {t pm:Nat} {c k u sv:Va} {xs:List (Va×Nat)} {s:yL} {main:LE} {subs:List (LE)} {rows:LV}
theorem zrT(w:Wl)(h:yX w t pm c k u sv xs s main subs) :
 zT TP 45 #[Pt t] w fun r w'=>r=.agg #[c,k,u]∧zk [] w w':=by
 refine A1 Tryz.func45 U U ?_
 refine Sr ?_
 refine Oq (zF zzF U U ?_)
 intro b2 w2 e2 n2 c2 k2
 refine E2 0 2 U ?_
 have h1:=h.chg0 c2
 refine zf (Sr (Om U (Og (zav zkp U U) U (E3 0 2 4 U (zb U (zm (Sr (Om U (Og (zB U) U (Od zhf U (Og (zh zbw zbo U U h1.scells) U ?_)))))))))))
 refine Oq (zt zbo U U U U k2 (by simp) (by have:=h.sch.one;simpa using this) ?_)
 intro wA nA cA kA
 refine E1 2 U ?_
 have kA:zO wA b2 35 [c,k,u]:=kA
 refine zj ?_
 refine zfI U zbw zbo U U (zx.of_blk0 kA) ?_
 exact⟨rfl,c2.own cA (by intro y hy;simp at hy;omega)⟩
end
theorem Pg.chgC{w w':Wl}{p b:Nat}{e:TypeId}{x:List Va}{ls:LE}(h:Pg w p ls)(hb:zO w b e x)(h1:Nat.beq 178 e=false)(h2:Nat.beq 176 e=false)(h3:Nat.beq 215 e=false)(hc:zk [b] w w'):Pg w' p ls:=
 let ⟨v,g1,g2⟩:=h; ⟨v,g1.chg hc (by have:=g1.ne hb h1;simpa using this),g2.chg1 hb h2 h3 hc⟩
theorem Pg.chgSl{w w':Wl}{p:Nat}{ls:LE}(h:Pg w p ls){o:Va}{e:TypeId}{kk n:Nat}{ys:List Va}(hs:zA w e kk o n ys)(h1:Nat.beq 178 e=false)(h2:Nat.beq 176 e=false)(h3:Nat.beq 215 e=false)(hc:zk (zu o) w w'):Pg w' p ls:=by
 rcases hs with⟨rfl,_,_⟩|⟨b,off,cap,cc,rfl,hs⟩
 ·exact h.chg0 hc
 exact h.chgC hs.blk h1 h2 h3 hc
theorem PgL.all{w w':Wl}(hp:∀p ls,Pg w p ls→Pg w' p ls):∀{ps:List Nat} {ms:List (LE)},PgL w ps ms→PgL w' ps ms
 |[],[],_=>trivial
 |_::_,_::_,h=>⟨hp _ _ h.1,PgL.all hp h.2⟩
theorem PgL.lt{w:Wl}:∀{ps:List Nat} {ms:List (LE)},PgL w ps ms→∀p∈ps,p<w.heap.size
 |[],[],_,p,hp=>by cases hp
 |_::_,_::_,h,p,hp=>by
  rcases List.mem_cons.1 hp with rfl|hp
  ·exact h.1.lt
  exact h.2.lt p hp
structure zc7(w0 wx:Wl)(tb pm:Nat)(c k u o:Va)(ys:List (Va×Nat))(main:LE)(subs:List (LE)):Prop where
 blk:zO wx tb 123 [Pt pm,c,k,u,o]
 pg:Pg wx pm main
 sl:yj wx 126 2 scs o ys
 pgs:PgL wx (ys.map (·.2)) subs
 nd:(pm::ys.map (·.2)).Nodup
 fr:∀p∈pm::ys.map (·.2),w0.heap.size≤p
 fo:∀b∈zu o,w0.heap.size≤b
 ft:w0.heap.size≤tb
theorem zc7.chg0{w0 w w':Wl}{tb pm:Nat}{c k u o:Va}{ys:List (Va×Nat)}{main:LE}{subs:List (LE)}(h:zc7 w0 w tb pm c k u o ys main subs)(hc:zk [] w w'):zc7 w0 w' tb pm c k u o ys main subs:=
 ⟨h.blk.chg0 hc,h.pg.chg0 hc,yj.chg0 h.sl hc,h.pgs.chg0 hc,h.nd,h.fr,h.fo,h.ft⟩
theorem zc7.more{w0 w w1 w2:Wl}{tb pm:Nat}{c k u o o':Va}{ys:List (Va×Nat)}{main m:LE}{subs:List (LE)}(h:zc7 w0 w tb pm c k u o ys main subs){a:Va}{q:Nat}(hq:Pg w q m)(hqn:q∉pm::ys.map (·.2))(hqf:w0.heap.size≤q)
 (hc:zk (zu o) w w1) (ho:zA w1 126 2 o' (ys.length+1) (fl scs ys++scs (a,q))) (hfo:∀b∈zu o',w0.heap.size≤b) (hc2:zk [tb] w1 w2) (hb:zO w2 tb 123 [Pt pm,c,k,u,o']) :
 zc7 w0 w2 tb pm c k u o' (ys++[(a,q)]) main (subs++[m]):=by
 have htb:zO w1 tb 123 [Pt pm,c,k,u,o]:=h.blk.chg hc (fun hm=>zA.apart h.sl h.blk rfl tb hm (by simp))
 have hP:∀p ls,Pg w p ls→Pg w2 p ls:=fun p ls hp=>(hp.chgSl h.sl rfl rfl rfl hc).chgC htb rfl rfl rfl hc2
 refine⟨hb,hP _ _ h.pg,?_,?_,?_,?_,hfo,h.ft⟩
 ·refine zN.push (n:=ys.length+1) ?_ U U
  exact zA.chg ho hc2 (zA.apart ho htb U)
 ·rw[List.map_append]
  exact PgL.snoc (hP _ _ hq) (PgL.all hP h.pgs)
 ·rw[List.map_append]
  show ((pm::ys.map (·.2))++[q]).Nodup
  rw[List.nodup_append]
  refine⟨h.nd,by simp,fun x hx y hy=>?_⟩
  simp at hy
  subst hy
  exact fun e=>hqn (e▸hx)
 intro p hp
 rw[List.map_append]at hp
 rcases List.mem_cons.1 hp with rfl|hp
 ·exact h.fr _ (by simp)
 rcases List.mem_append.1 hp with hp|hp
 ·exact h.fr p (List.mem_cons_of_mem _ hp)
 simp at hp;subst hp;exact hqf
theorem zu7(w:Wl):zT TP 32 #[.pointer none] w fun r w'=>r=.pointer none∧w'=w:=by
 refine A1 Tryz.func32 U U ?_
 refine Sr (Oa U (E1 0 U (zf (Sr (Om U (Og (zav zkp U U) U (E2 0 7 U (ze U (Sr (Oa U (E1 2 U (zj ?_))))))))))))
 repeat first|refine tr ?_|refine br ?_
 refine zw U U ?_
 exact⟨U,U⟩
set_option maxHeartbeats 1000000 in
theorem zuX(t:Nat)(own:List Nat)(s:yL)(rows:LV)(w:Wl)(h:zac w t own s rows) :
 zT TP 32 #[Pt t] w fun r w'=>∃t' own',r=Pt t'∧zac w' t' own' s rows∧w.heap.size≤t'∧(∀p∈own',w.heap.size≤p)∧zk [] w w' ∧
  ∀pm c k u sv,zO w t 123 [Pt pm,c,k,u,sv]→∃pm' sv',zO w' t' 123 [Pt pm',c,k,u,sv']:=by
 have hT:=h
 obtain⟨pm,c,k,u,sv,xs,main,subs,rfl,hm,ht⟩:=h
 obtain⟨l1,l2⟩:=hm.lens
 obtain⟨psv,csv,rfl,hcsv⟩:=yj.val hm.sl
 have hn3:=(zZ ht.ok.right).2.1
 have hn4:(zW s).length≤4:=by simp[zW];omega
 refine A1 Tryz.func32 U U ?_
 refine Sr (Oa U (E1 0 U (zf (Sr (Om U (Og (zav zkp U U) U (E2 0 7 U (zb U (zm (zf ?_))))))))))
 have hd:zk [] w w.drew:=zk.drew [] _
 refine zI (fun wz=>zk [] w wz) mix (by kernel_rfl) hd ?_
 refine Tm U (Tp (fun _=>zB U) U (Td zgw U (Tr (fun wz hz=>zg zgK U ((hm.blk.chg0 hz).cell' U)) U ?_)))
 refine Tc zBd U U U (f19 pm main _ (hm.pg.chg0 hd) (by have:=ht.le;omega)) ?_
 rintro v12 w12⟨q,rfl,hqf,hq,c12⟩
 refine⟨.inl (hd.trans c12),?_⟩
 refine Tm U (Tp (fun _=>zB U) U (Td zhf U (Tr (fun wz hz=>zh zbw zbo U U (hm.chg0 hz).scells) U ?_)))
 refine Tp (fun _=>zK ztV zrK U (vs:=[_,_]) U (css:=[_,_]) ⟨U,U,trivial⟩ U U (cs:=[_,_,_,_,_]) U) U ?_
 refine zaQ U (gn U) (zj2 U U U ?_)
 intro b18 w18 e18 n18 c18 k18
 refine⟨.inl ((hd.trans c12).trans c18),?_⟩
 refine Ta U (D2 0 3 U ?_)
 have k18:zO w18 b18 123 [Pt q,c,k,u,.slice none 0 0]:=k18
 have hcA:=(hd.trans c12).trans c18
 have hsd:=hd.size
 have hs12:=c12.size
 have hpre:zc7 w w18 b18 q c k u (.slice none 0 0) [] main []:=⟨k18,hq.chg0 c18,zA.nil _ _ _,trivial,by simp,by simp;omega,by simp[zu],by omega⟩
 have hm1:=hm.chg0 hcA
 refine zf (Sr (Om U (Og (zB U) U (Od zdI U (Ol ziG U (hm1.blk.cell' U) (On ze7 U (Om U (E4 3 22 23 24 U (zp ?_)))))))))
 refine zR [3,22,23,24] (fun m F wx=>∃(j:Nat) (o:Va) (ys:List (Va×Nat)),m=xs.length-j∧j≤xs.length∧F=[(3,Pt b18),(22,.slice psv xs.length csv),(23,Ii xs.length),(24,Ii j)]∧zc7 w wx b18 q c k u o ys main (subs.take j)∧ys.map (·.1)=(xs.take j).map (·.1)∧zk [] w wx) (m:=xs.length-0) ⟨0,_,[],rfl,Nat.zero_le _,rfl,hpre,by simp,hcA⟩ ?_
 rintro m F wx⟨j,o,ys,rfl,hj,rfl,hp,hys,hcx⟩
 have hx:=hm.chg0 hcx
 refine Sr (Og (zy U U) U (E5 3 22 23 24 25 U (zf ?_)))
 refine zP U (fun hT'=>?_) (fun hF=>?_)
 ·refine zm ?_
  have hlt:j<xs.length:=by have:=of_decide_eq_true hT';omega
  obtain⟨a,p,st,m,b,off,cap,e1,e2,e3,ha,hpg,hsv,hcell,hqm⟩:=hx.at (j:=j) (by omega)
  cases hsv
  have hst:st∈zW s:=List.mem_of_getElem? e2
  have hsub:=zbx.st ht.subs e2 e3
  obtain⟨pa,ca,rfl,_⟩:=id (zN.val ha)
  have hyl:ys.length=j:=by have:=congrArg List.length hys;simpa[Nat.min_eq_left hj] using this
  refine zf (zp (Sr ?_))
  refine Og (zi ze7 zcU U U _ U hlt) U ?_
  refine Og (zh zht zcU U U hcell) U ?_
  refine Oq (zF zjr U U ?_)
  intro b5 w5 e5 n5 c5 k5
  refine Oq (zt zcU U U U U k5 (by simp) (by intro u hu;simp at hu;rcases hu with rfl|rfl;exact zN.one1 ha;rfl) ?_)
  intro wA nA cA kA
  refine E5 3 5 22 23 24 U ?_
  have kA:zO wA b5 126 [.slice pa st.length ca,Pt p]:=kA
  have hcB:zk [] wx wA:=c5.own cA (by intro y hy;simp at hy;omega)
  have hpA:=hp.chg0 hcB
  have hdA:zk [] wA wA.drew:=zk.drew [] _
  have hbo:b18∉zu o:=fun hm=>zA.apart hpA.sl hpA.blk rfl b18 hm (by simp)
  refine zI (fun wz=>zk [] wA wz) mix (by kernel_rfl) hdA ?_
  refine Tm U (Tm U (Tp (fun _=>zB U) U (Td zdI U (Tr (fun wz hz=>zg ziG U ((hpA.blk.chg0 hz).cell' U)) U (Td zo8 U (Tr (fun wz hz=>zg zb9 U ((kA.chg0 hz).cell' U)) U (Td zi0 U (Tr (fun wz hz=>zg zgK U ((kA.chg0 hz).cell' U)) U ?_))))))))
  refine Tc zBd U U U (f19 p m _ ((hpg.chg0 hcB).chg0 hdA) (by have:=hsub.le ht.ok;omega)) ?_
  rintro v37 w37⟨q',rfl,hqf',hq',c37⟩
  refine⟨.inl (hdA.trans c37),?_⟩
  refine Tp (fun _=>zK zw0 zjr U (vs:=[_,_]) U (css:=[_,_]) ⟨U,U,trivial⟩ U U (cs:=[_,_]) U) U ?_
  refine zaQ U (gn U) (zz zpj U (vs:=[_]) U (css:=[_]) ⟨U,trivial⟩ U U (cs:=[_,_]) U U ?_)
  intro b39 w39 e39 n39 c39 k39
  refine⟨.inl ((hdA.trans c37).trans c39),?_⟩
  refine zaQ U (gn U) (yo zpj ze7 U U (yj.chg0 hpA.sl ((hdA.trans c37).trans c39)) (zA.of_blk (n:=1) (c:=scs (.slice pa st.length ca,q')) k39 U (by simp[maxLen]) (by intro u hu;simp[scs]at hu;rcases hu with rfl|rfl;exact zN.one1 ha;rfl)) (by simp only[maxLen];omega) (by omega) U ?_)
  intro v40 w40 i40 c40 o40 z40
  obtain⟨p40,q40,rfl,_⟩:=id (zA.val i40)
  refine⟨.inr (by kernel_rfl),?_⟩
  refine Tp (fun _=>zB U) U (Td zdI U ?_)
  refine zaQ U (gn U) (zt zxm U U U U ((hpA.blk.chg0 ((hdA.trans c37).trans c39)).chg c40 hbo) (by simp) (by intro u hu;simp at hu;subst hu;rfl) ?_)
  intro wB nB cB kB
  refine⟨.inr (by kernel_rfl),?_⟩
  refine zdY [3,22,23,24] (F':=[(3,_),(22,_),(23,_),(24,_)]) U ?_
  have kB:zO wB b18 123 [Pt q,c,k,u,.slice p40 (ys.length+1) q40]:=kB
  refine zl ?_
  have hc39:zk [] wA w39:=(hdA.trans c37).trans c39
  have hsx:=hcx.size
  have hsB:=hcB.size
  have hsd2:=hdA.size
  have hs37:=c37.size
  have hs39:=c39.size
  have hmore:=(hpA.chg0 hc39).more (a:=.slice pa st.length ca) (hq'.chg0 c39) (fun hm=>by
   rcases List.mem_cons.1 hm with rfl|hm
   ·have:=hp.pg.lt;omega
   have:=hp.pgs.lt q' hm;omega) (by omega) c40 i40 (yq o40 hp.fo (by omega)) cB kB
  refine za ?_
  refine Og (zG U U (by omega)) U ?_
  refine Om U (N4 3 22 23 24 U ?_)
  refine⟨xs.length-(j+1),by omega,j+1,_,_,rfl,by omega,rfl,by rw[yt e3];exact hmore,?_,?_⟩
  ·rw[List.map_append,hys,yt e1,List.map_append]
   rfl
  have h1:zk (zu o++[b18]) wx wB:=(((hcB.any (S:=zu o++[b18])).transS (hc39.any)).transS (c40.weak (fun y hy=>by simp[hy]))).transS (cB.weak (by simp))
  exact hcx.own h1 (fun y hy=>by
   rcases List.mem_append.1 hy with hy|hy
   ·exact hp.fo y hy
   simp at hy;subst hy;exact hp.ft)
 refine zH ?_
 repeat first|refine te ?_|refine bo rfl ?_
 refine zq _ ?_
 have he:xs.length≤j:=by have:=of_decide_eq_false hF;omega
 rw[Tl (by omega)]at hp hys
 refine Sr (Om U (Oa U (E1 2 U (zj ?_))))
 refine zw U U ?_
 have hge:Lw.n≤w.heap.size:=Nat.le_trans (hm.ge _ (List.mem_cons_self ..)) (Nat.le_of_lt hm.pg.lt)
 have hM:yX wx b18 q c k u o ys s main subs:=⟨hp.blk,hx.sch,hp.pg,hp.sl,hys▸hx.ats,hp.pgs,hp.nd,fun p hp2=>Nat.le_trans hge (hp.fr p hp2)⟩
 exact⟨b18,q::ys.map (·.2),rfl,⟨q,c,k,u,o,ys,main,subs,rfl,hM,ht⟩,hp.ft,hp.fr,hcx,fun pm0 c0 k0 u0 sv0 hb=>by
  have hq:=Option.some.inj ((show w.heap[t]? = _ from hb).symm.trans hm.blk)
  cases hq
  exact⟨q,o,hp.blk⟩⟩
theorem zn3(t:Nat)(own:List Nat)(s:yL)(rows:LV)(w:Wl)(h:zac w t own s rows) :
 zT TP 32 #[Pt t] w fun r w'=>∃t' own',r=Pt t'∧zac w' t' own' s rows∧w.heap.size≤t'∧(∀p∈own',w.heap.size≤p)∧zk [] w w':=
 Calls.mono (zuX t own s rows w h) fun _ _ ⟨r,he,t',own',h1,h2,h3,h4,h5,_⟩=>⟨r,he,t',own',h1,h2,h3,h4,h5⟩
theorem zy9(n:Nat)(w:Wl)(hn:n≤4294967296):zT TP 309 #[.slice none 0 0,Ii n] w fun r w'=>zA w' 32 1 r 0 []∧(∀b∈zu r,w.heap.size≤b)∧zk [] w w':=by
 refine A2 Tryz.func309 U U ?_
 refine Sr (Oa U (E2 0 1 U (zf (Sr (Om U (Og (zy U U) U (E3 0 1 6 U ?_)))))))
 refine zP U (fun hT=>?_) (fun hF=>?_)
 ·exfalso
  have:=of_decide_eq_true hT
  omega
 refine zm (zf (Sr (Om U (Om U (Og (zg3 za6 U) U (Om U (On za6 U ?_)))))))
 refine Og (yK U U (by omega)) U ?_
 refine Og (yr (v':=Ii n) (yK U U (by omega)) (by congr 1<;>omega)) U ?_
 refine Oa U (E2 0 1 U (Sr (Om U (Og (zS U U) U (E3 0 1 16 U ?_)))))
 refine zP U (fun hT=>?_) (fun hF=>?_)
 ·have hpos:0<n:=by have:=of_decide_eq_true hT;omega
  refine za (Om U (Om U (Og (zg3 za6 U) U ?_)))
  refine Og (zbk za6 zg0 U U _ U (by omega)) U ?_
  refine Om U ?_
  refine Oq (zdG zto zaw U U U (zA.nil _ _ _) (fun p c he=>by simp[cut]at he;omega) (by simp only[maxLen];omega) (by omega) U ?_)
  intro b cap zs w22 hb c22 hge hle hzl hone k22
  refine Om U (On za6 U ?_)
  refine Og (zbk za6 zg0 U U 0 U (by omega)) U ?_
  refine Oa U (E1 0 U (Sr (Om U (Oa U (E1 4 U (zj ?_))))))
  refine zw U U ?_
  have hsl:zeK w22 32 1 b 0 (0+n) cap ([]++zs) (((([]++zs):List Va).drop 0).take ((0+n)*1)):=⟨k22,hge,hle,by simp only[List.nil_append];omega,rfl,hone⟩
  have hc:=hsl.cut (l:=0) (h:=0) (m:=cap) (Nat.le_refl _) (Nat.zero_le _) (Nat.le_refl _)
  refine⟨by simpa using hc,fun x hx=>?_,c22⟩
  have:=zA.cutBlk (len:=0) (cap:=0) x hx
  simp[zu]at this
  omega
 refine zm (Sr (Om U (Oa U (E1 4 U (zj ?_)))))
 refine zw U U ?_
 exact⟨zA.nil _ _ _,by simp[zu],zk.refl _ _⟩
def HL(w:Wl)(vs:List Va)(lss:List (List Va)):Prop:=vs.length=lss.length∧∀(i:Nat) (x:Va) (ls:List Va),vs[i]? = some x→lss[i]? = some ls→Rd w 1 x ls.length ls
theorem zsV(v:Va)(vs:List Va)(lss:List (List Va))(w:Wl)(hv:zA w 33 1 v lss.length vs)(hl:HL w vs lss)(hn:lss.flatten.length≤1048576)(hn2:lss.length≤1048576) :
 zT TP 225 #[v] w fun r w'=>zA w' 32 1 r lss.flatten.length lss.flatten∧(∀b∈zu r,w.heap.size≤b)∧zk [] w w':=by
 obtain⟨pv,cv,rfl,hcv⟩:=id (zA.val hv)
 have hfl:∀j,(lss.take j).flatten.length≤lss.flatten.length:=fun j=>by
  have:=congrArg (fun l=>(List.flatten l).length) (List.take_append_drop j lss)
  simp only[List.flatten_append,List.length_append]at this
  omega
 refine A1 Tryz.func225 U U ?_
 refine Sr (Oa U (E1 0 U (Sr (Oa U (E2 0 3 U (zf (Sr (Om U (On znH U (Om U (E5 0 3 9 10 11 U (zp ?_))))))))))))
 refine zR [0,3,9,10,11] (fun m F wx=>∃(j:Nat),m=lss.length-j∧j≤lss.length∧F=[(0,.slice pv lss.length cv),(3,Ii (lss.take j).flatten.length),(9,.slice pv lss.length cv),(10,Ii lss.length),(11,Ii j)]∧wx=w) (m:=lss.length-0) ⟨0,U,Nat.zero_le _,U,U⟩ ?_
 rintro m F wx⟨j,rfl,hj,rfl,rfl⟩
 refine Sr (Og (zy U U) U (E6 0 3 9 10 11 12 U (zf ?_)))
 refine zP U (fun hT=>?_) (fun hF=>?_)
 ·refine zm ?_
  have hlt:j<lss.length:=by have:=of_decide_eq_true hT;omega
  have hx:lss[j]? = some lss[j]:=by simp[hlt]
  generalize lss[j]=ls at hx
  obtain⟨b,off,cap,x,hve,hxe,hcell⟩:=hv.at1 hlt
  cases hve
  have hls:=hl.2 j x ls hxe hx
  obtain⟨pl,cl,rfl,_⟩:=hls.val
  have hsum:(lss.take (j+1)).flatten.length=(lss.take j).flatten.length+ls.length:=by rw[yt hx];simp
  have hb:=hfl (j+1)
  refine zf (zp (Sr ?_))
  refine Og (zi znH zxE U U _ U hlt) U ?_
  refine Ol zcD U hcell (Oa U (E6 0 3 5 9 10 11 U (Sr (Om U (Om U (On za6 U ?_))))))
  refine Og (yr (v':=Ii (((lss.take j).flatten.length+ls.length:Nat):Int)) (zG U U (by omega)) (by congr 1)) U ?_
  refine Oa U (E5 0 3 9 10 11 U (Sr (Om U ?_)))
  refine Og (vf (zy U U) (df (by omega))) U ?_
  refine E6 0 3 9 10 11 20 U (zb U (zU (zl (za ?_))))
  refine Og (zG U U (by omega)) U ?_
  refine Om U (N5 0 3 9 10 11 U ?_)
  exact⟨lss.length-(j+1),by omega,j+1,rfl,by omega,by rw[hsum];rfl,rfl⟩
 refine zH ?_
 repeat first|refine te ?_|refine bo rfl ?_
 refine zq _ ?_
 have he:j=lss.length:=by have:=of_decide_eq_false hF;omega
 subst he
 rw[List.take_length]
 refine Sr (Om U ?_)
 refine Oc zCe U U U (zy9 _ _ (by omega)) ?_
 rintro v24 w24⟨i24,f24',c24⟩
 refine Oa U (E2 0 6 U (zf (Sr (Om U (On znH U (Om U (E4 6 25 26 27 U (zp ?_))))))))
 refine zR [6,25,26,27] (fun m F wy=>∃(j:Nat) (o:Va),m=lss.length-j∧j≤lss.length∧F=[(6,o),(25,.slice pv lss.length cv),(26,Ii lss.length),(27,Ii j)]∧zA wy 32 1 o (lss.take j).flatten.length (lss.take j).flatten∧(∀b∈zu o,wx.heap.size≤b)∧zk [] wx wy) (m:=lss.length-0) ⟨0,_,U,Nat.zero_le _,U,i24,f24',c24⟩ ?_
 rintro m F wy⟨j,o,rfl,hj,rfl,ho,hfo,hcy⟩
 refine Sr (Og (zy U U) U (E5 6 25 26 27 28 U (zf ?_)))
 refine zP U (fun hT=>?_) (fun hF=>?_)
 ·refine zm ?_
  have hlt:j<lss.length:=by have:=of_decide_eq_true hT;omega
  have hx:lss[j]? = some lss[j]:=by simp[hlt]
  generalize lss[j]=ls at hx
  obtain⟨b,off,cap,x,hve,hxe,hcell⟩:=(zA.chg0 hv hcy).at1 hlt
  cases hve
  have hls:=hl.2 j x ls hxe hx
  have hsum:(lss.take (j+1)).flatten=(lss.take j).flatten++ls:=by rw[yt hx];simp
  have hb:=hfl (j+1)
  rw[hsum,List.length_append]at hb
  have hl1:=hls.chg0 hcy
  refine zf (zp (Sr ?_))
  refine Og (zi znH zxE U U _ U hlt) U ?_
  refine Ol zcD U hcell (Oa U (E5 6 8 25 26 27 U (za (Om U (Om U ?_)))))
  refine Oq (zco zto za6 U U ho hl1 (by simp only[maxLen];omega) (by omega) U ?_)
  intro v33 w33 i33 c33 o33 z33
  refine Oa U (N4 6 25 26 27 U (zl (za ?_)))
  refine Og (zG U U (by omega)) U ?_
  refine Om U (N4 6 25 26 27 U ?_)
  have hsy:=hcy.size
  refine⟨lss.length-(j+1),by omega,j+1,v33,rfl,by omega,rfl,?_,yq o33 hfo (by omega),hcy.own c33 hfo⟩
  rw[hsum,List.length_append];exact i33
 refine zH ?_
 repeat first|refine te ?_|refine bo rfl ?_
 refine zq _ ?_
 have he:lss.length≤j:=by have:=of_decide_eq_false hF;omega
 rw[Tl he]at ho
 refine Sr (Om U (Oa U (E1 2 U (zj ?_))))
 refine zw U U ?_
 exact⟨ho,hfo,hcy⟩
theorem Kr.chg0{S:List Nat}{keep:TypeId→Bool}{B:Nat}{W W':Wl}(hc:zk [] W W')(hB:B≤W.heap.size):Kr S keep B W W':=Kr.chg hc hB (by simp)
section
variable {S:List Nat} {keep:TypeId→Bool} {B:Nat} {W W':Wl}
theorem zO.kr{b:Nat}{e:TypeId}{c:List Va}(h:zO W b e c)(hk:Kr S keep B W W')(he:keep e=true):zO W' b e c:=hk.cells b _ _ _ h he
theorem zA.kr{e k n:Nat}{v:Va}{xs:List Va}(h:zA W e k v n xs)(hk:Kr S keep B W W')(he:keep e=true):zA W' e k v n xs:=by
 rcases h with h|⟨b,off,cap,c,rfl,hs⟩
 ·exact .inl h
 exact .inr ⟨b,off,cap,c,U,⟨hs.blk.kr hk he,hs.le,hs.max,hs.fit,hs.xs,hs.one⟩⟩
end
theorem HL.two{w:Wl}{b n:Nat}{v u:Va}{vu:List Va}(h:zO w b 32 [v])(hv:v.oneCell'=true)(hu:Rd w 1 u n vu):HL w [.slice (some ⟨b,0,none⟩) 1 1,u] [[v],vu]:=by
 refine⟨U,fun i x ls' h1 h2=>?_⟩
 match i with
 |0=>
  simp at h1 h2
  subst h1 h2
  exact(zA.of_blk (n:=1) h U (by simp[maxLen]) (by intro y hy;simp at hy;subst hy;exact hv)).toRd
 |1=>
  simp at h1 h2
  subst h1 h2
  have:=hu.len_xs
  rw[Nat.mul_one]at this
  rw[this];exact hu
 |_+2=>simp at h1
theorem zym(c k u:Va)(w:Wl):zT TP 178 #[.agg #[c,k,u]] w fun r w'=>∃b1,r=.func (.func 224) #[] #[Pt b1]∧w.heap.size≤b1∧zO w' b1 35 [c,k,u]∧zk [] w w':=by
 refine A1 Tryz.func178 U U ?_
 refine Sr ?_
 refine Ob U U ?_
 intro b1 w1 e1 n1 c1 k1
 refine Oa U (E1 1 U (Sr (Og (zai U U) U (Oa U (E1 2 U (zj ?_))))))
 refine zw U U ?_
 exact⟨b1,rfl,by omega,k1,c1⟩
theorem zoN(w0 w:Wl)(h0w:zk [] w0 w)(b1:Nat)(c k u:Va)(s:yL)(S0:List Nat)(keep:TypeId→Bool)(h1:zO w b1 35 [c,k,u])(hs:zaa w0 c k u s)(hS0:∀b∈S0,w0.heap.size≤b)(hr:yF s=true)
 (kI:keep 3=true) (kII:keep 32=true) :
 zqZ TP 224 #[Pt b1] (fun x:Nat×Va => #[Ii x.1,x.2]) S0 keep (fun x W=>∃st,(zW s)[x.1]? = some st∧yj W 3 1 ics x.2 st∧∀b∈zu x.2,w.heap.size≤b) (fun xs _=>xs.map (·.1)=List.range (zW s).length) (fun _ _=>True) (zW s).length w:=by
 intro l J Jx W hcw hJ hJx hY h0
 have hab:∀{pre:List (Nat×Va)} {W1 W2:Wl},zk [] W1 W2→J pre W1→J pre W2:=fun hc hj=>hJ _ _ _ none hj hc.grown0 (fun _ e=>by cases e)
 have hn3:=(zZ hr).2.1
 have hsl:(zW s).length≤4:=by simp[zW];omega
 refine CallsIn.mono (R:=fun e W'=>∃r,e=.returned r∧(fun(_:Va) W'=>(∃xs:List (Nat×Va),xs.map (·.1)=List.range (zW s).length∧J xs W')∨(∃pre,True∧Jx pre W')) r W') ?_ (fun e W' ⟨u,he,h⟩=>⟨⟨u,he⟩,h⟩)
 refine CallsIn.of_WX (args:=[_,_]) Tryz.func224 U U U U (zhI ?_)
 have h1W:=h1.chg0 hcw
 refine zhC ?_
 refine zf (Sr (Og (zh zbw zbo U U (zx.of_blk0 h1W)) U ?_))
 refine Oc zkC U U U (zgk c k u s _ ((hs.chg0 h0w).chg0 hcw) (zgg hr)) ?_
 rintro v6 w6⟨h6,c6⟩
 rw[hr]at h6
 change v6=Ii 0 at h6
 subst h6
 refine Og (vf (zJ U U) (zcz (by omega))) U ?_
 refine E3 0 1 7 U (zb U (zm (zf ?_)))
 refine zjc ?_
 refine zf ?_
 have h1x:=h1W.chg0 c6
 have hs6:=((hs.chg0 h0w).chg0 hcw).chg0 c6
 obtain⟨vu,ou,lu⟩:=id hs.uq
 have hvu:vu.length=s.uq.length:=by have:=ou.1.len_xs;simpa using this
 obtain⟨pk,ck,rfl,_⟩:=id (zN.val hs.key)
 have hflat:List.flatten (List.cons (List.cons (Value.slice pk s.key.length ck) []) (List.cons vu []))=Value.slice pk s.key.length ck::vu:=by simp
 have hlen:(Value.slice pk s.key.length ck::vu).length=(zW s).length:=by simp[zW,hvu]
 obtain⟨pu,cu,rfl,_⟩:=id (zca.val hs.uq)
 refine za (Od zbi U (Ol zb9 U (h1x.cell' U) ?_))
 refine Oq (zz zto U (vs:=[_]) U (css:=[_]) ⟨U,trivial⟩ U U (cs:=[_]) U U ?_)
 intro b10 w10 e10 n10 c10 k10
 refine Od zaq U (Ol zcD U ((h1x.chg0 c10).cell' U) ?_)
 refine Oq (zz zzH U (vs:=[_,_]) U (css:=[_,_]) ⟨U,U,trivial⟩ U U (cs:=[_,_]) U U ?_)
 intro b13 w13 e13 n13 c13 k13
 refine Oc zAq U U U (zsV _ [.slice (some ⟨b10,0,none⟩) 1 1,.slice pu s.uq.length cu] [ [.slice pk s.key.length ck],vu] _ (zA.of_blk (n:=2) k13 U (by simp[maxLen]) (by intro y hy;simp at hy;rcases hy with rfl|rfl<;>rfl)) (HL.two (n:=s.uq.length) (k10.chg0 c13) U (Rd.chg0 (Rd.chg0 (Rd.chg0 (Rd.chg0 (Rd.chg0 ou.1 h0w) hcw) c6) c10) c13)) (by rw[hflat,hlen];omega) (by simp)) ?_
 rintro v14 w14⟨i14,f14',c14⟩
 rw[hflat,hlen]at i14
 obtain⟨p14,q14,rfl,-⟩:=id (zA.val i14)
 refine On za6 U (Om U (E4 0 14 15 16 U ?_))
 have hsW:=hcw.size
 have hc14:zk [] W w14:=((c6.trans c10).trans c13).trans c14
 have hs14:=hc14.size
 refine zp ?_
 refine zR [0,14,15,16] (fun m F wx=>∃(j:Nat) (pre:List (Nat×Va)),m=(zW s).length-j∧j≤(zW s).length∧F=[(0,.func (.yield l) #[] #[]),(14,.slice p14 (zW s).length q14),(15,Ii (zW s).length),(16,Ii j)]∧Kr S0 keep w.heap.size w14 wx∧pre.map (·.1)=List.range j∧J pre wx) (m:=(zW s).length-0) ⟨0,[],U,Nat.zero_le _,U,Kr.refl _ _ _ _,U,hab hc14 h0⟩ ?_
 rintro m F wx⟨j,pre,rfl,hj,rfl,hkx,hpre,hJ0⟩
 have hpl:pre.length=j:=by have:=congrArg List.length hpre;simpa using this
 refine Sr (Og (zy U U) U (E5 0 14 15 16 17 U (zf ?_)))
 refine zP U (fun hT=>?_) (fun hF=>?_)
 ·refine zm ?_
  have hlt:j<(zW s).length:=by have:=of_decide_eq_true hT;omega
  have hst:(zW s)[j]? = some (zW s)[j]:=by simp[hlt]
  generalize (zW s)[j]=st at hst
  have hstm:st∈zW s:=List.mem_of_getElem? hst
  have hst4:=(zbe (zdq hr st hstm)).1
  have hlow:Low w0 wx:=fun b hb=>by
   have hb2:b<w.heap.size:=Nat.lt_of_lt_of_le hb h0w.size
   rw[hkx.low b hb2 (fun hm=>by have:=hS0 b hm;omega)]
   exact((h0w.trans hcw).trans hc14).block b hb (by simp)
  have ix:zcc wx (.slice p14 (zW s).length q14) (zW s):=⟨_,(i14.kr hkx kII).toOu,zN.low hs.key hlow,lu.low hlow⟩
  obtain⟨b,off,cap,x,hv,hcell,hx⟩:=zca.at ix hst
  cases hv
  refine zf (zp (Sr (Om U ?_)))
  refine Og (zi za6 zg0 U U _ U hlt) U ?_
  refine Ol zb9 U hcell (Oa U (Oa U (E6 0 3 4 14 15 16 U (zf ?_))))
  have hsx:=hkx.size
  refine ze1 ?_
  refine Xm U (Xm U (Xm U ?_))
  refine yC (gn U) U (yP zAa U U U U (zu0 x st _ hx (by omega)) ?_)
  rintro v24 w24⟨i24,f24',c24⟩
  refine zgx (gn U) U U U (hY pre (j,v24) w24 (hab c24 hJ0) ⟨st,hst,i24,fun b hb=>by have:=f24' b hb;omega⟩ (by omega)) ?_
  rintro v25 w25 hR25
  obtain⟨b25,rfl,hb25⟩:=yb hR25
  refine⟨_,U,?_⟩
  refine yC (gn U) U (St.vl (zC U) U U ?_)
  refine zdh [0,14,15,16,26] (F':=[(0,_),(14,_),(15,_),(16,_),(26,_)]) U ?_
  rcases hb25 with⟨rfl,hJ25,hk25⟩|⟨rfl,hJ25⟩
  ·refine zb U (zU (zl (za ?_)))
   refine Og (zG U U (by omega)) U ?_
   refine Om U (N4 0 14 15 16 U ?_)
   refine⟨(zW s).length-(j+1),by omega,j+1,pre++[(j,v24)],rfl,by omega,rfl,(hkx.trans (Kr.chg0 c24 (by omega))).trans hk25,?_,hJ25⟩
   rw[List.map_append,hpre,List.range_succ]
   rfl
  refine ze U ?_
  refine zH ?_
  repeat first|refine te ?_|refine bo rfl ?_
  refine zq _ ?_
  refine zf5 ?_
  refine zgD U ?_
  exact .inr ⟨_,trivial,hJ25⟩
 refine zH ?_
 repeat first|refine te ?_|refine bo rfl ?_
 refine zq _ ?_
 refine zf5 ?_
 refine zgD U ?_
 have he:j=(zW s).length:=by have:=of_decide_eq_false hF;omega
 subst he
 exact .inl ⟨_,hpre,hJ0⟩
theorem zcX.nil{s:yL}(h:yF s=true):∀{subs:List (LE)},subs=(zW s).map (fun _=>[])→zcX s [] [] subs:=by
 rintro subs rfl
 have hw:WfP []:=⟨by simp,by simp,by simp[Srt]⟩
 have hW:zeS []:=zeS.nil
 refine⟨yT.nil h,U,hw,hW,?_⟩
 induction zW s with
 |nil=>exact .nil
 |cons st sts ih=>exact .cons ⟨hw,hW,by simp⟩ ih
section
variable {B:Nat} {W W':Wl}
theorem yp.bk{α:Type}{f:α→List Va}{e k:Nat}(hk:Bk B W W'):∀{vs:List Va} {ls:List (List α)},yp W e k f vs ls→yp W' e k f vs ls
 |[],[],_=>trivial
 |_::_,_::_,h=>⟨zA.bk h.1 hk,yp.bk hk h.2⟩
theorem zbN.bk(hk:Bk B W W'):∀{vs:List Va} {ls:LE},zbN W vs ls→zbN W' vs ls
 |[],[],_=>trivial
 |_::_,_::_,h=>⟨zA.bk h.1 hk,zbN.bk hk h.2⟩
theorem Pg.bk{p:Nat}{ls:LE}(h:Pg W p ls)(hk:Bk B W W'):Pg W' p ls:=
 let ⟨v,h1,us,h2,h3⟩:=h; ⟨v,h1.bk hk,us,zA.bk h2 hk,h3.bk hk⟩
theorem zc7.bk{w0:Wl}{tb pm:Nat}{c k u o:Va}{ys:List (Va×Nat)}{main:LE}{subs:List (LE)}(h:zc7 w0 W tb pm c k u o ys main subs)(hk:Bk B W W'):zc7 w0 W' tb pm c k u o ys main subs:=
 ⟨h.blk.bk hk,h.pg.bk hk,zA.bk h.sl hk,PgL.all (fun _ _ hp=>hp.bk hk) h.pgs,h.nd,h.fr,h.fo,h.ft⟩
end
theorem yp.notD{α:Type}{f:α→List Va}{w:Wl}{e k D:Nat}{x:Option (List Deferred)}(hD:w.heap[D]? = some (.deferred x)):∀{vs:List Va} {ls:List (List α)},yp w e k f vs ls→∀v∈vs,∀b∈zu v,b∉[D]
 |[],[],_,v,hv=>by simp at hv
 |v::vs,l::ls,h,u,hu=>by
  rcases List.mem_cons.1 hu with rfl|hu
  ·exact zA.notD h.1 hD
  exact h.2.notD hD u hu
theorem zbN.notD{w:Wl}{D:Nat}{x:Option (List Deferred)}(hD:w.heap[D]? = some (.deferred x)):∀{vs:List Va} {ls:LE},zbN w vs ls→∀v∈vs,∀b∈zu v,b∉[D]
 |[],[],_,v,hv=>by simp at hv
 |v::vs,l::ls,h,u,hu=>by
  rcases List.mem_cons.1 hu with rfl|hu
  ·exact zA.notD h.1 hD
  exact zbN.notD hD h.2 u hu
set_option maxHeartbeats 1000000 in
theorem zxX(c k u:Va)(s:yL)(w:Wl)(hs:zaa w c k u s)(hr:yF s=true)(hN:Lw.n≤w.heap.size) :
 zT TP 111 #[.agg #[c,k,u]] w fun r w'=>∃t own,r=.tuple #[Pt t,Ii 0]∧zac w' t own s []∧w.heap.size≤t∧(∀p∈own,w.heap.size≤p)∧zk [] w w'∧∃pm sv,zO w' t 123 [Pt pm,c,k,u,sv]:=by
 have hn4:(zW s).length≤4:=by have:=(zZ hr).2.1;simp[zW];omega
 refine zT.of_WM (args:=[_]) Tryz.func111 U U U U ?_
 refine Sr ?_
 refine Ob U U ?_
 intro b1 w1 e1 n1 c1 k1
 refine Oa U (Oa U (E1 1 U (zf (Sr (Og (zh zbw zbo U U (zx.of_blk0 k1)) U ?_)))))
 refine Oc zkC U U U (zgk c k u s _ (hs.chg0 c1) (zgg hr)) ?_
 rintro v9 w9⟨h9,c9⟩
 rw[hr]at h9
 change v9=Ii 0 at h9
 subst h9
 refine Oa U (E2 1 4 U (Sr (Om U ?_)))
 refine Og (vf (zJ U U) (zcz (by omega))) U ?_
 refine E3 1 4 11 U (zb U (zm ?_))
 have k1:zO w9 b1 35 [c,k,u]:=k1.chg0 c9
 have hcA:=c1.trans c9
 refine zQ (fun F wx=>∃b5 b16 pm,F=[(1,Pt b1),(5,Pt b5)]∧zO wx b5 52 [Pt b16]∧zc7 w wx b16 pm c k u (.slice none 0 0) [] [] []∧zk [] w9 wx) ?_ ?_
 ·have hsA:=hcA.size
  have hC:=(zk.drew [] w9)
  refine zfm (fun wz=>zk [] w9 wz) (zbj.seq [1] (.two 0 (zbj.seq [2] (.two 3 (zbj.seq [4,5] .done) 4 (zbj.seq [3,5] .done))) 4 (zbj.seq [0,2,3,5] .done))) mix (by kernel_rfl) hC ?_
  refine zd1 U U (gn U) (fun wz hz=>zh zbw zbo U U (zx.of_blk0 (k1.chg0 hz))) U U ?_
  refine zfA ?_ ?_
  ·refine zag U U (gn U) (yP ztr U U U U (f9 _) ?_)
   rintro v13 w13⟨pm,rfl,hpm,p13,c13⟩
   have hN13:=hC.size
   have hC:=hC.trans c13
   refine⟨.inl hC,?_⟩
   refine z5 U U (gn U) (fun _=>zK ztV zrK U (vs:=[_,_]) U (css:=[_,_]) ⟨U,U,trivial⟩ U U (cs:=[_,_,_,_,_]) U) U U ?_
   refine zfA ?_ ?_
   ·refine zag U U (gn U) (zj2 U U U ?_)
    intro b16 w16 e16 n16 c16 k16
    have hN16:=hC.size
    have hC:=hC.trans c16
    have p13:=p13.chg0 c16
    refine⟨.inl hC,?_⟩
    refine zag U U (gn U) (zF zmO U U ?_)
    intro b5 w5 e5 n5 c5 k5
    have hN5:=hC.size
    have hC:=hC.trans c5
    have k16:=k16.chg0 c5
    have p13:=p13.chg0 c5
    refine⟨.inl hC,?_⟩
    refine zag U U (gn U) (zt zvc U U U U k5 (by simp) (by intro u hu;simp at hu;subst hu;rfl) ?_)
    intro wA nA cA kA
    have hC:=hC.own cA (by intro y hy;simp at hy;omega)
    refine⟨.inl hC,?_⟩
    refine zc6 [1,5] (F':=[(1,_),(5,_)]) U ?_
    have hz1:=c13.size
    have hz2:=c5.size
    have hz3:=c16.size
    exact⟨b5,b16,pm,rfl,kA,⟨k16.chg cA (by simp;omega),p13.chgC k5 U U U cA,zA.nil _ _ _,trivial,by simp,by simp;omega,by simp[zu],by omega⟩,hC⟩
   refine zag U U (gn U) (zF zmO U U ?_)
   intro b5 w5 e5 n5 c5 k5
   have hN5:=hC.size
   have hC:=hC.trans c5
   have p13:=p13.chg0 c5
   refine⟨.inl hC,?_⟩
   refine zag U U (gn U) (zj2 U U U ?_)
   intro b16 w16 e16 n16 c16 k16
   have hN16:=hC.size
   have hC:=hC.trans c16
   have k5:=k5.chg0 c16
   have p13:=p13.chg0 c16
   refine⟨.inl hC,?_⟩
   refine zag U U (gn U) (zt zvc U U U U k5 (by simp) (by intro u hu;simp at hu;subst hu;rfl) ?_)
   intro wA nA cA kA
   have hC:=hC.own cA (by intro y hy;simp at hy;omega)
   refine⟨.inl hC,?_⟩
   refine zc6 [1,5] (F':=[(1,_),(5,_)]) U ?_
   have hz1:=c13.size
   have hz2:=c5.size
   have hz3:=c16.size
   exact⟨b5,b16,pm,rfl,kA,⟨k16.chg cA (by simp;omega),p13.chgC k5 U U U cA,zA.nil _ _ _,trivial,by simp,by simp;omega,by simp[zu],by omega⟩,hC⟩
  refine zag U U (gn U) (zF zmO U U ?_)
  intro b5 w5 e5 n5 c5 k5
  have hN5:=hC.size
  have hC:=hC.trans c5
  refine⟨.inl hC,?_⟩
  refine zag U U (gn U) (yP ztr U U U U (f9 _) ?_)
  rintro v13 w13⟨pm,rfl,hpm,p13,c13⟩
  have hN13:=hC.size
  have hC:=hC.trans c13
  have k5:=k5.chg0 c13
  refine⟨.inl hC,?_⟩
  refine z5 U U (gn U) (fun _=>zK ztV zrK U (vs:=[_,_]) U (css:=[_,_]) ⟨U,U,trivial⟩ U U (cs:=[_,_,_,_,_]) U) U U ?_
  refine zag U U (gn U) (zj2 U U U ?_)
  intro b16 w16 e16 n16 c16 k16
  have hN16:=hC.size
  have hC:=hC.trans c16
  have k5:=k5.chg0 c16
  have p13:=p13.chg0 c16
  refine⟨.inl hC,?_⟩
  refine zag U U (gn U) (zt zvc U U U U k5 (by simp) (by intro u hu;simp at hu;subst hu;rfl) ?_)
  intro wA nA cA kA
  have hC:=hC.own cA (by intro y hy;simp at hy;omega)
  refine⟨.inl hC,?_⟩
  refine zc6 [1,5] (F':=[(1,_),(5,_)]) U ?_
  have hz1:=c13.size
  have hz2:=c5.size
  have hz3:=c16.size
  exact⟨b5,b16,pm,rfl,kA,⟨k16.chg cA (by simp;omega),p13.chgC k5 U U U cA,zA.nil _ _ _,trivial,by simp,by simp;omega,by simp[zu],by omega⟩,hC⟩
 rintro F wx⟨b5,b16,pm,rfl,kt,hpre,cx⟩
 have hcB:=hcA.trans cx
 have k1x:=k1.chg0 cx
 refine zQ (fun F wy=>∃(D:Nat) (f18:Va) (o:Va) (ys:List (Va×Nat)),F=[(1000000,Ii D),(5,Pt b5),(18,f18)]∧w.heap.size≤D∧wy.heap[D]? = some (.deferred (some []))∧zO wy b5 52 [Pt b16]∧zc7 w wy b16 pm c k u o ys [] (ys.map fun _=>[])∧yp wy 3 1 ics (ys.map (·.1)) (zW s)∧zk [] w wy) ?_ ?_
 ·refine Sr (Og (zh zbw zbo U U (zx.of_blk0 k1x)) U ?_)
  refine Oc zzg U U U (zym c k u _) ?_
  rintro v18 w18⟨p1,rfl,hp1,kp1,c18⟩
  refine E2 5 18 U ?_
  have hcC:=hcB.trans c18
  have hpre':=hpre.chg0 c18
  have kt':=kt.chg0 c18
  have hsC:=hcC.size
  have hs18:=c18.size
  refine zp ?_
  refine zj7 (α:=Nat×Va) (gf:=224) (lb:=[Pt p1]) (encs:=fun x:Nat×Va => #[Ii x.1,x.2]) (S0:=[b16]) (keep:=fun e=>Nat.beq e 3 || Nat.beq e 32) (N:=(zW s).length)
   (fun pre W=>∃(o:Va) (ys:List (Va×Nat)),zc7 w W b16 pm c k u o ys [] (ys.map fun _=>[])∧(∀b∈zu o,w18.heap.size≤b)∧ys.map (·.1)=pre.map (·.2)∧yp W 3 1 ics (pre.map (·.2)) (pre.map fun x=>((zW s)[x.1]?).getD [])∧zO W b5 52 [Pt b16]∧zk [b16] w18 W∧w18.heap.size≤W.heap.size)
   (fun _ _ _=>False)
   (fun x=>[(20,x.2),(19,Ii x.1),(5,Pt b5),(18,.func (.func 224) #[] #[Pt p1])])
   (fun x=>[(5,Pt b5),(7,x.2),(20,x.2)])
   rfl zAM (zoN w w18 hcC p1 c k u s [b16] _ kp1 hs (by intro b hb;simp at hb;subst hb;exact hpre.ft) hr rfl rfl) (fun _=>rfl) ?_ (fun _ _ _ _ h=>h) (fun _ _ _ _ h=>h) ?_ (fun _ _ _ _ _ h=>h.elim) ?_ (fun _ _ h=>h.choose_spec.choose_spec.2.2.2.2.2.2) ?_ ?_ ?_ ?_ (fun _ _ _ _ _ _ h=>h.elim)
  ·rintro x W W' hk ⟨st,h1,h2,h3⟩
   exact⟨st,h1,zA.bk h2 hk,h3⟩
  ·rintro pre W W' hk ⟨o,ys,h1,h2,h3,h4,h5,h6,h7⟩
   exact⟨o,ys,h1.bk hk,h2,h3,h4.bk hk,h5.bk hk,h6.bk (Nat.le_refl _) hk,by obtain⟨T,_,hc⟩:=hk;exact Nat.le_trans h7 hc.size⟩
  ·exact⟨_,[],hpre',by simp[zu],rfl,trivial,kt',zk.refl _ _,Nat.le_refl _⟩
  ·intro x a ha
   exact ha.vars2 U U U
  ·intro l' x W
   refine zam ?_
   refine yC (gn U) U (St.vl (yg U) U U ?_)
   refine zfW [5,7,20] (F':=[(5,_),(7,_),(20,_)]) U ?_
   exact⟨U,U,U⟩
  ·rintro l' pre ⟨xi,xv⟩ W ⟨o,ys,hp,hfo,hys,hats,hk5,hcW,hsW⟩ ⟨st,hst,hx,hfx⟩ hlen
   have hx:yj W 3 1 ics xv st:=hx
   have hst:(zW s)[xi]? = some st:=hst
   have hfx:∀b∈zu xv,w18.heap.size≤b:=hfx
   obtain⟨px,qx,rfl,_⟩:=id (yj.val hx)
   refine zgl ?_
   have hd:zk [] W W.drew:=zk.drew [] _
   have hbo:b16∉zu o:=fun hm=>zA.apart hp.sl hp.blk rfl b16 hm (by simp)
   have hyl:ys.length=pre.length:=by have:=congrArg List.length hys;simpa using this
   have hb5:b5≠b16:=hk5.ne hp.blk rfl
   have hcl:∀{wz:Wl},zk [] W wz→wz.cell? ⟨b5,0,none⟩=some (Pt b16)∧wz.cell? ⟨b16,4,none⟩=some o:=fun hc=>⟨(hk5.chg0 hc).cell' rfl,(hp.blk.chg0 hc).cell' rfl⟩
   have hb5o:b5∉zu o:=fun hm=>zA.apart hp.sl hk5 rfl b5 hm (by simp)
   refine zoc (fun wz=>wz.cell? ⟨b5,0,none⟩=some (Pt b16)∧wz.cell? ⟨b16,4,none⟩=some o) mix (by kernel_rfl) (hcl hd) ?_
   refine Tr (fun wz hz=>zg zqU U hz.1) U (Tr (fun wz hz=>zg zqU U hz.1) U (Tp (fun _=>zB U) U (Td zdI U (Tr (fun wz hz=>zg ziG U hz.2) U (Tm U ?_)))))
   refine Tc ztr U U U (f9 _) ?_
   rintro v27 w27⟨q,rfl,hqf,hq,c27⟩
   refine⟨.inl (hcl (hd.trans c27)),?_⟩
   refine Tp (fun _=>zK zw0 zjr U (vs:=[_,_]) U (css:=[_,_]) ⟨U,U,trivial⟩ U U (cs:=[_,_]) U) U ?_
   refine zaQ U (gn U) (zz zpj U (vs:=[_]) U (css:=[_]) ⟨U,trivial⟩ U U (cs:=[_,_]) U U ?_)
   intro b29 w29 e29 n29 c29 k29
   refine⟨.inl (hcl ((hd.trans c27).trans c29)),?_⟩
   refine zaQ U (gn U) (yo zpj ze7 U U (yj.chg0 hp.sl ((hd.trans c27).trans c29)) (zA.of_blk (n:=1) (c:=scs (.slice px st.length qx,q)) k29 U (by simp[maxLen]) (by intro u hu;simp[scs]at hu;rcases hu with rfl|rfl<;>rfl)) (by simp only[maxLen];omega) (by omega) U ?_)
   intro v30 w30 i30 c30 o30 z30
   obtain⟨p30,q30,rfl,_⟩:=id (zA.val i30)
   refine⟨.inl ⟨((hk5.chg0 ((hd.trans c27).trans c29)).chg c30 hb5o).cell' U,((hp.blk.chg0 ((hd.trans c27).trans c29)).chg c30 hbo).cell' U⟩,?_⟩
   refine Tp (fun _=>zB U) U (Td zdI U ?_)
   refine zaQ U (gn U) (zt zxm U U U U ((hp.blk.chg0 ((hd.trans c27).trans c29)).chg c30 hbo) (by simp) (by intro u hu;simp at hu;subst hu;rfl) ?_)
   intro wB nB cB kB
   refine⟨.inr (by kernel_rfl),?_⟩
   refine zdY [5,20] (F':=[(5,_),(20,_)]) U ?_
   have kB:zO wB b16 123 [Pt pm,c,k,u,.slice p30 (ys.length+1) q30]:=kB
   have hc29:zk [] W w29:=(hd.trans c27).trans c29
   have hs27:=c27.size
   have hs29:=c29.size
   have hsd:=hd.size
   have hmore:=(hp.chg0 hc29).more (a:=.slice px st.length qx) (hq.chg0 c29) (fun hm=>by
    rcases List.mem_cons.1 hm with rfl|hm
    ·have:=hp.pg.lt;omega
    have:=hp.pgs.lt q hm;omega) (by omega) c30 i30 (yq o30 hp.fo (by omega)) cB kB
   have hcut:∀y∈zu o,∃cc,zO W y 126 cc:=fun y hy=>by
    rcases hp.sl with⟨rfl,_,_⟩|⟨b,off,cap,cc,rfl,hs⟩
    ·simp[zu]at hy
    simp[zu]at hy;subst hy;exact⟨_,hs.blk⟩
   have hall:zk (b16::zu o) W wB:=((hc29.any (S:=b16::zu o)).transS (c30.weak (by intro y hy;simp[hy]))).transS (cB.weak (by simp))
   have hsl29:=yj.chg0 hp.sl hc29
   have hb30:zO w30 b16 123 [Pt pm,c,k,u,o]:=(hp.blk.chg0 hc29).chg c30 hbo
   have hats30:=yp.chg c30 (yp.apartSl hsl29 rfl (hats.chg0 hc29)) (hats.chg0 hc29)
   have hats1:yp wB 3 1 ics (pre.map (·.2)) (pre.map fun x=>((zW s)[x.1]?).getD []):=yp.chg cB (hats30.apart hb30 rfl) hats30
   have hx30:=yj.chg (yj.chg0 hx hc29) c30 (zA.apartSl (yj.chg0 hx hc29) hsl29 rfl)
   have hx1:yj wB 3 1 ics (.slice px st.length qx) st:=yj.chg hx30 cB (zA.apart hx30 hb30 rfl)
   refine⟨KeepsFrom.chg hall ?_,Kr.chg hall (by omega) ?_,.slice p30 (ys.length+1) q30,ys++[(.slice px st.length qx,q)],?_,?_,?_,?_,?_,?_,by have:=hall.size;omega⟩
   ·intro y hy
    rcases List.mem_cons.1 hy with rfl|hy
    ·exact⟨_,_,hp.blk⟩
    obtain⟨cc,hb⟩:=hcut y hy
    exact⟨_,_,hb⟩
   ·intro y hy
    rcases List.mem_cons.1 hy with rfl|hy
    ·exact⟨.inl (by simp),_,_,hp.blk,rfl⟩
    obtain⟨cc,hb⟩:=hcut y hy
    exact⟨.inr (hfo y hy),_,_,hb,U⟩
   ·rw[List.map_append]
    exact hmore
   ·exact yq o30 hfo (by omega)
   ·rw[List.map_append,List.map_append,hys]
    rfl
   ·rw[List.map_append,List.map_append]
    refine hats1.append (us:=[_]) (ms:=[_]) ⟨?_,trivial⟩
    show yj wB 3 1 ics (.slice px st.length qx) (((zW s)[xi]?).getD [])
    rw[hst]
    exact hx1
   ·exact(((hk5.chg0 hc29).chg c30 (fun hm=>zA.apart hsl29 (hk5.chg0 hc29) U b5 hm (by simp))).chg cB (by simpa using hb5))
   exact hcW.trans' hall (by
    intro y hy
    rcases List.mem_cons.1 hy with rfl|hy
    ·simp
    exact .inr (hfo y hy))
  rintro D xs W hD hxs⟨o,ys,hp,hfo,hys,hats,hk5,hcW,hsW⟩ hdf
  refine zl ?_
  have hb16:=hp.ft
  refine⟨D,_,o,ys,rfl,by omega,hdf,hk5,hp,?_,hcC.own hcW (by intro y hy;simp at hy;omega)⟩
  have e:(xs.map fun x=>((zW s)[x.1]?).getD [])=zW s:=by
   have e1:(xs.map fun x=>((zW s)[x.1]?).getD [])=(xs.map (·.1)).map fun i=>((zW s)[i]?).getD []:=by rw[List.map_map];rfl
   rw[e1,hxs]
   apply List.ext_getElem (by simp)
   intro i h1 h2
   simp[h2]
  rw[hys,←e]
  exact hats
 rintro F wy⟨D,f18,o,ys,rfl,hD,hdf,hk5,htp,hats,hcy⟩
 refine Sr (Ol zqU U (hk5.cell' U) (Oa U (Oa U (yB [2,3] (F':=[(2,_),(3,_),(1000000,_)]) U (zj ?_)))))
 refine zyX (D:=D) U U U U hdf fun w' hcD=>?_
 have hbD:∀{b:Nat} {e:TypeId} {x:List Va},zO wy b e x→b∉[D]:=fun hb hm=>by
  simp at hm
  rw[←hm,show wy.heap[_]? = _ from hb]at hdf
  cases hdf
 have hP:∀p ls,Pg wy p ls→Pg w' p ls:=fun p ls ⟨v,h1,us,h2,h3⟩=>⟨v,h1.chg hcD (hbD h1),us,h2.chg hcD (h2.notD hdf),h3.chg hcD (zbN.notD hdf h3)⟩
 have hsl:(ys.map (·.1)).length=(zW s).length:=hats.length
 refine⟨b16,pm::ys.map (·.2),rfl,⟨pm,c,k,u,o,ys,[],_,rfl,⟨htp.blk.chg hcD (hbD htp.blk),?_,hP _ _ htp.pg,zA.chg htp.sl hcD (zA.notD htp.sl hdf),yp.chg hcD (hats.notD hdf) hats,PgL.all hP htp.pgs,htp.nd,fun p hp2=>Nat.le_trans hN (htp.fr p hp2)⟩,zcX.nil hr ?_⟩,htp.ft,htp.fr,hcy.own hcD (by intro y hy;simp at hy;omega),pm,o,htp.blk.chg hcD (hbD htp.blk)⟩
 ·exact hs.chg0 (hcy.own hcD (by intro y hy;simp at hy;omega))
 apply List.ext_getElem (by simpa using hsl)
 intro i h1 h2
 simp
theorem zyN(s:By):blt s e0=false:=by
 cases h:blt s e0 with
 |false=>rfl
 |true=>
  have:=(zeH s e0).1 h
  simp[e0]at this
theorem zc4{P:Program}{n:Nat}{F:Fr}{w:Wl}{dst:Option Nat}{ty:TypeId}{pos:String}{af:Array Edge}{gd:Option (Nat×Bool)}{x y:Operand}{t u:TypeId}{a b:Bool}(hb:zuk P t=true)(hx:ev F x=some (.bool a))(hy:ev F y=some (.bool b)):Vl P n F ⟨dst,.binOp .neq t x y u,ty,pos,af,gd⟩ w (.bool (!(a == b))) w:=by
 intro c ha
 have hu:P.underlying t=some .bool:=by unfold zuk at hb;split at hb<;>simp_all
 have h1:(Op.equal t (.bool a) (.bool b)).run P w=.ok (a == b) w:=zbg fun d=>by simp[Op.equalIn,run_underlying hu]
 simp[execOp,ha.eval hx,ha.eval hy,eqGuard,binOp,h1]
theorem zvr{s:yL}{rows:LV}{row:List zX}(h:zez s rows row≠0):insR s rows row=rows:=by unfold insR;rw[if_neg h]
theorem zuW{s:yL}{rows:LV}{row:List zX}{k:By}(h:zdg s rows k row≠0):updR s rows k row=rows:=by unfold updR;rw[if_neg h]
theorem zr0(b:Bool)(w:Wl):zT TP 129 #[.bool b] w fun r w'=>∃i:Int,r=Ii i∧i≠0∧w'=w:=by
 refine A1 Tryz.func129 U U ?_
 refine Sr (Oa U (E1 0 U (zf (Sr (Om U (E1 3 U ?_))))))
 cases b with
 |true=>
  refine ze U (Sr (Oa U (E1 2 U (zj ?_))))
  repeat first|refine tr ?_|refine br ?_
  refine zw U U ?_
  exact⟨_,rfl,by decide,rfl⟩
 |false=>
  refine zb U (zm (Sr (Oa U (E1 2 U (zj ?_)))))
  refine zw U U ?_
  exact⟨_,rfl,by decide,rfl⟩
theorem zvy(x y:zX)(w:Wl):zT TP 128 #[x.v,y.v] w fun r w'=>∃i:Int,r=Ii i∧(i=0↔x=y)∧zk [] w w':=by
 obtain⟨xk,xi,xu,xb⟩:=x
 obtain⟨yk,yi,yu,yb⟩:=y
 refine A2 Tryz.func128 U U ?_
 refine Sr ?_
 refine Ob U U ?_
 intro b2 w2 e2 n2 c2 k2
 refine Ob U U ?_
 intro b3 w3 e3 n3 c3 k3
 refine Oa U (E2 2 3 U ?_)
 have k2:=k2.chg0 c3
 have hc:=c2.trans c3
 refine zf (zp (zf ?_))
 by_cases h1:xk=yk
 ·refine za (Od zak U (Ol zbI U (k2.cell' U) (Od zak U (Ol zbI U (k3.cell' U) ?_))))
  refine Og (vf (zJ U U) (by simp[h1])) U ?_
  refine Oa U (E3 2 3 5 U (zb U (zf ?_)))
  by_cases h2:xi=yi
  ·refine za (Od yv U (Ol ag2 U (k2.cell' U) (Od yv U (Ol ag2 U (k3.cell' U) ?_))))
   refine Og (vf (zJ U U) (by simp[h2])) U ?_
   refine Oa U (E3 2 3 17 U (zb U (zf ?_)))
   by_cases h3:xu=yu
   ·refine za (Od zaN U (Ol zbR U (k2.cell' U) (Od zaN U (Ol zbR U (k3.cell' U) ?_))))
    refine Og (vf (zJ U U) (by simp[h3])) U ?_
    refine Oa U (E3 2 3 29 U (zb U (zf ?_)))
    by_cases h4:xb=yb
    ·refine za (Od zaB U (Ol yH U (k2.cell' U) (Od zaB U (Ol yH U (k3.cell' U) ?_))))
     refine Og (vf (zdA U U) (by simp[h4])) U ?_
     refine Oa U (E3 2 3 41 U (zb U (zU (zl (Sr (Oa U (E1 4 U (zj ?_))))))))
     refine zw U U ?_
     exact⟨0,rfl,by simp[h1,h2,h3,h4],hc⟩
    refine za (Od zaB U (Ol yH U (k2.cell' U) (Od zaB U (Ol yH U (k3.cell' U) ?_))))
    refine Og (vt (zdA U U) (by simp[h4])) U ?_
    refine Oa U (E3 2 3 41 U (ze U (Sr (Od zaB U (Ol yH U (k2.cell' U) (Od zaB U (Ol yH U (k3.cell' U) (Og (zh5 U U) U ?_))))))))
    refine Oc zm8 U U U (zr0 _ _) ?_
    rintro v52 w52⟨i,rfl,hi,rfl⟩
    refine Oa U (E1 4 U (zj ?_))
    repeat first|refine tr ?_|refine br ?_
    refine zw U U ?_
    exact⟨i,rfl,by simp[h4,hi],hc⟩
   refine za (Od zaN U (Ol zbR U (k2.cell' U) (Od zaN U (Ol zbR U (k3.cell' U) ?_))))
   refine Og (vt (zJ U U) (by simp;omega)) U ?_
   refine Oa U (E3 2 3 29 U (ze U (Sr (Od zaN U (Ol zbR U (k2.cell' U) (Od zaN U (Ol zbR U (k3.cell' U) (Og (zy U U) U ?_))))))))
   refine Oc zm8 U U U (zr0 _ _) ?_
   rintro v40 w40⟨i,rfl,hi,rfl⟩
   refine Oa U (E1 4 U (zj ?_))
   repeat first|refine tr ?_|refine br ?_
   refine zw U U ?_
   exact⟨i,rfl,by simp[h3,hi],hc⟩
  refine za (Od yv U (Ol ag2 U (k2.cell' U) (Od yv U (Ol ag2 U (k3.cell' U) ?_))))
  refine Og (vt (zJ U U) (by simp[h2])) U ?_
  refine Oa U (E3 2 3 17 U (ze U (Sr (Od yv U (Ol ag2 U (k2.cell' U) (Od yv U (Ol ag2 U (k3.cell' U) (Og (zy U U) U ?_))))))))
  refine Oc zm8 U U U (zr0 _ _) ?_
  rintro v28 w28⟨i,rfl,hi,rfl⟩
  refine Oa U (E1 4 U (zj ?_))
  repeat first|refine tr ?_|refine br ?_
  refine zw U U ?_
  exact⟨i,rfl,by simp[h2,hi],hc⟩
 refine za (Od zak U (Ol zbI U (k2.cell' U) (Od zak U (Ol zbI U (k3.cell' U) ?_))))
 refine Og (vt (zJ U U) (by simp[h1])) U ?_
 refine Oa U (E3 2 3 5 U (ze U (Sr (Od zak U (Ol zbI U (k2.cell' U) (Od zak U (Ol zbI U (k3.cell' U) (Og (zy U U) U ?_))))))))
 refine Oc zm8 U U U (zr0 _ _) ?_
 rintro v16 w16⟨i,rfl,hi,rfl⟩
 refine Oa U (E1 4 U (zj ?_))
 repeat first|refine tr ?_|refine br ?_
 refine zw U U ?_
 exact⟨i,rfl,by simp[h1,hi],hc⟩
theorem zrs{α:Type}{l m:List α}{j:Nat}(h:l.take j=m.take j)(hl:l.length≤j∨m.length≤j)(he:l.length=m.length):l=m:=by
 rw[Tl (by omega),Tl (by omega)]at h
 exact h
theorem zu8(v u:Va)(l m:List zX)(w:Wl)(hv:yc w v l)(hu:yc w u m)(hl:l.length≤1048576):zT TP 84 #[v,u] w fun r w'=>∃i:Int,r=Ii i∧(i=0↔l=m)∧zk [] w w':=by
 obtain⟨pv,cv,rfl,_⟩:=id (zN.val hv)
 obtain⟨pu,cu,rfl,_⟩:=id (zN.val hu)
 refine A2 Tryz.func84 U U ?_
 refine Sr (Oa U (E2 0 1 U ?_))
 refine zQ (fun F wx=>∃(j:Nat) (f16:Va),F=[(0,.slice pv l.length cv),(1,.slice pu m.length cu),(5,Ii j),(16,f16)]∧l.take j=m.take j∧(l.length≤j∨m.length≤j)∧zk [] w wx) ?_ ?_
 ·refine Sr (Oa U (E3 0 1 5 U (zp ?_)))
  refine zR [0,1,5] (fun k F wx=>∃j:Nat,k=l.length-j∧j≤l.length∧j≤m.length∧F=[(0,.slice pv l.length cv),(1,.slice pu m.length cu),(5,Ii j)]∧l.take j=m.take j∧zk [] w wx) (m:=l.length-0) ⟨0,rfl,Nat.zero_le _,Nat.zero_le _,rfl,by simp,zk.refl _ _⟩ ?_
  rintro k F wx⟨j,rfl,hj,hj',rfl,htk,hcx⟩
  refine zf (zf ?_)
  by_cases h1:j<l.length
  ·by_cases h2:j<m.length
   ·refine za (Om U (Om U (On yA U ?_)))
    refine Og (vt (zy U U) (dt (by omega))) U ?_
    refine Om U (Oj U U (Oj U U (Oy U U (zV yA U) ?_)))
    refine Oy U U (vt (zy U U) (dt (by omega))) ?_
    refine Ot U (E4 0 1 5 16 U (ze U (zm ?_)))
    have hx:l[j]? = some l[j]:=by simp[h1]
    have hy:m[j]? = some m[j]:=by simp[h2]
    generalize l[j]=x at hx
    generalize m[j]=y at hy
    refine zf (zp (zf ?_))
    have hd:zk [] wx wx.drew:=zk.drew [] _
    have hcl1:∀{wz:Wl},zk [] wx wz→∃b off cap,Value.slice pv l.length cv=.slice (some ⟨b,off,none⟩) l.length cap∧zx wz b (off+j*4) x.cs:=fun hc=>zN.at zbn (zN.chg0 hv (hcx.trans hc)) hx
    have hcl2:∀{wz:Wl},zk [] wx wz→∃b off cap,Value.slice pu m.length cu=.slice (some ⟨b,off,none⟩) m.length cap∧zx wz b (off+j*4) y.cs:=fun hc=>zN.at zbn (zN.chg0 hu (hcx.trans hc)) hy
    obtain⟨b,off,cap,hve,-⟩:=hcl1 (zk.refl [] wx)
    obtain⟨b',off',cap',hue,-⟩:=hcl2 (zk.refl [] wx)
    cases hve
    cases hue
    have hc1:∀{wz:Wl},zk [] wx wz→zx wz b (off+j*4) x.cs:=fun hc=>by
     obtain⟨_,_,_,he,h⟩:=hcl1 hc
     cases he;exact h
    have hc2:∀{wz:Wl},zk [] wx wz→zx wz b' (off'+j*4) y.cs:=fun hc=>by
     obtain⟨_,_,_,he,h⟩:=hcl2 hc
     cases he;exact h
    refine zI (fun wz=>zk [] wx wz) mix (by kernel_rfl) hd ?_
    refine Tm U (Tm U ?_)
    refine Tp (fun _=>zi yA ym U U _ U h1) U ?_
    refine Tr (fun wz hz=>zh zaz ym U U (hc1 hz)) U (Tm U (Tm U ?_))
    refine Tp (fun _=>zi yA ym U U _ U h2) U ?_
    refine Tr (fun wz hz=>zh zaz ym U U (hc2 hz)) U ?_
    refine Tc zBL U U U (zvy x y _) ?_
    rintro v27 w27⟨i,rfl,hi,c27⟩
    refine⟨.inl (hd.trans c27),?_⟩
    refine Ta U (D4 0 1 5 6 U (zf ?_))
    by_cases hxy:x=y
    ·have hi0:=hi.2 hxy
     subst hi0
     refine za (Om U ?_)
     refine Og (vf (zJ U U) (zcz (by omega))) U ?_
     refine E5 0 1 5 6 29 U (zb U (zU (zl (za (Om U ?_)))))
     refine Og (zG U U (by omega)) U ?_
     refine Oa U (N3 0 1 5 U ?_)
     refine⟨l.length-(j+1),by omega,j+1,rfl,by omega,by omega,rfl,?_,(hcx.trans hd).trans c27⟩
     rw[yt hx,yt hy,htk,hxy]
    have hi0:i≠0:=fun h=>hxy (hi.1 h)
    refine za (Om U ?_)
    refine Og (vt (zJ U U) (by simp[hi0])) U ?_
    refine E5 0 1 5 6 29 U (ze U (Sr (Om U (Oa U (E1 4 U (zj ?_))))))
    repeat first|refine tr ?_|refine br ?_
    refine zw U U ?_
    refine⟨i,U,⟨fun h=>absurd h hi0,fun h=>?_⟩,(hcx.trans hd).trans c27⟩
    rw[h,hy]at hx
    cases hx
    exact absurd U hxy
   refine za (Om U (Om U (On yA U ?_)))
   refine Og (vt (zy U U) (dt (by omega))) U ?_
   refine Om U (Oj U U (Oj U U (Oy U U (zV yA U) ?_)))
   refine Oy U U (vf (zy U U) (df (by omega))) ?_
   refine Ot U (E4 0 1 5 16 U (zb U ?_))
   refine zH ?_
   repeat first|refine te ?_|refine bo rfl ?_
   refine zq _ ?_
   exact⟨j,_,rfl,htk,.inr (by omega),hcx⟩
  refine za (Om U (Om U (On yA U ?_)))
  refine Og (vf (zy U U) (df (by omega))) U ?_
  refine Om U (Oz U U (Oz U U (Oz U U (Oz U U (Of U (E4 0 1 5 16 U (zb U ?_)))))))
  refine zH ?_
  repeat first|refine te ?_|refine bo rfl ?_
  refine zq _ ?_
  exact⟨j,_,rfl,htk,.inl (by omega),hcx⟩
 rintro F wx⟨j,f16,rfl,htk,hend,hcx⟩
 refine zf (zf ?_)
 by_cases he:l.length=m.length
 ·refine za (Om U (On yA U (Om U (On yA U ?_))))
  refine Og (vt (zv U U) (by simp[he])) U ?_
  refine E3 0 1 35 U (ze U (Sr (Oa U (E1 4 U (zj ?_)))))
  repeat first|refine tr ?_|refine br ?_
  refine zw U U ?_
  exact⟨0,rfl,by simp[zrs htk hend he],hcx⟩
 refine za (Om U (On yA U (Om U (On yA U ?_))))
 refine Og (vf (zv U U) (by simp;omega)) U ?_
 refine E3 0 1 35 U (zb U (zm (Sr (Om U (On yA U (Om U (On yA U (Og (zy U U) U ?_))))))))
 refine Oc zm8 U U U (zr0 _ _) ?_
 rintro v41 w41⟨i,rfl,hi,rfl⟩
 refine Oa U (E1 4 U (zj ?_))
 refine zw U U ?_
 exact⟨i,rfl,⟨fun h=>absurd h hi,fun h=>absurd (by rw[h]) he⟩,hcx⟩
theorem zsl(v u:Va)(l m:List zX)(w:Wl)(hv:yc w v l)(hu:yc w u m)(hl:l.length≤1048576):zT TP 46 #[v,u] w fun r w'=>r=.bool (decide (l=m))∧zk [] w w':=by
 refine A2 Tryz.func46 U U ?_
 refine Sr (Oa U (E2 0 1 U (Sr (Om U (Om U ?_)))))
 refine Oc zCJ U U U (zu8 v u l m w hv hu hl) ?_
 rintro v7 w7⟨i,rfl,hi,c7⟩
 refine Og (zv U U) U (Oa U (E1 4 U (zj ?_)))
 refine zw U U ?_
 refine⟨?_,c7⟩
 congr 1
 rw[decide_eq_decide]
 exact hi
theorem zl8(x:zX):zck x=true↔((0≤x.k∧x.k≤4)∧((x.k≠1∧x.k≠3)→x.i=0)∧(x.k≠2→x.u=0)∧(x.k≠4→x.b=e0)∧(x.k=3→x.i=0∨x.i=1)):=by
 obtain⟨k,i,u,b⟩:=x
 simp only[zck,zhx,zfB,zrj,Bool.and_eq_true,Bool.or_eq_true,decide_eq_true_eq,Bool.not_eq_true',decide_eq_false_iff_not,zX.mk.injEq,true_and]
 constructor
 ·rintro ⟨⟨h0,h1,h2,h3⟩,h4⟩
  refine⟨h0,fun h=>?_,fun h=>?_,fun h=>?_,fun h=>?_⟩
  ·rw[if_neg (by omega)]at h1;exact h1
  ·rw[if_neg h]at h2;exact h2
  ·rw[if_neg h]at h3;exact h3
  omega
 rintro⟨h0,h1,h2,h3,h4⟩
 refine⟨⟨h0,?_,?_,?_⟩,by omega⟩
 ·split
  ·rfl
  exact h1 (by omega)
 ·split
  ·rfl
  exact h2 (by assumption)
 split
 ·rfl
 exact h3 (by assumption)
theorem zlV(x:zX)(w:Wl):zT TP 121 #[x.v] w fun r w'=>r=Ii (zaY x)∧zk [] w w':=by
 refine A1 Tryz.func121 U U ?_
 refine Sr ?_
 refine Ob U U ?_
 intro b1 w1 e1 n1 c1 k1
 refine Oa U (E1 1 U ?_)
 have k1:zO w1 b1 111 x.cs:=k1
 refine Sr (Od zak U (Ol zbI U (k1.cell' (i:=0) U) (Oa U (E2 1 3 U (zf (Sr (Om U (Og (zy U U) U (Om U ?_)))))))))
 apply zeQ (t:=11)
 case h0=>
  intro H
  refine Oz U U (Oz U U (Ot U ?_))
  exact yG [9,10] U H
 case h1=>
  intro hc H
  refine Oj U U (Oy U U (zS U U) (Of U ?_))
  exact yG [9,10] U H
 refine Om U ?_
 apply zeQ (t:=24)
 case h0=>
  intro H
  refine Oz U U (Oz U U (Oz U U (Oh U U (Oh U U (Oz U U (Oz U U (Oh U U (Oh U U (Oh U U (Oz U U (Ot U ?_)))))))))))
  exact yG [13,14,15,16,17,18,19,20,21,22,23] U H
 case h1=>
  intro hc H
  refine Oj U U (Oy U U (zJ U U) (Oj U U ?_))
  apply zcS (t:=18)
  case h0=>
   intro H
   refine Oz U U (Oz U U (Oy U U (zE U U) ?_))
   exact yG [16,17] U H
  case h1=>
   intro hc H
   refine Oj U U (Oy U U (zJ U U) (Oy U U (zD U U) ?_))
   exact yG [16,17] U H
  refine Oj U U ?_
  apply zcS (t:=23)
  case h0=>
   intro H
   refine Oz U U (Oz U U (Oz U U (Oy U U (zE U U) ?_)))
   exact yG [20,21,22] U H
  case h1=>
   intro hc H
   refine Oy U U (zd yv U) (Oy U U (zg ag2 U (k1.cell' (i:=1) U)) (Oy U U (zJ U U) (Oy U U (zD U U) ?_)))
   exact yG [20,21,22] U H
  refine Of U ?_
  exact yG [13,14,15,16,17,18,19,20,21,22,23] U H
 refine Om U ?_
 apply zeQ (t:=33)
 case h0=>
  intro H
  refine Oz U U (Oz U U (Oz U U (Oh U U (Oh U U (Oh U U (Oz U U (Ot U ?_)))))))
  exact yG [26,27,28,29,30,31,32] U H
 case h1=>
  intro hc H
  refine Oj U U (Oy U U (zJ U U) (Oj U U ?_))
  apply zcS (t:=32)
  case h0=>
   intro H
   refine Oz U U (Oz U U (Oz U U (Oy U U (zE U U) ?_)))
   exact yG [29,30,31] U H
  case h1=>
   intro hc H
   refine Oy U U (zd zaN U) (Oy U U (zg zbR U (k1.cell' (i:=2) U)) (Oy U U (zJ U U) (Oy U U (zD U U) ?_)))
   exact yG [29,30,31] U H
  refine Of U ?_
  exact yG [26,27,28,29,30,31,32] U H
 refine Om U ?_
 apply zeQ (t:=42)
 case h0=>
  intro H
  refine Oz U U (Oz U U (Oz U U (Oh U U (Oh U U (Oh U U (Oz U U (Ot U ?_)))))))
  exact yG [35,36,37,38,39,40,41] U H
 case h1=>
  intro hc H
  refine Oj U U (Oy U U (zJ U U) (Oj U U ?_))
  apply zcS (t:=41)
  case h0=>
   intro H
   refine Oz U U (Oz U U (Oz U U (Oy U U (zE U U) ?_)))
   exact yG [38,39,40] U H
  case h1=>
   intro hc H
   refine Oy U U (zd zaB U) (Oy U U (zg yH U (k1.cell' (i:=3) U)) (Oy U U (zdA U U) (Oy U U (zD U U) ?_)))
   exact yG [38,39,40] U H
  refine Of U ?_
  exact yG [35,36,37,38,39,40,41] U H
 refine Om U ?_
 apply zeQ (t:=56)
 case h0=>
  intro H
  refine Oz U U (Oz U U (Oz U U (Oh U U (Oh U U (Oh U U (Oz U U (Oz U U (Oh U U (Oh U U (Oh U U (Oz U U (Ot U ?_))))))))))))
  exact yG [44,45,46,47,48,49,50,51,52,53,54,55] U H
 case h1=>
  intro hc H
  refine Oj U U (Oy U U (zv U U) (Oj U U ?_))
  apply zcS (t:=50)
  case h0=>
   intro H
   refine Oz U U (Oz U U (Oz U U (Oy U U (zE U U) ?_)))
   exact yG [47,48,49] U H
  case h1=>
   intro hc H
   refine Oy U U (zd yv U) (Oy U U (zg ag2 U (k1.cell' (i:=1) U)) (Oy U U (zJ U U) (Oy U U (zD U U) ?_)))
   exact yG [47,48,49] U H
  refine Oj U U ?_
  apply zcS (t:=55)
  case h0=>
   intro H
   refine Oz U U (Oz U U (Oz U U (Oy U U (zE U U) ?_)))
   exact yG [52,53,54] U H
  case h1=>
   intro hc H
   refine Oy U U (zd yv U) (Oy U U (zg ag2 U (k1.cell' (i:=1) U)) (Oy U U (zJ U U) (Oy U U (zD U U) ?_)))
   exact yG [52,53,54] U H
  refine Of U ?_
  exact yG [44,45,46,47,48,49,50,51,52,53,54,55] U H
 refine E2 1 56 U ?_
 refine zP U (fun hT=>?_) (fun hF=>?_)
 ·refine Sr (Oa U (E1 2 U (zj ?_)))
  repeat first|refine tr ?_|refine br ?_
  refine zw U U ?_
  have hff:zck x=false:=by
   cases hf:zck x with
   |false=>rfl
   |true=>
    exfalso
    obtain⟨h0,h1,h2,h3,h4⟩:=(zl8 x).1 hf
    have e:(⟨#[]⟩:By)=e0:=rfl
    simp only[e,Bool.or_eq_true,Bool.and_eq_true,decide_eq_true_eq,Bool.not_eq_true',decide_eq_false_iff_not]at hT
    by_cases hb:x.b=e0
    ·simp only[hb,not_true,and_false,or_false]at hT;omega
    have:x.k=4:=by
     rcases Classical.em (x.k=4) with h|h
     ·exact h
     exact absurd (h3 h) hb
    simp only[hb,not_false_iff,and_true]at hT;omega
  refine⟨?_,c1⟩
  rw[zaY,hff];rfl
 refine zm ?_
 have hff:zck x=true:=by
  rw[zl8]
  have e:(⟨#[]⟩:By)=e0:=rfl
  simp only[e,Bool.or_eq_false_iff,Bool.and_eq_false_iff,decide_eq_false_iff_not,Bool.not_eq_false',decide_eq_true_eq]at hF
  refine⟨by omega,fun h=>by omega,fun h=>by omega,fun h=>?_,fun h=>by omega⟩
  by_cases hb:x.b=e0
  ·exact hb
  simp only[hb,or_false]at hF;omega
 refine zf (zf ?_)
 by_cases hl:200<x.b.size
 ·refine za (Od zaB U (Ol yH U (k1.cell' (i:=3) U) (Og (yI st9 U) U ?_)))
  refine Og (vt (zS U U) (by simp;omega)) U ?_
  refine E1 60 U (ze U (Sr (Oa U (E1 2 U (zj ?_)))))
  repeat first|refine tr ?_|refine br ?_
  refine zw U U ?_
  refine⟨?_,c1⟩
  rw[zaY,hff,if_neg (by simp),if_pos hl]
 refine za (Od zaB U (Ol yH U (k1.cell' (i:=3) U) (Og (yI st9 U) U ?_)))
 refine Og (vf (zS U U) (by simp;omega)) U ?_
 refine E1 60 U (zb U (zm (Sr (Oa U (E1 2 U (zj ?_))))))
 refine zw U U ?_
 refine⟨?_,c1⟩
 rw[zaY,hff,if_neg (by simp),if_neg hl]
end Go.Wk
