/- joined texts -/
import Derived.Test.YtkfpmjjcogigfaaGreatDoorL9
set_option linter.all false
namespace Go.Wk
open Go.Proofs
set_option linter.unusedSectionVars false
variable [Lw]
set_option maxRecDepth 10000
theorem zB.notD{w:Wl}{e k n D:Nat}{v:Va}{xs:LA}{x:Option (List Deferred)}(h:zB w e k v n xs)(hD:w.heap[D]?=some (.deferred x)):∀b∈zu v,b∉[D]:=by
 rcases h with⟨rfl,_,_⟩|⟨b,off,cap,cc,rfl,hs⟩
 ·simp[zu]
 intro y hy hm
 simp[zu]at hy
 simp at hm
 have:=hs.blk
 rw[←hm,hy,show w.heap[b]?=_ from this]at hD
 cases hD
theorem zuG(b1 bm:Nat)(es:List (By×Va))(w:Wl)(h1:zO w b1 80 [.map (some bm)])(hm:yf zbM w bm es)(hn:es.length≤1048576) :
 zS TP 188 #[.slice none 0 0,.func (.func 132) #[] #[Pt b1]] w fun r w'=>∃l:List By,l.Perm (zb7 es)∧zB w' 9 1 r l.length (sv l)∧(∀b∈zu r,w.heap.size≤b)∧zk [] w w':=by
 refine zS.of_WM (args:=[_,_]) Tryz.func188 U U U U ?_
 refine Sr ?_
 refine Ob U U ?_
 intro b2 w2 e2 n2 c2 k2
 refine Oa U (E2 1 2 U ?_)
 have k2:zO w2 b2 105 [.slice none 0 0]:=k2
 have h1lt:=h1.lt
 have hmlt:=hm.lt
 refine zR (fun F wx=>∃(D:Nat) (f6:Va),F=[(1000000,Ii D),(2,Pt b2),(6,f6)]∧w.heap.size≤D∧wx.heap[D]?=some (.deferred (some []))∧∃(l:List By) (u:Va),zO wx b2 105 [u]∧l.Perm (zb7 es)∧zB wx 9 1 u l.length (sv l)∧(∀b∈zu u,w.heap.size≤b)∧zk [] w wx) ?_ ?_
 ·refine Sr (Om U (E2 2 6 U (zp ?_)))
  refine zkv (α:=By) (gf:=132) (lb:=[Pt b1]) (encs:=fun k:By => #[.string k]) (S0:=[b2]) (keep:=fun _=>false) (N:=es.length)
   (fun pre W=>∃u,zO W b2 105 [u]∧zB W 9 1 u pre.length (sv pre)∧(∀b∈zu u,w2.heap.size≤b)∧zk [b2] w2 W∧w2.heap.size≤W.heap.size)
   (fun _ _ _=>False)
   (fun k=>[(7,.string k),(2,Pt b2),(6,.func (.func 132) #[] #[Pt b1])])
   (fun k=>[(2,Pt b2),(5,.string k),(7,.string k)])
   rfl zzL (zBo w2 b1 bm es [b2] _ (h1.chg0 c2) (hm.chg0 c2) ?_ ?_) (fun _=>rfl) (fun _ _ _ _ h=>h) (fun _ _ _ _ h=>h) (fun _ _ _ _ h=>h) ?_ (fun _ _ _ _ _ h=>h.elim) ?_ (fun _ _ h=>h.choose_spec.2.2.2.2) ?_ ?_ ?_ ?_ (fun _ _ _ _ _ _ h=>h.elim)
  ·simp;omega
  ·simp;omega
  ·rintro pre W W' hk ⟨u,h1,h2,h4,h5,h6⟩
   exact⟨u,h1.bk hk,zB.bk h2 hk,h4,h5.bk (Nat.le_refl _) hk,by obtain⟨T,_,hc⟩:=hk;exact Nat.le_trans h6 hc.size⟩
  ·exact⟨_,k2,zB.nil _ _ _,by simp[zu],zk.refl _ _,Nat.le_refl _⟩
  ·intro j a ha
   exact ha.vars1 U U
  ·intro l' j W
   refine yx ?_
   refine yh (gn U) U (St.vl (yg U) U U ?_)
   refine zfA [2,5,7] (F':=[(2,_),(5,_),(7,_)]) U ?_
   exact⟨U,U,U⟩
  ·rintro l' pre k W ⟨u,hb2,hu,hfu,hcW,hsW⟩-hlen
   refine zfO ?_
   have hb2lt:=hb2.lt
   have hbu:b2∉zu u:=fun hm=>by have:=hfu _ hm;omega
   refine yx ?_
   refine yh (gn U) U (St.vl (zg zuc U (hb2.cell' U)) U U ?_)
   refine Xm U ?_
   refine yh (gn U) U (zA zxf U (vs:=[_]) U (css:=[_]) ⟨U,Tt⟩ U U (cs:=[_]) U U ?_)
   intro b10 w10 e10 n10 c10 k10
   refine yh (gn U) U (yr zxf zeL U U (zB.chg0 hu c10) (zB.of_blk (n:=1) k10 U (by simp[maxLen]) (by simp[Value.oneCell'])) (by simp only[maxLen];omega) (by omega) U ?_)
   intro v11 w11 i11 c11 o11 z11
   obtain⟨p11,q11,rfl,_⟩:=id (zB.val i11)
   refine yh (gn U) U (zt zxd U U U U ((hb2.chg0 c10).chg c11 hbu) (by simp) (by simp[Value.oneCell']) ?_)
   intro wA nA cA kA
   refine zfA [2,7] (F':=[(2,_),(7,_)]) U ?_
   have kA:zO wA b2 105 [.slice p11 (pre.length+1) q11]:=kA
   have hu11:=(hb2.chg0 c10).chg c11 hbu
   have hcut:∀y∈zu u,∃e c,zO W y e c:=fun y hy=>by
    rcases hu with⟨rfl,_,_⟩|⟨b,off,cap,cc,rfl,hs⟩
    ·simp[zu]at hy
    simp[zu]at hy;subst hy;exact⟨_,_,hs.blk⟩
   have hall:zk (b2::zu u) W wA:=((c10.any (S:=b2::zu u)).transS (c11.weak (by intro y hy;simp[hy]))).transS (cA.weak (by simp))
   have hs10:=c10.size
   refine⟨KeepsFrom.chg hall ?_,Kr.chg hall (by omega) ?_,_,kA,?_,yt o11 hfu (by omega),?_,by have:=hall.size;omega⟩
   ·intro y hy
    rcases Mc hy with rfl|hy
    ·exact⟨_,_,hb2⟩
    exact hcut y hy
   ·intro y hy
    rcases Mc hy with rfl|hy
    ·exact⟨.inl (by simp),_,_,hb2,rfl⟩
    obtain⟨e,c,hbb⟩:=hcut y hy
    exact⟨.inr (hfu y hy),e,c,hbb,U⟩
   ·have:=zB.chg i11 cA (zB.apart i11 hu11 rfl)
    rw[Sa]
    simpa[sv] using this
   exact hcW.trans' hall (by
    intro y hy
    rcases Mc hy with rfl|hy
    ·simp
    exact .inr (hfu y hy))
  rintro D xs W hD hp⟨u,hb2,hu,hfu,hcW,hsW⟩ hdf
  refine zl ?_
  have hs2:=c2.size
  exact⟨D,_,rfl,by omega,hdf,xs,u,hb2,hp,hu,fun b hb=>by have:=hfu b hb;omega,c2.own hcW (by intro y hy;simp at hy;omega)⟩
 rintro F wx⟨D,f6,rfl,hD,hdf,l,u,hb2,hp,hu,hfu,hcx⟩
 refine Sr (Ol zuc U (hb2.cell' U) (Oa U (yO [4] (F':=[(4,_),(1000000,_)]) U (zj ?_))))
 refine zyR (D:=D) U U U hdf fun w' hcD=>?_
 exact⟨l,hp,zB.chg hu hcD (hu.notD hdf),hfu,hcx.own hcD (by intro y hy;simp at hy;omega)⟩
theorem zrn(b1 bm:Nat)(es:List (By×Va))(w:Wl)(h1:zO w b1 80 [.map (some bm)])(hm:yf zbM w bm es)(hn:es.length≤1048576) :
 zS TP 130 #[.func (.func 132) #[] #[Pt b1]] w fun r w'=>∃l:List By,l.Perm (zb7 es)∧zB w' 9 1 r l.length (sv l)∧(∀b∈zu r,w.heap.size≤b)∧zk [] w w':=by
 refine A1 Tryz.func130 U U ?_
 refine Sr (Oa U (E1 0 U (Sr (Om U ?_))))
 refine Oc zCa U U U (zuG b1 bm es w h1 hm hn) ?_
 rintro v4 w4 hq
 refine Oa U (E1 2 U (zj ?_))
 refine zw U U ?_
 exact hq
theorem zuy(b1 bm:Nat)(es:List (By×Va))(w:Wl)(h1:zO w b1 80 [.map (some bm)])(hm:yf zbM w bm es)(hn:es.length≤12)(hnd:(zb7 es).Nodup) :
 zS TP 85 #[.func (.func 132) #[] #[Pt b1]] w fun r w'=>∃l:List By,l.Perm (zb7 es)∧(l.Pairwise fun a b=>blt a b=true)∧zB w' 9 1 r l.length (sv l)∧(∀b∈zu r,w.heap.size≤b)∧zk [] w w':=by
 refine A1 Tryz.func85 U U ?_
 refine Sr (Oa U (E1 0 U (Sr (Om U ?_))))
 refine Oc zA2 U U U (zrn b1 bm es w h1 hm (by omega)) ?_
 rintro v5 w5⟨l,hp,il,fl',c5⟩
 refine Oa U (E1 3 U ?_)
 have hlen:=hp.length_eq
 have hl2:l.length=es.length:=by rw[hlen];simp[zb7]
 have hln:l.Nodup:=hp.nodup_iff.2 hnd
 rcases id il with⟨rfl,hz,_⟩|⟨b,off,cap,cc,rfl,hs⟩
 ·have hl0:l=[]:=List.length_eq_zero_iff.1 hz
  subst hl0
  refine Sr (Om U ?_)
  refine Oc zrP U U U (zps _ _ _) ?_
  rintro v7 w7 rfl
  refine E1 3 U (Sr (Om U (Oa U (E1 2 U (zj ?_)))))
  refine zw U U ?_
  exact⟨[],hp,List.Pairwise.nil,il,fl',c5⟩
 have e1:cc=cc.take off++(sv l++cc.drop (off+l.length)):=by
  have h1:=hs.xs
  rw[Nat.mul_one]at h1
  rw[h1,show cc.drop (off+l.length)=(cc.drop off).drop l.length by rw[List.drop_drop],List.take_append_drop,List.take_append_drop]
 have e2:(cc.take off).length=off:=by rw[List.length_take];have:=hs.fit;omega
 have hb:zO w5 b 9 (cc.take off++(sv l++cc.drop (off+l.length))):=e1▸hs.blk
 generalize cc.take off=hd at *
 generalize cc.drop (off+l.length)=tail at *
 subst e2
 by_cases hl0:l.length=0
 ·have hl0:l=[]:=List.length_eq_zero_iff.1 hl0
  subst hl0
  refine Sr (Om U ?_)
  refine Oc zrP U U U (zps _ _ _) ?_
  rintro v7 w7 rfl
  refine E1 3 U (Sr (Om U (Oa U (E1 2 U (zj ?_)))))
  refine zw U U ?_
  exact⟨[],hp,List.Pairwise.nil,il,fl',c5⟩
 refine Sr (Om U ?_)
 refine Oc zrP U U U (zy4 b cap l hd tail _ hb (by omega) (by omega)) ?_
 rintro v7 w7⟨l',kb',hp',hs',c7⟩
 refine E1 3 U (Sr (Om U (Oa U (E1 2 U (zj ?_)))))
 refine zw U U ?_
 have hll:=hp'.length_eq
 refine⟨l',hp'.trans hp,hs'.pair (hp'.nodup_iff.2 hln),.inr ⟨b,hd.length,cap,_,by rw[hll],kb',?_,hs.max,?_,?_,?_⟩,fl',?_⟩
 ·rw[hll];exact hs.le
 ·have:=hs.fit
  rw[e1]at this
  simp[sv]at this ⊢
  omega
 ·rw[Nat.mul_one,List.drop_left' rfl,List.take_left' (by simp[sv])]
 ·intro x hx
  have h1:=hs.one
  rw[e1]at h1
  rcases List.mem_append.1 hx with hx|hx
  ·exact h1 x (by simp[hx])
  rcases List.mem_append.1 hx with hx|hx
  ·simp[sv]at hx
   obtain⟨a,_,rfl⟩:=hx
   rfl
  exact h1 x (by simp[hx])
 exact c5.own c7 (by intro y hy;simp at hy;subst hy;exact fl' _ (by simp[zu]))
theorem zsE(bm:Nat)(es:List (By×Va))(w:Wl)(hm:yf zbM w bm es)(hn:es.length≤12)(hnd:(zb7 es).Nodup) :
 zS TP 48 #[.map (some bm)] w fun r w'=>∃l:List By,l.Perm (zb7 es)∧(l.Pairwise fun a b=>blt a b=true)∧zB w' 9 1 r l.length (sv l)∧(∀b∈zu r,w.heap.size≤b)∧zk [] w w':=by
 refine A1 Tryz.func48 U U ?_
 refine Sr (Oa U (E1 0 U (Sr (Om U ?_))))
 refine Oc zDu U U U (zyU bm w) ?_
 rintro v4 w4⟨b1,rfl,hb1,k1,c4⟩
 refine Oc zDT U U U (zuy b1 bm es _ k1 (hm.chg0 c4) hn hnd) ?_
 rintro v5 w5⟨l,hp,hs,il,fl',c5⟩
 refine Oa U (E1 2 U (zj ?_))
 refine zw U U ?_
 have hsz:=c4.size
 exact⟨l,hp,hs,il,fun b hb=>Nat.le_trans hsz (fl' b hb),c4.trans c5⟩
section
variable {t pm:Nat} {c k u sv:Va} {xs:List (Va×Nat)} {s:yK} {main:LE} {subs:List (LE)} {rows:LV}
theorem zue(w:Wl)(h:yZ w t pm c k u sv xs s main subs) :
 zS TP 45 #[Pt t] w fun r w'=>r=.agg #[c,k,u]∧zk [] w w':=by
 refine A1 Tryz.func45 U U ?_
 refine Sr ?_
 refine Oq (zF zAT U U ?_)
 intro b2 w2 e2 n2 c2 k2
 refine E2 0 2 U ?_
 have h1:=h.chg0 c2
 refine zf (Sr (Om U (Og (y8 zky U U) U (E3 0 2 4 U (zb U (zm (Sr (Om U (Og (zx U) U (Od zda U (Og (zh zaX zaS U U h1.scells) U ?_)))))))))))
 refine Oq (zt zaS U U U U k2 (by simp) (by have:=h.sch.one;simpa using this) ?_)
 intro wA nA cA kA
 refine E1 2 U ?_
 have kA:zO wA b2 35 [c,k,u]:=kA
 refine zj ?_
 refine zf0 U zaX zaS U U (zv.of_blk0 kA) ?_
 exact⟨rfl,c2.own cA (by intro y hy;simp at hy;omega)⟩
end
theorem Pg.chgC{w w':Wl}{p b:Nat}{e:TypeId}{x:LA}{ls:LE}(h:Pg w p ls)(hb:zO w b e x)(h1:Nat.beq 178 e=false)(h2:Nat.beq 176 e=false)(h3:Nat.beq 215 e=false)(hc:zk [b] w w'):Pg w' p ls:=
 let ⟨v,g1,g2⟩:=h; ⟨v,g1.chg hc (by have:=g1.ne hb h1;simpa using this),g2.chg1 hb h2 h3 hc⟩
theorem Pg.chgSl{w w':Wl}{p:Nat}{ls:LE}(h:Pg w p ls){o:Va}{e:TypeId}{kk n:Nat}{ys:LA}(hs:zB w e kk o n ys)(h1:Nat.beq 178 e=false)(h2:Nat.beq 176 e=false)(h3:Nat.beq 215 e=false)(hc:zk (zu o) w w'):Pg w' p ls:=by
 rcases hs with⟨rfl,_,_⟩|⟨b,off,cap,cc,rfl,hs⟩
 ·exact h.chg0 hc
 exact h.chgC hs.blk h1 h2 h3 hc
theorem PgL.all{w w':Wl}(hp:∀p ls,Pg w p ls→Pg w' p ls):∀{ps:List Nat} {ms:List (LE)},PgL w ps ms→PgL w' ps ms
 |[],[],_=>trivial
 |_::_,_::_,h=>⟨hp _ _ h.1,PgL.all hp h.2⟩
theorem PgL.lt{w:Wl}:∀{ps:List Nat} {ms:List (LE)},PgL w ps ms→∀p∈ps,p<w.heap.size
 |[],[],_,p,hp=>by cases hp
 |_::_,_::_,h,p,hp=>by
  rcases Mc hp with rfl|hp
  ·exact h.1.lt
  exact h.2.lt p hp
structure zdc(w0 wx:Wl)(tb pm:Nat)(c k u o:Va)(ys:List (Va×Nat))(main:LE)(subs:List (LE)):Prop where
 blk:zO wx tb 123 [Pt pm,c,k,u,o]
 pg:Pg wx pm main
 sl:yl wx 126 2 scs o ys
 pgs:PgL wx (ys.map (·.2)) subs
 nd:(pm::ys.map (·.2)).Nodup
 fr:∀p∈pm::ys.map (·.2),w0.heap.size≤p
 fo:∀b∈zu o,w0.heap.size≤b
 ft:w0.heap.size≤tb
theorem zdc.chg0{w0 w w':Wl}{tb pm:Nat}{c k u o:Va}{ys:List (Va×Nat)}{main:LE}{subs:List (LE)}(h:zdc w0 w tb pm c k u o ys main subs)(hc:zk [] w w'):zdc w0 w' tb pm c k u o ys main subs:=
 ⟨h.blk.chg0 hc,h.pg.chg0 hc,yl.chg0 h.sl hc,h.pgs.chg0 hc,h.nd,h.fr,h.fo,h.ft⟩
theorem zdc.more{w0 w w1 w2:Wl}{tb pm:Nat}{c k u o o':Va}{ys:List (Va×Nat)}{main m:LE}{subs:List (LE)}(h:zdc w0 w tb pm c k u o ys main subs){a:Va}{q:Nat}(hq:Pg w q m)(hqn:q∉pm::ys.map (·.2))(hqf:w0.heap.size≤q)
 (hc:zk (zu o) w w1) (ho:zB w1 126 2 o' (ys.length+1) (fl scs ys++scs (a,q))) (hfo:∀b∈zu o',w0.heap.size≤b) (hc2:zk [tb] w1 w2) (hb:zO w2 tb 123 [Pt pm,c,k,u,o']) :
 zdc w0 w2 tb pm c k u o' (ys++[(a,q)]) main (subs++[m]):=by
 have htb:zO w1 tb 123 [Pt pm,c,k,u,o]:=h.blk.chg hc (fun hm=>zB.apart h.sl h.blk rfl tb hm (by simp))
 have hP:∀p ls,Pg w p ls→Pg w2 p ls:=fun p ls hp=>(hp.chgSl h.sl rfl rfl rfl hc).chgC htb rfl rfl rfl hc2
 refine⟨hb,hP _ _ h.pg,?_,?_,?_,?_,hfo,h.ft⟩
 ·refine zN.push (n:=ys.length+1) ?_ U U
  exact zB.chg ho hc2 (zB.apart ho htb U)
 ·rw[List.map_append]
  exact PgL.snoc (hP _ _ hq) (PgL.all hP h.pgs)
 ·rw[List.map_append]
  show ((pm::ys.map (·.2))++[q]).Nodup
  rw[List.nodup_append]
  refine⟨h.nd,by simp,fun x hx y hy=>?_⟩
  simp at hy
  subst hy
  exact fun e=>hqn (e▸hx)
 intro p hp
 rw[List.map_append]at hp
 rcases Mc hp with rfl|hp
 ·exact h.fr _ (by simp)
 rcases List.mem_append.1 hp with hp|hp
 ·exact h.fr p (List.mem_cons_of_mem _ hp)
 simp at hp;subst hp;exact hqf
theorem zuO(w:Wl):zS TP 32 #[.pointer none] w fun r w'=>r=.pointer none∧w'=w:=by
 refine A1 Tryz.func32 U U ?_
 refine Sr (Oa U (E1 0 U (zf (Sr (Om U (Og (y8 zky U U) U (E2 0 7 U (ze U (Sr (Oa U (E1 2 U (zj ?_))))))))))))
 repeat first|refine tr ?_|refine br ?_
 refine zw U U ?_
 exact⟨U,U⟩
set_option maxHeartbeats 1000000 in
theorem zvJ(t:Nat)(own:List Nat)(s:yK)(rows:LV)(w:Wl)(h:zab w t own s rows) :
 zS TP 32 #[Pt t] w fun r w'=>∃t' own',r=Pt t'∧zab w' t' own' s rows∧w.heap.size≤t'∧(∀p∈own',w.heap.size≤p)∧zk [] w w' ∧
  ∀pm c k u sv,zO w t 123 [Pt pm,c,k,u,sv]→∃pm' sv',zO w' t' 123 [Pt pm',c,k,u,sv']:=by
 have hT:=h
 obtain⟨pm,c,k,u,sv,xs,main,subs,rfl,hm,ht⟩:=h
 obtain⟨l1,l2⟩:=hm.lens
 obtain⟨psv,csv,rfl,hcsv⟩:=yl.val hm.sl
 have hn3:=(zZ ht.ok.right).2.1
 have hn4:(zW s).length≤4:=by simp[zW];omega
 refine A1 Tryz.func32 U U ?_
 refine Sr (Oa U (E1 0 U (zf (Sr (Om U (Og (y8 zky U U) U (E2 0 7 U (zb U (zm (zf ?_))))))))))
 have hd:zk [] w w.drew:=zk.drew [] _
 refine zH (fun wz=>zk [] w wz) mix (by kernel_rfl) hd ?_
 refine Tm U (Tp (fun _=>zx U) U (Td zeQ U (Tr (fun wz hz=>zg zfV U ((hm.blk.chg0 hz).cell' U)) U ?_)))
 refine Tc zAm U U U (f19 pm main _ (hm.pg.chg0 hd) (by have:=ht.le;omega)) ?_
 rintro v12 w12⟨q,rfl,hqf,hq,c12⟩
 refine⟨.inl (hd.trans c12),?_⟩
 refine Tm U (Tp (fun _=>zx U) U (Td zda U (Tr (fun wz hz=>zh zaX zaS U U (hm.chg0 hz).scells) U ?_)))
 refine Tp (fun _=>zL ztm ztS U (vs:=[_,_]) U (css:=[_,_]) ⟨U,U,Tt⟩ U U (cs:=[_,_,_,_,_]) U) U ?_
 refine zaR U (gn U) (zkh U U U ?_)
 intro b18 w18 e18 n18 c18 k18
 refine⟨.inl ((hd.trans c12).trans c18),?_⟩
 refine Ta U (D2 0 3 U ?_)
 have k18:zO w18 b18 123 [Pt q,c,k,u,.slice none 0 0]:=k18
 have hcA:=(hd.trans c12).trans c18
 have hsd:=hd.size
 have hs12:=c12.size
 have hpre:zdc w w18 b18 q c k u (.slice none 0 0) [] main []:=⟨k18,hq.chg0 c18,zB.nil _ _ _,Tt,by simp,by simp;omega,by simp[zu],by omega⟩
 have hm1:=hm.chg0 hcA
 refine zf (Sr (Om U (Og (zx U) U (Od zdS U (Ol ziT U (hm1.blk.cell' U) (On zfv U (Om U (E4 3 22 23 24 U (zp ?_)))))))))
 refine zQ [3,22,23,24] (fun m F wx=>∃(j:Nat) (o:Va) (ys:List (Va×Nat)),m=xs.length-j∧j≤xs.length∧F=[(3,Pt b18),(22,.slice psv xs.length csv),(23,Ii xs.length),(24,Ii j)]∧zdc w wx b18 q c k u o ys main (subs.take j)∧ys.map (·.1)=(xs.take j).map (·.1)∧zk [] w wx) (m:=xs.length-0) ⟨0,_,[],rfl,Zl _,rfl,hpre,by simp,hcA⟩ ?_
 rintro m F wx⟨j,o,ys,rfl,hj,rfl,hp,hys,hcx⟩
 have hx:=hm.chg0 hcx
 refine Sr (Og (zz U U) U (E5 3 22 23 24 25 U (zf ?_)))
 refine zP U (fun hT'=>?_) (fun hF=>?_)
 ·refine zm ?_
  have hlt:j<xs.length:=by have:=of_decide_eq_true hT';omega
  obtain⟨a,p,st,m,b,off,cap,e1,e2,e3,ha,hpg,hsv,hcell,hqm⟩:=hx.at (j:=j) (by omega)
  cases hsv
  have hst:st∈zW s:=Mg e2
  have hsub:=zbB.st ht.subs e2 e3
  obtain⟨pa,ca,rfl,_⟩:=id (zN.val ha)
  have hyl:ys.length=j:=by have:=congrArg List.length hys;simpa[Nat.min_eq_left hj] using this
  refine zf (zp (Sr ?_))
  refine Og (zi zfv zc1 U U _ U hlt) U ?_
  refine Og (zh zhA zc1 U U hcell) U ?_
  refine Oq (zF zjq U U ?_)
  intro b5 w5 e5 n5 c5 k5
  refine Oq (zt zc1 U U U U k5 (by simp) (by intro u hu;simp at hu;rcases hu with rfl|rfl;exact zN.one1 ha;rfl) ?_)
  intro wA nA cA kA
  refine E5 3 5 22 23 24 U ?_
  have kA:zO wA b5 126 [.slice pa st.length ca,Pt p]:=kA
  have hcB:zk [] wx wA:=c5.own cA (by intro y hy;simp at hy;omega)
  have hpA:=hp.chg0 hcB
  have hdA:zk [] wA wA.drew:=zk.drew [] _
  have hbo:b18∉zu o:=fun hm=>zB.apart hpA.sl hpA.blk rfl b18 hm (by simp)
  refine zH (fun wz=>zk [] wA wz) mix (by kernel_rfl) hdA ?_
  refine Tm U (Tm U (Tp (fun _=>zx U) U (Td zdS U (Tr (fun wz hz=>zg ziT U ((hpA.blk.chg0 hz).cell' U)) U (Td zpY U (Tr (fun wz hz=>zg zci U ((kA.chg0 hz).cell' U)) U (Td zjg U (Tr (fun wz hz=>zg zfV U ((kA.chg0 hz).cell' U)) U ?_))))))))
  refine Tc zAm U U U (f19 p m _ ((hpg.chg0 hcB).chg0 hdA) (by have:=hsub.le ht.ok;omega)) ?_
  rintro v37 w37⟨q',rfl,hqf',hq',c37⟩
  refine⟨.inl (hdA.trans c37),?_⟩
  refine Tp (fun _=>zL zxE zjq U (vs:=[_,_]) U (css:=[_,_]) ⟨U,U,Tt⟩ U U (cs:=[_,_]) U) U ?_
  refine zaR U (gn U) (zA zql U (vs:=[_]) U (css:=[_]) ⟨U,Tt⟩ U U (cs:=[_,_]) U U ?_)
  intro b39 w39 e39 n39 c39 k39
  refine⟨.inl ((hdA.trans c37).trans c39),?_⟩
  refine zaR U (gn U) (yr zql zfv U U (yl.chg0 hpA.sl ((hdA.trans c37).trans c39)) (zB.of_blk (n:=1) (c:=scs (.slice pa st.length ca,q')) k39 U (by simp[maxLen]) (by intro u hu;simp[scs]at hu;rcases hu with rfl|rfl;exact zN.one1 ha;rfl)) (by simp only[maxLen];omega) (by omega) U ?_)
  intro v40 w40 i40 c40 o40 z40
  obtain⟨p40,q40,rfl,_⟩:=id (zB.val i40)
  refine⟨.inr (by kernel_rfl),?_⟩
  refine Tp (fun _=>zx U) U (Td zdS U ?_)
  refine zaR U (gn U) (zt zxo U U U U ((hpA.blk.chg0 ((hdA.trans c37).trans c39)).chg c40 hbo) (by simp) (by intro u hu;simp at hu;subst hu;rfl) ?_)
  intro wB nB cB kB
  refine⟨.inr (by kernel_rfl),?_⟩
  refine zdI [3,22,23,24] (F':=[(3,_),(22,_),(23,_),(24,_)]) U ?_
  have kB:zO wB b18 123 [Pt q,c,k,u,.slice p40 (ys.length+1) q40]:=kB
  refine zl ?_
  have hc39:zk [] wA w39:=(hdA.trans c37).trans c39
  have hsx:=hcx.size
  have hsB:=hcB.size
  have hsd2:=hdA.size
  have hs37:=c37.size
  have hs39:=c39.size
  have hmore:=(hpA.chg0 hc39).more (a:=.slice pa st.length ca) (hq'.chg0 c39) (fun hm=>by
   rcases Mc hm with rfl|hm
   ·have:=hp.pg.lt;omega
   have:=hp.pgs.lt q' hm;omega) (by omega) c40 i40 (yt o40 hp.fo (by omega)) cB kB
  refine za ?_
  refine Og (zG U U (by omega)) U ?_
  refine Om U (N4 3 22 23 24 U ?_)
  refine⟨xs.length-(j+1),by omega,j+1,_,_,rfl,by omega,rfl,by rw[yq e3];exact hmore,?_,?_⟩
  ·rw[List.map_append,hys,yq e1,List.map_append]
   rfl
  have h1:zk (zu o++[b18]) wx wB:=(((hcB.any (S:=zu o++[b18])).transS (hc39.any)).transS (c40.weak (fun y hy=>by simp[hy]))).transS (cB.weak (by simp))
  exact hcx.own h1 (fun y hy=>by
   rcases List.mem_append.1 hy with hy|hy
   ·exact hp.fo y hy
   simp at hy;subst hy;exact hp.ft)
 refine zI ?_
 repeat first|refine te ?_|refine bo rfl ?_
 refine zq _ ?_
 have he:xs.length≤j:=by have:=of_decide_eq_false hF;omega
 rw[Tl (by omega)]at hp hys
 refine Sr (Om U (Oa U (E1 2 U (zj ?_))))
 refine zw U U ?_
 have hge:Lw.n≤w.heap.size:=Nat.le_trans (hm.ge _ (List.mem_cons_self ..)) (Nat.le_of_lt hm.pg.lt)
 have hM:yZ wx b18 q c k u o ys s main subs:=⟨hp.blk,hx.sch,hp.pg,hp.sl,hys▸hx.ats,hp.pgs,hp.nd,fun p hp2=>Nat.le_trans hge (hp.fr p hp2)⟩
 exact⟨b18,q::ys.map (·.2),rfl,⟨q,c,k,u,o,ys,main,subs,rfl,hM,ht⟩,hp.ft,hp.fr,hcx,fun pm0 c0 k0 u0 sv0 hb=>by
  have hq:=Option.some.inj ((show w.heap[t]?=_ from hb).symm.trans hm.blk)
  cases hq
  exact⟨q,o,hp.blk⟩⟩
theorem zoy(t:Nat)(own:List Nat)(s:yK)(rows:LV)(w:Wl)(h:zab w t own s rows) :
 zS TP 32 #[Pt t] w fun r w'=>∃t' own',r=Pt t'∧zab w' t' own' s rows∧w.heap.size≤t'∧(∀p∈own',w.heap.size≤p)∧zk [] w w':=
 Calls.mono (zvJ t own s rows w h) fun _ _ ⟨r,he,t',own',h1,h2,h3,h4,h5,_⟩=>⟨r,he,t',own',h1,h2,h3,h4,h5⟩
theorem zyh(n:Nat)(w:Wl)(hn:n≤4294967296):zS TP 309 #[.slice none 0 0,Ii n] w fun r w'=>zB w' 32 1 r 0 []∧(∀b∈zu r,w.heap.size≤b)∧zk [] w w':=by
 refine A2 Tryz.func309 U U ?_
 refine Sr (Oa U (E2 0 1 U (zf (Sr (Om U (Og (zz U U) U (E3 0 1 6 U ?_)))))))
 refine zP U (fun hT=>?_) (fun hF=>?_)
 ·exfalso
  have:=of_decide_eq_true hT
  omega
 refine zm (zf (Sr (Om U (Om U (Og (zgX zbd U) U (Om U (On zbd U ?_)))))))
 refine Og (yM U U (by omega)) U ?_
 refine Og (yv (v':=Ii n) (yM U U (by omega)) (by congr 1<;>omega)) U ?_
 refine Oa U (E2 0 1 U (Sr (Om U (Og (zU U U) U (E3 0 1 16 U ?_)))))
 refine zP U (fun hT=>?_) (fun hF=>?_)
 ·have hpos:0<n:=by have:=of_decide_eq_true hT;omega
  refine za (Om U (Om U (Og (zgX zbd U) U ?_)))
  refine Og (zbq zbd zg6 U U _ U (by omega)) U ?_
  refine Om U ?_
  refine Oq (zdO ztw zaB U U U (zB.nil _ _ _) (fun p c he=>by simp[cut]at he;omega) (by simp only[maxLen];omega) (by omega) U ?_)
  intro b cap zs w22 hb c22 hge hle hzl hone k22
  refine Om U (On zbd U ?_)
  refine Og (zbq zbd zg6 U U 0 U (by omega)) U ?_
  refine Oa U (E1 0 U (Sr (Om U (Oa U (E1 4 U (zj ?_))))))
  refine zw U U ?_
  have hsl:zeZ w22 32 1 b 0 (0+n) cap ([]++zs) (((([]++zs):LA).drop 0).take ((0+n)*1)):=⟨k22,hge,hle,by simp only[List.nil_append];omega,rfl,hone⟩
  have hc:=hsl.cut (l:=0) (h:=0) (m:=cap) (Nat.le_refl _) (Zl _) (Nat.le_refl _)
  refine⟨by simpa using hc,fun x hx=>?_,c22⟩
  have:=zB.cutBlk (len:=0) (cap:=0) x hx
  simp[zu]at this
  omega
 refine zm (Sr (Om U (Oa U (E1 4 U (zj ?_)))))
 refine zw U U ?_
 exact⟨zB.nil _ _ _,by simp[zu],zk.refl _ _⟩
def HL(w:Wl)(vs:LA)(lss:List (LA)):Prop:=vs.length=lss.length∧∀(i:Nat) (x:Va) (ls:LA),vs[i]?=some x→lss[i]?=some ls→Rd w 1 x ls.length ls
theorem zsb(v:Va)(vs:LA)(lss:List (LA))(w:Wl)(hv:zB w 33 1 v lss.length vs)(hl:HL w vs lss)(hn:lss.flatten.length≤1048576)(hn2:lss.length≤1048576) :
 zS TP 225 #[v] w fun r w'=>zB w' 32 1 r lss.flatten.length lss.flatten∧(∀b∈zu r,w.heap.size≤b)∧zk [] w w':=by
 obtain⟨pv,cv,rfl,hcv⟩:=id (zB.val hv)
 have hfl:∀j,(lss.take j).flatten.length≤lss.flatten.length:=fun j=>by
  have:=congrArg (fun l=>(List.flatten l).length) (List.take_append_drop j lss)
  simp only[List.flatten_append,Sa]at this
  omega
 refine A1 Tryz.func225 U U ?_
 refine Sr (Oa U (E1 0 U (Sr (Oa U (E2 0 3 U (zf (Sr (Om U (On zmM U (Om U (E5 0 3 9 10 11 U (zp ?_))))))))))))
 refine zQ [0,3,9,10,11] (fun m F wx=>∃(j:Nat),m=lss.length-j∧j≤lss.length∧F=[(0,.slice pv lss.length cv),(3,Ii (lss.take j).flatten.length),(9,.slice pv lss.length cv),(10,Ii lss.length),(11,Ii j)]∧wx=w) (m:=lss.length-0) ⟨0,U,Zl _,U,U⟩ ?_
 rintro m F wx⟨j,rfl,hj,rfl,rfl⟩
 refine Sr (Og (zz U U) U (E6 0 3 9 10 11 12 U (zf ?_)))
 refine zP U (fun hT=>?_) (fun hF=>?_)
 ·refine zm ?_
  have hlt:j<lss.length:=by have:=of_decide_eq_true hT;omega
  have hx:lss[j]?=some lss[j]:=by simp[hlt]
  generalize lss[j]=ls at hx
  obtain⟨b,off,cap,x,hve,hxe,hcell⟩:=hv.at1 hlt
  cases hve
  have hls:=hl.2 j x ls hxe hx
  obtain⟨pl,cl,rfl,_⟩:=hls.val
  have hsum:(lss.take (j+1)).flatten.length=(lss.take j).flatten.length+ls.length:=by rw[yq hx];simp
  have hb:=hfl (j+1)
  refine zf (zp (Sr ?_))
  refine Og (zi zmM zy6 U U _ U hlt) U ?_
  refine Ol zcL U hcell (Oa U (E6 0 3 5 9 10 11 U (Sr (Om U (Om U (On zbd U ?_))))))
  refine Og (yv (v':=Ii (((lss.take j).flatten.length+ls.length:Nat):Int)) (zG U U (by omega)) (by congr 1)) U ?_
  refine Oa U (E5 0 3 9 10 11 U (Sr (Om U ?_)))
  refine Og (vf (zz U U) (df (by omega))) U ?_
  refine E6 0 3 9 10 11 20 U (zb U (zT (zl (za ?_))))
  refine Og (zG U U (by omega)) U ?_
  refine Om U (N5 0 3 9 10 11 U ?_)
  exact⟨lss.length-(j+1),by omega,j+1,rfl,by omega,by rw[hsum];rfl,rfl⟩
 refine zI ?_
 repeat first|refine te ?_|refine bo rfl ?_
 refine zq _ ?_
 have he:j=lss.length:=by have:=of_decide_eq_false hF;omega
 subst he
 rw[List.take_length]
 refine Sr (Om U ?_)
 refine Oc zAt U U U (zyh _ _ (by omega)) ?_
 rintro v24 w24⟨i24,f24',c24⟩
 refine Oa U (E2 0 6 U (zf (Sr (Om U (On zmM U (Om U (E4 6 25 26 27 U (zp ?_))))))))
 refine zQ [6,25,26,27] (fun m F wy=>∃(j:Nat) (o:Va),m=lss.length-j∧j≤lss.length∧F=[(6,o),(25,.slice pv lss.length cv),(26,Ii lss.length),(27,Ii j)]∧zB wy 32 1 o (lss.take j).flatten.length (lss.take j).flatten∧(∀b∈zu o,wx.heap.size≤b)∧zk [] wx wy) (m:=lss.length-0) ⟨0,_,U,Zl _,U,i24,f24',c24⟩ ?_
 rintro m F wy⟨j,o,rfl,hj,rfl,ho,hfo,hcy⟩
 refine Sr (Og (zz U U) U (E5 6 25 26 27 28 U (zf ?_)))
 refine zP U (fun hT=>?_) (fun hF=>?_)
 ·refine zm ?_
  have hlt:j<lss.length:=by have:=of_decide_eq_true hT;omega
  have hx:lss[j]?=some lss[j]:=by simp[hlt]
  generalize lss[j]=ls at hx
  obtain⟨b,off,cap,x,hve,hxe,hcell⟩:=(zB.chg0 hv hcy).at1 hlt
  cases hve
  have hls:=hl.2 j x ls hxe hx
  have hsum:(lss.take (j+1)).flatten=(lss.take j).flatten++ls:=by rw[yq hx];simp
  have hb:=hfl (j+1)
  rw[hsum,Sa]at hb
  have hl1:=hls.chg0 hcy
  refine zf (zp (Sr ?_))
  refine Og (zi zmM zy6 U U _ U hlt) U ?_
  refine Ol zcL U hcell (Oa U (E5 6 8 25 26 27 U (za (Om U (Om U ?_)))))
  refine Oq (zcA ztw zbd U U ho hl1 (by simp only[maxLen];omega) (by omega) U ?_)
  intro v33 w33 i33 c33 o33 z33
  refine Oa U (N4 6 25 26 27 U (zl (za ?_)))
  refine Og (zG U U (by omega)) U ?_
  refine Om U (N4 6 25 26 27 U ?_)
  have hsy:=hcy.size
  refine⟨lss.length-(j+1),by omega,j+1,v33,rfl,by omega,rfl,?_,yt o33 hfo (by omega),hcy.own c33 hfo⟩
  rw[hsum,Sa];exact i33
 refine zI ?_
 repeat first|refine te ?_|refine bo rfl ?_
 refine zq _ ?_
 have he:lss.length≤j:=by have:=of_decide_eq_false hF;omega
 rw[Tl he]at ho
 refine Sr (Om U (Oa U (E1 2 U (zj ?_))))
 refine zw U U ?_
 exact⟨ho,hfo,hcy⟩
theorem Kr.chg0{S:List Nat}{keep:TypeId→Bool}{B:Nat}{W W':Wl}(hc:zk [] W W')(hB:B≤W.heap.size):Kr S keep B W W':=Kr.chg hc hB (by simp)
section
variable {S:List Nat} {keep:TypeId→Bool} {B:Nat} {W W':Wl}
theorem zO.kr{b:Nat}{e:TypeId}{c:LA}(h:zO W b e c)(hk:Kr S keep B W W')(he:keep e=true):zO W' b e c:=hk.cells b _ _ _ h he
theorem zB.kr{e k n:Nat}{v:Va}{xs:LA}(h:zB W e k v n xs)(hk:Kr S keep B W W')(he:keep e=true):zB W' e k v n xs:=by
 rcases h with h|⟨b,off,cap,c,rfl,hs⟩
 ·exact .inl h
 exact .inr ⟨b,off,cap,c,U,⟨hs.blk.kr hk he,hs.le,hs.max,hs.fit,hs.xs,hs.one⟩⟩
end
theorem HL.two{w:Wl}{b n:Nat}{v u:Va}{vu:LA}(h:zO w b 32 [v])(hv:v.oneCell'=true)(hu:Rd w 1 u n vu):HL w [.slice (some ⟨b,0,none⟩) 1 1,u] [[v],vu]:=by
 refine⟨U,fun i x ls' h1 h2=>?_⟩
 match i with
 |0=>
  simp at h1 h2
  subst h1 h2
  exact(zB.of_blk (n:=1) h U (by simp[maxLen]) (by intro y hy;simp at hy;subst hy;exact hv)).toRd
 |1=>
  simp at h1 h2
  subst h1 h2
  have:=hu.len_xs
  rw[Nat.mul_one]at this
  rw[this];exact hu
 |_+2=>simp at h1
theorem zzx(c k u:Va)(w:Wl):zS TP 178 #[.agg #[c,k,u]] w fun r w'=>∃b1,r=.func (.func 224) #[] #[Pt b1]∧w.heap.size≤b1∧zO w' b1 35 [c,k,u]∧zk [] w w':=by
 refine A1 Tryz.func178 U U ?_
 refine Sr ?_
 refine Ob U U ?_
 intro b1 w1 e1 n1 c1 k1
 refine Oa U (E1 1 U (Sr (Og (zau U U) U (Oa U (E1 2 U (zj ?_))))))
 refine zw U U ?_
 exact⟨b1,rfl,by omega,k1,c1⟩
theorem zoX(w0 w:Wl)(h0w:zk [] w0 w)(b1:Nat)(c k u:Va)(s:yK)(S0:List Nat)(keep:TypeId→Bool)(h1:zO w b1 35 [c,k,u])(hs:zai w0 c k u s)(hS0:∀b∈S0,w0.heap.size≤b)(hr:yJ s=true)
 (kI:keep 3=true) (kII:keep 32=true) :
 zrM TP 224 #[Pt b1] (fun x:Nat×Va => #[Ii x.1,x.2]) S0 keep (fun x W=>∃st,(zW s)[x.1]?=some st∧yl W 3 1 ics x.2 st∧∀b∈zu x.2,w.heap.size≤b) (fun xs _=>xs.map (·.1)=List.range (zW s).length) (fun _ _=>True) (zW s).length w:=by
 intro l J Jx W hcw hJ hJx hY h0
 have hab:∀{pre:List (Nat×Va)} {W1 W2:Wl},zk [] W1 W2→J pre W1→J pre W2:=fun hc hj=>hJ _ _ _ none hj hc.grown0 (fun _ e=>by cases e)
 have hn3:=(zZ hr).2.1
 have hsl:(zW s).length≤4:=by simp[zW];omega
 refine CallsIn.mono (R:=fun e W'=>∃r,e=.returned r∧(fun(_:Va) W'=>(∃xs:List (Nat×Va),xs.map (·.1)=List.range (zW s).length∧J xs W')∨(∃pre,True∧Jx pre W')) r W') ?_ (fun e W' ⟨u,he,h⟩=>⟨⟨u,he⟩,h⟩)
 refine CallsIn.of_WX (args:=[_,_]) Tryz.func224 U U U U (zhH ?_)
 have h1W:=h1.chg0 hcw
 refine zht ?_
 refine zf (Sr (Og (zh zaX zaS U U (zv.of_blk0 h1W)) U ?_))
 refine Oc zlb U U U (zgB c k u s _ ((hs.chg0 h0w).chg0 hcw) (zcB hr)) ?_
 rintro v6 w6⟨h6,c6⟩
 rw[hr]at h6
 change v6=Ii 0 at h6
 subst h6
 refine Og (vf (zJ U U) (zcp (by omega))) U ?_
 refine E3 0 1 7 U (zb U (zm (zf ?_)))
 refine zjc ?_
 refine zf ?_
 have h1x:=h1W.chg0 c6
 have hs6:=((hs.chg0 h0w).chg0 hcw).chg0 c6
 obtain⟨vu,ou,lu⟩:=id hs.uq
 have hvu:vu.length=s.uq.length:=by have:=ou.1.len_xs;simpa using this
 obtain⟨pk,ck,rfl,_⟩:=id (zN.val hs.key)
 have hflat:List.flatten (List.cons (List.cons (Value.slice pk s.key.length ck) []) (List.cons vu []))=Value.slice pk s.key.length ck::vu:=by simp
 have hlen:(Value.slice pk s.key.length ck::vu).length=(zW s).length:=by simp[zW,hvu]
 obtain⟨pu,cu,rfl,_⟩:=id (zbT.val hs.uq)
 refine za (Od zbp U (Ol zci U (h1x.cell' U) ?_))
 refine Oq (zA ztw U (vs:=[_]) U (css:=[_]) ⟨U,Tt⟩ U U (cs:=[_]) U U ?_)
 intro b10 w10 e10 n10 c10 k10
 refine Od zay U (Ol zcL U ((h1x.chg0 c10).cell' U) ?_)
 refine Oq (zA zz8 U (vs:=[_,_]) U (css:=[_,_]) ⟨U,U,Tt⟩ U U (cs:=[_,_]) U U ?_)
 intro b13 w13 e13 n13 c13 k13
 refine Oc zBB U U U (zsb _ [.slice (some ⟨b10,0,none⟩) 1 1,.slice pu s.uq.length cu] [ [.slice pk s.key.length ck],vu] _ (zB.of_blk (n:=2) k13 U (by simp[maxLen]) (by intro y hy;simp at hy;rcases hy with rfl|rfl<;>rfl)) (HL.two (n:=s.uq.length) (k10.chg0 c13) U (Rd.chg0 (Rd.chg0 (Rd.chg0 (Rd.chg0 (Rd.chg0 ou.1 h0w) hcw) c6) c10) c13)) (by rw[hflat,hlen];omega) (by simp)) ?_
 rintro v14 w14⟨i14,f14',c14⟩
 rw[hflat,hlen]at i14
 obtain⟨p14,q14,rfl,-⟩:=id (zB.val i14)
 refine On zbd U (Om U (E4 0 14 15 16 U ?_))
 have hsW:=hcw.size
 have hc14:zk [] W w14:=((c6.trans c10).trans c13).trans c14
 have hs14:=hc14.size
 refine zp ?_
 refine zQ [0,14,15,16] (fun m F wx=>∃(j:Nat) (pre:List (Nat×Va)),m=(zW s).length-j∧j≤(zW s).length∧F=[(0,.func (.yield l) #[] #[]),(14,.slice p14 (zW s).length q14),(15,Ii (zW s).length),(16,Ii j)]∧Kr S0 keep w.heap.size w14 wx∧pre.map (·.1)=List.range j∧J pre wx) (m:=(zW s).length-0) ⟨0,[],U,Zl _,U,Kr.refl _ _ _ _,U,hab hc14 h0⟩ ?_
 rintro m F wx⟨j,pre,rfl,hj,rfl,hkx,hpre,hJ0⟩
 have hpl:pre.length=j:=by have:=congrArg List.length hpre;simpa using this
 refine Sr (Og (zz U U) U (E5 0 14 15 16 17 U (zf ?_)))
 refine zP U (fun hT=>?_) (fun hF=>?_)
 ·refine zm ?_
  have hlt:j<(zW s).length:=by have:=of_decide_eq_true hT;omega
  have hst:(zW s)[j]?=some (zW s)[j]:=by simp[hlt]
  generalize (zW s)[j]=st at hst
  have hstm:st∈zW s:=Mg hst
  have hst4:=(zbl (zdN hr st hstm)).1
  have hlow:Low w0 wx:=fun b hb=>by
   have hb2:b<w.heap.size:=Nat.lt_of_lt_of_le hb h0w.size
   rw[hkx.low b hb2 (fun hm=>by have:=hS0 b hm;omega)]
   exact((h0w.trans hcw).trans hc14).block b hb (by simp)
  have ix:zcm wx (.slice p14 (zW s).length q14) (zW s):=⟨_,(i14.kr hkx kII).toOu,zN.low hs.key hlow,lu.low hlow⟩
  obtain⟨b,off,cap,x,hv,hcell,hx⟩:=zbT.at ix hst
  cases hv
  refine zf (zp (Sr (Om U ?_)))
  refine Og (zi zbd zg6 U U _ U hlt) U ?_
  refine Ol zci U hcell (Oa U (Oa U (E6 0 3 4 14 15 16 U (zf ?_))))
  have hsx:=hkx.size
  refine zfa ?_
  refine Xm U (Xm U (Xm U ?_))
  refine yh (gn U) U (yX zzD U U U U (zv6 x st _ hx (by omega)) ?_)
  rintro v24 w24⟨i24,f24',c24⟩
  refine zgA (gn U) U U U (hY pre (j,v24) w24 (hab c24 hJ0) ⟨st,hst,i24,fun b hb=>by have:=f24' b hb;omega⟩ (by omega)) ?_
  rintro v25 w25 hR25
  obtain⟨b25,rfl,hb25⟩:=yb hR25
  refine⟨_,U,?_⟩
  refine yh (gn U) U (St.vl (zC U) U U ?_)
  refine zcf [0,14,15,16,26] (F':=[(0,_),(14,_),(15,_),(16,_),(26,_)]) U ?_
  rcases hb25 with⟨rfl,hJ25,hk25⟩|⟨rfl,hJ25⟩
  ·refine zb U (zT (zl (za ?_)))
   refine Og (zG U U (by omega)) U ?_
   refine Om U (N4 0 14 15 16 U ?_)
   refine⟨(zW s).length-(j+1),by omega,j+1,pre++[(j,v24)],rfl,by omega,rfl,(hkx.trans (Kr.chg0 c24 (by omega))).trans hk25,?_,hJ25⟩
   rw[List.map_append,hpre,List.range_succ]
   rfl
  refine ze U ?_
  refine zI ?_
  repeat first|refine te ?_|refine bo rfl ?_
  refine zq _ ?_
  refine zf1 ?_
  refine zgL U ?_
  exact .inr ⟨_,Tt,hJ25⟩
 refine zI ?_
 repeat first|refine te ?_|refine bo rfl ?_
 refine zq _ ?_
 refine zf1 ?_
 refine zgL U ?_
 have he:j=(zW s).length:=by have:=of_decide_eq_false hF;omega
 subst he
 exact .inl ⟨_,hpre,hJ0⟩
theorem zcH.nil{s:yK}(h:yJ s=true):∀{subs:List (LE)},subs=(zW s).map (fun _=>[])→zcH s [] [] subs:=by
 rintro subs rfl
 have hw:WfP []:=⟨by simp,by simp,by simp[Srt]⟩
 have hW:zfd []:=zfd.nil
 refine⟨yW.nil h,U,hw,hW,?_⟩
 induction zW s with
 |nil=>exact .nil
 |cons st sts ih=>exact .cons ⟨hw,hW,by simp⟩ ih
section
variable {B:Nat} {W W':Wl}
theorem yn.bk{α:Type}{f:α→LA}{e k:Nat}(hk:Bk B W W'):∀{vs:LA} {ls:List (List α)},yn W e k f vs ls→yn W' e k f vs ls
 |[],[],_=>trivial
 |_::_,_::_,h=>⟨zB.bk h.1 hk,yn.bk hk h.2⟩
theorem zbY.bk(hk:Bk B W W'):∀{vs:LA} {ls:LE},zbY W vs ls→zbY W' vs ls
 |[],[],_=>trivial
 |_::_,_::_,h=>⟨zB.bk h.1 hk,zbY.bk hk h.2⟩
theorem Pg.bk{p:Nat}{ls:LE}(h:Pg W p ls)(hk:Bk B W W'):Pg W' p ls:=
 let ⟨v,h1,us,h2,h3⟩:=h; ⟨v,h1.bk hk,us,zB.bk h2 hk,h3.bk hk⟩
theorem zdc.bk{w0:Wl}{tb pm:Nat}{c k u o:Va}{ys:List (Va×Nat)}{main:LE}{subs:List (LE)}(h:zdc w0 W tb pm c k u o ys main subs)(hk:Bk B W W'):zdc w0 W' tb pm c k u o ys main subs:=
 ⟨h.blk.bk hk,h.pg.bk hk,zB.bk h.sl hk,PgL.all (fun _ _ hp=>hp.bk hk) h.pgs,h.nd,h.fr,h.fo,h.ft⟩
end
theorem yn.notD{α:Type}{f:α→LA}{w:Wl}{e k D:Nat}{x:Option (List Deferred)}(hD:w.heap[D]?=some (.deferred x)):∀{vs:LA} {ls:List (List α)},yn w e k f vs ls→∀v∈vs,∀b∈zu v,b∉[D]
 |[],[],_,v,hv=>by simp at hv
 |v::vs,l::ls,h,u,hu=>by
  rcases Mc hu with rfl|hu
  ·exact zB.notD h.1 hD
  exact h.2.notD hD u hu
theorem zbY.notD{w:Wl}{D:Nat}{x:Option (List Deferred)}(hD:w.heap[D]?=some (.deferred x)):∀{vs:LA} {ls:LE},zbY w vs ls→∀v∈vs,∀b∈zu v,b∉[D]
 |[],[],_,v,hv=>by simp at hv
 |v::vs,l::ls,h,u,hu=>by
  rcases Mc hu with rfl|hu
  ·exact zB.notD h.1 hD
  exact zbY.notD hD h.2 u hu
set_option maxHeartbeats 1000000 in
theorem zyz(c k u:Va)(s:yK)(w:Wl)(hs:zai w c k u s)(hr:yJ s=true)(hN:Lw.n≤w.heap.size) :
 zS TP 111 #[.agg #[c,k,u]] w fun r w'=>∃t own,r=.tuple #[Pt t,Ii 0]∧zab w' t own s []∧w.heap.size≤t∧(∀p∈own,w.heap.size≤p)∧zk [] w w'∧∃pm sv,zO w' t 123 [Pt pm,c,k,u,sv]:=by
 have hn4:(zW s).length≤4:=by have:=(zZ hr).2.1;simp[zW];omega
 refine zS.of_WM (args:=[_]) Tryz.func111 U U U U ?_
 refine Sr ?_
 refine Ob U U ?_
 intro b1 w1 e1 n1 c1 k1
 refine Oa U (Oa U (E1 1 U (zf (Sr (Og (zh zaX zaS U U (zv.of_blk0 k1)) U ?_)))))
 refine Oc zlb U U U (zgB c k u s _ (hs.chg0 c1) (zcB hr)) ?_
 rintro v9 w9⟨h9,c9⟩
 rw[hr]at h9
 change v9=Ii 0 at h9
 subst h9
 refine Oa U (E2 1 4 U (Sr (Om U ?_)))
 refine Og (vf (zJ U U) (zcp (by omega))) U ?_
 refine E3 1 4 11 U (zb U (zm ?_))
 have k1:zO w9 b1 35 [c,k,u]:=k1.chg0 c9
 have hcA:=c1.trans c9
 refine zR (fun F wx=>∃b5 b16 pm,F=[(1,Pt b1),(5,Pt b5)]∧zO wx b5 52 [Pt b16]∧zdc w wx b16 pm c k u (.slice none 0 0) [] [] []∧zk [] w9 wx) ?_ ?_
 ·have hsA:=hcA.size
  have hC:=(zk.drew [] w9)
  refine zgC (fun wz=>zk [] w9 wz) (zbK.seq [1] (.two 0 (zbK.seq [2] (.two 3 (zbK.seq [4,5] .done) 4 (zbK.seq [3,5] .done))) 4 (zbK.seq [0,2,3,5] .done))) mix (by kernel_rfl) hC ?_
  refine ze0 U U (gn U) (fun wz hz=>zh zaX zaS U U (zv.of_blk0 (k1.chg0 hz))) U U ?_
  refine zge ?_ ?_
  ·refine zaC U U (gn U) (yX zud U U U U (f9 _) ?_)
   rintro v13 w13⟨pm,rfl,hpm,p13,c13⟩
   have hN13:=hC.size
   have hC:=hC.trans c13
   refine⟨.inl hC,?_⟩
   refine ye U U (gn U) (fun _=>zL ztm ztS U (vs:=[_,_]) U (css:=[_,_]) ⟨U,U,Tt⟩ U U (cs:=[_,_,_,_,_]) U) U U ?_
   refine zge ?_ ?_
   ·refine zaC U U (gn U) (zkh U U U ?_)
    intro b16 w16 e16 n16 c16 k16
    have hN16:=hC.size
    have hC:=hC.trans c16
    have p13:=p13.chg0 c16
    refine⟨.inl hC,?_⟩
    refine zaC U U (gn U) (zF zjP U U ?_)
    intro b5 w5 e5 n5 c5 k5
    have hN5:=hC.size
    have hC:=hC.trans c5
    have k16:=k16.chg0 c5
    have p13:=p13.chg0 c5
    refine⟨.inl hC,?_⟩
    refine zaC U U (gn U) (zt zv4 U U U U k5 (by simp) (by intro u hu;simp at hu;subst hu;rfl) ?_)
    intro wA nA cA kA
    have hC:=hC.own cA (by intro y hy;simp at hy;omega)
    refine⟨.inl hC,?_⟩
    refine zd2 [1,5] (F':=[(1,_),(5,_)]) U ?_
    have hz1:=c13.size
    have hz2:=c5.size
    have hz3:=c16.size
    exact⟨b5,b16,pm,rfl,kA,⟨k16.chg cA (by simp;omega),p13.chgC k5 U U U cA,zB.nil _ _ _,Tt,by simp,by simp;omega,by simp[zu],by omega⟩,hC⟩
   refine zaC U U (gn U) (zF zjP U U ?_)
   intro b5 w5 e5 n5 c5 k5
   have hN5:=hC.size
   have hC:=hC.trans c5
   have p13:=p13.chg0 c5
   refine⟨.inl hC,?_⟩
   refine zaC U U (gn U) (zkh U U U ?_)
   intro b16 w16 e16 n16 c16 k16
   have hN16:=hC.size
   have hC:=hC.trans c16
   have k5:=k5.chg0 c16
   have p13:=p13.chg0 c16
   refine⟨.inl hC,?_⟩
   refine zaC U U (gn U) (zt zv4 U U U U k5 (by simp) (by intro u hu;simp at hu;subst hu;rfl) ?_)
   intro wA nA cA kA
   have hC:=hC.own cA (by intro y hy;simp at hy;omega)
   refine⟨.inl hC,?_⟩
   refine zd2 [1,5] (F':=[(1,_),(5,_)]) U ?_
   have hz1:=c13.size
   have hz2:=c5.size
   have hz3:=c16.size
   exact⟨b5,b16,pm,rfl,kA,⟨k16.chg cA (by simp;omega),p13.chgC k5 U U U cA,zB.nil _ _ _,Tt,by simp,by simp;omega,by simp[zu],by omega⟩,hC⟩
  refine zaC U U (gn U) (zF zjP U U ?_)
  intro b5 w5 e5 n5 c5 k5
  have hN5:=hC.size
  have hC:=hC.trans c5
  refine⟨.inl hC,?_⟩
  refine zaC U U (gn U) (yX zud U U U U (f9 _) ?_)
  rintro v13 w13⟨pm,rfl,hpm,p13,c13⟩
  have hN13:=hC.size
  have hC:=hC.trans c13
  have k5:=k5.chg0 c13
  refine⟨.inl hC,?_⟩
  refine ye U U (gn U) (fun _=>zL ztm ztS U (vs:=[_,_]) U (css:=[_,_]) ⟨U,U,Tt⟩ U U (cs:=[_,_,_,_,_]) U) U U ?_
  refine zaC U U (gn U) (zkh U U U ?_)
  intro b16 w16 e16 n16 c16 k16
  have hN16:=hC.size
  have hC:=hC.trans c16
  have k5:=k5.chg0 c16
  have p13:=p13.chg0 c16
  refine⟨.inl hC,?_⟩
  refine zaC U U (gn U) (zt zv4 U U U U k5 (by simp) (by intro u hu;simp at hu;subst hu;rfl) ?_)
  intro wA nA cA kA
  have hC:=hC.own cA (by intro y hy;simp at hy;omega)
  refine⟨.inl hC,?_⟩
  refine zd2 [1,5] (F':=[(1,_),(5,_)]) U ?_
  have hz1:=c13.size
  have hz2:=c5.size
  have hz3:=c16.size
  exact⟨b5,b16,pm,rfl,kA,⟨k16.chg cA (by simp;omega),p13.chgC k5 U U U cA,zB.nil _ _ _,Tt,by simp,by simp;omega,by simp[zu],by omega⟩,hC⟩
 rintro F wx⟨b5,b16,pm,rfl,kt,hpre,cx⟩
 have hcB:=hcA.trans cx
 have k1x:=k1.chg0 cx
 refine zR (fun F wy=>∃(D:Nat) (f18:Va) (o:Va) (ys:List (Va×Nat)),F=[(1000000,Ii D),(5,Pt b5),(18,f18)]∧w.heap.size≤D∧wy.heap[D]?=some (.deferred (some []))∧zO wy b5 52 [Pt b16]∧zdc w wy b16 pm c k u o ys [] (ys.map fun _=>[])∧yn wy 3 1 ics (ys.map (·.1)) (zW s)∧zk [] w wy) ?_ ?_
 ·refine Sr (Og (zh zaX zaS U U (zv.of_blk0 k1x)) U ?_)
  refine Oc zBH U U U (zzx c k u _) ?_
  rintro v18 w18⟨p1,rfl,hp1,kp1,c18⟩
  refine E2 5 18 U ?_
  have hcC:=hcB.trans c18
  have hpre':=hpre.chg0 c18
  have kt':=kt.chg0 c18
  have hsC:=hcC.size
  have hs18:=c18.size
  refine zp ?_
  refine zkv (α:=Nat×Va) (gf:=224) (lb:=[Pt p1]) (encs:=fun x:Nat×Va => #[Ii x.1,x.2]) (S0:=[b16]) (keep:=fun e=>Nat.beq e 3||Nat.beq e 32) (N:=(zW s).length)
   (fun pre W=>∃(o:Va) (ys:List (Va×Nat)),zdc w W b16 pm c k u o ys [] (ys.map fun _=>[])∧(∀b∈zu o,w18.heap.size≤b)∧ys.map (·.1)=pre.map (·.2)∧yn W 3 1 ics (pre.map (·.2)) (pre.map fun x=>((zW s)[x.1]?).getD [])∧zO W b5 52 [Pt b16]∧zk [b16] w18 W∧w18.heap.size≤W.heap.size)
   (fun _ _ _=>False)
   (fun x=>[(20,x.2),(19,Ii x.1),(5,Pt b5),(18,.func (.func 224) #[] #[Pt p1])])
   (fun x=>[(5,Pt b5),(7,x.2),(20,x.2)])
   rfl zAw (zoX w w18 hcC p1 c k u s [b16] _ kp1 hs (by intro b hb;simp at hb;subst hb;exact hpre.ft) hr rfl rfl) (fun _=>rfl) ?_ (fun _ _ _ _ h=>h) (fun _ _ _ _ h=>h) ?_ (fun _ _ _ _ _ h=>h.elim) ?_ (fun _ _ h=>h.choose_spec.choose_spec.2.2.2.2.2.2) ?_ ?_ ?_ ?_ (fun _ _ _ _ _ _ h=>h.elim)
  ·rintro x W W' hk ⟨st,h1,h2,h3⟩
   exact⟨st,h1,zB.bk h2 hk,h3⟩
  ·rintro pre W W' hk ⟨o,ys,h1,h2,h3,h4,h5,h6,h7⟩
   exact⟨o,ys,h1.bk hk,h2,h3,h4.bk hk,h5.bk hk,h6.bk (Nat.le_refl _) hk,by obtain⟨T,_,hc⟩:=hk;exact Nat.le_trans h7 hc.size⟩
  ·exact⟨_,[],hpre',by simp[zu],rfl,Tt,kt',zk.refl _ _,Nat.le_refl _⟩
  ·intro x a ha
   exact ha.vars2 U U U
  ·intro l' x W
   refine yx ?_
   refine yh (gn U) U (St.vl (yg U) U U ?_)
   refine zfA [5,7,20] (F':=[(5,_),(7,_),(20,_)]) U ?_
   exact⟨U,U,U⟩
  ·rintro l' pre ⟨xi,xv⟩ W ⟨o,ys,hp,hfo,hys,hats,hk5,hcW,hsW⟩ ⟨st,hst,hx,hfx⟩ hlen
   have hx:yl W 3 1 ics xv st:=hx
   have hst:(zW s)[xi]?=some st:=hst
   have hfx:∀b∈zu xv,w18.heap.size≤b:=hfx
   obtain⟨px,qx,rfl,_⟩:=id (yl.val hx)
   refine zfO ?_
   have hd:zk [] W W.drew:=zk.drew [] _
   have hbo:b16∉zu o:=fun hm=>zB.apart hp.sl hp.blk rfl b16 hm (by simp)
   have hyl:ys.length=pre.length:=by have:=congrArg List.length hys;simpa using this
   have hb5:b5≠b16:=hk5.ne hp.blk rfl
   have hcl:∀{wz:Wl},zk [] W wz→wz.cell? ⟨b5,0,none⟩=some (Pt b16)∧wz.cell? ⟨b16,4,none⟩=some o:=fun hc=>⟨(hk5.chg0 hc).cell' rfl,(hp.blk.chg0 hc).cell' rfl⟩
   have hb5o:b5∉zu o:=fun hm=>zB.apart hp.sl hk5 rfl b5 hm (by simp)
   refine zoI (fun wz=>wz.cell? ⟨b5,0,none⟩=some (Pt b16)∧wz.cell? ⟨b16,4,none⟩=some o) mix (by kernel_rfl) (hcl hd) ?_
   refine Tr (fun wz hz=>zg zio U hz.1) U (Tr (fun wz hz=>zg zio U hz.1) U (Tp (fun _=>zx U) U (Td zdS U (Tr (fun wz hz=>zg ziT U hz.2) U (Tm U ?_)))))
   refine Tc zud U U U (f9 _) ?_
   rintro v27 w27⟨q,rfl,hqf,hq,c27⟩
   refine⟨.inl (hcl (hd.trans c27)),?_⟩
   refine Tp (fun _=>zL zxE zjq U (vs:=[_,_]) U (css:=[_,_]) ⟨U,U,Tt⟩ U U (cs:=[_,_]) U) U ?_
   refine zaR U (gn U) (zA zql U (vs:=[_]) U (css:=[_]) ⟨U,Tt⟩ U U (cs:=[_,_]) U U ?_)
   intro b29 w29 e29 n29 c29 k29
   refine⟨.inl (hcl ((hd.trans c27).trans c29)),?_⟩
   refine zaR U (gn U) (yr zql zfv U U (yl.chg0 hp.sl ((hd.trans c27).trans c29)) (zB.of_blk (n:=1) (c:=scs (.slice px st.length qx,q)) k29 U (by simp[maxLen]) (by intro u hu;simp[scs]at hu;rcases hu with rfl|rfl<;>rfl)) (by simp only[maxLen];omega) (by omega) U ?_)
   intro v30 w30 i30 c30 o30 z30
   obtain⟨p30,q30,rfl,_⟩:=id (zB.val i30)
   refine⟨.inl ⟨((hk5.chg0 ((hd.trans c27).trans c29)).chg c30 hb5o).cell' U,((hp.blk.chg0 ((hd.trans c27).trans c29)).chg c30 hbo).cell' U⟩,?_⟩
   refine Tp (fun _=>zx U) U (Td zdS U ?_)
   refine zaR U (gn U) (zt zxo U U U U ((hp.blk.chg0 ((hd.trans c27).trans c29)).chg c30 hbo) (by simp) (by intro u hu;simp at hu;subst hu;rfl) ?_)
   intro wB nB cB kB
   refine⟨.inr (by kernel_rfl),?_⟩
   refine zdI [5,20] (F':=[(5,_),(20,_)]) U ?_
   have kB:zO wB b16 123 [Pt pm,c,k,u,.slice p30 (ys.length+1) q30]:=kB
   have hc29:zk [] W w29:=(hd.trans c27).trans c29
   have hs27:=c27.size
   have hs29:=c29.size
   have hsd:=hd.size
   have hmore:=(hp.chg0 hc29).more (a:=.slice px st.length qx) (hq.chg0 c29) (fun hm=>by
    rcases Mc hm with rfl|hm
    ·have:=hp.pg.lt;omega
    have:=hp.pgs.lt q hm;omega) (by omega) c30 i30 (yt o30 hp.fo (by omega)) cB kB
   have hcut:∀y∈zu o,∃cc,zO W y 126 cc:=fun y hy=>by
    rcases hp.sl with⟨rfl,_,_⟩|⟨b,off,cap,cc,rfl,hs⟩
    ·simp[zu]at hy
    simp[zu]at hy;subst hy;exact⟨_,hs.blk⟩
   have hall:zk (b16::zu o) W wB:=((hc29.any (S:=b16::zu o)).transS (c30.weak (by intro y hy;simp[hy]))).transS (cB.weak (by simp))
   have hsl29:=yl.chg0 hp.sl hc29
   have hb30:zO w30 b16 123 [Pt pm,c,k,u,o]:=(hp.blk.chg0 hc29).chg c30 hbo
   have hats30:=yn.chg c30 (yn.apartSl hsl29 rfl (hats.chg0 hc29)) (hats.chg0 hc29)
   have hats1:yn wB 3 1 ics (pre.map (·.2)) (pre.map fun x=>((zW s)[x.1]?).getD []):=yn.chg cB (hats30.apart hb30 rfl) hats30
   have hx30:=yl.chg (yl.chg0 hx hc29) c30 (zB.apartSl (yl.chg0 hx hc29) hsl29 rfl)
   have hx1:yl wB 3 1 ics (.slice px st.length qx) st:=yl.chg hx30 cB (zB.apart hx30 hb30 rfl)
   refine⟨KeepsFrom.chg hall ?_,Kr.chg hall (by omega) ?_,.slice p30 (ys.length+1) q30,ys++[(.slice px st.length qx,q)],?_,?_,?_,?_,?_,?_,by have:=hall.size;omega⟩
   ·intro y hy
    rcases Mc hy with rfl|hy
    ·exact⟨_,_,hp.blk⟩
    obtain⟨cc,hb⟩:=hcut y hy
    exact⟨_,_,hb⟩
   ·intro y hy
    rcases Mc hy with rfl|hy
    ·exact⟨.inl (by simp),_,_,hp.blk,rfl⟩
    obtain⟨cc,hb⟩:=hcut y hy
    exact⟨.inr (hfo y hy),_,_,hb,U⟩
   ·rw[List.map_append]
    exact hmore
   ·exact yt o30 hfo (by omega)
   ·rw[List.map_append,List.map_append,hys]
    rfl
   ·rw[List.map_append,List.map_append]
    refine hats1.append (us:=[_]) (ms:=[_]) ⟨?_,Tt⟩
    show yl wB 3 1 ics (.slice px st.length qx) (((zW s)[xi]?).getD [])
    rw[hst]
    exact hx1
   ·exact(((hk5.chg0 hc29).chg c30 (fun hm=>zB.apart hsl29 (hk5.chg0 hc29) U b5 hm (by simp))).chg cB (by simpa using hb5))
   exact hcW.trans' hall (by
    intro y hy
    rcases Mc hy with rfl|hy
    ·simp
    exact .inr (hfo y hy))
  rintro D xs W hD hxs⟨o,ys,hp,hfo,hys,hats,hk5,hcW,hsW⟩ hdf
  refine zl ?_
  have hb16:=hp.ft
  refine⟨D,_,o,ys,rfl,by omega,hdf,hk5,hp,?_,hcC.own hcW (by intro y hy;simp at hy;omega)⟩
  have e:(xs.map fun x=>((zW s)[x.1]?).getD [])=zW s:=by
   have e1:(xs.map fun x=>((zW s)[x.1]?).getD [])=(xs.map (·.1)).map fun i=>((zW s)[i]?).getD []:=by rw[List.map_map];rfl
   rw[e1,hxs]
   apply List.ext_getElem (by simp)
   intro i h1 h2
   simp[h2]
  rw[hys,←e]
  exact hats
 rintro F wy⟨D,f18,o,ys,rfl,hD,hdf,hk5,htp,hats,hcy⟩
 refine Sr (Ol zio U (hk5.cell' U) (Oa U (Oa U (yO [2,3] (F':=[(2,_),(3,_),(1000000,_)]) U (zj ?_)))))
 refine zyq (D:=D) U U U U hdf fun w' hcD=>?_
 have hbD:∀{b:Nat} {e:TypeId} {x:LA},zO wy b e x→b∉[D]:=fun hb hm=>by
  simp at hm
  rw[←hm,show wy.heap[_]?=_ from hb]at hdf
  cases hdf
 have hP:∀p ls,Pg wy p ls→Pg w' p ls:=fun p ls ⟨v,h1,us,h2,h3⟩=>⟨v,h1.chg hcD (hbD h1),us,h2.chg hcD (h2.notD hdf),h3.chg hcD (zbY.notD hdf h3)⟩
 have hsl:(ys.map (·.1)).length=(zW s).length:=hats.length
 refine⟨b16,pm::ys.map (·.2),rfl,⟨pm,c,k,u,o,ys,[],_,rfl,⟨htp.blk.chg hcD (hbD htp.blk),?_,hP _ _ htp.pg,zB.chg htp.sl hcD (zB.notD htp.sl hdf),yn.chg hcD (hats.notD hdf) hats,PgL.all hP htp.pgs,htp.nd,fun p hp2=>Nat.le_trans hN (htp.fr p hp2)⟩,zcH.nil hr ?_⟩,htp.ft,htp.fr,hcy.own hcD (by intro y hy;simp at hy;omega),pm,o,htp.blk.chg hcD (hbD htp.blk)⟩
 ·exact hs.chg0 (hcy.own hcD (by intro y hy;simp at hy;omega))
 apply List.ext_getElem (by simpa using hsl)
 intro i h1 h2
 simp
theorem zlf{s:yK}{r1 r2:LV}{m1 m2:LE}{s1 s2:List (LE)}(h1:zcH s r1 m1 s1)(h2:zcH s r2 m2 s2):r1=r2↔r1.length=r2.length∧∀x∈m1.flatten,zc8 m2 x.1=some x.2:=by
 constructor
 ·rintro rfl
  refine⟨U,fun x hx=>?_⟩
  rw[h1.flat,←h2.flat]at hx
  exact(zgb h2.wf).2 hx
 rintro⟨hl,h⟩
 have hsub:∀x∈r1,x∈r2:=fun r hr=>by
  have h3:=h (z9 s r,zeG s r) (by rw[h1.flat];exact List.mem_map.2 ⟨r,hr,rfl⟩)
  have h4:=(zgb h2.wf).1 h3
  rw[h2.flat,List.mem_map]at h4
  obtain⟨r',hr',he⟩:=h4
  simp only[Prod.mk.injEq]at he
  have:=zso (h2.ok.fit r' hr') (h1.ok.fit r hr) (h2.ok.rng r' hr') (h1.ok.rng r hr) he.2
  rw[←this];exact hr'
 have hn1:r1.Nodup:=h1.ok.srt.imp fun {a b} hb e=>by rw[e]at hb;rw[zaz]at hb;cases hb
 have hsup:∀x∈r2,x∈r1:=fun x hx=>by
  by_cases hm:x∈r1
  ·exact hm
  have:=zjs (l:=x::r1) (m:=r2) (List.nodup_cons.2 ⟨hm,hn1⟩) fun y hy=>by
   rcases Mc hy with rfl|hy
   ·exact hx
   exact hsub y hy
  simp only[List.length_cons]at this
  omega
 have hk:r1.map (z9 s)=r2.map (z9 s):=by
  refine zjC (List.pairwise_map.2 h1.ok.srt) (List.pairwise_map.2 h2.ok.srt) fun x=>⟨fun hx=>?_,fun hx=>?_⟩
  ·obtain⟨r,hr,rfl⟩:=List.mem_map.1 hx
   exact List.mem_map.2 ⟨r,hsub r hr,U⟩
  obtain⟨r,hr,rfl⟩:=List.mem_map.1 hx
  exact List.mem_map.2 ⟨r,hsup r hr,U⟩
 apply List.ext_getElem hl
 intro i i1 i2
 have e:=congrArg (fun l:List By=>l[i]?) hk
 simp only[List.getElem?_map,List.getElem?_eq_getElem i1,List.getElem?_eq_getElem i2,Option.map_some,Option.some.injEq]at e
 exact h2.ok.uniq (hsub _ (List.getElem_mem i1)) (List.getElem_mem i2) e
theorem zsp(s:By):blt s e0=false:=by
 cases h:blt s e0 with
 |false=>rfl
 |true=>
  have:=(zeM s e0).1 h
  simp[e0]at this
set_option maxHeartbeats 1000000 in
theorem zsF(t t':Nat)(own own':List Nat)(s s':yK)(rows rows':LV)(w:Wl)(h:zab w t own s rows)(h':zab w t' own' s' rows') :
 zS TP 37 #[Pt t,Pt t'] w fun r w'=>r=.bool (decide (s=s')&&decide (rows=rows'))∧zk [] w w':=by
 obtain⟨pm,c,k,u,sv,xs,main,subs,rfl,hm,ht⟩:=h
 obtain⟨pm',c',k',u',sv',xs',main',subs',rfl,hm',ht'⟩:=h'
 refine zS.of_WM (args:=[_,_]) Tryz.func37 U U U U ?_
 refine Sr ?_
 refine Ob U U ?_
 intro b3 w3 e3 n3 c3 k3
 refine Oq (zF zr4 U U ?_)
 intro b4 w4 e4 n4 c4 k4
 refine E3 0 3 4 U ?_
 have k3:zO w4 b3 52 [Pt t']:=k3.chg0 c4
 have hcA:=c3.trans c4
 refine zf (Sr (Om U (Og (y8 zky U U) U (Om U (Oi U (zg zio U (k3.cell' U)) (Oi U (y8 zky U U) (Of U (E4 0 3 4 14 U (zb U (zm (zf (zf ?_))))))))))))
 have hd:zk [] w4 w4.drew:=zk.drew [] _
 have hmA:=hm.chg0 hcA
 have hmA':=hm'.chg0 hcA
 by_cases hse:s=s'
 ·subst hse
  by_cases hl:rows.length=rows'.length
  ·refine zH (fun wz=>zk [] w4 wz) mix (by kernel_rfl) hd ?_
   refine Tm U (Tp (fun _=>zx U) U (Td zda U (Tr (fun wz hz=>zh zaX zaS U U (hmA.chg0 hz).scells) U (Tr (fun wz hz=>zg zio U ((k3.chg0 hz).cell' U)) U (Tp (fun _=>zx U) U (Td zda U (Tr (fun wz hz=>zh zaX zaS U U (hmA'.chg0 hz).scells) U ?_)))))))
   refine Tc zoH U U U (zg0 c k u c' k' u' s s _ ((hmA.chg0 hd).sch) ((hmA'.chg0 hd).sch) (zcB ht.ok.right) (zcB ht'.ok.right)) ?_
   rintro v29 w29⟨e29,c29⟩
   rw[dt rfl]at e29
   subst e29
   refine⟨.inl (hd.trans c29),?_⟩
   refine Tp (fun _=>zC U) U (Tm U (Tq U U U ?_))
   refine Tv U U zqT U U U (zkT _ ((hmA.chg0 hd).chg0 c29) ht) ?_
   rintro v33 w33⟨rfl,rfl⟩
   refine⟨.inl (hd.trans c29),?_⟩
   refine Ts U U (fun wz hz=>zg zio U ((k3.chg0 hz).cell' U)) U ?_
   refine Tv U U zqT U U U (zkT _ ((hmA'.chg0 hd).chg0 c29) ht') ?_
   rintro v35 w35⟨rfl,rfl⟩
   refine⟨.inl (hd.trans c29),?_⟩
   refine Tg U U (fun _=>vf (zJ U U) (by simp[hl])) U ?_
   refine Tp (fun _=>zE U U) U (D4 0 3 4 37 U (zb U (zm ?_)))
   have hcB:=(hcA.trans hd).trans c29
   have hmB:=hm.chg0 hcB
   have hmB':=hm'.chg0 hcB
   have k3:=(k3.chg0 hd).chg0 c29
   have k4:zO w35 b4 4 [.bool false]:=(k4.chg0 hd).chg0 c29
   refine zR (fun F wx=>∃(D:Nat) (f42:Va),F=[(1000000,Ii D),(3,Pt b3),(4,Pt b4),(42,f42)]∧w.heap.size≤D∧wx.heap[D]?=some (.deferred (some []))∧zO wx b4 4 [.bool false]∧(∀x∈main.flatten,zc8 main' x.1=some x.2)∧zk [] w wx) ?_ ?_
   ·refine Sr (Om U (Og (zx U) U (Od zeQ U (Ol zfV U (hmB.blk.cell' U) ?_))))
    refine Oc zAk U U U (f14 pm main e0 _ hmB.pg (by have:=ht.le;omega)) ?_
    rintro v42 w42⟨q5,q3,vv,rfl,kq5,ip,kq3,hq3,hq5,c42⟩
    refine E3 3 4 42 U ?_
    have hcC:=hcB.trans c42
    have hsB:=hcB.size
    have hsC:=hcC.size
    have hb4lt:=k4.lt
    have k3:=k3.chg0 c42
    have k4:=k4.chg0 c42
    have hall:zbF main.flatten e0=main.flatten:=List.filter_eq_self.2 fun x _=>by simp[zsp]
    have hm4:=k4.lt
    refine zp ?_
    refine zv5 (α:=Ent) (gf:=119) (lb:=[Pt q5,Pt q3]) (encs:=fun x:Ent => #[.string x.1,.string x.2]) (N:=main.flatten.length) [b4]
     (fun pre W=>(∀x∈pre,zc8 main' x.1=some x.2)∧zk [] w42 W)
     (fun c pre W=>c=.ret∧(∃x∈pre,zc8 main' x.1≠some x.2)∧zO W b4 4 [.bool false]∧zk [b4] w42 W)
     (fun x=>[(44,.string x.2),(43,.string x.1),(3,Pt b3),(4,Pt b4),(42,.func (.func 119) #[] #[Pt q5,Pt q3])])
     (fun x=>[(3,Pt b3),(4,Pt b4),(5,.string x.1),(6,.string x.2),(43,.string x.1),(44,.string x.2)])
     rfl zwD ?_
     (zuN w42 q5 q3 vv main e0 [b4] kq5 ip kq3 (by have:=ht.le;omega) ht.wf.le ?_ ?_ hall) (fun _=>rfl) ?_ ?_ ?_ (fun pre W hI=>hI.2.size) ?_ ?_ ?_ ?_ ?_
    ·intro b hb
     simp at hb
     subst hb
     exact hm4
    ·simp
     omega
    ·intro b hb
     simp at hb
     subst hb
     exact⟨_,_,k4,U,U⟩
    ·rintro pre W W' T hT hc ⟨g1,g2⟩
     exact⟨g1,g2.own hc hT⟩
    ·rintro c pre W W' T hT hc ⟨rfl,g1,g2,g3⟩
     exact⟨rfl,g1,g2.chg hc (fun hm=>by have:=hT _ hm;omega),g3.trans' hc (fun y hy=>.inr (hT y hy))⟩
    ·exact⟨by simp,zk.refl _ _⟩
    ·intro x a ha
     exact ha.vars2 U U U
    ·intro l x W
     refine zcW ?_
     refine yx ?_
     refine yh (gn U) U (St.vl (yg U) U U ?_)
     refine zcf [3,4,5,43,44] (F':=[(3,_),(4,_),(5,_),(43,_),(44,_)]) U ?_
     refine yx ?_
     refine yh (gn U) U (St.vl (yg U) U U ?_)
     refine zfA [3,4,5,6,43,44] (F':=[(3,_),(4,_),(5,_),(6,_),(43,_),(44,_)]) U ?_
     exact⟨U,U,U⟩
    ·rintro l pre x W ⟨g1,g2⟩ hlen
     have hmW':=hm'.chg0 (hcC.trans g2)
     have k3W:=k3.chg0 g2
     have k4W:=k4.chg0 g2
     refine zfO ?_
     refine zcW ?_
     refine yx ?_
     refine yh (gn U) U (St.vl (zg zio U (k3W.cell' U)) U U ?_)
     refine yh (gn U) U (St.vl (zx U) U U ?_)
     refine yh (gn U) U (St.vl (zd zeQ U) U U ?_)
     refine yh (gn U) U (St.vl (zg zfV U (hmW'.blk.cell' U)) U U ?_)
     refine Xm U ?_
     refine yh (gn U) U (yX zyo U U U U (f15 pm' main' x.1 _ hmW'.pg ht'.wf (by have:=ht'.le;omega)) ?_)
     rintro v51 w51⟨rfl,c51⟩
     refine Xm U ?_
     refine yh (gn U) U (St.vl (zM U U) U U ?_)
     refine yh (gn U) U (St.vl (zM U U) U U ?_)
     refine yh (gn U) U (St.vl (yg U) U U ?_)
     refine yh (gn U) U (St.vl (yg U) U U ?_)
     refine zcf [3,4,6,7,8,43,44] (F':=[(3,_),(4,_),(6,_),(7,_),(8,_),(43,_),(44,_)]) U ?_
     refine zcW ?_
     have hfail:zc8 main' x.1≠some x.2→∀{wC:Wl},zk [b4] w51 wC→zO wC b4 4 [.bool false]→zk [b4] W wC∧(Code.ret=.ret∧(∃y∈pre++[x],zc8 main' y.1≠some y.2)∧zO wC b4 4 [.bool false]∧zk [b4] w42 wC):=fun hne {wC} hc hb=>
      ⟨(c51.any (S:=[b4])).transS hc,rfl,⟨x,by simp,hne⟩,hb,((g2.trans c51).any (S:=[b4])).transS hc⟩
     cases hg:zc8 main' x.1 with
     |none=>
      refine yx ?_
      refine Xm U ?_
      refine yh (gn U) U (St.vl (zC U) U U ?_)
      refine Xm U ?_
      refine zy0 U U U U U U ?_
      refine zy0 U U U U U U ?_
      refine zy0 U U U U U U ?_
      refine yh (gn U) U (St.vl (zD U U) U U ?_)
      refine zcf [3,4,43,44,60] (F':=[(3,_),(4,_),(43,_),(44,_),(60,_)]) U ?_
      refine zdT U ?_
      refine zcW ?_
      refine yx ?_
      refine yh (gn U) U (zt sz4 U U U U (k4W.chg0 c51) (by simp) (by simp[Value.oneCell']) ?_)
      intro wC nC cC kC
      refine zcf [4] (F':=[(4,_)]) U ?_
      refine zwE ?_
      repeat first|refine tr ?_|refine br ?_
      exact hfail (by rw[hg];simp) cC kC
     |some y=>
      by_cases hxy:x.2=y
      ·refine yx ?_
       refine Xm U ?_
       refine yh (gn U) U (St.vl (zC U) U U ?_)
       refine Xm U ?_
       refine yh (gy U U U) U (St.vl (zav U) U U ?_)
       refine yh (gy U U U) U (St.vl (zav U) U U ?_)
       refine yh (gy U U U) U (St.vl (vf (zcj U U) (by simp[hxy])) U U ?_)
       refine yh (gn U) U (St.vl (zE U U) U U ?_)
       refine zcf [3,4,43,44,60] (F':=[(3,_),(4,_),(43,_),(44,_),(60,_)]) U ?_
       refine zcG U ?_
       refine zhU ?_
       refine zl ?_
       refine⟨c51.any,fun z hz=>?_,g2.trans c51⟩
       rcases List.mem_append.1 hz with hz|hz
       ·exact g1 z hz
       simp at hz;subst hz;rw[hg,hxy]
      refine yx ?_
      refine Xm U ?_
      refine yh (gn U) U (St.vl (zC U) U U ?_)
      refine Xm U ?_
      refine yh (gy U U U) U (St.vl (zav U) U U ?_)
      refine yh (gy U U U) U (St.vl (zav U) U U ?_)
      refine yh (gy U U U) U (St.vl (vt (zcj U U) (by simp[hxy])) U U ?_)
      refine yh (gn U) U (St.vl (zE U U) U U ?_)
      refine zcf [3,4,43,44,60] (F':=[(3,_),(4,_),(43,_),(44,_),(60,_)]) U ?_
      refine zdT U ?_
      refine zcW ?_
      refine yx ?_
      refine yh (gn U) U (zt sz4 U U U U (k4W.chg0 c51) (by simp) (by simp[Value.oneCell']) ?_)
      intro wC nC cC kC
      refine zcf [4] (F':=[(4,_)]) U ?_
      refine zwE ?_
      repeat first|refine tr ?_|refine br ?_
      exact hfail (by rw[hg];simp;exact fun e=>hxy e.symm) cC kC
    ·rintro D xs W hD rfl ⟨g1,g2⟩ hdf
     refine zl ?_
     exact⟨D,_,rfl,by omega,hdf,k4.chg0 g2,g1,hcC.trans g2⟩
    rintro D c pre W' hD⟨-,hpre⟩⟨rfl,⟨x,hx,hne⟩,g2,g3⟩ hdf
    refine zj ?_
    repeat first|refine tr ?_|refine br ?_
    have hDb:D≠b4:=by omega
    refine zpw (v:=.bool false) (D:=D) U ag4 U U hdf fun w' hc'=>?_
    have hnr:rows≠rows':=fun e=>by
     exact hne (((zlf ht ht').1 e).2 x (hpre.subset hx))
    refine⟨(g2.chg hc' (by simpa using hDb.symm)).cell' U,by simp[hnr],?_⟩
    exact(hcC.own g3 (by intro y hy;simp at hy;have:=c3.size;omega)).own hc' (by intro y hy;simp at hy;omega)
   rintro F wx⟨D,f42,rfl,hD,hdf,hb4,hall,hcx⟩
   refine Sr ?_
   refine Oq (zt sz4 U U U U hb4 (by simp) (by simp[Value.oneCell']) ?_)
   intro wA nA cA kA
   refine yO [4] (F':=[(4,_),(1000000,_)]) U (zj ?_)
   have kA:zO wA b4 4 [.bool true]:=kA
   have hDb:D≠b4:=by rintro rfl;rw[show wx.heap[D]?=_ from hb4]at hdf;cases hdf
   refine zpw (v:=.bool true) (D:=D) U ag4 U U ((cA.block D (Ga hdf).1 (by simpa using hDb)).trans hdf) fun w' hc'=>?_
   have hr:rows=rows':=(zlf ht ht').2 ⟨hl,hall⟩
   refine⟨(kA.chg hc' (by simpa using hDb.symm)).cell' U,?_,?_⟩
   ·simp[hr]
   have h4:w.heap.size≤b4:=by have:=c3.size;omega
   exact(hcx.own cA (by intro y hy;simp at hy;omega)).own hc' (by intro y hy;simp at hy;omega)
  refine zH (fun wz=>zk [] w4 wz) mix (by kernel_rfl) hd ?_
  refine Tm U (Tp (fun _=>zx U) U (Td zda U (Tr (fun wz hz=>zh zaX zaS U U (hmA.chg0 hz).scells) U (Tr (fun wz hz=>zg zio U ((k3.chg0 hz).cell' U)) U (Tp (fun _=>zx U) U (Td zda U (Tr (fun wz hz=>zh zaX zaS U U (hmA'.chg0 hz).scells) U ?_)))))))
  refine Tc zoH U U U (zg0 c k u c' k' u' s s _ ((hmA.chg0 hd).sch) ((hmA'.chg0 hd).sch) (zcB ht.ok.right) (zcB ht'.ok.right)) ?_
  rintro v29 w29⟨e29,c29⟩
  rw[dt rfl]at e29
  subst e29
  refine⟨.inl (hd.trans c29),?_⟩
  refine Tp (fun _=>zC U) U (Tm U (Tq U U U ?_))
  refine Tv U U zqT U U U (zkT _ ((hmA.chg0 hd).chg0 c29) ht) ?_
  rintro v33 w33⟨rfl,rfl⟩
  refine⟨.inl (hd.trans c29),?_⟩
  refine Ts U U (fun wz hz=>zg zio U ((k3.chg0 hz).cell' U)) U ?_
  refine Tv U U zqT U U U (zkT _ ((hmA'.chg0 hd).chg0 c29) ht') ?_
  rintro v35 w35⟨rfl,rfl⟩
  refine⟨.inl (hd.trans c29),?_⟩
  refine Tg U U (fun _=>vt (zJ U U) (by simp;omega)) U ?_
  refine Tp (fun _=>zE U U) U (D4 0 3 4 37 U (ze U (Sr ?_)))
  refine Oq (zt sz4 U U U U ((k4.chg0 hd).chg0 c29) (by simp) (by simp[Value.oneCell']) ?_)
  intro wA nA cA kA
  refine E1 4 U (zj ?_)
  repeat first|refine tr ?_|refine br ?_
  refine zwZ U ag4 U (kA.cell' U) ?_
  have hne:rows≠rows':=fun e=>hl (by rw[e])
  refine⟨by simp[hne],?_⟩
  exact((hcA.trans hd).trans c29).own cA (by intro y hy;simp at hy;have:=c3.size;omega)
 refine zH (fun wz=>zk [] w4 wz) mix (by kernel_rfl) hd ?_
 refine Tm U (Tp (fun _=>zx U) U (Td zda U (Tr (fun wz hz=>zh zaX zaS U U (hmA.chg0 hz).scells) U (Tr (fun wz hz=>zg zio U ((k3.chg0 hz).cell' U)) U (Tp (fun _=>zx U) U (Td zda U (Tr (fun wz hz=>zh zaX zaS U U (hmA'.chg0 hz).scells) U ?_)))))))
 refine Tc zoH U U U (zg0 c k u c' k' u' s s' _ ((hmA.chg0 hd).sch) ((hmA'.chg0 hd).sch) (zcB ht.ok.right) (zcB ht'.ok.right)) ?_
 rintro v29 w29⟨e29,c29⟩
 rw[df hse]at e29
 subst e29
 refine⟨.inl (hd.trans c29),?_⟩
 refine Tp (fun _=>zC U) U (Tm U (Tk U (Tk U (Tk U (Tk U (Tk U (Tp (fun _=>zD U U) U (D4 0 3 4 37 U (ze U (Sr ?_))))))))))
 refine Oq (zt sz4 U U U U ((k4.chg0 hd).chg0 c29) (by simp) (by simp[Value.oneCell']) ?_)
 intro wA nA cA kA
 refine E1 4 U (zj ?_)
 repeat first|refine tr ?_|refine br ?_
 refine zwZ U ag4 U (kA.cell' U) ?_
 refine⟨by simp[hse],?_⟩
 exact((hcA.trans hd).trans c29).own cA (by intro y hy;simp at hy;have:=c3.size;omega)
theorem zdh{P:Program}{n:Nat}{F:Fr}{w:Wl}{dst:Option Nat}{ty:TypeId}{pos:String}{af:Array Edge}{gd:Option (Nat×Bool)}{x y:Operand}{t u:TypeId}{a b:Bool}(hb:zrT P t=true)(hx:ev F x=some (.bool a))(hy:ev F y=some (.bool b)):Vl P n F ⟨dst,.binOp .neq t x y u,ty,pos,af,gd⟩ w (.bool (!(a==b))) w:=by
 intro c ha
 have hu:P.underlying t=some .bool:=by unfold zrT at hb;split at hb<;>simp_all
 have h1:(Op.equal t (.bool a) (.bool b)).run P w=.ok (a==b) w:=zbm fun d=>by simp[Op.equalIn,run_underlying hu]
 simp[execOp,ha.eval hx,ha.eval hy,eqGuard,binOp,h1]
theorem zvp{s:yK}{rows:LV}{row:List zX}(h:zeJ s rows row≠0):insR s rows row=rows:=by unfold insR;rw[if_neg h]
theorem zwf{s:yK}{rows:LV}{row:List zX}{k:By}(h:zdn s rows k row≠0):updR s rows k row=rows:=by unfold updR;rw[if_neg h]
theorem ztY(b:Bool)(w:Wl):zS TP 129 #[.bool b] w fun r w'=>∃i:Int,r=Ii i∧i≠0∧w'=w:=by
 refine A1 Tryz.func129 U U ?_
 refine Sr (Oa U (E1 0 U (zf (Sr (Om U (E1 3 U ?_))))))
 cases b with
 |true=>
  refine ze U (Sr (Oa U (E1 2 U (zj ?_))))
  repeat first|refine tr ?_|refine br ?_
  refine zw U U ?_
  exact⟨_,rfl,by decide,rfl⟩
 |false=>
  refine zb U (zm (Sr (Oa U (E1 2 U (zj ?_)))))
  refine zw U U ?_
  exact⟨_,rfl,by decide,rfl⟩
theorem zvX(x y:zX)(w:Wl):zS TP 128 #[x.v,y.v] w fun r w'=>∃i:Int,r=Ii i∧(i=0↔x=y)∧zk [] w w':=by
 obtain⟨xk,xi,xu,xb⟩:=x
 obtain⟨yk,yi,yu,yb⟩:=y
 refine A2 Tryz.func128 U U ?_
 refine Sr ?_
 refine Ob U U ?_
 intro b2 w2 e2 n2 c2 k2
 refine Ob U U ?_
 intro b3 w3 e3 n3 c3 k3
 refine Oa U (E2 2 3 U ?_)
 have k2:=k2.chg0 c3
 have hc:=c2.trans c3
 refine zf (zp (zf ?_))
 by_cases h1:xk=yk
 ·refine za (Od zal U (Ol zbS U (k2.cell' U) (Od zal U (Ol zbS U (k3.cell' U) ?_))))
  refine Og (vf (zJ U U) (by simp[h1])) U ?_
  refine Oa U (E3 2 3 5 U (zb U (zf ?_)))
  by_cases h2:xi=yi
  ·refine za (Od yz U (Ol ag2 U (k2.cell' U) (Od yz U (Ol ag2 U (k3.cell' U) ?_))))
   refine Og (vf (zJ U U) (by simp[h2])) U ?_
   refine Oa U (E3 2 3 17 U (zb U (zf ?_)))
   by_cases h3:xu=yu
   ·refine za (Od zaT U (Ol zb2 U (k2.cell' U) (Od zaT U (Ol zb2 U (k3.cell' U) ?_))))
    refine Og (vf (zJ U U) (by simp[h3])) U ?_
    refine Oa U (E3 2 3 29 U (zb U (zf ?_)))
    by_cases h4:xb=yb
    ·refine za (Od zaK U (Ol yI U (k2.cell' U) (Od zaK U (Ol yI U (k3.cell' U) ?_))))
     refine Og (vf (zcj U U) (by simp[h4])) U ?_
     refine Oa U (E3 2 3 41 U (zb U (zT (zl (Sr (Oa U (E1 4 U (zj ?_))))))))
     refine zw U U ?_
     exact⟨0,rfl,by simp[h1,h2,h3,h4],hc⟩
    refine za (Od zaK U (Ol yI U (k2.cell' U) (Od zaK U (Ol yI U (k3.cell' U) ?_))))
    refine Og (vt (zcj U U) (by simp[h4])) U ?_
    refine Oa U (E3 2 3 41 U (ze U (Sr (Od zaK U (Ol yI U (k2.cell' U) (Od zaK U (Ol yI U (k3.cell' U) (Og (ziy U U) U ?_))))))))
    refine Oc znU U U U (ztY _ _) ?_
    rintro v52 w52⟨i,rfl,hi,rfl⟩
    refine Oa U (E1 4 U (zj ?_))
    repeat first|refine tr ?_|refine br ?_
    refine zw U U ?_
    exact⟨i,rfl,by simp[h4,hi],hc⟩
   refine za (Od zaT U (Ol zb2 U (k2.cell' U) (Od zaT U (Ol zb2 U (k3.cell' U) ?_))))
   refine Og (vt (zJ U U) (by simp;omega)) U ?_
   refine Oa U (E3 2 3 29 U (ze U (Sr (Od zaT U (Ol zb2 U (k2.cell' U) (Od zaT U (Ol zb2 U (k3.cell' U) (Og (zz U U) U ?_))))))))
   refine Oc znU U U U (ztY _ _) ?_
   rintro v40 w40⟨i,rfl,hi,rfl⟩
   refine Oa U (E1 4 U (zj ?_))
   repeat first|refine tr ?_|refine br ?_
   refine zw U U ?_
   exact⟨i,rfl,by simp[h3,hi],hc⟩
  refine za (Od yz U (Ol ag2 U (k2.cell' U) (Od yz U (Ol ag2 U (k3.cell' U) ?_))))
  refine Og (vt (zJ U U) (by simp[h2])) U ?_
  refine Oa U (E3 2 3 17 U (ze U (Sr (Od yz U (Ol ag2 U (k2.cell' U) (Od yz U (Ol ag2 U (k3.cell' U) (Og (zz U U) U ?_))))))))
  refine Oc znU U U U (ztY _ _) ?_
  rintro v28 w28⟨i,rfl,hi,rfl⟩
  refine Oa U (E1 4 U (zj ?_))
  repeat first|refine tr ?_|refine br ?_
  refine zw U U ?_
  exact⟨i,rfl,by simp[h2,hi],hc⟩
 refine za (Od zal U (Ol zbS U (k2.cell' U) (Od zal U (Ol zbS U (k3.cell' U) ?_))))
 refine Og (vt (zJ U U) (by simp[h1])) U ?_
 refine Oa U (E3 2 3 5 U (ze U (Sr (Od zal U (Ol zbS U (k2.cell' U) (Od zal U (Ol zbS U (k3.cell' U) (Og (zz U U) U ?_))))))))
 refine Oc znU U U U (ztY _ _) ?_
 rintro v16 w16⟨i,rfl,hi,rfl⟩
 refine Oa U (E1 4 U (zj ?_))
 repeat first|refine tr ?_|refine br ?_
 refine zw U U ?_
 exact⟨i,rfl,by simp[h1,hi],hc⟩
theorem zk7{α:Type}{l m:List α}{j:Nat}(h:l.take j=m.take j)(hl:l.length≤j∨m.length≤j)(he:l.length=m.length):l=m:=by
 rw[Tl (by omega),Tl (by omega)]at h
 exact h
theorem zwv(v u:Va)(l m:List zX)(w:Wl)(hv:ya w v l)(hu:ya w u m)(hl:l.length≤1048576):zS TP 84 #[v,u] w fun r w'=>∃i:Int,r=Ii i∧(i=0↔l=m)∧zk [] w w':=by
 obtain⟨pv,cv,rfl,_⟩:=id (zN.val hv)
 obtain⟨pu,cu,rfl,_⟩:=id (zN.val hu)
 refine A2 Tryz.func84 U U ?_
 refine Sr (Oa U (E2 0 1 U ?_))
 refine zR (fun F wx=>∃(j:Nat) (f16:Va),F=[(0,.slice pv l.length cv),(1,.slice pu m.length cu),(5,Ii j),(16,f16)]∧l.take j=m.take j∧(l.length≤j∨m.length≤j)∧zk [] w wx) ?_ ?_
 ·refine Sr (Oa U (E3 0 1 5 U (zp ?_)))
  refine zQ [0,1,5] (fun k F wx=>∃j:Nat,k=l.length-j∧j≤l.length∧j≤m.length∧F=[(0,.slice pv l.length cv),(1,.slice pu m.length cu),(5,Ii j)]∧l.take j=m.take j∧zk [] w wx) (m:=l.length-0) ⟨0,rfl,Zl _,Zl _,rfl,by simp,zk.refl _ _⟩ ?_
  rintro k F wx⟨j,rfl,hj,hj',rfl,htk,hcx⟩
  refine zf (zf ?_)
  by_cases h1:j<l.length
  ·by_cases h2:j<m.length
   ·refine za (Om U (Om U (On yE U ?_)))
    refine Og (vt (zz U U) (dt (by omega))) U ?_
    refine Om U (Ov U (Ov U (Oi U (zV yE U) ?_)))
    refine Oi U (vt (zz U U) (dt (by omega))) ?_
    refine Ot U (E4 0 1 5 16 U (ze U (zm ?_)))
    have hx:l[j]?=some l[j]:=by simp[h1]
    have hy:m[j]?=some m[j]:=by simp[h2]
    generalize l[j]=x at hx
    generalize m[j]=y at hy
    refine zf (zp (zf ?_))
    have hd:zk [] wx wx.drew:=zk.drew [] _
    have hcl1:∀{wz:Wl},zk [] wx wz→∃b off cap,Value.slice pv l.length cv=.slice (some ⟨b,off,none⟩) l.length cap∧zv wz b (off+j*4) x.cs:=fun hc=>zN.at zbr (zN.chg0 hv (hcx.trans hc)) hx
    have hcl2:∀{wz:Wl},zk [] wx wz→∃b off cap,Value.slice pu m.length cu=.slice (some ⟨b,off,none⟩) m.length cap∧zv wz b (off+j*4) y.cs:=fun hc=>zN.at zbr (zN.chg0 hu (hcx.trans hc)) hy
    obtain⟨b,off,cap,hve,-⟩:=hcl1 (zk.refl [] wx)
    obtain⟨b',off',cap',hue,-⟩:=hcl2 (zk.refl [] wx)
    cases hve
    cases hue
    have hc1:∀{wz:Wl},zk [] wx wz→zv wz b (off+j*4) x.cs:=fun hc=>by
     obtain⟨_,_,_,he,h⟩:=hcl1 hc
     cases he;exact h
    have hc2:∀{wz:Wl},zk [] wx wz→zv wz b' (off'+j*4) y.cs:=fun hc=>by
     obtain⟨_,_,_,he,h⟩:=hcl2 hc
     cases he;exact h
    refine zH (fun wz=>zk [] wx wz) mix (by kernel_rfl) hd ?_
    refine Tm U (Tm U ?_)
    refine Tp (fun _=>zi yE ym U U _ U h1) U ?_
    refine Tr (fun wz hz=>zh zaJ ym U U (hc1 hz)) U (Tm U (Tm U ?_))
    refine Tp (fun _=>zi yE ym U U _ U h2) U ?_
    refine Tr (fun wz hz=>zh zaJ ym U U (hc2 hz)) U ?_
    refine Tc zAr U U U (zvX x y _) ?_
    rintro v27 w27⟨i,rfl,hi,c27⟩
    refine⟨.inl (hd.trans c27),?_⟩
    refine Ta U (D4 0 1 5 6 U (zf ?_))
    by_cases hxy:x=y
    ·have hi0:=hi.2 hxy
     subst hi0
     refine za (Om U ?_)
     refine Og (vf (zJ U U) (zcp (by omega))) U ?_
     refine E5 0 1 5 6 29 U (zb U (zT (zl (za (Om U ?_)))))
     refine Og (zG U U (by omega)) U ?_
     refine Oa U (N3 0 1 5 U ?_)
     refine⟨l.length-(j+1),by omega,j+1,rfl,by omega,by omega,rfl,?_,(hcx.trans hd).trans c27⟩
     rw[yq hx,yq hy,htk,hxy]
    have hi0:i≠0:=fun h=>hxy (hi.1 h)
    refine za (Om U ?_)
    refine Og (vt (zJ U U) (by simp[hi0])) U ?_
    refine E5 0 1 5 6 29 U (ze U (Sr (Om U (Oa U (E1 4 U (zj ?_))))))
    repeat first|refine tr ?_|refine br ?_
    refine zw U U ?_
    refine⟨i,U,⟨fun h=>absurd h hi0,fun h=>?_⟩,(hcx.trans hd).trans c27⟩
    rw[h,hy]at hx
    cases hx
    exact absurd U hxy
   refine za (Om U (Om U (On yE U ?_)))
   refine Og (vt (zz U U) (dt (by omega))) U ?_
   refine Om U (Ov U (Ov U (Oi U (zV yE U) ?_)))
   refine Oi U (vf (zz U U) (df (by omega))) ?_
   refine Ot U (E4 0 1 5 16 U (zb U ?_))
   refine zI ?_
   repeat first|refine te ?_|refine bo rfl ?_
   refine zq _ ?_
   exact⟨j,_,rfl,htk,.inr (by omega),hcx⟩
  refine za (Om U (Om U (On yE U ?_)))
  refine Og (vf (zz U U) (df (by omega))) U ?_
  refine Om U (Ok U (Ok U (Ok U (Ok U (Of U (E4 0 1 5 16 U (zb U ?_)))))))
  refine zI ?_
  repeat first|refine te ?_|refine bo rfl ?_
  refine zq _ ?_
  exact⟨j,_,rfl,htk,.inl (by omega),hcx⟩
 rintro F wx⟨j,f16,rfl,htk,hend,hcx⟩
 refine zf (zf ?_)
 by_cases he:l.length=m.length
 ·refine za (Om U (On yE U (Om U (On yE U ?_))))
  refine Og (vt (zy U U) (by simp[he])) U ?_
  refine E3 0 1 35 U (ze U (Sr (Oa U (E1 4 U (zj ?_)))))
  repeat first|refine tr ?_|refine br ?_
  refine zw U U ?_
  exact⟨0,rfl,by simp[zk7 htk hend he],hcx⟩
 refine za (Om U (On yE U (Om U (On yE U ?_))))
 refine Og (vf (zy U U) (by simp;omega)) U ?_
 refine E3 0 1 35 U (zb U (zm (Sr (Om U (On yE U (Om U (On yE U (Og (zz U U) U ?_))))))))
 refine Oc znU U U U (ztY _ _) ?_
 rintro v41 w41⟨i,rfl,hi,rfl⟩
 refine Oa U (E1 4 U (zj ?_))
 refine zw U U ?_
 exact⟨i,rfl,⟨fun h=>absurd h hi,fun h=>absurd (by rw[h]) he⟩,hcx⟩
theorem zoz(v u:Va)(l m:List zX)(w:Wl)(hv:ya w v l)(hu:ya w u m)(hl:l.length≤1048576):zS TP 46 #[v,u] w fun r w'=>r=.bool (decide (l=m))∧zk [] w w':=by
 refine A2 Tryz.func46 U U ?_
 refine Sr (Oa U (E2 0 1 U (Sr (Om U (Om U ?_)))))
 refine Oc zDF U U U (zwv v u l m w hv hu hl) ?_
 rintro v7 w7⟨i,rfl,hi,c7⟩
 refine Og (zy U U) U (Oa U (E1 4 U (zj ?_)))
 refine zw U U ?_
 refine⟨?_,c7⟩
 congr 1
 rw[decide_eq_decide]
 exact hi
theorem zoD(v u:Va)(l m:LV)(w:Wl)(hv:zos w v l)(hu:zos w u m)(hl:∀r∈l,r.length≤1048576)(hn:l.length≤1048576):zS TP 92 #[v,u] w fun r w'=>r=.bool (decide (l=m))∧zk [] w w':=by
 obtain⟨pv,cv,rfl,_⟩:=id (zbT.val hv)
 obtain⟨pu,cu,rfl,_⟩:=id (zbT.val hu)
 refine A2 Tryz.func92 U U ?_
 refine Sr (Oa U (E2 0 1 U (zf (zf ?_))))
 by_cases he:l.length=m.length
 ·refine za (Om U (On zbZ U (Om U (On zbZ U ?_))))
  refine Og (vf (zJ U U) (by simp[he])) U ?_
  refine E3 0 1 10 U (zb U (zm (zf (Sr (Oa U (E3 0 1 5 U (zp ?_)))))))
  refine zQ [0,1,5] (fun k F wx=>∃j:Nat,k=l.length-j∧j≤l.length∧F=[(0,.slice pv l.length cv),(1,.slice pu m.length cu),(5,Ii j)]∧l.take j=m.take j∧zk [] w wx) (m:=l.length-0) ⟨0,rfl,Zl _,rfl,by simp,zk.refl _ _⟩ ?_
  rintro k F wx⟨j,rfl,hj,rfl,htk,hcx⟩
  refine zf (Sr (Om U (Om U (On zbZ U (Og (zz U U) U (E4 0 1 5 14 U ?_))))))
  refine zP U (fun hT=>?_) (fun hF=>?_)
  ·refine zm ?_
   have h1:j<l.length:=by have:=of_decide_eq_true hT;omega
   have hx:l[j]?=some l[j]:=by simp[h1]
   have hy:m[j]?=some (m[j]'(by omega)):=by simp
   generalize l[j]=x at hx
   generalize m[j]'(by omega)=y at hy
   have hxl:=hl x (Mg hx)
   refine zf (zp (zf ?_))
   have hd:zk [] wx wx.drew:=zk.drew [] _
   obtain⟨b,off,cap,ux,hve,hc1,hux⟩:=zbT.at (hv.chg0 hcx) hx
   obtain⟨b',off',cap',uy,hue,hc2,huy⟩:=zbT.at (hu.chg0 hcx) hy
   cases hve
   cases hue
   have g1:∀{wz:Wl},zk [] wx wz→wz.cell? ⟨b,off+j*1,none⟩=some ux:=fun hc=>zk.cell hc hc1
   have g2:∀{wz:Wl},zk [] wx wz→wz.cell? ⟨b',off'+j*1,none⟩=some uy:=fun hc=>zk.cell hc hc2
   refine zH (fun wz=>zk [] wx wz) mix (by kernel_rfl) hd ?_
   refine Tm U (Tm U ?_)
   refine Tp (fun _=>zi zbZ zeg U U _ U h1) U ?_
   refine Tr (fun wz hz=>zg yU U (g1 hz)) U (Tm U (Tm U ?_))
   refine Tp (fun _=>zi zbZ zeg U U _ U (show j<m.length by omega)) U ?_
   refine Tr (fun wz hz=>zg yU U (g2 hz)) U ?_
   refine Tc zzy U U U (zoz ux uy x y _ (zN.chg0 hux hd) (zN.chg0 huy hd) hxl) ?_
   rintro v25 w25⟨rfl,c25⟩
   refine⟨.inl (hd.trans c25),?_⟩
   refine Tp (fun _=>zC U) U (D4 0 1 5 26 U ?_)
   by_cases hxy:x=y
   ·rw[dt hxy]
    refine zb U (zT (zl (za (Om U ?_))))
    refine Og (zG U U (by omega)) U ?_
    refine Oa U (N3 0 1 5 U ?_)
    refine⟨l.length-(j+1),by omega,j+1,rfl,by omega,rfl,?_,(hcx.trans hd).trans c25⟩
    rw[yq hx,yq hy,htk,hxy]
   rw[df hxy]
   refine ze U (Sr (Oa U (E1 4 U (zj ?_))))
   repeat first|refine tr ?_|refine br ?_
   refine zw U U ?_
   refine⟨?_,(hcx.trans hd).trans c25⟩
   rw[df fun h=>?_]
   rw[h,hy]at hx
   cases hx
   exact hxy U
  refine zI ?_
  repeat first|refine te ?_|refine bo rfl ?_
  refine zq _ ?_
  have h1:l.length≤j:=by have:=of_decide_eq_false hF;omega
  refine Sr (Oa U (E1 4 U (zj ?_)))
  refine zw U U ?_
  rw[dt (zk7 htk (.inl h1) he)]
  exact⟨U,hcx⟩
 refine za (Om U (On zbZ U (Om U (On zbZ U ?_))))
 refine Og (vt (zJ U U) (by simp;omega)) U ?_
 refine E3 0 1 10 U (ze U (Sr (Oa U (E1 4 U (zj ?_)))))
 repeat first|refine tr ?_|refine br ?_
 refine zw U U ?_
 rw[df fun h=>he (by rw[h])]
 exact⟨U,zk.refl _ _⟩
theorem zmp(x:zX):zcq x=true↔((0≤x.k∧x.k≤4)∧((x.k≠1∧x.k≠3)→x.i=0)∧(x.k≠2→x.u=0)∧(x.k≠4→x.b=e0)∧(x.k=3→x.i=0∨x.i=1)):=by
 obtain⟨k,i,u,b⟩:=x
 simp only[zcq,zhP,ze9,zrp,Bool.and_eq_true,Bool.or_eq_true,decide_eq_true_eq,Bool.not_eq_true',decide_eq_false_iff_not,zX.mk.injEq,true_and]
 constructor
 ·rintro ⟨⟨h0,h1,h2,h3⟩,h4⟩
  refine⟨h0,fun h=>?_,fun h=>?_,fun h=>?_,fun h=>?_⟩
  ·rw[if_neg (by omega)]at h1;exact h1
  ·rw[if_neg h]at h2;exact h2
  ·rw[if_neg h]at h3;exact h3
  omega
 rintro⟨h0,h1,h2,h3,h4⟩
 refine⟨⟨h0,?_,?_,?_⟩,by omega⟩
 ·split
  ·rfl
  exact h1 (by omega)
 ·split
  ·rfl
  exact h2 (by assumption)
 split
 ·rfl
 exact h3 (by assumption)
theorem zlN(x:zX)(w:Wl):zS TP 121 #[x.v] w fun r w'=>r=Ii (za2 x)∧zk [] w w':=by
 refine A1 Tryz.func121 U U ?_
 refine Sr ?_
 refine Ob U U ?_
 intro b1 w1 e1 n1 c1 k1
 refine Oa U (E1 1 U ?_)
 have k1:zO w1 b1 111 x.cs:=k1
 refine Sr (Od zal U (Ol zbS U (k1.cell' (i:=0) U) (Oa U (E2 1 3 U (zf (Sr (Om U (Og (zz U U) U (Om U ?_)))))))))
 apply ze6 (t:=11)
 case h0=>
  intro H
  refine Ok U (Ok U (Ot U ?_))
  exact yL [9,10] U H
 case h1=>
  intro hc H
  refine Ov U (Oi U (zU U U) (Of U ?_))
  exact yL [9,10] U H
 refine Om U ?_
 apply ze6 (t:=24)
 case h0=>
  intro H
  refine Ok U (Ok U (Ok U (Oh U U (Oh U U (Ok U (Ok U (Oh U U (Oh U U (Oh U U (Ok U (Ot U ?_)))))))))))
  exact yL [13,14,15,16,17,18,19,20,21,22,23] U H
 case h1=>
  intro hc H
  refine Ov U (Oi U (zJ U U) (Ov U ?_))
  apply zc0 (t:=18)
  case h0=>
   intro H
   refine Ok U (Ok U (Oi U (zE U U) ?_))
   exact yL [16,17] U H
  case h1=>
   intro hc H
   refine Ov U (Oi U (zJ U U) (Oi U (zD U U) ?_))
   exact yL [16,17] U H
  refine Ov U ?_
  apply zc0 (t:=23)
  case h0=>
   intro H
   refine Ok U (Ok U (Ok U (Oi U (zE U U) ?_)))
   exact yL [20,21,22] U H
  case h1=>
   intro hc H
   refine Oi U (zd yz U) (Oi U (zg ag2 U (k1.cell' (i:=1) U)) (Oi U (zJ U U) (Oi U (zD U U) ?_)))
   exact yL [20,21,22] U H
  refine Of U ?_
  exact yL [13,14,15,16,17,18,19,20,21,22,23] U H
 refine Om U ?_
 apply ze6 (t:=33)
 case h0=>
  intro H
  refine Ok U (Ok U (Ok U (Oh U U (Oh U U (Oh U U (Ok U (Ot U ?_)))))))
  exact yL [26,27,28,29,30,31,32] U H
 case h1=>
  intro hc H
  refine Ov U (Oi U (zJ U U) (Ov U ?_))
  apply zc0 (t:=32)
  case h0=>
   intro H
   refine Ok U (Ok U (Ok U (Oi U (zE U U) ?_)))
   exact yL [29,30,31] U H
  case h1=>
   intro hc H
   refine Oi U (zd zaT U) (Oi U (zg zb2 U (k1.cell' (i:=2) U)) (Oi U (zJ U U) (Oi U (zD U U) ?_)))
   exact yL [29,30,31] U H
  refine Of U ?_
  exact yL [26,27,28,29,30,31,32] U H
 refine Om U ?_
 apply ze6 (t:=42)
 case h0=>
  intro H
  refine Ok U (Ok U (Ok U (Oh U U (Oh U U (Oh U U (Ok U (Ot U ?_)))))))
  exact yL [35,36,37,38,39,40,41] U H
 case h1=>
  intro hc H
  refine Ov U (Oi U (zJ U U) (Ov U ?_))
  apply zc0 (t:=41)
  case h0=>
   intro H
   refine Ok U (Ok U (Ok U (Oi U (zE U U) ?_)))
   exact yL [38,39,40] U H
  case h1=>
   intro hc H
   refine Oi U (zd zaK U) (Oi U (zg yI U (k1.cell' (i:=3) U)) (Oi U (zcj U U) (Oi U (zD U U) ?_)))
   exact yL [38,39,40] U H
  refine Of U ?_
  exact yL [35,36,37,38,39,40,41] U H
 refine Om U ?_
 apply ze6 (t:=56)
 case h0=>
  intro H
  refine Ok U (Ok U (Ok U (Oh U U (Oh U U (Oh U U (Ok U (Ok U (Oh U U (Oh U U (Oh U U (Ok U (Ot U ?_))))))))))))
  exact yL [44,45,46,47,48,49,50,51,52,53,54,55] U H
 case h1=>
  intro hc H
  refine Ov U (Oi U (zy U U) (Ov U ?_))
  apply zc0 (t:=50)
  case h0=>
   intro H
   refine Ok U (Ok U (Ok U (Oi U (zE U U) ?_)))
   exact yL [47,48,49] U H
  case h1=>
   intro hc H
   refine Oi U (zd yz U) (Oi U (zg ag2 U (k1.cell' (i:=1) U)) (Oi U (zJ U U) (Oi U (zD U U) ?_)))
   exact yL [47,48,49] U H
  refine Ov U ?_
  apply zc0 (t:=55)
  case h0=>
   intro H
   refine Ok U (Ok U (Ok U (Oi U (zE U U) ?_)))
   exact yL [52,53,54] U H
  case h1=>
   intro hc H
   refine Oi U (zd yz U) (Oi U (zg ag2 U (k1.cell' (i:=1) U)) (Oi U (zJ U U) (Oi U (zD U U) ?_)))
   exact yL [52,53,54] U H
  refine Of U ?_
  exact yL [44,45,46,47,48,49,50,51,52,53,54,55] U H
 refine E2 1 56 U ?_
 refine zP U (fun hT=>?_) (fun hF=>?_)
 ·refine Sr (Oa U (E1 2 U (zj ?_)))
  repeat first|refine tr ?_|refine br ?_
  refine zw U U ?_
  have hff:zcq x=false:=by
   cases hf:zcq x with
   |false=>rfl
   |true=>
    exfalso
    obtain⟨h0,h1,h2,h3,h4⟩:=(zmp x).1 hf
    have e:(⟨#[]⟩:By)=e0:=rfl
    simp only[e,Bool.or_eq_true,Bool.and_eq_true,decide_eq_true_eq,Bool.not_eq_true',decide_eq_false_iff_not]at hT
    by_cases hb:x.b=e0
    ·simp only[hb,not_true,and_false,or_false]at hT;omega
    have:x.k=4:=by
     rcases Classical.em (x.k=4) with h|h
     ·exact h
     exact absurd (h3 h) hb
    simp only[hb,not_false_iff,and_true]at hT;omega
  refine⟨?_,c1⟩
  rw[za2,hff];rfl
 refine zm ?_
 have hff:zcq x=true:=by
  rw[zmp]
  have e:(⟨#[]⟩:By)=e0:=rfl
  simp only[e,Bool.or_eq_false_iff,Bool.and_eq_false_iff,decide_eq_false_iff_not,Bool.not_eq_false',decide_eq_true_eq]at hF
  refine⟨by omega,fun h=>by omega,fun h=>by omega,fun h=>?_,fun h=>by omega⟩
  by_cases hb:x.b=e0
  ·exact hb
  simp only[hb,or_false]at hF;omega
 refine zf (zf ?_)
 by_cases hl:200<x.b.size
 ·refine za (Od zaK U (Ol yI U (k1.cell' (i:=3) U) (Og (yV st9 U) U ?_)))
  refine Og (vt (zU U U) (by simp;omega)) U ?_
  refine E1 60 U (ze U (Sr (Oa U (E1 2 U (zj ?_)))))
  repeat first|refine tr ?_|refine br ?_
  refine zw U U ?_
  refine⟨?_,c1⟩
  rw[za2,hff,if_neg (by simp),if_pos hl]
 refine za (Od zaK U (Ol yI U (k1.cell' (i:=3) U) (Og (yV st9 U) U ?_)))
 refine Og (vf (zU U U) (by simp;omega)) U ?_
 refine E1 60 U (zb U (zm (Sr (Oa U (E1 2 U (zj ?_))))))
 refine zw U U ?_
 refine⟨?_,c1⟩
 rw[za2,hff,if_neg (by simp),if_neg hl]
end Go.Wk
