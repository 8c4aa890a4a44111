/- joined texts -/
import Derived.Test.YtkfpmjjcogigfaaGreatDoorW16
import Derived.Test.YtkfpmjjcogigfaaGreatDoorRows
import Derived.ProofKit
import Derived.OpenShut
import Derived.Deep.Slices
import Derived.LaidMore
import Derived.ChangeSame
import Derived.LaidHandle
import Derived.Stop.Joined
import Derived.SevenTiedAt
set_option linter.all false
namespace Go.Wk
open Go.Proofs
set_option linter.unusedSectionVars false
variable [Lw]
set_option maxRecDepth 10000
def tT:By:=⟨#[116]⟩
def uU:By:=⟨#[117]⟩
def wW:By:=⟨#[119]⟩
def zez(n:By)(l:List zT):EvT:=⟨1,n,zcm,[],l,[]⟩
def zej(n:By)(l:List zT):EvT:=⟨3,n,zcm,l,[],[]⟩
def zm3:List (By×By):=[(tT,uU),(uU,tT)]
def znx:List (By×By):=[(tT,uU)]
def wc1:Cat:=doC [] (zaZ tT)
def wc2:Cat:=doC wc1 (zaZ uU)
def wc3:Cat:=doC wc2 (zb7 zm3)
def wc4:Cat:=doC wc3 (zb7 znx)
def wc5:Cat:=doC wc4 (yq wW)
def wc6:Cat:=doC wc5 (zez tT (zdC 1))
def wc7:Cat:=doC wc6 (zej tT (zdC 2))
def wc8:Cat:=zkv wc7 [yq tT,yq tT]
theorem wk1:doE [] (zaZ tT)=0:=by decide +kernel
theorem wk2:doE wc1 (zaZ uU)=0:=by decide +kernel
theorem wk3:doE wc2 (zb7 zm3)=0:=by decide +kernel
theorem wk4:doE wc3 (zb7 znx)=220:=by decide +kernel
theorem wk5:doE wc4 (yq wW)=5:=by decide +kernel
theorem wk6:doE wc5 (zez tT (zdC 1))=0:=by decide +kernel
theorem wk7:doE wc6 (zej tT (zdC 2))=230:=by decide +kernel
theorem wk8:zek wc7 [yq tT,yq tT] 0=(1,5):=by decide +kernel
theorem wk9:(atC wc8 tT).isSome=true:=by decide +kernel
theorem wq1:doC [] (zaZ tT)=wc1:=rfl
theorem wq2:doC wc1 (zaZ uU)=wc2:=rfl
theorem wq3:doC wc2 (zb7 zm3)=wc3:=rfl
theorem wq4:doC wc3 (zb7 znx)=wc4:=rfl
theorem wq5:doC wc4 (yq wW)=wc5:=rfl
theorem wq6:doC wc5 (zez tT (zdC 1))=wc6:=rfl
theorem wq7:doC wc6 (zej tT (zdC 2))=wc7:=rfl
theorem wq8:zkv wc7 [yq tT,yq tT]=wc8:=rfl
attribute [irreducible] wc1 wc2 wc3 wc4 wc5 wc6 wc7 wc8
attribute [local irreducible] doE doC zek zkv atC
theorem zf5:zcm.Sm:=⟨by decide,by decide,by decide,by simp[zcm]⟩
theorem zhk{n:By}(h:n.size≤1048576):zce (yq n):=⟨zf5,by simp[yq],by simp[yq],by simp[yq],h,by simp[yq,zcm],by simp[yq]⟩
theorem zjJ{n:By}(h:n.size≤1048576):zce (zaZ n):=⟨⟨by simp[zaZ,zjj],by simp[zaZ,zjj],by simp[zaZ,zjj],by simp[zjj,zaZ]⟩,by simp[zaZ],by simp[zaZ],by simp[zaZ],h,by intro c hc;simp[zaZ,zjj]at hc;subst hc;decide,by simp[zaZ]⟩
theorem ziC{m:List (By×By)}(h:m.length≤1048576)(hm:∀p∈m,p.1.size≤9223372036854775807∧p.2.size≤9223372036854775807):zce (zb7 m):=⟨zf5,by simp[zb7],by simp[zb7],h,by show e0.size≤1048576;decide,by simp[zb7,zcm],hm⟩
theorem zqB{n:By}{i:Int}(h:n.size≤1048576):zce (zez n (zdC i)):=⟨zf5,by simp[zez],by simp[zez,zdC],by simp[zez],h,by simp[zez,zcm],by simp[zez]⟩
theorem zqt{n:By}{i:Int}(h:n.size≤1048576):zce (zej n (zdC i)):=⟨zf5,by simp[zej,zdC],by simp[zej],by simp[zej],h,by simp[zej,zcm],by simp[zej]⟩
theorem zly{i:Int}(h : -9223372036854775808≤i∧i≤9223372036854775807):∀y∈zdC i,y.Rng:=by
 intro y hy
 simp[zdC]at hy
 subst hy
 exact⟨by simp,h,by simp⟩
theorem zrN{n:By}{i:Int}{v:Va}{w:Wl}(h:yn w v (zdC i))(hi : -9223372036854775808≤i∧i≤9223372036854775807):za7 w { zgZ with n:=v } (zez n (zdC i)):=⟨zdg w,zO.nil _ _ _ _,h,zO.nil _ _ _ _,by simp[zez],by simp[zez],zly hi⟩
theorem zp5{n:By}{i:Int}{v:Va}{w:Wl}(h:yn w v (zdC i))(hi : -9223372036854775808≤i∧i≤9223372036854775807):za7 w { zgZ with o:=v } (zej n (zdC i)):=⟨zdg w,h,zO.nil _ _ _ _,zO.nil _ _ _ _,by simp[zej],zly hi,by simp[zej]⟩
theorem zrF(n:By){b:Nat}{w:Wl}(k:zK w b 39 (fl (fun p:EvT×EvV=>evC p.1 p.2) [(yq n,zgZ),(yq n,zgZ)])):zdd w (.slice (some ⟨b,0,none⟩) 2 2) [yq n,yq n]:=
 ⟨[(yq n,zgZ),(yq n,zgZ)],(zw.of_blk (n:=2) k rfl (by simp[maxLen]) (by
  intro u hu
  simp only[fl,List.flatMap_cons,List.flatMap_nil,List.append_nil,List.mem_append]at hu
  rcases hu with h|h<;>exact(zer n w).one u h)).toRd,by
  intro p hp
  simp at hp
  subst hp
  exact zer n w,U⟩
set_option maxHeartbeats 1000000 in
theorem zjV(w:Wl)(hE:EOk w)(hN:Lw.n≤w.heap.size):zL TP 9 #[] w fun r w'=>r=.bool true∧zl [] w w':=by
 refine zL.of_W (args:=[]) Tryz.func9 U U U U ?_
 refine Sr (Oa U (zac [] (F':=[]) U (Sr ?_)))
 refine Oc ztX U U U (zuW hE hN) ?_
 rintro v11 w11⟨p,rfl,K,c11⟩
 refine Oa U (E1 1 U ?_)
 have st:tT.size≤1048576:=by decide
 have su:uU.size≤1048576:=by decide
 have sw:wW.size≤1048576:=by decide
 have m1:∀q∈zm3,q.1.size≤9223372036854775807∧q.2.size≤9223372036854775807:=by decide
 have m2:∀q∈znx,q.1.size≤9223372036854775807∧q.2.size≤9223372036854775807:=by decide
 refine Sr (Om U ?_)
 refine Oc zxH U U U (ziN tT _) ?_
 rintro v13 w13⟨e13,rfl,h13,c13⟩
 refine Oc zhS U U U (zji (K.chg0 c13) h13 (zjJ st)) ?_
 rintro v14 w14⟨e14,K14,n14⟩
 rw[wk1]at e14
 subst e14
 rw[wq1]at K14
 refine Oc zhQ U U U (zca _ _) ?_
 rintro v15 w15⟨rfl,rfl⟩
 refine Om U ?_
 refine Oc zxH U U U (ziN uU _) ?_
 rintro v17 w17⟨e17,rfl,h17,c17⟩
 refine Oc zhS U U U (zji (K14.chg0 c17) h17 (zjJ su)) ?_
 rintro v18 w18⟨e18,K18,n18⟩
 rw[wk2]at e18
 subst e18
 rw[wq2]at K18
 refine Oc zhQ U U U (zca _ _) ?_
 rintro v19 w19⟨rfl,rfl⟩
 refine Og (yQ (v':=Ii ((0:Nat):Int)) (zG U U (by omega)) (by congr 1)) U ?_
 refine Om U ?_
 refine Og (zcN zdt sz9 zlr U (vs:=[_,_]) U (css:=[_,_]) ⟨U,U,trivial⟩ U U (cs:=[_,_]) U) U ?_
 refine Og (zcN zdt sz9 zlr U (vs:=[_,_]) U (css:=[_,_]) ⟨U,U,trivial⟩ U U (cs:=[_,_]) U) U ?_
 refine Oq (zz zsA U (vs:=[_,_]) U (css:=[_,_]) ⟨U,U,trivial⟩ U U (cs:=[_,_,_,_]) U U ?_)
 intro b24 w24 e24 n24 c24 k24
 refine Oc zwv U U U (zga _ zm3 _ (zO.of_blk (l:=zm3) zbw zkF k24 (by simp[zm3,maxLen]))) ?_
 rintro v25 w25⟨rfl,h25,c25⟩
 refine Oc zhS U U U (zji ((K18.chg0 c24).chg0 c25) h25 (ziC (by decide) m1)) ?_
 rintro v26 w26⟨e26,K26,n26⟩
 rw[wk3]at e26
 subst e26
 rw[wq3]at K26
 refine Oc zhQ U U U (zca _ _) ?_
 rintro v27 w27⟨rfl,rfl⟩
 refine Og (yQ (v':=Ii ((0:Nat):Int)) (zG U U (by omega)) (by congr 1)) U ?_
 refine Oa U (E2 1 2 U (Sr (Om U ?_)))
 refine Og (zcN zdt sz9 zlr U (vs:=[_,_]) U (css:=[_,_]) ⟨U,U,trivial⟩ U U (cs:=[_,_]) U) U ?_
 refine Oq (zz zsA U (vs:=[_]) U (css:=[_]) ⟨U,trivial⟩ U U (cs:=[_,_]) U U ?_)
 intro b31 w31 e31 n31 c31 k31
 refine Oc zwv U U U (zga _ znx _ (zO.of_blk (l:=znx) zbw zkF k31 (by simp[znx,maxLen]))) ?_
 rintro v32 w32⟨rfl,h32,c32⟩
 refine Oc zhS U U U (zji ((K26.chg0 c31).chg0 c32) h32 (ziC (by decide) m2)) ?_
 rintro v33 w33⟨e33,K33,n33⟩
 rw[wk4]at e33
 subst e33
 rw[wq4]at K33
 refine Om U ?_
 refine Oc zs5 U U U (zgB wW _) ?_
 rintro v35 w35⟨rfl,c35⟩
 refine Oc zhS U U U (zji (K33.chg0 c35) (zer wW _) (zhk sw)) ?_
 rintro v36 w36⟨e36,K36,n36⟩
 rw[wk5]at e36
 subst e36
 rw[wq5]at K36
 refine Oa U (Oa U (E4 1 2 3 4 U (Sr (Om U ?_))))
 refine Oc zx6 U U U (zn4 1 _) ?_
 rintro v38 w38⟨b38,rfl,f38,k38,c38⟩
 have i38:za7 w38 { zgZ with n:=.slice (some ⟨b38,0,none⟩) 1 1 } (zez tT (zdC 1)):=zrN (n:=tT) (zn3 k38) (by omega)
 have d38:=zji (K36.chg0 c38) i38 (zqB st)
 refine Og (zbP zkg ze2 U (qs:=[(0,_),(1,_),(4,_)]) U (css:=[_,_,_]) ⟨U,U,U,trivial⟩ (cs:=[_,_,_,_,_,_,_,_]) U) U ?_
 refine Oc zhS U U U d38 ?_
 rintro v40 w40⟨e40,K40,n40⟩
 rw[wk6]at e40
 subst e40
 rw[wq6]at K40
 refine Om U ?_
 refine Oc zx6 U U U (zn4 2 _) ?_
 rintro v42 w42⟨b42,rfl,f42,k42,c42⟩
 have i42:za7 w42 { zgZ with o:=.slice (some ⟨b42,0,none⟩) 1 1 } (zej tT (zdC 2)):=zp5 (n:=tT) (zn3 k42) (by omega)
 have d42:=zji (K40.chg0 c42) i42 (zqt st)
 refine Og (zbP zkg ze2 U (qs:=[(0,_),(1,_),(3,_)]) U (css:=[_,_,_]) ⟨U,U,U,trivial⟩ (cs:=[_,_,_,_,_,_,_,_]) U) U ?_
 refine Oc zhS U U U d42 ?_
 rintro v44 w44⟨e44,K44,n44⟩
 rw[wk7]at e44
 subst e44
 rw[wq7]at K44
 refine Oa U (Oa U (E6 1 2 3 4 5 6 U (Sr (Om U ?_))))
 refine Oc zs5 U U U (zgB tT _) ?_
 rintro v47 w47⟨rfl,c47⟩
 refine Oc zs5 U U U (zgB tT _) ?_
 rintro v48 w48⟨rfl,c48⟩
 refine Oq (zz zwc U (vs:=[_,_]) U (css:=[_,_]) ⟨U,U,trivial⟩ U U (cs:=[_,_,_,_,_,_,_,_,_,_,_,_,_,_,_,_]) U U ?_)
 intro b49 w49 e49 n49 c49 k49
 refine Oc zyO U U U (zu9 (((K44.chg0 c47).chg0 c48).chg0 c49) (zrF tT k49) (by intro x hx;simp at hx;subst hx;exact zhk st) (by decide)) ?_
 rintro v50 w50⟨e50,K50,n50⟩
 rw[wk8]at e50
 subst e50
 rw[wq8]at K50
 refine Om U (Oe U U (Oe U U (Oa U (Oa U (E8 1 2 3 4 5 6 7 8 U (Sr (Om U ?_)))))))
 refine Oc zz2 U U U (zsH (n:=tT) K50) ?_
 rintro v55 w55⟨u55,e55,-,c55⟩
 rw[wk9]at e55
 subst e55
 refine Om U (Oe U U (Oe U U (Oa U (Oa U (E8 2 3 4 5 6 7 8 10 U ?_)))))
 have hc:=(K50.chg0 c55).ch
 refine Sr (Om U (Og (vt (zA U U) U) U (Om U (Oj U U ?_))))
 refine Ow U U zhQ U U U (zca _ _) ?_
 rintro v62 w62⟨rfl,rfl⟩
 refine Oy U U (vt (zA U U) U) (Ot U (Om U (Oj U U ?_)))
 refine Ow U U zhQ U U U (zca _ _) ?_
 rintro v67 w67⟨rfl,rfl⟩
 refine Oy U U (vt (zA U U) U) (Ot U (Om U (Oj U U ?_)))
 refine Ow U U zhQ U U U (zca _ _) ?_
 rintro v72 w72⟨rfl,rfl⟩
 refine Oy U U (vt (zA U U) U) (Ot U (Om U (Oj U U ?_)))
 refine Ow U U zhQ U U U (zca _ _) ?_
 rintro v77 w77⟨rfl,rfl⟩
 refine Oy U U (vt (zA U U) U) (Ot U (Om U (Oj U U (Oy U U (vt (zA U U) U) (Ot U (Om U (Oj U U ?_)))))))
 refine Ow U U zhQ U U U (zca _ _) ?_
 rintro v86 w86⟨rfl,rfl⟩
 refine Oy U U (vt (zA U U) U) (Ot U (Om U (Oj U U (Ot U (Oa U (E1 0 U (zh ?_)))))))
 refine zx U U ?_
 exact⟨U,hc⟩
section
variable {s:yx} {R:LV} {o w:List zT}
theorem ziS{R':LV}(h:yA s R)(h':yA s R')(e:∀r,r∈R↔r∈R'):R=R':=zic (f:=zV s) h.srt h'.srt e
theorem zre(h:yA s R)(hg:∀x∈w,x.Rng)(he:zfi s R w=0):zai s w=0∧zbN s (zfu s R w) (zV s w)=some w∧zay s (zfu s R w) (zV s w)=R:=by
 obtain⟨h1,h2,h3⟩:=zv3 h he
 have e:zfu s R w=zcG s R w:=by unfold zfu;rw[if_pos he]
 have hk:yA s (zcG s R w):=h.ins h1 hg h2 h3
 rw[e]
 refine⟨h1,hk.get (zag.2 (.inl U)),ziS (hk.less _) h fun r=>?_⟩
 rw[zah,zag]
 constructor
 ·rintro ⟨rfl|hr,hn⟩
  ·exact absurd U hn
  exact hr
 intro hr
 refine⟨.inr hr,fun e=>?_⟩
 have:=zeE (h.fit r hr) h1 (h.rng r hr) hg e
 rw[h2 r hr]at this
 cases this
theorem zqj(h:yA s R)(ho:zbN s R (zV s o)=some o):zfi s (zay s R (zV s o)) o=0∧zfu s (zay s R (zV s o)) o=R:=by
 obtain⟨h1,-⟩:=zbY ho
 have hl:=h.less (zV s o)
 have hc:∀r∈zay s R (zV s o),zak s r o=false:=fun r hr=>by
  obtain⟨h2,h3⟩:=zah.1 hr
  refine zox fun hc=>h3 ?_
  rw[h.uniqC h2 h1 hc]
 have hlt:(zay s R (zV s o)).length<400:=by
  have hle:=h.le
  have:(zay s R (zV s o)).length<R.length:=by
   unfold zay
   rcases Nat.lt_or_ge (R.filter fun r=>decide (zV s r≠zV s o)).length R.length with h4|h4
   ·exact h4
   have h5:=List.length_filter_le (fun r=>decide (zV s r≠zV s o)) R
   have h6:=List.length_filter_eq_length_iff.1 (Nat.le_antisymm h5 h4) o h1
   simp at h6
  omega
 have he:zfi s (zay s R (zV s o)) o=0:=by
  unfold zfi
  rw[if_neg (by simp[h.fit o h1]),zgz hl,if_neg,if_neg (by omega)]
  simp only[List.any_eq_true,not_exists,not_and]
  intro r hr hcl
  rw[hc r hr]at hcl
  cases hcl
 refine⟨he,?_⟩
 unfold zfu
 rw[if_pos he]
 refine ziS (hl.ins (h.fit o h1) (h.rng o h1) hc hlt) h fun r=>?_
 rw[zag,zah]
 constructor
 ·rintro (rfl|⟨hr,_⟩)
  ·exact h1
  exact hr
 intro hr
 by_cases e:zV s r=zV s o
 ·exact .inl (h.uniq hr h1 e)
 exact .inr ⟨hr,e⟩
theorem zrK(h:yA s R)(hg:∀x∈w,x.Rng)(ho:zbN s R (zV s o)=some o)(he:zeH s R (zV s o) w=0) :
 zai s w=0∧zbN s (zfo s R (zV s o) w) (zV s w)=some w∧zeH s (zfo s R (zV s o) w) (zV s w) o=0∧zfo s (zfo s R (zV s o) w) (zV s w) o=R:=by
 obtain⟨h1,-⟩:=zbY ho
 obtain⟨h2,-,h3,h4⟩:=znj h he
 have e:zfo s R (zV s o) w=zcG s (zay s R (zV s o)) w:=by unfold zfo;rw[if_pos he]
 have hk:yA s (zcG s (zay s R (zV s o)) w):=(h.less _).ins h2 hg h3 h4
 have hgw:zbN s (zcG s (zay s R (zV s o)) w) (zV s w)=some w:=hk.get (zag.2 (.inl rfl))
 rw[e]
 have hc:∀r∈zay s (zcG s (zay s R (zV s o)) w) (zV s w),zak s r o=false∧r∈zay s R (zV s o):=fun r hr=>by
  obtain⟨g1,g2⟩:=zah.1 hr
  rcases zag.1 g1 with rfl|g1
  ·exact absurd U g2
  obtain⟨g3,g4⟩:=zah.1 g1
  refine⟨zox fun hc=>g4 ?_,g1⟩
  rw[h.uniqC g3 h1 hc]
 have he2:zeH s (zcG s (zay s R (zV s o)) w) (zV s w) o=0:=by
  unfold zeH
  rw[if_neg (by simp[h.fit o h1]),hgw,if_neg (by simp),if_neg]
  simp only[zc5,List.any_eq_true,not_exists,not_and,Bool.and_eq_true,decide_eq_true_eq]
  intro r hr hn hcl
  rw[(hc r (zah.2 ⟨hr,hn⟩)).1]at hcl
  cases hcl
 refine⟨h2,hgw,he2,?_⟩
 unfold zfo
 rw[if_pos he2]
 obtain⟨-,-,h5,h6⟩:=znj hk he2
 refine ziS ((hk.less _).ins (h.fit o h1) (h.rng o h1) h5 h6) h fun r=>?_
 rw[zag]
 constructor
 ·rintro (rfl|hr)
  ·exact h1
  exact(zah.1 (hc r hr).2).1
 intro hr
 by_cases e:zV s r=zV s o
 ·exact .inl (h.uniq hr h1 e)
 refine .inr (zah.2 ⟨zag.2 (.inr (zah.2 ⟨hr,e⟩)),fun ek=>?_⟩)
 have:=zeE (h.fit r hr) h2 (h.rng r hr) hg ek
 rw[h3 r (zah.2 ⟨hr,e⟩)]at this
 cases this
end
section
variable {c q d:Cat} {t u:Tb} {x y:EvT} {m:List (By×By)}
theorem zob(h:zaJ c)(t:Tb):atC (zaD c t) t.n=some t:=zlp (h.srt.with t) (zae.2 (.inl rfl))
theorem zpq(h:zaJ c)(ht:t∈c)(R:LV):zaD (zaD c ⟨t.n,t.s,R⟩) t=c:=by
 refine((h.srt.with _).with _).ext h.srt fun z=>?_
 rw[zae,zae]
 constructor
 ·rintro (rfl|⟨rfl|⟨h1,_⟩,h2⟩)
  ·exact ht
  ·exact absurd U h2
  exact h1
 intro hz
 by_cases e:z.n=t.n
 ·exact .inl (h.srt.uniq hz ht e)
 exact .inr ⟨.inr ⟨hz,e⟩,e⟩
theorem zif(h:zaJ c)(hat:atC c y.t=some t)(hy:z9 y=true)(h4:y.k≠4)(h5:y.k≠5)(h6:y.k≠6){R:LV}(he:zbI ⟨t.n,t.s,R⟩ y=0)(hr:zci ⟨t.n,t.s,R⟩ y=t.r) :
 doE (zaD c ⟨t.n,t.s,R⟩) y=0∧doC (zaD c ⟨t.n,t.s,R⟩) y=c:=by
 obtain⟨h1,h2⟩:=zbR hat
 have ha:atC (zaD c ⟨t.n,t.s,R⟩) y.t=some ⟨t.n,t.s,R⟩:=by
  rw[←h2]
  exact zob h ⟨t.n,t.s,R⟩
 have e:doE (zaD c ⟨t.n,t.s,R⟩) y=0:=by rw[zgT hy h6 ha,if_neg h4,if_neg h5,he]
 refine⟨e,?_⟩
 rw[zuM e h4 h5 h6 ha,hr]
 exact zpq h h1 R
theorem zin(hc:zd2 c):∀{m:List (By×By)} {q:Cat},(∀p∈m,(atC c p.1).isSome=true)→zcc c q m=false →
 (∀z,z∈zb2 c q m↔z∈q∨∃p∈m,∃y,atC c p.1=some y∧z=⟨p.2,y.s,y.r⟩)∧(m.map Prod.snd).Nodup∧∀p∈m,∀z∈q,z.n≠p.2
 |[],q,_,_=>⟨fun z=>by simp[zb2],by simp,by simp⟩
 |p::m,q,ha,ht=>by
  obtain⟨y,hy⟩:=Option.isSome_iff_exists.1 (ha p (by simp))
  unfold zcc at ht
  rw[Bool.or_eq_false_iff,zgK hy]at ht
  have hnone:atC q p.2=none:=by
   cases h:atC q p.2 with
   |none=>rfl
   |some z=>rw[h]at ht;cases ht.1
  have hq:=zgo hnone
  obtain⟨i1,i2,i3⟩:=zin hc (fun o ho=>ha o (by simp[ho])) ht.2
  rw[zfE,zgK hy]
  refine⟨fun z=>?_,?_,?_⟩
  ·rw[i1,zae]
   constructor
   ·rintro ((rfl|⟨h1,_⟩)|⟨o,ho,z',h1,h2⟩)
    ·exact .inr ⟨p,by simp,y,hy,rfl⟩
    ·exact .inl h1
    exact .inr ⟨o,by simp[ho],z',h1,h2⟩
   rintro (h1|⟨o,ho,z',h1,h2⟩)
   ·exact .inl (.inr ⟨h1,hq z h1⟩)
   rcases List.mem_cons.1 ho with rfl|ho
   ·rw[hy]at h1
    cases h1
    exact .inl (.inl h2)
   exact .inr ⟨o,ho,z',h1,h2⟩
  ·rw[List.map_cons,List.nodup_cons]
   refine⟨fun hm=>?_,i2⟩
   obtain⟨o,ho,e⟩:=List.mem_map.1 hm
   exact i3 o ho ⟨p.2,y.s,y.r⟩ (zae.2 (.inl U)) e.symm
  intro o ho z hz
  rcases List.mem_cons.1 ho with rfl|ho
  ·exact hq z hz
  exact i3 o ho z (zae.2 (.inr ⟨hz,hq z hz⟩))
theorem zmA:∀{m:List (By×By)} {q:Cat},(∀p∈m,(atC c p.1).isSome=true)→(m.map Prod.snd).Nodup→(∀p∈m,∀z∈q,z.n≠p.2)→zcc c q m=false
 |[],q,_,_,_=>rfl
 |p::m,q,ha,hn,hq=>by
  obtain⟨y,hy⟩:=Option.isSome_iff_exists.1 (ha p (by simp))
  rw[List.map_cons,List.nodup_cons]at hn
  unfold zcc
  rw[Bool.or_eq_false_iff,zgK hy]
  refine⟨?_,zmA (fun o ho=>ha o (by simp[ho])) hn.2 fun o ho z hz=>?_⟩
  ·cases h:atC q p.2 with
   |none=>rfl
   |some z=>
    obtain⟨h1,h2⟩:=zbR h
    exact absurd h2 (hq p (by simp) z h1)
  rcases zae.1 hz with rfl|⟨h1,_⟩
  ·exact fun e=>hn.1 (List.mem_map.2 ⟨o,ho,e.symm⟩)
  exact hq o (by simp[ho]) z h1
theorem zeq{p:By×By}:p∈zaM m↔(p.2,p.1)∈m:=by
 unfold zaM
 rw[List.mem_map]
 constructor
 ·rintro ⟨o,ho,rfl⟩
  exact ho
 intro h
 exact⟨_,h,U⟩
theorem zlX:(zaM m).map Prod.fst=m.map Prod.snd:=by simp[zaM]
theorem zqG:(zaM m).map Prod.snd=m.map Prod.fst:=by simp[zaM]
theorem zrV(h:zaJ c)(he:zeT c m=0):zeT (zdK c m) (zaM m)=0∧zdK (zdK c m) (zaM m)=c:=by
 obtain⟨h1,h2,h3⟩:=zp2 h he
 have hn:(m.map Prod.fst).Nodup:=by simpa[zd0] using h1
 have hd:=h.ren he
 obtain⟨i1,i2,i3⟩:=zin h.srt h2 h3
 have i1:∀z,z∈zdK c m↔(z∈c∧z.n∉m.map Prod.fst)∨∃p∈m,∃y,atC c p.1=some y∧z=⟨p.2,y.s,y.r⟩:=fun z=>by
  rw[←zdo];exact i1 z
 have hatd:∀p∈m,∃y,atC c p.1=some y∧atC (zdK c m) p.2=some ⟨p.2,y.s,y.r⟩:=fun p hp=>by
  obtain⟨y,hy⟩:=Option.isSome_iff_exists.1 (h2 p hp)
  exact⟨y,hy,zlp hd.srt ((i1 ⟨p.2,y.s,y.r⟩).2 (.inr ⟨p,hp,y,hy,U⟩))⟩
 have ha:∀p∈zaM m,(atC (zdK c m) p.1).isSome=true:=fun p hp=>by
  obtain⟨y,_,hy⟩:=hatd _ (zeq.1 hp)
  rw[hy];rfl
 have hr:∀z,z∈zbx (zdK c m) (zaM m)↔z∈c∧z.n∉m.map Prod.fst:=fun z=>by
  rw[zdo,i1,zlX]
  constructor
  ·rintro ⟨h4|⟨p,hp,y,_,rfl⟩,h5⟩
   ·exact h4
   exact absurd (List.mem_map.2 ⟨p,hp,U⟩) h5
  rintro h4
  refine⟨.inl h4,fun hm=>?_⟩
  obtain⟨p,hp,e⟩:=List.mem_map.1 hm
  exact i3 p hp z (zdo.2 h4) e.symm
 have ht:zcc (zdK c m) (zbx (zdK c m) (zaM m)) (zaM m)=false:=zmA ha (by rw[zqG];exact hn) fun p hp z hz e=>by
  refine((hr z).1 hz).2 (List.mem_map.2 ⟨(p.2,p.1),zeq.1 hp,e.symm⟩)
 have he2:zeT (zdK c m) (zaM m)=0:=by rw[zke (by rw[zlX];exact i2) ha,ht];rfl
 refine⟨he2,(hd.ren he2).srt.ext h.srt fun z=>?_⟩
 have j1:=(zin hd.srt ha ht).1 z
 rw[show zdK (zdK c m) (zaM m)=zb2 (zdK c m) (zbx (zdK c m) (zaM m)) (zaM m) from rfl,j1,hr]
 constructor
 ·rintro (⟨h4,_⟩|⟨p,hp,y',h4,rfl⟩)
  ·exact h4
  obtain⟨y,hy,hy'⟩:=hatd _ (zeq.1 hp)
  rw[hy']at h4
  cases h4
  obtain⟨g1,g2⟩:=zbR hy
  have:(⟨p.2,y.s,y.r⟩:Tb)=y:=by
   obtain⟨n,s,r⟩:=y
   simp only at g2
   rw[g2]
  rw[this]
  exact g1
 intro hz
 by_cases hm:z.n∈m.map Prod.fst
 ·obtain⟨p,hp,e⟩:=List.mem_map.1 hm
  obtain⟨y,hy,hy'⟩:=hatd p hp
  refine .inr ⟨(p.2,p.1),zeq.2 hp,_,hy',?_⟩
  have:y=z:=by
   have h4:=zlp h.srt hz
   rw[←e,hy]at h4
   cases h4
   rfl
  subst this
  show y=⟨p.1,y.s,y.r⟩
  rw[e]
 exact .inl ⟨hz,hm⟩
theorem znc(h:zdZ m=true):zdZ (zaM m)=true:=by
 simp only[zdZ,Bool.and_eq_true,decide_eq_true_eq,List.all_eq_true]at h ⊢
 refine⟨by simpa[zaM] using h.1,fun p hp=>?_⟩
 have:=h.2 _ (zeq.1 hp)
 exact⟨this.2,this.1⟩
theorem zmG{n:By}(h:zaF n=true):z9 (yq n)=true:=by
 refine zcV (by simp[yq]) ?_ ?_ ?_<;>simp[yq,yz,zei,h]
theorem zm6(h:z9 x=true)(hb:(zab x).2=true):z9 (zab x).1=true:=by
 obtain⟨h1,h2,h3,h4,h5,h6,h7,h8,h9,h10,h11⟩:=zvN.1 h
 unfold zab at hb ⊢
 by_cases k1:x.k=1
 ·rw[if_pos k1]
  have:=h7 (by omega)
  refine zcV (by simp) ?_ ?_ ?_<;>simp[yz,zei,(h3 (by omega)).1,this]
 by_cases k2:x.k=2
 ·rw[if_neg k1,if_pos k2]
  have g1:=h5 (by omega)
  have g2:=h7 (by omega)
  refine zcV (by simp) ?_ ?_ ?_<;>simp[yz,zei,(h3 (by omega)).1,g1,g2,h9 k2]
 by_cases k3:x.k=3
 ·rw[if_neg k1,if_neg k2,if_pos k3]
  have:=h5 (by omega)
  refine zcV (by simp) ?_ ?_ ?_<;>simp[yz,zei,(h3 (by omega)).1,this]
 by_cases k4:x.k=4
 ·rw[if_neg k1,if_neg k2,if_neg k3,if_pos k4]
  exact zmG (h3 (by omega)).1
 by_cases k6:x.k=6
 ·rw[if_neg k1,if_neg k2,if_neg k3,if_neg k4,if_pos k6]
  refine zcV (by simp[zb7]) ?_ ?_ ?_<;>simp[yz,zei,zb7,znc (h11 k6)]
 rw[if_neg k1,if_neg k2,if_neg k3,if_neg k4,if_neg k6]at hb
 cases hb
theorem zr7(he:doE c x=0):z9 x=true:=by
 cases h:z9 x with
 |true=>rfl
 |false=>rw[zs1 h]at he;cases he
theorem zAj(h:zaJ c)(hw:∀y∈x.w,y.Rng)(he:doE c x=0)(hb:(zab x).2=true):doE (doC c x) (zab x).1=0∧doC (doC c x) (zab x).1=c:=by
 have hr:=zr7 he
 have hu:=zm6 hr hb
 have hrow:∀k6:x.k≠6,∀k4:x.k≠4,∀k5:x.k≠5,∃t,atC c x.t=some t∧zbI t x=0∧doC c x=zaD c ⟨t.n,t.s,zci t x⟩:=fun k6 k4 k5=>by
  cases ha:atC c x.t with
  |none=>rw[zsk hr k6 ha,if_neg k4]at he;cases he
  |some t=>
   have he':=he
   rw[zgT hr k6 ha,if_neg k4,if_neg k5]at he'
   exact⟨t,U,he',zuM he k4 k5 k6 ha⟩
 by_cases k1:x.k=1
 ·obtain⟨t,hat,g1,g2⟩:=hrow (by omega) (by omega) (by omega)
  have e:zab x=(⟨3,x.t,zcm,x.w,[],[]⟩,true):=by unfold zab;rw[if_pos k1]
  rw[e]at hu ⊢
  rw[g2]
  simp only[zbI,if_pos k1]at g1
  have hok:=h.tab t (zbR hat).1
  obtain⟨i1,i2,i3⟩:=zre hok hw g1
  have er:zci t x=zfu t.s t.r x.w:=by unfold zci;rw[if_pos k1]
  rw[er]
  have ho:zd5 ⟨t.n,t.s,zfu t.s t.r x.w⟩ x.w=true:=by simp[zd5,i1,i2]
  refine zif (y:=⟨3,x.t,zcm,x.w,[],[]⟩) h hat hu (by simp) (by simp) (by simp) ?_ ?_
  ·simp[zbI,ho]
  simp[zci,ho,i3]
 by_cases k2:x.k=2
 ·obtain⟨t,hat,g1,g2⟩:=hrow (by omega) (by omega) (by omega)
  have e:zab x=(⟨2,x.t,zcm,x.w,x.o,[]⟩,true):=by unfold zab;rw[if_neg k1,if_pos k2]
  rw[e]at hu ⊢
  rw[g2]
  have hok:=h.tab t (zbR hat).1
  cases hold:zd5 t x.o with
  |false=>simp[zbI,k1,hold]at g1
  |true=>
   simp[zbI,k2,hold]at g1
   have hg:zbN t.s t.r (zV t.s x.o)=some x.o:=by simp[zd5]at hold;exact hold.2
   obtain⟨i1,i2,i3,i4⟩:=zrK hok hw hg g1
   have er:zci t x=zfo t.s t.r (zV t.s x.o) x.w:=by simp[zci,k2,hold]
   rw[er]
   have ho:zd5 ⟨t.n,t.s,zfo t.s t.r (zV t.s x.o) x.w⟩ x.w=true:=by simp[zd5,i1,i2]
   refine zif (y:=⟨2,x.t,zcm,x.w,x.o,[]⟩) h hat hu (by simp) (by simp) (by simp) ?_ ?_
   ·simp[zbI,ho,i3]
   simp[zci,ho,i4]
 by_cases k3:x.k=3
 ·obtain⟨t,hat,g1,g2⟩:=hrow (by omega) (by omega) (by omega)
  have e:zab x=(⟨1,x.t,zcm,[],x.o,[]⟩,true):=by unfold zab;rw[if_neg k1,if_neg k2,if_pos k3]
  rw[e]at hu ⊢
  rw[g2]
  have hok:=h.tab t (zbR hat).1
  cases hold:zd5 t x.o with
  |false=>simp[zbI,k1,hold]at g1
  |true=>
   have hg:zbN t.s t.r (zV t.s x.o)=some x.o:=by simp[zd5]at hold;exact hold.2
   obtain⟨i1,i2⟩:=zqj hok hg
   have er:zci t x=zay t.s t.r (zV t.s x.o):=by simp[zci,k3,hold]
   rw[er]
   refine zif (y:=⟨1,x.t,zcm,[],x.o,[]⟩) h hat hu (by simp) (by simp) (by simp) ?_ ?_
   ·simp[zbI,i1]
   simp[zci,i2]
 by_cases k4:x.k=4
 ·have e:zab x=(yq x.t,true):=by unfold zab;rw[if_neg k1,if_neg k2,if_neg k3,if_pos k4]
  rw[e]at hu ⊢
  have ha:atC c x.t=none:=by
   cases ha:atC c x.t with
   |none=>rfl
   |some t=>rw[zgT hr (by omega) ha,if_pos k4]at he;cases he
  rw[zuP k4 he]
  have hat:atC (zaD c ⟨x.t,x.s,[]⟩) (yq x.t).t=some ⟨x.t,x.s,[]⟩:=zob h ⟨x.t,x.s,[]⟩
  have e0:doE (zaD c ⟨x.t,x.s,[]⟩) (yq x.t)=0:=by rw[zgT hu (by simp[yq]) hat,if_neg (by simp[yq]),if_pos (by simp[yq])]
  refine⟨e0,?_⟩
  rw[zu1 (by simp[yq]) e0]
  refine((h.srt.with _).less _).ext h.srt fun z=>?_
  rw[zep,zae]
  constructor
  ·rintro ⟨rfl|⟨h1,_⟩,h2⟩
   ·exact absurd U h2
   exact h1
  intro hz
  have:=zgo ha z hz
  exact⟨.inr ⟨hz,this⟩,this⟩
 by_cases k6:x.k=6
 ·have e:zab x=(zb7 (zaM x.m),true):=by unfold zab;rw[if_neg k1,if_neg k2,if_neg k3,if_neg k4,if_pos k6]
  rw[e]at hu ⊢
  have hre:zeT c x.m=0:=by rw[←zqm hr k6];exact he
  obtain⟨i1,i2⟩:=zrV h hre
  rw[zrr k6 he]
  have e0:doE (zdK c x.m) (zb7 (zaM x.m))=0:=by rw[zqm hu rfl];exact i1
  exact⟨e0,by rw[zrr U e0];exact i2⟩
 unfold zab at hb
 rw[if_neg k1,if_neg k2,if_neg k3,if_neg k4,if_neg k6]at hb
 cases hb
theorem ztU(h:zce x)(hb:(zab x).2=true):zce (zab x).1:=by
 unfold zab at hb ⊢
 by_cases k1:x.k=1
 ·rw[if_pos k1]
  exact⟨zf5,h.w,by simp,by simp,h.t,by simp[zcm],by simp⟩
 by_cases k2:x.k=2
 ·rw[if_neg k1,if_pos k2]
  exact⟨zf5,h.w,h.o,by simp,h.t,by simp[zcm],by simp⟩
 by_cases k3:x.k=3
 ·rw[if_neg k1,if_neg k2,if_pos k3]
  exact⟨zf5,by simp,h.o,by simp,h.t,by simp[zcm],by simp⟩
 by_cases k4:x.k=4
 ·rw[if_neg k1,if_neg k2,if_neg k3,if_pos k4]
  exact zhk h.t
 by_cases k6:x.k=6
 ·rw[if_neg k1,if_neg k2,if_neg k3,if_neg k4,if_pos k6]
  refine ziC (by simpa[zaM] using h.m) fun p hp=>?_
  have:=h.mn _ (zeq.1 hp)
  exact⟨this.2,this.1⟩
 rw[if_neg k1,if_neg k2,if_neg k3,if_neg k4,if_neg k6]at hb
 cases hb
theorem zo8{l:List EvT}{c:Cat}(h:zek c l 0=(0,0))(he:doE (zdL c l) x=0):zek c (l++[x]) 0=(0,0):=by
 have aux:∀{l:List EvT} {c:Cat} {i:Nat},zek c l i=(0,0)→doE (zdL c l) x=0→zek c (l++[x]) i=(0,0):=by
  intro l
  induction l with
  |nil=>
   intro c i _ he
   have he:doE c x=0:=he
   simp[zek,he]
  |cons y l ih=>
   intro c i h he
   rw[List.cons_append]
   unfold zek at h ⊢
   by_cases hy:doE c y=0
   ·rw[if_neg (by simp[hy])]at h ⊢
    exact ih h (by rwa [zeb]at he)
   rw[if_pos hy]at h
   exact absurd (congrArg Prod.snd h) hy
 exact aux h he
end
def Hn(w:Wl)(S:List Nat):Prop:=∀b∈S,Lw.n≤b∧∃cs,zK w b 39 cs
section
variable {w0 w w':Wl} {S:List Nat} {l:List (Nat×Cat)} {p b:Nat} {c:Cat} {L:List CE} {own:List Nat}
theorem Hn.ns(h:Hn w S):Ns w S:=fun b hb=>by
 obtain⟨h1,cs,h2⟩:=h b hb
 exact Ns.one h2 U h1 b (by simp)
theorem Hn.of{k n:Nat}{v:Va}{xs:List Va}(h:zw w 39 k v n xs)(hf:∀b∈zq v,Lw.n≤b):Hn w (zq v):=by
 intro b hb
 refine⟨hf b hb,?_⟩
 rcases h with⟨rfl,_⟩|⟨b',off,cap,c,rfl,h⟩
 ·simp[zq]at hb
 simp[zq]at hb
 subst hb
 exact⟨_,h.blk⟩
theorem zK.hn{e:TypeId}{cs:List Va}(hb:zK w b e cs)(h:Hn w S)(ho:Nat.beq e 39=false)(hc:zl S w w'):zK w' b e cs:=
 hb.chg hc fun hm=>by
  obtain⟨_,cs',hx⟩:=h b hm
  exact hb.ne hx ho U
theorem zw.hn{e k n:Nat}{v:Va}{xs:List Va}(hs:zw w e k v n xs)(h:Hn w S)(ho:Nat.beq e 39=false)(hc:zl S w w'):zw w' e k v n xs:=
 hs.chg hc fun b hb hm=>by
  obtain⟨_,cs',hx⟩:=h b hm
  exact hs.apart hx ho b hb (by simp)
theorem ye.hn{α:Type}{f:α→List Va}{e k:Nat}(h:Hn w S)(ho:Nat.beq e 39=false)(hc:zl S w w'):∀{vs:List Va} {ls:List (List α)},ye w e k f vs ls→ye w' e k f vs ls
 |[],[],_=>trivial
 |_::_,_::_,g=>⟨zw.hn g.1 h ho hc,ye.hn h ho hc g.2⟩
theorem zaP.hn(h:Hn w S)(hc:zl S w w'):∀{vs:List Va} {ls:LE},zaP w vs ls→zaP w' vs ls
 |[],[],_=>trivial
 |_::_,_::_,g=>⟨zw.hn g.1 h rfl hc,zaP.hn h hc g.2⟩
theorem Pg.hn{p:Nat}{ls:LE}(g:Pg w p ls)(h:Hn w S)(hc:zl S w w'):Pg w' p ls:=
 let ⟨v,h1,us,h2,h3⟩:=g; ⟨v,h1.hn h rfl hc,us,h2.hn h rfl hc,h3.hn h hc⟩
theorem PgL.hn(h:Hn w S)(hc:zl S w w'):∀{ps:List Nat} {ms:List (LE)},PgL w ps ms→PgL w' ps ms
 |[],[],_=>trivial
 |_::_,_::_,g=>⟨Pg.hn g.1 h hc,PgL.hn h hc g.2⟩
theorem yw.hn{t:Nat}{s:yx}{rows:LV}(g:yw w t own s rows)(h:Hn w S)(hc:zl S w w'):yw w' t own s rows:=by
 obtain⟨pm,c,k,u,sv,xs,main,subs,rfl,m,ht⟩:=g
 exact⟨pm,c,k,u,sv,xs,main,subs,U,⟨m.blk.hn h U hc,m.sch.chgN hc h.ns,Pg.hn m.pg h hc,m.sl.hn h U hc,ye.hn h U hc m.ats,PgL.hn h hc m.pgs,m.nd,m.ge⟩,ht⟩
theorem zaB.hn(g:zaB w L c)(h:Hn w S)(hc:zl S w w'):zaB w' L c:=⟨fun x hx=>(g.tabs x hx).hn h hc,g.apart,g.names,g.mem,g.ok⟩
theorem zaj.hn(g:zaj w p own c)(h:Hn w S)(hc:zl S w w'):zaj w' p own c:=by
 obtain⟨m,L,rfl,g⟩:=g
 refine⟨m,L,U,g.blk.hn h U hc,g.map.chg hc fun hm=>?_,g.l.hn h hc,g.ge⟩
 obtain⟨_,cs,hx⟩:=h m hm
 obtain⟨a,cc,h1,_⟩:=g.map
 have:=h1.symm.trans (show w.heap[m]? = _ from hx)
 cases this
theorem EOk.pos(h:EOk w):0<w.heap.size:=by
 rcases Nat.eq_zero_or_pos w.heap.size with h0|h1
 ·unfold EOk World.cell? at h
  simp[h0]at h
 exact h1
theorem KS.hn(h:KS w0 w l)(hs:Hn w S)(hE:EOk w0)(hf:∀b∈S,w0.heap.size≤b)(hc:zl S w w'):KS w0 w' l:=by
 obtain⟨T,hT,hE1,hw,h1,h2⟩:=h
 exact⟨T,hT,hE1.chg hc (fun hm=>by have:=hf 0 hm;have:=hE.pos;omega),hw.own hc hf,fun x hx=>⟨(h1 x hx).1.hn hs hc,(h1 x hx).2⟩,h2⟩
theorem zw.tn{e k n:Nat}{v:Va}{xs:List Va}(h:zw w e k v n xs)(ho:okH e=true)(hc:Tn w w'):zw w' e k v n xs:=let ⟨_,h1,h2,_⟩:=hc;zw.hm h h2 ho h1
end
theorem zvG{w0 w:Wl}{l:List (Nat×Cat)}(h:KS w0 w l)(hN:Lw.n≤w.heap.size):zL TP 10 #[] w fun r w'=>∃p,r=Pt p∧KS w0 w' ((p,[])::l)∧zl [] w w':=by
 refine zL.mono (znl w hN) ?_
 rintro r w'⟨p,m,rfl,g,h1,h2,hc⟩
 exact⟨p,rfl,h.push (own':=[p,m]) hc ⟨m,[],rfl,g⟩ (by intro b hb;simp at hb;rcases hb with rfl|rfl<;>assumption),hc⟩
abbrev evF:EvT×EvV→List Va:=fun p=>evC p.1 p.2
structure Dn(L D:List (EvT×EvV))(j:Nat):Prop where
 sub:∀q∈D,q∈L
 len:D.length≤j
 all:zek [] (D.map (·.1)) 0=(0,0)
theorem Dn.nil(L:List (EvT×EvV)):Dn L [] 0:=⟨by simp,Nat.le_refl _,by simp[zek]⟩
theorem Dn.skip{L D:List (EvT×EvV)}{j:Nat}(h:Dn L D j):Dn L D (j+1):=⟨h.sub,Nat.le_succ_of_le h.len,h.all⟩
theorem Dn.snoc{L D:List (EvT×EvV)}{j:Nat}{q:EvT×EvV}(h:Dn L D j)(hq:q∈L)(he:doE (zdL [] (D.map (·.1))) q.1=0):Dn L (D++[q]) (j+1):=
 ⟨fun r hr=>(List.mem_append.1 hr).elim (h.sub r) (fun hr=>by simp at hr;subst hr;exact hq),by have:=h.len;simp;omega,by rw[List.map_append];exact zo8 h.all he⟩
theorem zwq{D:List (EvT×EvV)}{q:EvT×EvV}:zdL [] ((D++[q]).map (·.1))=doC (zdL [] (D.map (·.1))) q.1:=by rw[List.map_append];exact zjU _ _ _
set_option maxHeartbeats 2000000 in
theorem ziO(va:Va)(xs:List EvT)(w:Wl)(hE:EOk w)(hN:Lw.n≤w.heap.size)(ha:zdd w va xs)(na:∀x∈xs,zmT x) :
 zL TP 3 #[va] w fun r w'=>r=.bool true∧zl [] w w':=by
 obtain⟨L,hA,hI,rfl⟩:=ha
 have ha:zdd w va (L.map (·.1)):=⟨L,hA,hI,rfl⟩
 obtain⟨pa,ca,rfl,hca⟩:=zO.val hA
 refine A1 Tryz.func3 U U ?_
 refine Sr (Oa U (E1 0 U (zd (zd ?_))))
 cases h30:zpj (L.map (·.1)) 30 with
 |false=>
  refine za (Om U ?_)
  refine Oc bd8 U U U (zop _ _ 30 _ ha (by decide)) ?_
  rintro v14 w14⟨e14,c14⟩
  rw[h30]at e14
  subst e14
  refine Og (zE U) U (E2 0 15 U (zf U (Sr ?_)))
  refine Oc bd9 U U U (zjV _ (hE.hm (Hm.nil w) c14) (Nat.le_trans hN c14.size)) ?_
  rintro v16 w16⟨rfl,c16⟩
  refine Oa U (E1 2 U (zh ?_))
  repeat first|refine tr ?_|refine br ?_
  refine zx U U ?_
  exact⟨U,c14.trans c16⟩
 |true=>
 refine za (Om U ?_)
 refine Oc bd8 U U U (zop _ _ 30 _ ha (by decide)) ?_
 rintro v14 w14⟨e14,c14⟩
 rw[h30]at e14
 subst e14
 refine Og (zE U) U (E2 0 15 U (zb U (zk ?_)))
 obtain⟨hl30,hs30⟩:=ztZ h30 na
 rw[List.length_map]at hl30
 have ha':∀q∈L,zce q.1:=fun q hq=>hs30 q.1 (List.mem_map.2 ⟨q,hq,rfl⟩)
 have hE:=hE.hm (Hm.nil w) c14
 have hNw:=Nat.le_trans hN c14.size
 have hA:=zO.chg0 hA c14
 have hI:∀q∈L,za7 w14 q.2 q.1:=fun q hq=>(hI q hq).chg0 c14
 refine Sr ?_
 refine Oc ztX U U U (zuW hE hNw) ?_
 rintro v17 w17⟨p,rfl,K,c17⟩
 refine Oa U (E2 0 3 U (Sr (Oa U (E3 0 3 4 U ?_))))
 refine yt (fun F wx=>∃(D:List (EvT×EvV)) (v:Va),prune [3,4] F=[(3,Pt p),(4,v)]∧Dn L D L.length∧KS w14 wx [(p,zdL [] (D.map (·.1)))]∧yh wx 39 8 evF v D) ?_ ?_
 ·refine Sr (Oa U (E4 0 3 4 5 U (zu ?_)))
  refine zX [0,3,4,5] (fun k F wx=>∃(j:Nat) (D:List (EvT×EvV)) (v:Va),k=L.length-j∧j≤L.length∧F=[(0,.slice pa L.length ca),(3,Pt p),(4,v),(5,Ii j)]∧Dn L D j∧KS w14 wx [(p,zdL [] (D.map (·.1)))]∧yh wx 39 8 evF v D∧∀b∈zq v,w14.heap.size≤b) (m:=L.length-0) ⟨0,[],_,rfl,Nat.zero_le _,rfl,Dn.nil L,K,yh.nil _ _ _ _,by simp[zq]⟩ ?_
  rintro k F wx⟨j,D,v,rfl,hj,rfl,hD,Kx,hv,hf⟩
  refine zd (zd ?_)
  by_cases hlt:j<L.length
  ·refine za (Om U (Om U (On zfS U ?_)))
   refine Og (vt (zF U U) (dt (by omega))) U ?_
   refine E5 0 3 4 5 21 U (zf U (zk ?_))
   have hq:L[j]? = some L[j]:=by simp[hlt]
   have hmem:=List.getElem_mem hlt
   generalize L[j]=q at hq hmem
   obtain⟨b,off,cap,hve,hcell⟩:=zO.at (fun p:EvT×EvV=>zhU p.1 p.2) hA hq
   cases hve
   have hsm:=ha' q hmem
   have hfin:=zwq (D:=D) (q:=q)
   have hsno:=fun he=>Dn.snoc hD hmem he
   have hDl:=hD.len
   generalize hcj:zdL [] (D.map (·.1))=cj at Kx hfin hsno
   have hokj:=Kx.ok
   refine zd (zu (Sr (Om U ?_)))
   refine Oc zvw U U U (zqx Kx) ?_
   rintro v25 w25⟨p6,rfl,K25,c25⟩
   refine Oa U (E5 0 3 4 5 6 U ?_)
   have hv:=zw.chg0 hv c25
   refine zd (zd ?_)
   by_cases h0:doE cj q.1=0
   ·refine za (Om U (Om U (Om U ?_)))
    refine Og (zm zfS yy U U _ U hlt) U ?_
    refine Og (zg zaI yy U U (zB.chg0 hcell K25.ch)) U ?_
    refine Oc zhS U U U (zji K25.swap ((hI q hmem).chg0 K25.ch) hsm) ?_
    rintro v31 w31⟨rfl,K1,n1⟩
    refine Oc zhQ U U U (zca _ _) ?_
    rintro v32 w32⟨rfl,rfl⟩
    refine Og (vf (zZ U U) (by simp[h0])) U ?_
    refine E6 0 3 4 5 6 33 U (zb U (zk ?_))
    have hv:=zw.tn hv rfl n1
    have ev1:=(hI q hmem).chg0 K1.ch
    refine Sr (Om U (Om U (Om U ?_)))
    refine Og (zm zfS yy U U _ U hlt) U ?_
    refine Og (zg zaI yy U U (zB.chg0 hcell K1.ch)) U ?_
    refine Oq (zz zwc U (vs:=[_]) U (css:=[_]) ⟨U,trivial⟩ U U (cs:=[_,_,_,_,_,_,_,_]) U U ?_)
    intro b43 w43 e43 n43 c43 k43
    refine Oq (yE zwc zfS U U (zw.chg0 hv c43) (zw.of_blk (n:=1) k43 U (by simp[maxLen]) ev1.one) (by simp only[maxLen];omega) (by omega) U ?_)
    intro v44 w44 i44 c44 o44 z44
    refine Oa U (E5 0 3 4 5 6 U ?_)
    have hv43:=zw.chg0 hv c43
    have K44:=(K1.chg0 c43).hn (Hn.of hv43 fun b hb=>Nat.le_trans hNw (hf b hb)) hE hf c44
    have hs1:=K1.ch.size
    have hs43:=c43.size
    have hf44:=zaH o44 hf (by omega)
    have hv44:yh w44 39 8 evF v44 (D++[q]):=zO.push i44 rfl rfl
    obtain⟨z,hz⟩:∃z,z=(zab q.1).2:=⟨_,rfl⟩
    refine Sr (Om U (Om U ?_))
    refine Og (zm zfS yy U U _ U hlt) U ?_
    refine Og (zg zaI yy U U (zB.chg0 hcell K44.ch)) U ?_
    refine Oc zz0 U U U (zr8 q.2 q.1 _ ((hI q hmem).chg0 K44.ch) hsm.m) ?_
    rintro v50 w50⟨e',er,h50,c50⟩
    rw[←hz]at er
    subst er
    refine Om U (Oe U U (Oe U U ?_))
    refine Oq (zD ze2 U U ?_)
    intro b7 w7 e7 n7 c7 k7
    refine Oq (zv yy U U U U k7 (by simp[evC]) h50.one ?_)
    intro wB nB cB kB
    refine Oa U (E7 0 3 4 5 6 7 8 U ?_)
    have kB:zK wB b7 39 (evC (zab q.1).1 e'):=kB
    have hs50:=c50.size
    have hB50:zl [] w50 wB:=c7.own cB (by intro y hy;simp at hy;omega)
    have hB44:=c50.trans hB50
    have KB:=K44.chg0 hB44
    have hvB:=yh.chg0 hv44 hB44
    have hx':=h50.chg0 hB50
    refine Sr (Om U ?_)
    refine Oc zvw U U U (zqx KB) ?_
    rintro v54 w54⟨p9,rfl,K54,c54⟩
    refine Oa U (E8 0 3 4 5 6 7 8 9 U ?_)
    have hvC:=yh.chg0 hvB c54
    have kC:=kB.chg0 c54
    have hx'':=hx'.chg0 c54
    refine zd ?_
    cases z with
    |false=>
     refine za (Om U (Om U (Oz U U (Oz U U (Oz U U (Oz U U (Oz U U (Oz U U (Oh U U (Oh U U (Oh U U (Oh U U (Oz U U (Of U (E5 0 3 4 5 68 U ?_)))))))))))))))
     refine zb U (z0 (zn (za (Om U ?_))))
     refine Og (zG U U (by omega)) U ?_
     refine Oa U (N4 0 3 4 5 U ?_)
     exact⟨L.length-(j+1),by omega,j+1,D++[q],v44,rfl,by omega,rfl,hsno h0,by rw[hfin];exact K54.tail.drop2,hvC,hf44⟩
    |true=>
     obtain⟨hu1,hu2⟩:=zAj hokj (hI q hmem).rw h0 hz.symm
     refine za (Om U (Om U (Oj U U (Oy U U (zg zaI yy U U (zB.of_blk0 kC)) ?_))))
     refine Ow U U zhS U U U (zji K54 hx'' (ztU hsm hz.symm)) ?_
     rintro v59 w59⟨rfl,K59,n59⟩
     refine Ow U U zhQ U U U (zca _ _) ?_
     rintro v60 w60⟨rfl,rfl⟩
     refine Oy U U (vf (zZ U U) (by simp[hu1])) ?_
     refine Oj U U (Oj U U (Oj U U ?_))
     refine Ow U U zvd U U U (zni K59.drop2) ?_
     rintro v65 w65⟨e65,c65⟩
     rw[hu2,dt rfl]at e65
     subst e65
     refine Oy U U (zE U) (Oy U U (zR U U) (Ot U (E5 0 3 4 5 68 U (zb U (z0 (zn (za (Om U ?_))))))))
     refine Og (zG U U (by omega)) U ?_
     refine Oa U (N4 0 3 4 5 U ?_)
     exact⟨L.length-(j+1),by omega,j+1,D++[q],v44,rfl,by omega,rfl,hsno h0,by rw[hfin];exact(K59.tail.drop2).chg0 c65,yh.chg0 (zw.tn hvC U n59) c65,hf44⟩
   refine za (Om U (Om U (Om U ?_)))
   refine Og (zm zfS yy U U _ U hlt) U ?_
   refine Og (zg zaI yy U U (zB.chg0 hcell K25.ch)) U ?_
   refine Oc zhS U U U (zji K25.swap ((hI q hmem).chg0 K25.ch) hsm) ?_
   rintro v31 w31⟨rfl,K1,n1⟩
   refine Oc zhQ U U U (zca _ _) ?_
   rintro v32 w32⟨rfl,rfl⟩
   refine Og (vt (zZ U U) (by simp[h0])) U ?_
   refine E6 0 3 4 5 6 33 U (zf U ?_)
   rw[zvx h0]at K1
   refine zd (Sr (Om U (Om U ?_)))
   refine Oc zvd U U U (zni K1) ?_
   rintro v36 w36⟨e36,c36⟩
   rw[dt rfl]at e36
   subst e36
   refine Og (zE U) U (E5 0 3 4 5 37 U (zb U (zk ?_)))
   refine zI ?_
   repeat first|refine te ?_|refine bo rfl ?_
   refine zt _ ?_
   refine za (Om U ?_)
   refine Og (zG U U (by omega)) U ?_
   refine Oa U (N4 0 3 4 5 U ?_)
   exact⟨L.length-(j+1),by omega,j+1,D,v,rfl,by omega,rfl,hD.skip,by rw[hcj];exact(K1.chg0 c36).drop2,yh.chg0 (zw.tn hv U n1) c36,hf⟩
  refine za (Om U (Om U (On zfS U ?_)))
  refine Og (vf (zF U U) (df (by omega))) U ?_
  refine E5 0 3 4 5 21 U (zb U ?_)
  refine zI ?_
  repeat first|refine te ?_|refine bo rfl ?_
  refine zt _ ?_
  obtain rfl:j=L.length:=by omega
  exact⟨D,v,U,hD,Kx,hv⟩
 rintro F wx⟨D,v,hF,hD,Kx,hv⟩
 refine zbT [3,4] hF ?_
 have hDl:=hD.len
 have hall:=hD.all
 have hac:zkv [] (D.map (·.1))=zdL [] (D.map (·.1)):=by unfold zkv;rw[hall];rfl
 refine Sr ?_
 refine Oc ztX U U U (zvG Kx Kx.nn) ?_
 rintro v69 w69⟨p10,rfl,K69,c69⟩
 refine Oa U (E3 3 4 10 U ?_)
 have hes:zdd w69 v (D.map (·.1)):=⟨D,(yh.chg0 hv c69).arr,fun q hq=>(hI q (hD.sub q hq)).chg0 K69.ch,rfl⟩
 refine Sr (Om U (Om U ?_))
 refine Oc zyO U U U (zu9 K69 hes (fun x hx=>by obtain⟨q,hq,rfl⟩:=List.mem_map.1 hx;exact ha' q (hD.sub q hq)) (by rw[List.length_map];omega)) ?_
 rintro v73 w73⟨e73,K73,n73⟩
 rw[hall]at e73
 change _=Value.tuple #[Ii 0,Ii 0]at e73
 subst e73
 refine Om U (Oe U U (Oe U U (Oa U (Oa U (E4 3 10 11 12 U ?_)))))
 rw[hac]at K73
 refine Sr (Om U (Og (vt (zA U U) U) U (Om U (Oj U U ?_))))
 refine Ow U U zhQ U U U (zca _ _) ?_
 rintro v80 w80⟨rfl,rfl⟩
 refine Oy U U (vt (zA U U) U) (Ot U (Om U (Oj U U (Oj U U ?_))))
 refine Ow U U zvd U U U (zni K73.swap) ?_
 rintro v86 w86⟨e86,c86⟩
 rw[dt rfl]at e86
 subst e86
 refine Ot U (Om U ?_)
 refine Ow U U bd9 U U U (zjV _ (K73.chg0 c86).eo (K73.chg0 c86).nn) ?_
 rintro v89 w89⟨rfl,c89⟩
 refine Ot U (Oa U (E1 2 U (zh ?_)))
 refine zx U U ?_
 exact⟨U,c14.trans ((K73.chg0 c86).chg0 c89).ch⟩
end Go.Wk
namespace Go.Proofs.YtkfpmjjcogigfaaGreatDoor
open Go.ChangeShapes Go.WideShapes Go.ChangeAt Go.RowKit Go.Deep
set_option maxRecDepth 100000
theorem zvp:Tryz.prog.funcs.any Func.goes=false:=by kernel_rfl
theorem ztJ{P:Program}(h:P.funcs.any Func.goes=false)(c:OpenClaim)(hs:c.start=.entering):false=c.goesBy P:=by
 have h1:∀f,P.goes f=false:=fun f=>by
  unfold Program.goes
  rw[h,Bool.and_false,Bool.or_false,List.any_eq_false]
  intro g _
  cases hg:P.funcs[g]? with
  |none=>simp
  |some fn=>
   obtain⟨hlt,rfl⟩:=Array.getElem?_eq_some_iff.1 hg
   have:=Array.any_eq_false.1 h g hlt
   simpa using this
 unfold OpenClaim.goesBy Program.goesAt Program.goesFrom
 rw[hs]
 cases P.funcNamed c.func with
 |none=>rfl
 |some f=>simp[h1]
theorem zz3:ownKnob Tryz.prog.godebug=none:=by kernel_rfl
theorem zsv:laidOutB Tryz.prog=true:=by kernel_rfl
abbrev zjL : List (String × DataW Unit) := [("math/bits.deBruijn32tab", Rows.laid_math_bits_deBruijn32tab), ("math/bits.deBruijn64tab", Rows.laid_math_bits_deBruijn64tab), ("internal/strconv.uint64pow10", Rows.laid_internal_strconv_uint64pow10), ("errors.errorType", Rows.laid_errors_errorType)]
theorem etT : Tryz.prog.globalNamed "errors.errorType" = some 0 := by kernel_rfl
theorem rtT : (Tryz.prog.cutTypes.find? (·.1 == "internal/reflectlite.rtype")).map (·.2) = some 255 := by kernel_rfl
theorem zyg:Tryz.prog.types.size=481:=by kernel_rfl
theorem zsE:((List.range 481).filter fun t=>Tryz.prog.rowNamed t [101,114,114,111,114])=[87]:=by kernel_rfl
theorem zrA(os:Os)(args:Array Value):laidMetH Tryz.prog zjL ((World.doorLaid Tryz.prog 31 os).forCall (fun _ _=>0) ⟨#[],args,[]⟩).memory:=
 laidMetH_of_parts3 (fuel:=8) (laidMet_of_run' 8 (by kernel_rfl) (by kernel_rfl)) (by kernel_rfl) (by kernel_rfl)
set_option linter.unusedSectionVars false
variable [Wk.Lw]
theorem zl4{W:World}(h:laidMetH Tryz.prog zjL W):Wk.EOk W:=by
 have h' : laidMet Tryz.prog (zjL.filter fun x => x.2.handleName?.isNone) W ∧ handlesMet Tryz.prog [("errors.errorType", Rows.laid_errors_errorType)] W := h
 obtain⟨name,u,ty,e1,e2,e3,e4,e5⟩:=h'.2 _ (List.mem_singleton.2 rfl)
 have en:name=[101,114,114,111,114]:=(Option.some.inj e1).symm
 subst en
 obtain rfl:=Option.some.inj (rtT.symm.trans e2)
 have hm:ty∈(List.range 481).filter fun t=>Tryz.prog.rowNamed t [101,114,114,111,114]:=List.mem_filter.2 ⟨List.mem_range.2 (by rw[←zyg];exact e3),e4⟩
 rw[zsE]at hm
 obtain rfl:=List.mem_singleton.1 hm
 have hh:typeHandle Tryz.prog 87=Wk.hnd 87:=by kernel_rfl
 rw[hh]at e5
 have h0:=World.var?_cell etT e5 0
 have h1:W.cell? ⟨0,0,none⟩=some (Value.iface 255 (Value.agg #[Wk.hnd 87])):=by simpa using h0
 exact h1
theorem zoJ{α:Type}{R:Nat→α→Prop}:∀n:Nat,(∀i,i<n→∃y,R i y)→∃l:List α,l.length=n∧∀i y,l[i]? = some y→R i y
 |0,_=>⟨[],rfl,fun i y h=>by simp at h⟩
 |n+1,h=>by
  obtain⟨l,hl,hr⟩:=zoJ n fun i hi=>h i (by omega)
  obtain⟨y,hy⟩:=h n (by omega)
  refine⟨l++[y],by simp[hl],fun i z hz=>?_⟩
  rcases Nat.lt_or_ge i l.length with hi|hi
  ·rw[List.getElem?_append_left hi]at hz
   exact hr i z hz
  rw[List.getElem?_append_right hi]at hz
  have:i-l.length=0:=by
   rcases Nat.eq_zero_or_pos (i-l.length) with h0|h0
   ·exact h0
   rw[List.getElem?_eq_none (by simp;omega)]at hz;cases hz
  rw[this]at hz
  simp at hz
  subst hz
  have:i=n:=by omega
  subst this;exact hy
section
variable {P:Program} {H:Type} {enc:TypeId×Value→H} {W:World} {b:Nat} {sp:Nat→Bool} {hd:Bool}
theorem zfQ{t e:TypeId}{k:Nat}{α:Type}{f:α→List Value}{Q:α→Prop}(ht:P.underlying t=some (.slice e))(hk:P.cellsOf e=k)(hk0:0<k)(hf:∀x,(f x).length=k)(ho:∀x,Q x→∀u∈f x,u.oneCell'=true)
 (each:∀n cs x,DataW.trod enc P W b sp hd n e cs=some x→∃y,cs=f y∧Q y) {fuel:Nat} {cs:List Value} {x:DataW H×List MemPlace} (h:DataW.trod enc P W b sp hd fuel t cs=some x) :
 ∃v l,cs=[v]∧Wk.zO W e k f v l∧∀y∈l,Q y:=by
 rcases open_slice ht h with⟨rfl,_⟩|⟨a,len,cap,m,n,D,Pl,rfl,_,hl,hcm,hm,_,hx⟩
 ·exact⟨_,[],rfl,Wk.zO.nil _ _ _ _,by simp⟩
 have hlm:len≤m:=by rw[hm];split<;>omega
 obtain⟨l,hll,hR⟩:=zoJ (R:=fun i y=>W.cells? b (a.add (i*k)) k=some (f y)∧Q y) len fun i hi=>by
  obtain⟨cs',h1,h2⟩:=hx i (by omega)
  rw[hk]at h1
  obtain⟨y,rfl,hq⟩:=each _ _ _ h2
  exact⟨y,h1,hq⟩
 have hQ:∀y∈l,Q y:=fun y hy=>by
  obtain⟨i,hi⟩:=List.getElem?_of_mem hy
  exact(hR i y hi).2
 refine⟨_,l,rfl,?_,hQ⟩
 subst hll
 refine⟨some a,cap,rfl,hl,hcm,Wk.zko hf l,fun u hu=>?_,fun hp=>?_⟩
 ·obtain⟨y,hy,hu'⟩:=List.mem_flatMap.1 hu
  exact ho y (hQ y hy) u hu'
 have hspot:a.spot=none:=by
  have h0:l[0]? = some l[0]:=by simp[hp]
  obtain⟨h1,_⟩:=hR 0 _ h0
  obtain⟨_,hl3,hcell⟩:=World.cells?_some h1
  have h3:=hcell 0 hk0
  have h4:(f l[0])[0]? = some ((f l[0])[0]'(by rw[hf];exact hk0)):=by simp[hf,hk0]
  rw[h4]at h3
  simpa[Addr.add] using World.cell?_spot h3
 obtain⟨bb,oo,ss⟩:=a
 dsimp only at hspot
 subst hspot
 refine⟨bb,oo,rfl,fun j u hj=>?_⟩
 have hlen:=Wk.zko (k:=k) hf l
 have hjl:j<l.length*k:=by have:=(List.getElem?_eq_some_iff.1 hj).1;omega
 have hi:j / k<l.length:=(Nat.div_lt_iff_lt_mul hk0).2 hjl
 have hr:j % k<k:=Nat.mod_lt _ hk0
 have hy:l[j / k]? = some l[j / k]:=by simp[hi]
 generalize l[j / k]=y at hy
 obtain⟨h1,_⟩:=hR _ _ hy
 rw[Addr.add_lit]at h1
 obtain⟨_,_,hcell⟩:=World.cells?_some h1
 have h3:=hcell (j % k) hr
 rw[Addr.add_lit]at h3
 have hdm:j / k*k+j % k=j:=Nat.div_add_mod' j k
 have h5:(f y)[j % k]? = some u:=by
  rw[←Wk.zqe hf hy,List.getElem?_take,if_pos hr,List.getElem?_drop,hdm]
  exact hj
 rw[h5]at h3
 rw[←h3]
 congr 2
 omega
end
section
variable {H:Type} {enc:TypeId×Value→H} {W:World} {b:Nat} {sp:Nat→Bool} {hd:Bool}
theorem cV:Tryz.prog.cellsOf 111=4:=by kernel_rfl
theorem c1a:Tryz.prog.cellsOf 3=1:=by kernel_rfl
theorem c1b:Tryz.prog.cellsOf 2=1:=by kernel_rfl
theorem c1c:Tryz.prog.cellsOf 109=1:=by kernel_rfl
theorem c1d:Tryz.prog.cellsOf 9=1:=by kernel_rfl
theorem c1e:Tryz.prog.cellsOf 108=1:=by kernel_rfl
theorem c1f:Tryz.prog.cellsOf 36=1:=by kernel_rfl
theorem zvL{n:Int}(h:(Lit.int .i64 n).wf=true) : -9223372036854775808≤n∧n≤9223372036854775807:=by
 simp only[Lit.wf,Bool.and_eq_true,decide_eq_true_eq]at h
 have e1:IntKind.i64.min = -9223372036854775808:=by decide
 have e2:IntKind.i64.max=9223372036854775807:=by decide
 rw[e1,e2]at h
 exact h
theorem zxy{n:Int}(h:(Lit.int .u64 n).wf=true):0≤n∧n<18446744073709551616:=by
 simp only[Lit.wf,Bool.and_eq_true,decide_eq_true_eq]at h
 have e1:IntKind.u64.min=0:=by decide
 have e2:IntKind.u64.max=18446744073709551615:=by decide
 rw[e1,e2]at h
 omega
theorem zqg{n:Nat}{cs:List Value}{x:DataW H×List MemPlace}(h:DataW.trod enc Tryz.prog W b sp hd n 111 cs=some x):∃y:Wk.zT,cs=y.cs∧y.Rng:=by
 obtain⟨xs,m,_,_,hlen,hxl,hf⟩:=DataW.trod_struct Tryz.underlying111 h
 rw[cV]at hlen
 match cs,hlen with
 |[c0,c1,c2,c3],_=>
  have g0:DataW.trod enc Tryz.prog W b sp hd m 108 (([c0,c1,c2,c3].drop 0).take (Tryz.prog.cellsOf 108))=xs[0]? := hf 0 _ rfl
  have g1:DataW.trod enc Tryz.prog W b sp hd m 2 (([c0,c1,c2,c3].drop 1).take (Tryz.prog.cellsOf 2))=xs[1]? := hf 1 _ rfl
  have g2:DataW.trod enc Tryz.prog W b sp hd m 109 (([c0,c1,c2,c3].drop 2).take (Tryz.prog.cellsOf 109))=xs[2]? := hf 2 _ rfl
  have g3:DataW.trod enc Tryz.prog W b sp hd m 9 (([c0,c1,c2,c3].drop 3).take (Tryz.prog.cellsOf 9))=xs[3]? := hf 3 _ rfl
  rw[c1e]at g0
  rw[c1b]at g1
  rw[c1c]at g2
  rw[c1d]at g3
  have hx4:xs.length=4:=hxl
  match xs,hx4 with
  |[y0,y1,y2,y3],_=>
   have g0:DataW.trod enc Tryz.prog W b sp hd m 108 [c0]=some y0:=g0
   have g1:DataW.trod enc Tryz.prog W b sp hd m 2 [c1]=some y1:=g1
   have g2:DataW.trod enc Tryz.prog W b sp hd m 109 [c2]=some y2:=g2
   have g3:DataW.trod enc Tryz.prog W b sp hd m 9 [c3]=some y3:=g3
   obtain⟨i0,e0,_,w0⟩:=DataW.trod_int (k:=.i64) (by kernel_rfl) g0
   obtain⟨i1,e1,_,w1⟩:=DataW.trod_int (k:=.i64) (by kernel_rfl) g1
   obtain⟨i2,e2,_,w2⟩:=DataW.trod_int (k:=.u64) (by kernel_rfl) g2
   obtain⟨s,e3,_,_⟩:=DataW.trod_string (by kernel_rfl) g3
   simp only[List.cons.injEq,and_true]at e0 e1 e2 e3
   subst e0 e1 e2 e3
   have h2:=zxy w2
   obtain⟨u,rfl⟩:=Int.eq_ofNat_of_zero_le h2.1
   exact⟨⟨i0,i1,u,s⟩,rfl,zvL w0,zvL w1,by have:=h2.2;simp only at this ⊢;omega⟩
theorem zjS{n:Nat}{cs:List Value}{x:DataW H×List MemPlace}(h:DataW.trod enc Tryz.prog W b sp hd n 36 cs=some x):∃v l,cs=[v]∧Wk.yn W v l∧∀y∈l,y.Rng:=
 zfQ (f:=Wk.zT.cs) (Q:=Wk.zT.Rng) Tryz.underlying36 cV (by decide) Wk.zc2 (fun x _=>Wk.zT.one x) (fun _ _ _ h=>zqg h) h
end
theorem cC:Tryz.prog.cellsOf 114=4:=by kernel_rfl
theorem cS:Tryz.prog.cellsOf 35=3:=by kernel_rfl
theorem cE:Tryz.prog.cellsOf 39=8:=by kernel_rfl
theorem cN2:Tryz.prog.cellsOf 78=2:=by kernel_rfl
theorem c1g:Tryz.prog.cellsOf 112=1:=by kernel_rfl
theorem c1h:Tryz.prog.cellsOf 4=1:=by kernel_rfl
theorem c1i:Tryz.prog.cellsOf 31=1:=by kernel_rfl
theorem c1j:Tryz.prog.cellsOf 32=1:=by kernel_rfl
theorem c1k:Tryz.prog.cellsOf 33=1:=by kernel_rfl
theorem c1l:Tryz.prog.cellsOf 30=1:=by kernel_rfl
theorem c1m:Tryz.prog.cellsOf 37=1:=by kernel_rfl
theorem znD{w:World}{k len:Nat}{v:Value}{xs:List Value}(h:Wk.Rd w k v len xs)(hk:0<k):∀b∈Wk.zgr v,b<w.heap.size:=by
 intro b hb
 have hl:=h.len_xs
 obtain⟨p,cap,rfl,_,_,_,_,h6⟩:=h
 cases p with
 |none=>simp[Wk.zgr]at hb
 |some a=>
  cases len with
  |zero=>simp[Wk.zgr]at hb
  |succ m=>
   simp[Wk.zgr]at hb
   obtain⟨bb,off,e,hc⟩:=h6 (by omega)
   cases e
   have hp:0<xs.length:=by rw[hl];exact Nat.mul_pos (by omega) hk
   rw[hb]
   exact Wk.zrw hc (j:=0) (by rw[List.getElem?_eq_getElem hp])
section
variable {H:Type} {enc:TypeId×Value→H} {W:World} {b:Nat} {sp:Nat→Bool} {hd:Bool}
theorem znE{k len:Nat}{v:Value}{xs:List Value}(hn:W.heap.size≤Wk.Lw.n)(h:Wk.Rd W k v len xs)(hk:0<k):∀b∈Wk.zgr v,Wk.Lo W b:=fun b hb=>.inl (Nat.lt_of_lt_of_le (znD h hk b hb) hn)
theorem zrp{n:Nat}{cs:List Value}{x:DataW H×List MemPlace}(h:DataW.trod enc Tryz.prog W b sp hd n 114 cs=some x):∃y:Wk.Col,cs=y.cs:=by
 obtain⟨xs,m,_,_,hlen,hxl,hf⟩:=DataW.trod_struct Tryz.underlying114 h
 rw[cC]at hlen
 match cs,hlen with
 |[c0,c1,c2,c3],_=>
  have g0:DataW.trod enc Tryz.prog W b sp hd m 9 (([c0,c1,c2,c3].drop 0).take (Tryz.prog.cellsOf 9))=xs[0]? := hf 0 _ rfl
  have g1:DataW.trod enc Tryz.prog W b sp hd m 112 (([c0,c1,c2,c3].drop 1).take (Tryz.prog.cellsOf 112))=xs[1]? := hf 1 _ rfl
  have g2:DataW.trod enc Tryz.prog W b sp hd m 3 (([c0,c1,c2,c3].drop 2).take (Tryz.prog.cellsOf 3))=xs[2]? := hf 2 _ rfl
  have g3:DataW.trod enc Tryz.prog W b sp hd m 4 (([c0,c1,c2,c3].drop 3).take (Tryz.prog.cellsOf 4))=xs[3]? := hf 3 _ rfl
  rw[c1d]at g0
  rw[c1g]at g1
  rw[c1a]at g2
  rw[c1h]at g3
  have hx4:xs.length=4:=hxl
  match xs,hx4 with
  |[y0,y1,y2,y3],_=>
   have g0:DataW.trod enc Tryz.prog W b sp hd m 9 [c0]=some y0:=g0
   have g1:DataW.trod enc Tryz.prog W b sp hd m 112 [c1]=some y1:=g1
   have g2:DataW.trod enc Tryz.prog W b sp hd m 3 [c2]=some y2:=g2
   have g3:DataW.trod enc Tryz.prog W b sp hd m 4 [c3]=some y3:=g3
   obtain⟨s,e0,_,_⟩:=DataW.trod_string (by kernel_rfl) g0
   obtain⟨i1,e1,_,_⟩:=DataW.trod_int (k:=.i64) (by kernel_rfl) g1
   obtain⟨i2,e2,_,_⟩:=DataW.trod_int (k:=.i64) (by kernel_rfl) g2
   obtain⟨z,e3,_⟩:=DataW.trod_bool (by kernel_rfl) g3
   simp only[List.cons.injEq,and_true]at e0 e1 e2 e3
   subst e0 e1 e2 e3
   exact⟨⟨s,i1,i2,z⟩,rfl⟩
theorem zpF{n:Nat}{cs:List Value}{x:DataW H×List MemPlace}(h:DataW.trod enc Tryz.prog W b sp hd n 31 cs=some x):∃v l,cs=[v]∧Wk.zg5 W v l:=by
 obtain⟨v,l,h1,h2,_⟩:=zfQ (f:=Wk.Col.cs) (Q:=fun _=>True) Tryz.underlying31 cC (by decide) Wk.zb9 (fun x _=>Wk.Col.one x) (fun _ _ _ h=>let ⟨y,hy⟩:=zrp h; ⟨y,hy,trivial⟩) h
 exact⟨v,l,h1,h2⟩
theorem zjT{n:Nat}{cs:List Value}{x:DataW H×List MemPlace}(h:DataW.trod enc Tryz.prog W b sp hd n 32 cs=some x):∃v l,cs=[v]∧Wk.zap W v l:=by
 obtain⟨v,l,h1,h2,_⟩:=zfQ (f:=Wk.ics) (Q:=fun _=>True) Tryz.underlying32 c1a (by decide) Wk.zgE (fun x _=>Wk.zsU x) (fun _ cs _ h=>by
  obtain⟨i,e,_,_⟩:=DataW.trod_int (k:=.i64) (by kernel_rfl) h
  exact⟨i,e,trivial⟩) h
 exact⟨v,l,h1,h2⟩
def vcs(p:Value×List Int):List Value:=[p.1]
theorem zrD:∀l:List (Value×List Int),Wk.fl vcs l=l.map (·.1)
 |[]=>rfl
 |p::l=>by rw[Wk.zfD,zrD l];rfl
theorem zn9:∀l:List (Value×List Int),(∀p∈l,Wk.zap W p.1 p.2)→Wk.zcp W 3 1 Wk.ics (l.map (·.1)) (l.map (·.2))
 |[],_=>trivial
 |p::l,h=>⟨h p (by simp),zn9 l (fun q hq=>h q (by simp[hq]))⟩
theorem znh{n:Nat}{cs:List Value}{x:DataW H×List MemPlace}(h:DataW.trod enc Tryz.prog W b sp hd n 33 cs=some x):∃(v:Value) (vs:List Value) (l:List (List Int)),cs=[v]∧Wk.Rd W 1 v l.length vs∧Wk.zcp W 3 1 Wk.ics vs l∧∀u∈vs,∃n xs,Wk.Rd W 1 u n xs:=by
 obtain⟨v,l,h1,h2,h3⟩:=zfQ (f:=vcs) (Q:=fun p=>Wk.zap W p.1 p.2) Tryz.underlying33 c1j (by decide) (fun _=>rfl) (fun p hp u hu=>by simp[vcs]at hu;subst hu;exact Wk.zO.one1 hp) (fun _ cs _ h=>by
  obtain⟨v,l,e,hl⟩:=zjT h
  exact⟨(v,l),e,hl⟩) h
 have h2':Wk.Rd W 1 v l.length (Wk.fl vcs l):=h2
 rw[zrD]at h2'
 refine⟨v,l.map (·.1),l.map (·.2),h1,by rwa [List.length_map],zn9 l h3,fun u hu=>?_⟩
 obtain⟨p,hp,rfl⟩:=List.mem_map.1 hu
 exact⟨_,_,h3 p hp⟩
theorem zp9{n:Nat}{cs:List Value}{x:DataW H×List MemPlace}(hn:W.heap.size≤Wk.Lw.n)(h:DataW.trod enc Tryz.prog W b sp hd n 35 cs=some x):∃c k u s,cs=[c,k,u]∧Wk.zal W c k u s:=by
 obtain⟨xs,m,_,_,hlen,hxl,hf⟩:=DataW.trod_struct Tryz.underlying35 h
 rw[cS]at hlen
 match cs,hlen with
 |[c0,c1,c2],_=>
  have g0:DataW.trod enc Tryz.prog W b sp hd m 31 (([c0,c1,c2].drop 0).take (Tryz.prog.cellsOf 31))=xs[0]? := hf 0 _ rfl
  have g1:DataW.trod enc Tryz.prog W b sp hd m 32 (([c0,c1,c2].drop 1).take (Tryz.prog.cellsOf 32))=xs[1]? := hf 1 _ rfl
  have g2:DataW.trod enc Tryz.prog W b sp hd m 33 (([c0,c1,c2].drop 2).take (Tryz.prog.cellsOf 33))=xs[2]? := hf 2 _ rfl
  rw[c1i]at g0
  rw[c1j]at g1
  rw[c1k]at g2
  have hx3:xs.length=3:=hxl
  match xs,hx3 with
  |[y0,y1,y2],_=>
   have g0:DataW.trod enc Tryz.prog W b sp hd m 31 [c0]=some y0:=g0
   have g1:DataW.trod enc Tryz.prog W b sp hd m 32 [c1]=some y1:=g1
   have g2:DataW.trod enc Tryz.prog W b sp hd m 33 [c2]=some y2:=g2
   obtain⟨v0,l0,e0,h0⟩:=zpF g0
   obtain⟨v1,l1,e1,h1⟩:=zjT g1
   obtain⟨v2,vs,l2,e2,h2,h3,h4⟩:=znh g2
   cases e0;cases e1;cases e2
   refine⟨_,_,_,⟨l0,l1,l2⟩,rfl,h0,h1,⟨vs,h2,h3,fun v hv=>?_⟩,fun v hv=>?_⟩
   ·obtain⟨n,xs,hr⟩:=h4 v hv
    exact znE hn hr (by decide)
   simp only[List.mem_cons,List.not_mem_nil,or_false]at hv
   rcases hv with rfl|rfl|rfl
   ·exact znE hn h0 (by decide)
   ·exact znE hn h1 (by decide)
   exact znE hn h2 (by decide)
theorem zpD{n:Nat}{cs:List Value}{x:DataW H×List MemPlace}(h:DataW.trod enc Tryz.prog W b sp hd n 78 cs=some x):∃p:ByteArray×ByteArray,cs=Wk.pcs p∧p.1.size≤9223372036854775807∧p.2.size≤9223372036854775807:=by
 obtain⟨xs,m,_,_,hlen,hxl,hf⟩:=DataW.trod_array Tryz.underlying78 h
 rw[cN2]at hlen
 have g0:=hf 0 (by decide)
 have g1:=hf 1 (by decide)
 rw[c1d]at g0 g1
 match cs,hlen,xs,hxl with
 |[c0,c1],_,[y0,y1],_=>
  have g0:DataW.trod enc Tryz.prog W b sp hd m 9 [c0]=some y0:=g0
  have g1:DataW.trod enc Tryz.prog W b sp hd m 9 [c1]=some y1:=g1
  obtain⟨s,e0,_,m0⟩:=DataW.trod_string (by kernel_rfl) g0
  obtain⟨t,e1,_,m1⟩:=DataW.trod_string (by kernel_rfl) g1
  cases e0;cases e1
  exact⟨(s,t),rfl,m0,m1⟩
theorem zny{n:Nat}{cs:List Value}{x:DataW H×List MemPlace}(h:DataW.trod enc Tryz.prog W b sp hd n 37 cs=some x):∃v l,cs=[v]∧Wk.zcw W v l∧∀p∈l,p.1.size≤9223372036854775807∧p.2.size≤9223372036854775807:=
 zfQ (f:=Wk.pcs) (Q:=fun p=>p.1.size≤9223372036854775807∧p.2.size≤9223372036854775807) Tryz.underlying37 cN2 (by decide) Wk.zbw (fun x _=>Wk.zkF x) (fun _ _ _ h=>zpD h) h
theorem ztx{n:Nat}{cs:List Value}{x:DataW H×List MemPlace}(hn:W.heap.size≤Wk.Lw.n)(h:DataW.trod enc Tryz.prog W b sp hd n 39 cs=some x):∃(y:Wk.EvT) (e:Wk.EvV),cs=Wk.evC y e∧Wk.za7 W e y∧Wk.zmT y:=by
 obtain⟨xs,m,_,_,hlen,hxl,hf⟩:=DataW.trod_struct Tryz.underlying39 h
 rw[cE]at hlen
 match cs,hlen with
 |[c0,c1,c2,c3,c4,c5,c6,c7],_=>
  have g0:DataW.trod enc Tryz.prog W b sp hd m 30 (([c0,c1,c2,c3,c4,c5,c6,c7].drop 0).take (Tryz.prog.cellsOf 30))=xs[0]? := hf 0 _ rfl
  have g1:DataW.trod enc Tryz.prog W b sp hd m 9 (([c0,c1,c2,c3,c4,c5,c6,c7].drop 1).take (Tryz.prog.cellsOf 9))=xs[1]? := hf 1 _ rfl
  have g2:DataW.trod enc Tryz.prog W b sp hd m 35 (([c0,c1,c2,c3,c4,c5,c6,c7].drop 2).take (Tryz.prog.cellsOf 35))=xs[2]? := hf 2 _ rfl
  have g3:DataW.trod enc Tryz.prog W b sp hd m 36 (([c0,c1,c2,c3,c4,c5,c6,c7].drop 5).take (Tryz.prog.cellsOf 36))=xs[3]? := hf 3 _ rfl
  have g4:DataW.trod enc Tryz.prog W b sp hd m 36 (([c0,c1,c2,c3,c4,c5,c6,c7].drop 6).take (Tryz.prog.cellsOf 36))=xs[4]? := hf 4 _ rfl
  have g5:DataW.trod enc Tryz.prog W b sp hd m 37 (([c0,c1,c2,c3,c4,c5,c6,c7].drop 7).take (Tryz.prog.cellsOf 37))=xs[5]? := hf 5 _ rfl
  rw[c1l]at g0
  rw[c1d]at g1
  rw[cS]at g2
  rw[c1f]at g3
  rw[c1f]at g4
  rw[c1m]at g5
  have hx6:xs.length=6:=hxl
  match xs,hx6 with
  |[y0,y1,y2,y3,y4,y5],_=>
   have g0:DataW.trod enc Tryz.prog W b sp hd m 30 [c0]=some y0:=g0
   have g1:DataW.trod enc Tryz.prog W b sp hd m 9 [c1]=some y1:=g1
   have g2:DataW.trod enc Tryz.prog W b sp hd m 35 [c2,c3,c4]=some y2:=g2
   have g3:DataW.trod enc Tryz.prog W b sp hd m 36 [c5]=some y3:=g3
   have g4:DataW.trod enc Tryz.prog W b sp hd m 36 [c6]=some y4:=g4
   have g5:DataW.trod enc Tryz.prog W b sp hd m 37 [c7]=some y5:=g5
   obtain⟨k,e0,_,w0⟩:=DataW.trod_int (k:=.i64) (by kernel_rfl) g0
   obtain⟨t,e1,_,_⟩:=DataW.trod_string (by kernel_rfl) g1
   obtain⟨sc,sk,su,s,e2,hs⟩:=zp9 hn g2
   obtain⟨v3,l3,e3,h3,r3⟩:=zjS g3
   obtain⟨v4,l4,e4,h4,r4⟩:=zjS g4
   obtain⟨v5,l5,e5,h5,r5⟩:=zny g5
   cases e0;cases e1;cases e2;cases e3;cases e4;cases e5
   exact⟨⟨k,t,s,l3,l4,l5⟩,⟨_,_,_,_,_,_⟩,rfl,⟨hs,h3,h4,h5,zvL w0,r3,r4⟩,r5⟩
theorem zrb{n:Nat}{cs:List Value}{x:DataW H×List MemPlace}(hn:W.heap.size≤Wk.Lw.n)(h:DataW.trod enc Tryz.prog W b sp hd n 22 cs=some x):∃v l,cs=[v]∧Wk.zdd W v l∧∀y∈l,Wk.zmT y:=by
 obtain⟨v,l,h1,h2,h3⟩:=zfQ (f:=fun p:Wk.EvT×Wk.EvV=>Wk.evC p.1 p.2) (Q:=fun p=>Wk.za7 W p.2 p.1∧Wk.zmT p.1) Tryz.underlying22 cE (by decide) (fun p=>Wk.zhU p.1 p.2) (fun _ hx=>hx.1.one) (fun _ _ _ h=>by
  obtain⟨y,e,h1,h2,h3⟩:=ztx hn h
  exact⟨(y,e),h1,h2,h3⟩) h
 refine⟨v,l.map (·.1),h1,⟨l,h2,fun p hp=>(h3 p hp).1,rfl⟩,fun y hy=>?_⟩
 obtain⟨p,hp,rfl⟩:=List.mem_map.1 hy
 exact(h3 p hp).2
end
end Go.Proofs.YtkfpmjjcogigfaaGreatDoor
