/- joined texts -/
import Derived.Test.YtkfpmjjcogigfaaGreatDoorL10
set_option linter.all false
namespace Go.Wk
open Go.Proofs
set_option linter.unusedSectionVars false
variable [Lw]
set_option maxRecDepth 10000
def zhh(j:Nat)(b:UInt8):Bool:=zeK b||(!decide (j=0)&&zhY b)
theorem zsR{l:List UInt8}:(match l with|[]=>false|b::r=>zeK b&&decide (r.length≤23)&&r.all fun c=>zeK c||zhY c)=(decide (1≤l.length)&&decide (l.length≤24)&&(List.range l.length).all fun j=>zhh j ((l[j]?).getD 0)):=by
 cases l with
 |nil=>rfl
 |cons b r=>
  have e:(List.range (b::r).length).all (fun j=>zhh j (((b::r)[j]?).getD 0))=(zeK b&&r.all fun c=>zeK c||zhY c):=by
   rw[List.length_cons,List.range_succ_eq_map,List.all_cons,List.all_map]
   have e0:zhh 0 (((b::r)[0]?).getD 0)=zeK b:=by simp[zhh]
   rw[e0]
   congr 1
   rw[Bool.eq_iff_iff]
   simp only[List.all_eq_true,List.mem_range,Function.comp]
   constructor
   ·intro h c hc
    obtain⟨i,hi,rfl⟩:=List.mem_iff_getElem.1 hc
    have:=h i hi
    simpa[zhh,hi] using this
   intro h i hi
   have:=h r[i] (List.getElem_mem hi)
   simpa[zhh,hi] using this
  rw[e]
  have e2:decide (1≤(b::r).length)=true:=dt (by simp)
  have e3:decide ((b::r).length≤24)=decide (r.length≤23):=by rw[Bool.eq_iff_iff];simp
  rw[e2,e3]
  show (zeK b&&decide (r.length≤23)&&r.all fun c=>zeK c||zhY c)=_
  generalize (r.all fun c=>zeK c||zhY c)=A
  generalize decide (r.length≤23)=B
  generalize zeK b=C
  cases A<;>cases B<;>cases C<;>rfl
theorem znd(s:By):yT s=(decide (1≤s.size)&&decide (s.size≤24)&&(List.range s.size).all fun j=>zhh j ((s.data.toList[j]?).getD 0)):=by
 have h:=zsR (l:=s.data.toList)
 have e:s.data.toList.length=s.size:=by simp
 rw[e]at h
 exact h
theorem zgv(s:By)(w:Wl)(hs:s.size≤9223372036854775807):zS TP 73 #[.string s] w fun r w'=>r=.bool (yT s)∧w'=w:=by
 refine A1 Tryz.func73 U U ?_
 refine Sr (Oa U (E1 0 U ?_))
 have hsz:s.data.toList.length=s.size:=by simp
 refine zR (fun F wx=>(∃f3 f8,F=[(0,.string s),(3,f3),(8,f8)])∧wx=w∧(List.range s.size).all (fun j=>zhh j ((s.data.toList[j]?).getD 0))=true) ?_ ?_
 ·refine Sr (Oa U (E2 0 3 U (zp ?_)))
  refine zQ [0,3] (fun m F wx=>∃j:Nat,m=s.size-j∧j≤s.size∧F=[(0,.string s),(3,Ii j)]∧wx=w∧∀i,i<j→zhh i ((s.data.toList[i]?).getD 0)=true) (m:=s.size-0) ⟨0,rfl,Zl _,rfl,rfl,by omega⟩ ?_
  rintro m F wx⟨j,rfl,hj,rfl,rfl,hall⟩
  refine zf (zf ?_)
  by_cases hlt:j<s.size
  ·refine za (Om U (Om U (Og (yV st9 U) U ?_)))
   refine Og (vt (zz U U) (by simp;omega)) U ?_
   refine E3 0 3 8 U (ze U (zm ?_))
   have hb:s.data.toList[j]?=some (s.data.toList[j]'(by omega)):=by simp
   generalize s.data.toList[j]'(by omega)=b at hb
   have hb':s.data[j]?=some b:=by rw[←Array.getElem?_toList];exact hb
   refine zf (zp (Sr (Om U (Om U ?_))))
   refine Og (zc6 st9 U U _ U hb') U ?_
   refine Og (yc U U) U (Om U ?_)
   apply zc0 (t:=20)
   case h0=>
    intro H
    refine Ok U (Ok U (Ok U (Ok U (Of U ?_))))
    exact yL [16,17,18,19] U H
   case h1=>
    intro hc H
    refine Ov U (Ov U ?_)
    refine Oi U (zc6 st9 U U _ U hb') ?_
    refine Oi U (za7 U U) (Ot U ?_)
    exact yL [16,17,18,19] U H
   refine Oa U (E3 0 3 4 U (Sr (Om U (Og (zC U) U (Om U ?_)))))
   apply zc0 (t:=44)
   case h0=>
    intro H
    refine Ok U (Ok U (Ok U ?_))
    iterate 16 refine Oh U U ?_
    refine Ok U (Of U ?_)
    exact yL [24,25,26,27,28,29,30,31,32,33,34,35,36,37,38,39,40,41,42,43] U H
   case h1=>
    intro hc H
    refine Ov U (Oi U (zy U U) (Ov U ?_))
    apply ze6 (t:=43)
    case h0=>
     intro H
     refine Ok U (Ok U (Ok U (Ok U (Ok U ?_))))
     iterate 10 refine Oh U U ?_
     refine Ok U (Oi U (zD U U) ?_)
     exact yL [27,28,29,30,31,32,33,34,35,36,37,38,39,40,41,42] U H
    case h1=>
     intro hc H
     refine Ov U (Ov U ?_)
     refine Oi U (zc6 st9 U U _ U hb') ?_
     refine Oi U (zJ U U) (Ov U ?_)
     apply zc0 (t:=42)
     case h0=>
      intro H
      refine Ok U (Ok U (Ok U (Ok U (Ok U (Oh U U (Oh U U (Oh U U (Oh U U (Ok U (Oi U (zE U U) ?_))))))))))
      exact yL [32,33,34,35,36,37,38,39,40,41] U H
     case h1=>
      intro hc H
      refine Ov U (Ov U ?_)
      refine Oi U (zc6 st9 U U _ U hb') ?_
      refine Oi U (zz U U) (Ov U ?_)
      apply ze6 (t:=41)
      case h0=>
       intro H
       refine Ok U (Ok U (Ok U (Ok U (Oi U (zD U U) ?_))))
       exact yL [37,38,39,40] U H
      case h1=>
       intro hc H
       refine Ov U (Ov U ?_)
       refine Oi U (zc6 st9 U U _ U hb') ?_
       refine Oi U (zU U U) (Oi U (zE U U) ?_)
       exact yL [37,38,39,40] U H
      refine Oi U (zD U U) ?_
      exact yL [32,33,34,35,36,37,38,39,40,41] U H
     refine Oi U (zE U U) ?_
     exact yL [27,28,29,30,31,32,33,34,35,36,37,38,39,40,41,42] U H
    refine Ot U ?_
    exact yL [24,25,26,27,28,29,30,31,32,33,34,35,36,37,38,39,40,41,42,43] U H
   refine E3 0 3 44 U ?_
   refine zP U (fun hT=>?_) (fun hF=>?_)
   ·refine Sr (Oa U (E1 2 U (zj ?_)))
    repeat first|refine tr ?_|refine br ?_
    refine zw U U ?_
    refine⟨?_,U⟩
    have:zhh j b=false:=by
     simp only[zhh,zeK,zhY,Bool.and_eq_true,Bool.or_eq_true,Bool.not_eq_true',Bool.and_eq_false_iff,Bool.or_eq_false_iff,Bool.not_eq_false',decide_eq_true_eq,decide_eq_false_iff_not]at hT ⊢
     omega
    rw[znd]
    have h2:(List.range s.size).all (fun j=>zhh j ((s.data.toList[j]?).getD 0))=false:=by
     rw[List.all_eq_false]
     exact⟨j,List.mem_range.2 hlt,by simp[hb,this]⟩
    rw[h2];simp
   refine zT (zl (za (Om U ?_)))
   refine Og (zG U U (by omega)) U ?_
   refine Oa U ?_
   refine zcJ [0,3] (F':=[(0,_),(3,_)]) U ?_
   refine⟨s.size-(j+1),by omega,j+1,rfl,by omega,rfl,rfl,fun i hi=>?_⟩
   rcases Lg i j with h|h
   ·exact hall i h
   have:i=j:=by omega
   subst this
   rw[hb]
   show zhh i b=true
   simp only[zhh,zeK,zhY,Bool.and_eq_true,Bool.or_eq_true,Bool.not_eq_true',Bool.and_eq_false_iff,Bool.or_eq_false_iff,Bool.not_eq_false',decide_eq_true_eq,decide_eq_false_iff_not]at hF ⊢
   omega
  refine za (Om U (Om U (Og (yV st9 U) U ?_)))
  refine Og (vf (zz U U) (by simp;omega)) U ?_
  refine E3 0 3 8 U (zb U ?_)
  refine zI ?_
  repeat first|refine te ?_|refine bo rfl ?_
  refine zq _ ?_
  have:j=s.size:=by omega
  subst this
  refine⟨⟨_,_,U⟩,U,?_⟩
  rw[List.all_eq_true]
  exact fun i hi=>hall i (List.mem_range.1 hi)
 rintro F wx⟨⟨f3,f8,rfl⟩,rfl,hall⟩
 refine Sr (Om U (Og (yV st9 U) U (Og (yc U U) U (Om U ?_))))
 apply zc0 (t:=52)
 case h0=>
  intro H
  refine Ok U (Ok U (Ok U (Of U ?_)))
  exact yL [49,50,51] U H
 case h1=>
  intro hc H
  refine Ov U (Oi U (yV st9 U) (Oi U (za7 U U) (Ot U ?_)))
  exact yL [49,50,51] U H
 refine Oa U (E1 2 U (zj ?_))
 refine zw U U ?_
 refine⟨?_,U⟩
 rw[znd,hall,Bool.and_true]
 congr 2<;>rw[Bool.eq_iff_iff]<;>simp<;>omega
theorem zd7(s:By)(w:Wl)(hs:s.size≤1048576):zS TP 73 #[.string s] w fun r w'=>r=.bool (yT s)∧w'=w:=zgv s w (by omega)
theorem zhi(c:Col)(w:Wl)(hs:c.n.size≤1048576):zS TP 123 #[c.v] w fun r w'=>r=.bool (y9 c)∧zk [] w w':=by
 refine A1 Tryz.func123 U U ?_
 refine Sr ?_
 refine Ob U U ?_
 intro b1 w1 e1 n1 c1 k1
 refine Oa U (E1 1 U ?_)
 have k1:zO w1 b1 114 c.cs:=k1
 refine Sr (Od zbG U (Ol ag3 U (k1.cell' (i:=2) U) (Oa U (E2 1 3 U (zf (Sr (Od zfI U (Ol zjK U (k1.cell' (i:=1) U) (E3 1 3 7 U (zp (zf (zf ?_))))))))))))
 by_cases h1:c.t=1
 ·refine za ?_
  refine Og (vt (zy U U) (dt (by omega))) U ?_
  refine Oa U (E4 1 3 7 8 U (ze U (zm (ze U (Sr (Od zbU U (Ol yI U (k1.cell' (i:=0) U) ?_)))))))
  refine Oc zgn U U U (zd7 c.n _ hs) ?_
  rintro v13 w13⟨rfl,rfl⟩
  refine Om U ?_
  apply zc0 (t:=29)
  case h0=>
   intro H
   refine Ok U (Ok U (Ok U (Oh U U (Oh U U (Ok U (Ok U (Oh U U (Oh U U (Ok U (Ok U (Oh U U (Oh U U (Ok U (Of U ?_))))))))))))))
   exact yL [15,16,17,18,19,20,21,22,23,24,25,26,27,28] U H
  case h1=>
   intro hc H
   refine Ov U (Oi U (zy U U) (Ov U ?_))
   apply ze6 (t:=20)
   case h0=>
    intro H
    refine Ok U (Ok U (Oi U (zD U U) ?_))
    exact yL [18,19] U H
   case h1=>
    intro hc H
    refine Ov U (Oi U (zy U U) (Oi U (zE U U) ?_))
    exact yL [18,19] U H
   refine Ov U ?_
   apply ze6 (t:=24)
   case h0=>
    intro H
    refine Ok U (Ok U (Oi U (zD U U) ?_))
    exact yL [22,23] U H
   case h1=>
    intro hc H
    refine Ov U (Oi U (zy U U) (Oi U (zE U U) ?_))
    exact yL [22,23] U H
   refine Ov U ?_
   apply ze6 (t:=28)
   case h0=>
    intro H
    refine Ok U (Ok U (Oi U (zD U U) ?_))
    exact yL [26,27] U H
   case h1=>
    intro hc H
    refine Ov U (Oi U (zy U U) (Oi U (zE U U) ?_))
    exact yL [26,27] U H
   refine Ot U ?_
   exact yL [15,16,17,18,19,20,21,22,23,24,25,26,27,28] U H
  refine Oa U (E1 2 U (zj ?_))
  repeat first|refine tr ?_|refine br ?_
  refine zw U U ?_
  exact⟨by rw[y9,if_pos (.inl h1)];rfl,c1⟩
 by_cases h2:c.t=2
 ·refine za ?_
  refine Og (vf (zy U U) (df (by omega))) U ?_
  refine Oa U (E4 1 3 7 8 U (zb U (za ?_)))
  refine Og (vt (zy U U) (dt (by omega))) U ?_
  refine Oa U (E4 1 3 7 8 U (ze U (Sr (Od zbU U (Ol yI U (k1.cell' (i:=0) U) ?_)))))
  refine Oc zgn U U U (zd7 c.n _ hs) ?_
  rintro v13 w13⟨rfl,rfl⟩
  refine Om U ?_
  apply zc0 (t:=29)
  case h0=>
   intro H
   refine Ok U (Ok U (Ok U (Oh U U (Oh U U (Ok U (Ok U (Oh U U (Oh U U (Ok U (Ok U (Oh U U (Oh U U (Ok U (Of U ?_))))))))))))))
   exact yL [15,16,17,18,19,20,21,22,23,24,25,26,27,28] U H
  case h1=>
   intro hc H
   refine Ov U (Oi U (zy U U) (Ov U ?_))
   apply ze6 (t:=20)
   case h0=>
    intro H
    refine Ok U (Ok U (Oi U (zD U U) ?_))
    exact yL [18,19] U H
   case h1=>
    intro hc H
    refine Ov U (Oi U (zy U U) (Oi U (zE U U) ?_))
    exact yL [18,19] U H
   refine Ov U ?_
   apply ze6 (t:=24)
   case h0=>
    intro H
    refine Ok U (Ok U (Oi U (zD U U) ?_))
    exact yL [22,23] U H
   case h1=>
    intro hc H
    refine Ov U (Oi U (zy U U) (Oi U (zE U U) ?_))
    exact yL [22,23] U H
   refine Ov U ?_
   apply ze6 (t:=28)
   case h0=>
    intro H
    refine Ok U (Ok U (Oi U (zD U U) ?_))
    exact yL [26,27] U H
   case h1=>
    intro hc H
    refine Ov U (Oi U (zy U U) (Oi U (zE U U) ?_))
    exact yL [26,27] U H
   refine Ot U ?_
   exact yL [15,16,17,18,19,20,21,22,23,24,25,26,27,28] U H
  refine Oa U (E1 2 U (zj ?_))
  repeat first|refine tr ?_|refine br ?_
  refine zw U U ?_
  exact⟨by rw[y9,if_pos (.inr h2)];rfl,c1⟩
 refine za ?_
 refine Og (vf (zy U U) (df (by omega))) U ?_
 refine Oa U (E4 1 3 7 8 U (zb U (za ?_)))
 refine Og (vf (zy U U) (df (by omega))) U ?_
 refine Oa U (E4 1 3 7 8 U (zb U (zf ?_)))
 have h12:¬ (c.t=1∨c.t=2):=by omega
 by_cases h3:c.t=3
 ·refine za ?_
  refine Og (vt (zy U U) (dt (by omega))) U ?_
  refine Oa U (E4 1 3 7 30 U (ze U (Sr (Od zbU U (Ol yI U (k1.cell' (i:=0) U) ?_)))))
  refine Oc zgn U U U (zd7 c.n _ hs) ?_
  rintro v34 w34⟨rfl,rfl⟩
  refine Om U ?_
  apply zc0 (t:=38)
  case h0=>
   intro H
   refine Ok U (Ok U (Of U ?_))
   exact yL [36,37] U H
  case h1=>
   intro hc H
   refine Ov U (Oi U (zy U U) (Ot U ?_))
   exact yL [36,37] U H
  refine Oa U (E1 2 U (zj ?_))
  repeat first|refine tr ?_|refine br ?_
  refine zw U U ?_
  exact⟨by rw[y9,if_neg h12,if_pos h3],c1⟩
 refine za ?_
 refine Og (vf (zy U U) (df (by omega))) U ?_
 refine Oa U (E4 1 3 7 30 U (zb U (zf ?_)))
 by_cases h4:c.t=4
 ·refine za ?_
  refine Og (vt (zy U U) (dt (by omega))) U ?_
  refine Oa U (E3 1 3 39 U (ze U (Sr (Od zbU U (Ol yI U (k1.cell' (i:=0) U) ?_)))))
  refine Oc zgn U U U (zd7 c.n _ hs) ?_
  rintro v43 w43⟨rfl,rfl⟩
  refine Om U ?_
  apply zc0 (t:=47)
  case h0=>
   intro H
   refine Ok U (Ok U (Of U ?_))
   exact yL [45,46] U H
  case h1=>
   intro hc H
   refine Ov U (Oi U (yc U U) (Ot U ?_))
   exact yL [45,46] U H
  refine Om U ?_
  apply zc0 (t:=51)
  case h0=>
   intro H
   refine Ok U (Ok U (Of U ?_))
   exact yL [49,50] U H
  case h1=>
   intro hc H
   refine Ov U (Oi U (za7 U U) (Ot U ?_))
   exact yL [49,50] U H
  refine Oa U (E1 2 U (zj ?_))
  repeat first|refine tr ?_|refine br ?_
  refine zw U U ?_
  refine⟨?_,c1⟩
  rw[y9,if_neg h12,if_neg h3,if_pos h4,Bool.and_assoc]
  congr 2
  rw[Bool.eq_iff_iff];simp
 refine za ?_
 refine Og (vf (zy U U) (df (by omega))) U ?_
 refine Oa U (E3 1 3 39 U (zb U (zT (zl (Sr (Oa U (E1 2 U (zj ?_))))))))
 refine zw U U ?_
 exact⟨by rw[y9,if_neg h12,if_neg h3,if_neg h4,Bool.and_false],c1⟩
theorem zlE(v:Va)(l:List Int)(n:Nat)(w:Wl)(hv:yA w v l)(hn:n≤1048576):zS TP 122 #[v,Ii n] w fun r w'=>r=.bool (zd3 l n)∧zk [] w w':=by
 obtain⟨pv,cv,rfl,hcv⟩:=zN.val hv
 have hmx:=zN.max hv
 refine A2 Tryz.func122 U U ?_
 refine Sr (Oa U (E2 0 1 U ?_))
 refine zR (fun F wx=>(∃f5 f14,F=[(0,.slice pv l.length cv),(1,Ii n),(5,f5),(14,f14)])∧zk [] w wx∧(l.length≤4→(∀x∈l,0≤x∧x<n)∧l.Nodup)) ?_ ?_
 ·refine Sr (Oa U (E3 0 1 5 U (zp ?_)))
  refine zQ [0,1,5] (fun m F wx=>∃j:Nat,m=l.length-j∧j≤l.length∧j≤5∧F=[(0,.slice pv l.length cv),(1,Ii n),(5,Ii j)]∧zk [] w wx∧(∀x∈l.take j,0≤x∧x<n)∧(l.take j).Nodup) (m:=l.length-0) ⟨0,rfl,Zl _,Zl _,rfl,zk.refl _ _,by simp,by simp⟩ ?_
  rintro m F wx⟨j,rfl,hj,hj5,rfl,hcx,hall,hnd⟩
  have hvx:=zN.chg0 hv hcx
  refine zf (Sr (Om U (Om U (On zaH U (Og (zz U U) U (Om U ?_))))))
  apply zc0 (t:=14)
  case h0=>
   intro H
   refine Ok U (Ok U (Of U ?_))
   exact yL [12,13] U H
  case h1=>
   intro hc H
   refine Ov U (Oi U (zz U U) (Ot U ?_))
   exact yL [12,13] U H
  refine E4 0 1 5 14 U ?_
  refine zP U (fun hT=>?_) (fun hF=>?_)
  ·refine zm ?_
   simp only[Bool.and_eq_true,decide_eq_true_eq]at hT
   have hlt:j<l.length:=by omega
   have hx:l[j]?=some l[j]:=by simp[hlt]
   generalize l[j]=x at hx
   obtain⟨b,off,cap,hve,hcell⟩:=yA.cell hvx hx
   cases hve
   refine zf (zp (zf (Sr (Om U (Om U ?_)))))
   refine Og (zi zaH sz3 U U _ U hlt) U ?_
   refine Ol ag3 U hcell (Og (zz U U) U (Om U ?_))
   apply ze6 (t:=29)
   case h0=>
    intro H
    iterate 6 refine Ok U ?_
    refine Ot U ?_
    exact yL [23,24,25,26,27,28] U H
   case h1=>
    intro hc H
    refine Ov U (Ov U ?_)
    refine Oi U (zi zaH sz3 U U _ U hlt) ?_
    refine Oi U (zg ag3 U hcell) (Ov U (Oi U (yc U U) (Of U ?_)))
    exact yL [23,24,25,26,27,28] U H
   refine E4 0 1 5 29 U ?_
   refine zP U (fun hT2=>?_) (fun hF2=>?_)
   ·refine Sr (Oa U (E1 4 U (zj ?_)))
    repeat first|refine tr ?_|refine br ?_
    refine zw U U ?_
    refine⟨?_,hcx⟩
    simp only[Bool.or_eq_true,decide_eq_true_eq]at hT2
    rw[zhd hx (.inl (by omega))]
   refine zm ?_
   simp only[Bool.or_eq_false_iff,decide_eq_false_iff_not]at hF2
   refine Sr (Oa U (E4 0 1 5 6 U (zp ?_)))
   refine zQ [0,1,5,6] (fun m F wy=>∃i:Nat,m=j-i∧i≤j∧F=[(0,.slice (some ⟨b,off,none⟩) l.length cv),(1,Ii n),(5,Ii j),(6,Ii i)]∧zk [] w wy∧x∉l.take i) (m:=j-0) ⟨0,rfl,Zl _,rfl,hcx,by simp⟩ ?_
   rintro m F wy⟨i,rfl,hi,rfl,hcy,hni⟩
   refine zf (zf ?_)
   by_cases hij:i<j
   ·refine za (Om U (Om U ?_))
    refine Og (vt (zz U U) (by simp;omega)) U ?_
    refine E5 0 1 5 6 32 U (ze U (zm ?_))
    have hli:i<l.length:=by omega
    have hy:l[i]?=some l[i]:=by simp[hli]
    generalize l[i]=y at hy
    have hce:∀{wz:Wl},zk [] wy wz→wz.cell? ⟨b,off+i*1,none⟩=some (Ii y)∧wz.cell? ⟨b,off+j*1,none⟩=some (Ii x):=fun hc=>by
     obtain⟨b1,o1,c1,he,h1⟩:=yA.cell (zN.chg0 hv (hcy.trans hc)) hy
     obtain⟨b2,o2,c2,he2,h2⟩:=yA.cell (zN.chg0 hv (hcy.trans hc)) hx
     cases he;cases he2
     exact⟨h1,h2⟩
    refine zf (zp (zf ?_))
    refine zH (fun wz=>zk [] wy wz) mix (by kernel_rfl) (zk.drew [] wy) ?_
    refine Tm U (Tm U ?_)
    refine Tp (fun _=>zi zaH sz3 U U _ U hli) U ?_
    refine Tr (fun wz hz=>zg ag3 U (hce hz).1) U (Tm U (Tm U ?_))
    refine Tp (fun _=>zi zaH sz3 U U _ U hlt) U ?_
    refine Tr (fun wz hz=>zg ag3 U (hce hz).2) U (Tp (fun _=>zy U U) U (D5 0 1 5 6 43 U ?_))
    refine zP U (fun hT3=>?_) (fun hF3=>?_)
    ·refine Sr (Oa U (E1 4 U (zj ?_)))
     repeat first|refine tr ?_|refine br ?_
     refine zw U U ?_
     refine⟨?_,hcy.trans (zk.drew [] _)⟩
     have e:y=x:=of_decide_eq_true hT3
     subst e
     rw[zhd hx (.inr ?_)]
     exact Mg (i:=i) (by rw[List.getElem?_take,if_pos hij];exact hy)
    refine zT (zl (za (Om U ?_)))
    refine Og (zG U U (by omega)) U ?_
    refine Oa U (N4 0 1 5 6 U ?_)
    refine⟨j-(i+1),by omega,i+1,rfl,by omega,rfl,hcy.trans (zk.drew [] _),?_⟩
    rw[yq hy]
    have:y≠x:=of_decide_eq_false hF3
    simp[hni,this.symm]
   refine za (Om U (Om U ?_))
   refine Og (vf (zz U U) (by simp;omega)) U ?_
   refine E5 0 1 5 6 32 U (zb U ?_)
   refine zI ?_
   repeat first|refine te ?_|refine bo rfl ?_
   refine zq _ ?_
   refine zl ?_
   have:i=j:=by omega
   subst this
   refine za (Om U ?_)
   refine Og (zG U U (by omega)) U ?_
   refine Oa U (N3 0 1 5 U ?_)
   refine⟨l.length-(i+1),by omega,i+1,rfl,by omega,by omega,rfl,hcy,?_,?_⟩
   ·rw[yq hx]
    intro z hz
    rcases List.mem_append.1 hz with hz|hz
    ·exact hall z hz
    simp at hz;subst hz;omega
   rw[yq hx,List.nodup_append]
   refine⟨hnd,by simp,fun a ha y hy=>?_⟩
   simp at hy;subst hy
   exact fun e=>hni (e▸ha)
  refine zI ?_
  repeat first|refine te ?_|refine bo rfl ?_
  refine zq _ ?_
  refine⟨⟨_,_,U⟩,hcx,fun h4=>?_⟩
  simp only[Bool.and_eq_false_iff,decide_eq_false_iff_not]at hF
  rw[Tl (by omega)]at hall hnd
  exact⟨hall,hnd⟩
 rintro F wx⟨⟨f5,f14,rfl⟩,hcx,hend⟩
 refine Sr (Om U (On zaH U (Og (yc U U) U (Om U ?_))))
 apply zc0 (t:=51)
 case h0=>
  intro H
  refine Ok U (Ok U (Ok U (Of U ?_)))
  exact yL [48,49,50] U H
 case h1=>
  intro hc H
  refine Ov U (Oi U (zV zaH U) (Oi U (za7 U U) (Ot U ?_)))
  exact yL [48,49,50] U H
 refine Oa U (E1 4 U (zj ?_))
 refine zw U U ?_
 refine⟨?_,hcx⟩
 by_cases h4:1≤l.length∧l.length≤4
 ·obtain⟨ha,hd⟩:=hend h4.2
  have e:zd3 l n=true:=by
   simp only[zd3,Bool.and_eq_true,decide_eq_true_eq,List.all_eq_true]
   exact⟨⟨h4,fun x hx=>ha x hx⟩,hd⟩
  rw[e]
  congr 1
  simp only[Bool.and_eq_true,decide_eq_true_eq]
  omega
 rw[zkp h4]
 congr 1
 simp only[Bool.and_eq_false_iff,decide_eq_false_iff_not]
 omega
theorem yR{a:Bool}(h:a=true→False):a=false:=by cases a with|false=>rfl|true=>exact(h rfl).elim
theorem zcm.cell{w:Wl}{v:Va}{ls:List (List Int)}(h:zcm w v ls){i:Nat}{l:List Int}(hi:ls[i]?=some l):∃b off cap u,v=.slice (some ⟨b,off,none⟩) ls.length cap∧w.cell? ⟨b,off+i*1,none⟩=some u∧yA w u l:=zbT.at h hi
set_option maxHeartbeats 1000000 in
theorem zjh(c k u:Va)(s:yK)(w:Wl)(hs:zai w c k u s)(hn:∀c∈s.cols,c.n.size≤1048576):zS TP 76 #[.agg #[c,k,u]] w fun r w'=>r=.bool (yJ s)∧zk [] w w':=by
 obtain⟨pc,dc,rfl,hdc⟩:=zN.val hs.cols
 obtain⟨pk,dk,rfl,hdk⟩:=zN.val hs.key
 obtain⟨pu,du,rfl,hdu⟩:=zbT.val hs.uq
 have hmc:=zN.max hs.cols
 have hmk:=zN.max hs.key
 have hmu:=zbT.max hs.uq
 refine A1 Tryz.func76 U U ?_
 refine Sr ?_
 refine Ob U U ?_
 intro b1 w1 e1 n1 c1 k1
 refine Oa U (E1 1 U ?_)
 have hs1:=hs.chg0 c1
 refine Sr (Od yp U (Ol za9 U (k1.cell' (i:=0) U) (On zaO U (Oa U (E2 1 3 U (zf (zf ?_)))))))
 by_cases h1:s.cols.length<1
 ·refine za (Om U ?_)
  refine Og (vt (zz U U) (by simp;omega)) U ?_
  refine Om U (Ok U (Ok U (Ot U (Om U (Ok U (Ok U (Ok U (Ok U (Ot U (Om U (Ok U (Ok U (Ok U (Ok U (Ok U (Ot U (E3 1 3 29 U (ze U (Sr (Oa U (E1 2 U (zj ?_))))))))))))))))))))))
  repeat first|refine tr ?_|refine br ?_
  refine zw U U ?_
  exact⟨by rw[yR (a:=yJ s) (fun h=>by have:=(zZ h).1;omega)],c1⟩
 by_cases h8:8<s.cols.length
 ·refine za (Om U ?_)
  refine Og (vf (zz U U) (by simp;omega)) U ?_
  refine Om U (Ov U ?_)
  refine Oi U (vt (zU U U) (by simp;omega)) ?_
  refine Of U (Om U (Ok U (Ok U (Ok U (Ok U (Ot U (Om U (Ok U (Ok U (Ok U (Ok U (Ok U (Ot U (E3 1 3 29 U (ze U (Sr (Oa U (E1 2 U (zj ?_)))))))))))))))))))
  repeat first|refine tr ?_|refine br ?_
  refine zw U U ?_
  exact⟨by rw[yR (a:=yJ s) (fun h=>by have:=(zZ h).1;omega)],c1⟩
 by_cases h3:3<s.uq.length
 ·refine za (Om U ?_)
  refine Og (vf (zz U U) (by simp;omega)) U ?_
  refine Om U (Ov U ?_)
  refine Oi U (vf (zU U U) (by simp;omega)) ?_
  refine Of U (Om U (Oi U (zd zay U) (Oi U (zg zcL U (k1.cell' (i:=2) U)) (Oi U (zV zbd U) ?_))))
  refine Oi U (vt (zU U U) (by simp;omega)) ?_
  refine Of U (Om U (Ok U (Ok U (Ok U (Ok U (Ok U (Ot U (E3 1 3 29 U (ze U (Sr (Oa U (E1 2 U (zj ?_)))))))))))))
  repeat first|refine tr ?_|refine br ?_
  refine zw U U ?_
  exact⟨by rw[yR (a:=yJ s) (fun h=>by have:=(zZ h).2.1;omega)],c1⟩
 cases hset:zd3 s.key s.cols.length with
 |false=>
  refine za (Om U ?_)
  refine Og (vf (zz U U) (by simp;omega)) U ?_
  refine Om U (Ov U ?_)
  refine Oi U (vf (zU U U) (by simp;omega)) ?_
  refine Of U (Om U (Oi U (zd zay U) (Oi U (zg zcL U (k1.cell' (i:=2) U)) (Oi U (zV zbd U) ?_))))
  refine Oi U (vf (zU U U) (by simp;omega)) ?_
  refine Of U (Om U (Oi U (zd zbp U) (Oi U (zg zci U (k1.cell' (i:=1) U)) (Ov U ?_))))
  refine Ow U U zqs U U U (zlE _ s.key s.cols.length _ hs1.key (by omega)) ?_
  rintro v27 w27⟨h27,c27⟩
  rw[hset]at h27
  subst h27
  refine Oi U (zC U) (Of U (E3 1 3 29 U (ze U (Sr (Oa U (E1 2 U (zj ?_)))))))
  repeat first|refine tr ?_|refine br ?_
  refine zw U U ?_
  exact⟨by rw[yR (a:=yJ s) (fun h=>by have:=(zZ h).2.2.1;rw[hset]at this;cases this)],c1.trans c27⟩
 |true=>
 refine za (Om U ?_)
 refine Og (vf (zz U U) (by simp;omega)) U ?_
 refine Om U (Ov U ?_)
 refine Oi U (vf (zU U U) (by simp;omega)) ?_
 refine Of U (Om U (Oi U (zd zay U) (Oi U (zg zcL U (k1.cell' (i:=2) U)) (Oi U (zV zbd U) ?_))))
 refine Oi U (vf (zU U U) (by simp;omega)) ?_
 refine Of U (Om U (Oi U (zd zbp U) (Oi U (zg zci U (k1.cell' (i:=1) U)) (Ov U ?_))))
 refine Ow U U zqs U U U (zlE _ s.key s.cols.length _ hs1.key (by omega)) ?_
 rintro v27 w27⟨h27,c27⟩
 rw[hset]at h27
 subst h27
 refine Oi U (zC U) (Of U (E3 1 3 29 U (zb U (zm ?_))))
 obtain⟨hk4,hkr,_⟩:=zbl hset
 have hc27:zk [] w w27:=c1.trans c27
 have k1:=k1.chg0 c27
 refine zR (fun F wx=>(∃f4 f32,F=[(1,Pt b1),(3,Ii s.cols.length),(4,f4),(32,f32)])∧zk [] w27 wx∧(∀c∈s.cols,y9 c=true)∧(s.cols.map (·.n)).Nodup) ?_ ?_
 ·refine Sr (Oa U (E3 1 3 4 U (zp ?_)))
  refine zQ [1,3,4] (fun m F wx=>∃j:Nat,m=s.cols.length-j∧j≤s.cols.length∧F=[(1,Pt b1),(3,Ii s.cols.length),(4,Ii j)]∧zk [] w27 wx∧(∀c∈s.cols.take j,y9 c=true)∧((s.cols.take j).map (·.n)).Nodup) (m:=s.cols.length-0) ⟨0,rfl,Zl _,rfl,zk.refl _ _,by simp,by simp⟩ ?_
  rintro m F wx⟨j,rfl,hj,rfl,hcx,hall,hnd⟩
  have k1x:=k1.chg0 hcx
  have hsx:=(hs.chg0 hc27).chg0 hcx
  refine zf (zf ?_)
  by_cases hlt:j<s.cols.length
  ·refine za (Om U (Om U ?_))
   refine Og (vt (zz U U) (by simp;omega)) U ?_
   refine E4 1 3 4 32 U (ze U (zm ?_))
   have hx:s.cols[j]?=some s.cols[j]:=by simp[hlt]
   generalize s.cols[j]=x at hx
   obtain⟨b,off,cap,hve,hcell⟩:=zN.at zaE hsx.cols hx
   cases hve
   refine zf (zp (zf (zf ?_)))
   cases hrc:y9 x with
   |false=>
    refine za (Od yp U (Ol za9 U (k1x.cell' (i:=0) U) (Om U ?_)))
    refine Og (zi zaO zad U U _ U hlt) U ?_
    refine Og (zh zcI zad U U hcell) U ?_
    refine Oc zqB U U U (zhi x _ (hn x (Mg hx))) ?_
    rintro v40 w40⟨h40,c40⟩
    rw[hrc]at h40
    subst h40
    refine Og (zC U) U (E4 1 3 4 41 U (ze U (Sr (Oa U (E1 2 U (zj ?_))))))
    repeat first|refine tr ?_|refine br ?_
    refine zw U U ?_
    exact⟨by rw[yR (a:=yJ s) (fun h=>by have:=(zZ h).2.2.2.1 x (Mg hx);rw[hrc]at this;cases this)],(hc27.trans hcx).trans c40⟩
   |true=>
    refine za (Od yp U (Ol za9 U (k1x.cell' (i:=0) U) (Om U ?_)))
    refine Og (zi zaO zad U U _ U hlt) U ?_
    refine Og (zh zcI zad U U hcell) U ?_
    refine Oc zqB U U U (zhi x _ (hn x (Mg hx))) ?_
    rintro v40 w40⟨h40,c40⟩
    rw[hrc]at h40
    subst h40
    refine Og (zC U) U (E4 1 3 4 41 U (zb U (zm ?_)))
    have hcx40:=hcx.trans c40
    refine Sr (Oa U (E4 1 3 4 5 U (zp ?_)))
    refine zQ [1,3,4,5] (fun m F wy=>∃i:Nat,m=j-i∧i≤j∧F=[(1,Pt b1),(3,Ii s.cols.length),(4,Ii j),(5,Ii i)]∧zk [] w27 wy∧x.n∉(s.cols.take i).map (·.n)) (m:=j-0) ⟨0,rfl,Zl _,rfl,hcx40,by simp⟩ ?_
    rintro m F wy⟨i,rfl,hi,rfl,hcy,hni⟩
    refine zf (zf ?_)
    by_cases hij:i<j
    ·refine za (Om U (Om U ?_))
     refine Og (vt (zz U U) (by simp;omega)) U ?_
     refine E5 1 3 4 5 44 U (ze U (zm ?_))
     have hli:i<s.cols.length:=by omega
     have hy:s.cols[i]?=some s.cols[i]:=by simp[hli]
     generalize s.cols[i]=y at hy
     have hce:∀{wz:Wl},zk [] wy wz→wz.cell? ⟨b1,0,none⟩=some (.slice (some ⟨b,off,none⟩) s.cols.length dc)∧wz.cell? ⟨b,off+i*4+0,none⟩=some (.string y.n)∧wz.cell? ⟨b,off+j*4+0,none⟩=some (.string x.n):=fun hc=>by
      obtain⟨b1',o1,c1',he,h1⟩:=zN.at zaE (zN.chg0 (hs.chg0 hc27).cols (hcy.trans hc)) hy
      obtain⟨b2,o2,c2,he2,h2⟩:=zN.at zaE (zN.chg0 (hs.chg0 hc27).cols (hcy.trans hc)) hx
      cases he;cases he2
      exact⟨(k1.chg0 (hcy.trans hc)).cell' (i:=0) U,h1 0 _ U,h2 0 _ U⟩
     refine zf (zp (zf ?_))
     refine zH (fun wz=>zk [] wy wz) mix (by kernel_rfl) (zk.drew [] wy) ?_
     refine Td yp U (Tr (fun wz hz=>zg za9 U (hce hz).1) U (Tm U ?_))
     refine Tp (fun _=>zi zaO zad U U _ U hli) U ?_
     refine Td zbU U (Tr (fun wz hz=>zg yI U (hce hz).2.1) U (Td yp U (Tr (fun wz hz=>zg za9 U (hce hz).1) U (Tm U ?_))))
     refine Tp (fun _=>zi zaO zad U U _ U hlt) U ?_
     refine Td zbU U (Tr (fun wz hz=>zg yI U (hce hz).2.2) U (Tp (fun _=>zaQ U U) U (D5 1 3 4 5 59 U ?_)))
     refine zP U (fun hT3=>?_) (fun hF3=>?_)
     ·refine Sr (Oa U (E1 2 U (zj ?_)))
      repeat first|refine tr ?_|refine br ?_
      refine zw U U ?_
      refine⟨?_,(hc27.trans hcy).trans (zk.drew [] _)⟩
      have e:y.n=x.n:=of_decide_eq_true hT3
      rw[yR (a:=yJ s) (fun h=>?_)]
      have hd:=(zZ h).2.2.2.2.1
      have h9:=List.pairwise_iff_getElem.1 hd i j (by simpa using hli) (by simpa using hlt) hij
      have e1:s.cols[i]=y:=Option.some.inj ((List.getElem?_eq_getElem hli).symm.trans hy)
      have e2:s.cols[j]=x:=Option.some.inj ((List.getElem?_eq_getElem hlt).symm.trans hx)
      simp only[List.getElem_map,e1,e2]at h9
      exact h9 e
     refine zT (zl (za (Om U ?_)))
     refine Og (zG U U (by omega)) U ?_
     refine Oa U (N4 1 3 4 5 U ?_)
     refine⟨j-(i+1),by omega,i+1,rfl,by omega,rfl,hcy.trans (zk.drew [] _),?_⟩
     rw[yq hy]
     have:y.n≠x.n:=of_decide_eq_false hF3
     simpa[this.symm] using hni
    refine za (Om U (Om U ?_))
    refine Og (vf (zz U U) (by simp;omega)) U ?_
    refine E5 1 3 4 5 44 U (zb U ?_)
    refine zI ?_
    repeat first|refine te ?_|refine bo rfl ?_
    refine zq _ ?_
    refine zl ?_
    have:i=j:=by omega
    subst this
    refine za (Om U ?_)
    refine Og (zG U U (by omega)) U ?_
    refine Oa U (N3 1 3 4 U ?_)
    refine⟨s.cols.length-(i+1),by omega,i+1,rfl,by omega,rfl,hcy,?_,?_⟩
    ·rw[yq hx]
     intro z hz
     rcases List.mem_append.1 hz with hz|hz
     ·exact hall z hz
     simp at hz;subst hz;exact hrc
    rw[yq hx,List.map_append,List.nodup_append]
    refine⟨hnd,by simp,fun a ha y hy=>?_⟩
    simp at hy;subst hy
    exact fun e=>hni (e▸ha)
  refine za (Om U (Om U ?_))
  refine Og (vf (zz U U) (by simp;omega)) U ?_
  refine E4 1 3 4 32 U (zb U ?_)
  refine zI ?_
  repeat first|refine te ?_|refine bo rfl ?_
  refine zq _ ?_
  rw[Tl (by omega)]at hall hnd
  exact⟨⟨_,_,U⟩,hcx,hall,hnd⟩
 rintro F wx⟨⟨f4,f32,rfl⟩,hcx,hall,hnd⟩
 refine zR (fun F wy=>(∃f6 f64,F=[(1,Pt b1),(3,Ii s.cols.length),(6,f6),(64,f64)])∧zk [] w27 wy∧(∀i∈s.key,(zfi s i).z=false)) ?_ ?_
 ·refine Sr (Oa U (E3 1 3 6 U (zp ?_)))
  refine zQ [1,3,6] (fun m F wy=>∃j:Nat,m=s.key.length-j∧j≤s.key.length∧F=[(1,Pt b1),(3,Ii s.cols.length),(6,Ii j)]∧zk [] w27 wy∧(∀i∈s.key.take j,(zfi s i).z=false)) (m:=s.key.length-0) ⟨0,rfl,Zl _,rfl,hcx,by simp⟩ ?_
  rintro m F wy⟨j,rfl,hj,rfl,hcy,hky⟩
  have k1y:=k1.chg0 hcy
  refine zf (zf ?_)
  by_cases hlt:j<s.key.length
  ·refine za (Om U (Od zbp U (Ol zci U (k1y.cell' (i:=1) U) (On zaH U ?_))))
   refine Og (vt (zz U U) (by simp;omega)) U ?_
   refine E4 1 3 6 64 U (ze U (zm ?_))
   have hx:s.key[j]?=some s.key[j]:=by simp[hlt]
   generalize s.key[j]=x at hx
   have hxr:=hkr x (Mg hx)
   obtain⟨i,rfl⟩:=Int.eq_ofNat_of_zero_le hxr.1
   have hli:i<s.cols.length:=by omega
   have hy:s.cols[i]?=some s.cols[i]:=by simp[hli]
   generalize s.cols[i]=y at hy
   have hca:zfi s (i:Int)=y:=by unfold zfi;simp[hy]
   obtain⟨bk,ok',ck,hve,-⟩:=yA.cell (hs.chg0 hc27).key hx
   cases hve
   obtain⟨bc,oc,cc,hve,-⟩:=zN.at zaE (hs.chg0 hc27).cols hy
   cases hve
   have hce:∀{wz:Wl},zk [] wy wz→wz.cell? ⟨b1,0,none⟩=some (.slice (some ⟨bc,oc,none⟩) s.cols.length dc)∧wz.cell? ⟨b1,1,none⟩=some (.slice (some ⟨bk,ok',none⟩) s.key.length dk)∧wz.cell? ⟨bk,ok'+j*1,none⟩=some (Ii i)∧wz.cell? ⟨bc,oc+i*4+3,none⟩=some (.bool y.z):=fun hc=>by
    obtain⟨b1',o1,c1',he,h1⟩:=yA.cell (zN.chg0 (hs.chg0 hc27).key (hcy.trans hc)) hx
    obtain⟨b2,o2,c2,he2,h2⟩:=zN.at zaE (zN.chg0 (hs.chg0 hc27).cols (hcy.trans hc)) hy
    cases he;cases he2
    exact⟨(k1.chg0 (hcy.trans hc)).cell' (i:=0) U,(k1.chg0 (hcy.trans hc)).cell' (i:=1) U,h1,h2 3 _ U⟩
   refine zf (zp (zf ?_))
   cases hz:y.z with
   |true=>
    rw[hz]at hce
    refine zH (fun wz=>zk [] wy wz) mix (by kernel_rfl) (zk.drew [] wy) ?_
    refine Td yp U (Tr (fun wz hz=>zg za9 U (hce hz).1) U (Td zbp U (Tr (fun wz hz=>zg zci U (hce hz).2.1) U (Tm U ?_))))
    refine Tp (fun _=>zi zaH sz3 U U _ U hlt) U ?_
    refine Tr (fun wz hz=>zg ag3 U (hce hz).2.2.1) U ?_
    refine Tp (fun _=>zi zaO zad U U _ U hli) U ?_
    refine Td zfB U (Tr (fun wz hz=>zg ag4 U (hce hz).2.2.2) U (D4 1 3 6 76 U (ze U (Sr (Oa U (E1 2 U (zj ?_)))))))
    repeat first|refine tr ?_|refine br ?_
    refine zw U U ?_
    refine⟨?_,(hc27.trans hcy).trans (zk.drew [] _)⟩
    rw[yR (a:=yJ s) (fun h=>?_)]
    have hd:=(zZ h).2.2.2.2.2.1 _ (Mg hx)
    rw[hca,hz]at hd;cases hd
   |false=>
    rw[hz]at hce
    refine zH (fun wz=>zk [] wy wz) mix (by kernel_rfl) (zk.drew [] wy) ?_
    refine Td yp U (Tr (fun wz hz=>zg za9 U (hce hz).1) U (Td zbp U (Tr (fun wz hz=>zg zci U (hce hz).2.1) U (Tm U ?_))))
    refine Tp (fun _=>zi zaH sz3 U U _ U hlt) U ?_
    refine Tr (fun wz hz=>zg ag3 U (hce hz).2.2.1) U ?_
    refine Tp (fun _=>zi zaO zad U U _ U hli) U ?_
    refine Td zfB U (Tr (fun wz hz=>zg ag4 U (hce hz).2.2.2) U (D4 1 3 6 76 U (zb U (zT (zl (za (Om U ?_)))))))
    refine Og (zG U U (by omega)) U ?_
    refine Oa U (N3 1 3 6 U ?_)
    refine⟨s.key.length-(j+1),by omega,j+1,rfl,by omega,rfl,hcy.trans (zk.drew [] _),?_⟩
    rw[yq hx]
    intro z hz'
    rcases List.mem_append.1 hz' with hz'|hz'
    ·exact hky z hz'
    simp at hz';subst hz';rw[hca];exact hz
  refine za (Om U (Od zbp U (Ol zci U (k1y.cell' (i:=1) U) (On zaH U ?_))))
  refine Og (vf (zz U U) (by simp;omega)) U ?_
  refine E4 1 3 6 64 U (zb U ?_)
  refine zI ?_
  repeat first|refine te ?_|refine bo rfl ?_
  refine zq _ ?_
  rw[Tl (by omega)]at hky
  exact⟨⟨_,_,U⟩,hcy,hky⟩
 rintro F wy⟨⟨f6,f64,rfl⟩,hcy,hkn⟩
 refine zR (fun F wz=>(∃f7 f81,F=[(1,Pt b1),(3,Ii s.cols.length),(7,f7),(81,f81)])∧zk [] w27 wz∧(∀l∈s.uq,zd3 l s.cols.length=true)) ?_ ?_
 ·refine Sr (Oa U (E3 1 3 7 U (zp ?_)))
  refine zQ [1,3,7] (fun m F wz=>∃j:Nat,m=s.uq.length-j∧j≤s.uq.length∧F=[(1,Pt b1),(3,Ii s.cols.length),(7,Ii j)]∧zk [] w27 wz∧(∀l∈s.uq.take j,zd3 l s.cols.length=true)) (m:=s.uq.length-0) ⟨0,rfl,Zl _,rfl,hcy,by simp⟩ ?_
  rintro m F wz⟨j,rfl,hj,rfl,hcz,huz⟩
  have k1z:=k1.chg0 hcz
  refine zf (zf ?_)
  by_cases hlt:j<s.uq.length
  ·refine za (Om U (Od zay U (Ol zcL U (k1z.cell' (i:=2) U) (On zbd U ?_))))
   refine Og (vt (zz U U) (by simp;omega)) U ?_
   refine E4 1 3 7 81 U (ze U (zm ?_))
   have hx:s.uq[j]?=some s.uq[j]:=by simp[hlt]
   generalize s.uq[j]=x at hx
   obtain⟨bu,ou,cu,vu,hve,hcu,hiu⟩:=zcm.cell ((hs.chg0 hc27).chg0 hcz).uq hx
   cases hve
   refine zf (zp (zf ?_))
   cases hst:zd3 x s.cols.length with
   |false=>
    refine za (Od zay U (Ol zcL U (k1z.cell' (i:=2) U) (Om U ?_)))
    refine Og (zi zbd zg6 U U _ U hlt) U ?_
    refine Ol zci U hcu (Om U ?_)
    refine Oc zqs U U U (zlE _ x s.cols.length _ hiu (by omega)) ?_
    rintro v90 w90⟨h90,c90⟩
    rw[hst]at h90
    subst h90
    refine Og (zC U) U (E4 1 3 7 91 U (ze U (Sr (Oa U (E1 2 U (zj ?_))))))
    repeat first|refine tr ?_|refine br ?_
    refine zw U U ?_
    refine⟨?_,(hc27.trans hcz).trans c90⟩
    rw[yR (a:=yJ s) (fun h=>?_)]
    have hd:=(zZ h).2.2.2.2.2.2 _ (Mg hx)
    rw[hst]at hd;cases hd
   |true=>
    refine za (Od zay U (Ol zcL U (k1z.cell' (i:=2) U) (Om U ?_)))
    refine Og (zi zbd zg6 U U _ U hlt) U ?_
    refine Ol zci U hcu (Om U ?_)
    refine Oc zqs U U U (zlE _ x s.cols.length _ hiu (by omega)) ?_
    rintro v90 w90⟨h90,c90⟩
    rw[hst]at h90
    subst h90
    refine Og (zC U) U (E4 1 3 7 91 U (zb U (zT (zl (za (Om U ?_))))))
    refine Og (zG U U (by omega)) U ?_
    refine Oa U (N3 1 3 7 U ?_)
    refine⟨s.uq.length-(j+1),by omega,j+1,rfl,by omega,rfl,hcz.trans c90,?_⟩
    rw[yq hx]
    intro z hz'
    rcases List.mem_append.1 hz' with hz'|hz'
    ·exact huz z hz'
    simp at hz';subst hz';exact hst
  refine za (Om U (Od zay U (Ol zcL U (k1z.cell' (i:=2) U) (On zbd U ?_))))
  refine Og (vf (zz U U) (by simp;omega)) U ?_
  refine E4 1 3 7 81 U (zb U ?_)
  refine zI ?_
  repeat first|refine te ?_|refine bo rfl ?_
  refine zq _ ?_
  rw[Tl (by omega)]at huz
  exact⟨⟨_,_,U⟩,hcz,huz⟩
 rintro F wz⟨⟨f7,f81,rfl⟩,hcz,huq⟩
 refine Sr (Oa U (E1 2 U (zj ?_)))
 refine zw U U ?_
 refine⟨?_,hc27.trans hcz⟩
 have e:yJ s=true:=by
  simp only[yJ,Bool.and_eq_true,decide_eq_true_eq,List.all_eq_true,Bool.not_eq_true']
  exact⟨⟨⟨⟨⟨⟨⟨by omega,by omega⟩,by omega⟩,hset⟩,hall⟩,hnd⟩,hkn⟩,huq⟩
 rw[e]
theorem zrX{P:Program}{n:Nat}{F:Fr}{w:Wl}{dst:Option Nat}{ty:TypeId}{pos:String}{af:Array Edge}{gd:Option (Nat×Bool)}{x:Operand}{t:TypeId}{i:Int}(hx:ev F x=some (Ii i))(h : -9223372036854775808≤0-i∧0-i≤9223372036854775807):Vl P n F ⟨dst,.unOp .neg t x,ty,pos,af,gd⟩ w (Ii (0-i)) w:=
 fun a ha=>by simp only[execOp,ha.eval hx,Op.unary,Op.intArith,IntWalk.i64_in _ h];rfl
theorem zhS(z:Int)(w:Wl)(hz:z=1∨z=2∨z=4∨z=8):zS TP 133 #[Ii z] w fun r w'=>r=Ii (zbV z)∧zk [] w w':=by
 refine A1 Tryz.func133 U U ?_
 refine Sr (Oa U (E1 0 U (zf ?_)))
 rcases hz with rfl|rfl|rfl|rfl
 ·refine za ?_
  refine Oq (zA zqi U (vs:=[_,_,_,_,_,_,_,_,_]) U (css:=[_,_,_,_,_,_,_,_,_]) ⟨U,U,U,U,U,U,U,U,U,Tt⟩ U U (cs:=[_,_,_,_,_,_,_,_,_]) U U ?_)
  intro b3 w3 e3 n3 c3 k3
  refine Om U ?_
  refine Og (zi zmg sz2 U U _ U (by decide:1<9)) U ?_
  refine Ol ag2 U (k3.cell' (i:=1) U) (Oa U (E1 2 U (zj ?_)))
  refine zw U U ?_
  exact⟨U,c3⟩
 ·refine za ?_
  refine Oq (zA zqi U (vs:=[_,_,_,_,_,_,_,_,_]) U (css:=[_,_,_,_,_,_,_,_,_]) ⟨U,U,U,U,U,U,U,U,U,Tt⟩ U U (cs:=[_,_,_,_,_,_,_,_,_]) U U ?_)
  intro b3 w3 e3 n3 c3 k3
  refine Om U ?_
  refine Og (zi zmg sz2 U U _ U (by decide:2<9)) U ?_
  refine Ol ag2 U (k3.cell' (i:=2) U) (Oa U (E1 2 U (zj ?_)))
  refine zw U U ?_
  exact⟨U,c3⟩
 ·refine za ?_
  refine Oq (zA zqi U (vs:=[_,_,_,_,_,_,_,_,_]) U (css:=[_,_,_,_,_,_,_,_,_]) ⟨U,U,U,U,U,U,U,U,U,Tt⟩ U U (cs:=[_,_,_,_,_,_,_,_,_]) U U ?_)
  intro b3 w3 e3 n3 c3 k3
  refine Om U ?_
  refine Og (zi zmg sz2 U U _ U (by decide:4<9)) U ?_
  refine Ol ag2 U (k3.cell' (i:=4) U) (Oa U (E1 2 U (zj ?_)))
  refine zw U U ?_
  exact⟨U,c3⟩
 refine za ?_
 refine Oq (zA zqi U (vs:=[_,_,_,_,_,_,_,_,_]) U (css:=[_,_,_,_,_,_,_,_,_]) ⟨U,U,U,U,U,U,U,U,U,Tt⟩ U U (cs:=[_,_,_,_,_,_,_,_,_]) U U ?_)
 intro b3 w3 e3 n3 c3 k3
 refine Om U ?_
 refine Og (zi zmg sz2 U U _ U (by decide:8<9)) U ?_
 refine Ol ag2 U (k3.cell' (i:=8) U) (Oa U (E1 2 U (zj ?_)))
 refine zw U U ?_
 exact⟨U,c3⟩
theorem zt4(z:Int)(w:Wl)(hz:z=1∨z=2∨z=4∨z=8):zS TP 134 #[Ii z] w fun r w'=>r=.int .u64 ((2:Int)^(8*z.toNat)-1)∧zk [] w w':=by
 refine A1 Tryz.func134 U U ?_
 refine Sr (Oa U (E1 0 U (zf ?_)))
 rcases hz with rfl|rfl|rfl|rfl
 ·refine za ?_
  refine Oq (zA zpt U (vs:=[_,_,_,_,_,_,_,_,_]) U (css:=[_,_,_,_,_,_,_,_,_]) ⟨U,U,U,U,U,U,U,U,U,Tt⟩ U U (cs:=[_,_,_,_,_,_,_,_,_]) U U ?_)
  intro b3 w3 e3 n3 c3 k3
  refine Om U ?_
  refine Og (zi zmK zlr U U _ U (by decide:1<9)) U ?_
  refine Ol zb2 U (k3.cell' (i:=1) U) (Oa U (E1 2 U (zj ?_)))
  refine zw U U ?_
  exact⟨U,c3⟩
 ·refine za ?_
  refine Oq (zA zpt U (vs:=[_,_,_,_,_,_,_,_,_]) U (css:=[_,_,_,_,_,_,_,_,_]) ⟨U,U,U,U,U,U,U,U,U,Tt⟩ U U (cs:=[_,_,_,_,_,_,_,_,_]) U U ?_)
  intro b3 w3 e3 n3 c3 k3
  refine Om U ?_
  refine Og (zi zmK zlr U U _ U (by decide:2<9)) U ?_
  refine Ol zb2 U (k3.cell' (i:=2) U) (Oa U (E1 2 U (zj ?_)))
  refine zw U U ?_
  exact⟨U,c3⟩
 ·refine za ?_
  refine Oq (zA zpt U (vs:=[_,_,_,_,_,_,_,_,_]) U (css:=[_,_,_,_,_,_,_,_,_]) ⟨U,U,U,U,U,U,U,U,U,Tt⟩ U U (cs:=[_,_,_,_,_,_,_,_,_]) U U ?_)
  intro b3 w3 e3 n3 c3 k3
  refine Om U ?_
  refine Og (zi zmK zlr U U _ U (by decide:4<9)) U ?_
  refine Ol zb2 U (k3.cell' (i:=4) U) (Oa U (E1 2 U (zj ?_)))
  refine zw U U ?_
  exact⟨U,c3⟩
 refine za ?_
 refine Oq (zA zpt U (vs:=[_,_,_,_,_,_,_,_,_]) U (css:=[_,_,_,_,_,_,_,_,_]) ⟨U,U,U,U,U,U,U,U,U,Tt⟩ U U (cs:=[_,_,_,_,_,_,_,_,_]) U U ?_)
 intro b3 w3 e3 n3 c3 k3
 refine Om U ?_
 refine Og (zi zmK zlr U U _ U (by decide:8<9)) U ?_
 refine Ol zb2 U (k3.cell' (i:=8) U) (Oa U (E1 2 U (zj ?_)))
 refine zw U U ?_
 exact⟨U,c3⟩
theorem zyP(c:Col)(x:zX)(w:Wl)(hn:c.n.size≤1048576):zS TP 87 #[c.v,x.v] w fun r w'=>r=Ii (yS c x)∧zk [] w w':=by
 refine A2 Tryz.func87 U U ?_
 refine Sr ?_
 refine Ob U U ?_
 intro b2 w2 e2 n2 c2 k2
 refine Ob U U ?_
 intro b3 w3 e3 n3 c3 k3
 refine Oa U (E2 2 3 U ?_)
 have k2:zO w3 b2 114 c.cs:=k2.chg0 c3
 have k3:zO w3 b3 111 x.cs:=k3
 have hc3:zk [] w w3:=c2.trans c3
 refine zf (zf ?_)
 cases hr:y9 c with
 |false=>
  refine za (Og (zh zcI zad U U (zv.of_blk0 k2)) U ?_)
  refine Oc zqB U U U (zhi c _ hn) ?_
  rintro v8 w8⟨h8,c8⟩
  rw[hr]at h8
  subst h8
  refine Og (zC U) U (E3 2 3 9 U (ze U (Sr (Oa U (E1 4 U (zj ?_))))))
  repeat first|refine tr ?_|refine br ?_
  refine zw U U ?_
  exact⟨by simp[yS,hr],hc3.trans c8⟩
 |true=>
 refine za (Og (zh zcI zad U U (zv.of_blk0 k2)) U ?_)
 refine Oc zqB U U U (zhi c _ hn) ?_
 rintro v8 w8⟨h8,c8⟩
 rw[hr]at h8
 subst h8
 refine Og (zC U) U (E3 2 3 9 U (zb U (zm ?_)))
 have k2:=k2.chg0 c8
 have k3:=k3.chg0 c8
 refine zf (Sr (Og (zh zaJ ym U U (zv.of_blk0 k3)) U ?_))
 refine Oc zsr U U U (zlN x _) ?_
 rintro v11 w11⟨rfl,c11⟩
 refine Oa U (E3 2 3 5 U ?_)
 have k2:=k2.chg0 c11
 have k3:=k3.chg0 c11
 have hc11:zk [] w w11:=(hc3.trans c8).trans c11
 refine zf ?_
 by_cases h0:za2 x≠0
 ·refine za (Om U ?_)
  refine Og (vt (zJ U U) (by simp[h0])) U ?_
  refine E4 2 3 5 13 U (ze U (Sr (Om U (Oa U (E1 4 U (zj ?_))))))
  repeat first|refine tr ?_|refine br ?_
  refine zw U U ?_
  exact⟨by simp[yS,hr,h0],hc11⟩
 have h0:za2 x=0:=by omega
 refine za (Om U ?_)
 refine Og (vf (zJ U U) (by simp[h0])) U ?_
 refine E4 2 3 5 13 U (zb U (zm (Sr (Od zal U (Ol zbS U (k3.cell' (i:=0) U) (Oa U (E3 2 3 6 U ?_)))))))
 obtain⟨z1,z2,z3,z4⟩:=zet hr
 refine zf (zp (zf ?_))
 by_cases hk:x.k=0
 ·cases hz:c.z with
  |true=>
   refine za (Om U ?_)
   refine Og (vt (zy U U) (dt (by omega))) U ?_
   refine Om U (Oi U (zd zfB U) ?_)
   refine Oi U (zg ag4 U (k2.cell' (i:=3) (show _=some (Value.bool true) by rw[←hz];rfl))) ?_
   refine Ot U (Oa U (E4 2 3 6 17 U (ze U (Sr (Oa U (E1 4 U (zj ?_)))))))
   repeat first|refine tr ?_|refine br ?_
   refine zw U U ?_
   exact⟨by simp[yS,hr,h0,hk,hz],hc11⟩
  |false=>
   refine za (Om U ?_)
   refine Og (vt (zy U U) (dt (by omega))) U ?_
   refine Om U (Oi U (zd zfB U) ?_)
   refine Oi U (zg ag4 U (k2.cell' (i:=3) (show _=some (Value.bool false) by rw[←hz];rfl))) ?_
   refine Ot U (Oa U (E4 2 3 6 17 U (zb U (Sr (Om U ?_)))))
   refine Og (vt (zy U U) (dt (by omega))) U ?_
   refine Oa U (E4 2 3 6 24 U (ze U (Sr (Oa U (E1 4 U (zj ?_))))))
   repeat first|refine tr ?_|refine br ?_
   refine zw U U ?_
   exact⟨by simp[yS,hr,h0,hk,hz],hc11⟩
 refine za (Om U ?_)
 refine Og (vf (zy U U) (df (by omega))) U ?_
 refine Om U (Ok U (Ok U (Of U (Oa U (E4 2 3 6 17 U (zb U (Sr (Om U ?_))))))))
 refine Og (vf (zy U U) (df (by omega))) U ?_
 refine Oa U (E4 2 3 6 24 U (zb U (zf ?_)))
 by_cases ht:x.k≠c.t
 ·refine za (Om U (Od zfI U (Ol zjK U (k2.cell' (i:=1) U) ?_)))
  refine Og (vt (zJ U U) (by simp[ht])) U ?_
  refine Oa U (E4 2 3 6 27 U (ze U (Sr (Oa U (E1 4 U (zj ?_))))))
  repeat first|refine tr ?_|refine br ?_
  refine zw U U ?_
  exact⟨by simp[yS,hr,h0,hk,ht],hc11⟩
 have ht:x.k=c.t:=by omega
 have hfit:yS c x=if zbQ c x then 133 else 0:=by
  unfold yS
  rw[hr,if_neg (by simp),if_neg (by simp[h0]),if_neg hk,if_neg (by simp[ht])]
 refine za (Om U (Od zfI U (Ol zjK U (k2.cell' (i:=1) U) ?_)))
 refine Og (vf (zJ U U) (by simp[ht])) U ?_
 refine Oa U (E4 2 3 6 27 U (zb U (zf ?_)))
 by_cases t1:x.k=1
 ·have hz:=z1 (.inl (by omega))
  have hL : -9223372036854775808≤zbV c.s∧zbV c.s ≤ -128:=by rcases hz with e|e|e|e<;>rw[e]<;>decide
  have hw:zbQ c x=decide (x.i<zbV c.s ∨ -(zbV c.s+1)<x.i):=by simp[zbQ,←ht,t1]
  generalize hLL:zbV c.s=L at hL hw
  by_cases hlo:x.i<L
  ·refine zH (fun wz=>zk [] w11 wz) mix (by kernel_rfl) (zk.drew [] _) ?_
   refine Tm U ?_
   refine Tp (fun _=>vt (zy U U) (dt (by omega))) U ?_
   refine Tm U (Tg U U (fun _=>zd yz U) U (Ts U U (fun wz hz=>zg ag2 U ((k3.chg0 hz).cell' (i:=1) U)) U (Tg U U (fun _=>zd zbG U) U (Ts U U (fun wz hz=>zg ag3 U ((k2.chg0 hz).cell' (i:=2) U)) U ?_))))
   refine Tv U U zma U U U (zhS c.s _ hz) ?_
   rintro v40 w40⟨h40,c40⟩
   rw[hLL]at h40
   subst h40
   refine⟨.inl ((zk.drew [] _).trans c40),?_⟩
   refine Tg U U (fun _=>vt (zz U U) (dt (by omega))) U ?_
   refine Tq U U U ?_
   iterate 8 refine Tk U ?_
   refine Tg U U (fun _=>zD U U) U (Tp (fun _=>zD U U) U (Ta U (D4 2 3 6 32 U (ze U (Sr (Oa U (E1 4 U (zj ?_))))))))
   repeat first|refine tr ?_|refine br ?_
   refine zw U U ?_
   refine⟨?_,(hc11.trans (zk.drew [] _)).trans c40⟩
   rw[hfit,hw,dt (.inl hlo)];rfl
  by_cases hhi : -(L+1)<x.i
  ·refine zH (fun wz=>zk [] w11 wz) mix (by kernel_rfl) (zk.drew [] _) ?_
   refine Tm U ?_
   refine Tp (fun _=>vt (zy U U) (dt (by omega))) U ?_
   refine Tm U (Tg U U (fun _=>zd yz U) U (Ts U U (fun wz hz=>zg ag2 U ((k3.chg0 hz).cell' (i:=1) U)) U (Tg U U (fun _=>zd zbG U) U (Ts U U (fun wz hz=>zg ag3 U ((k2.chg0 hz).cell' (i:=2) U)) U ?_))))
   refine Tv U U zma U U U (zhS c.s _ hz) ?_
   rintro v40 w40⟨h40,c40⟩
   rw[hLL]at h40
   subst h40
   refine⟨.inl ((zk.drew [] _).trans c40),?_⟩
   refine Tg U U (fun _=>vf (zz U U) (df (by omega))) U ?_
   refine Tq U U U (Tg U U (fun _=>zd yz U) U (Ts U U (fun wz hz=>zg ag2 U ((k3.chg0 hz).cell' (i:=1) U)) U (Tg U U (fun _=>zd zbG U) U (Ts U U (fun wz hz=>zg ag3 U ((k2.chg0 hz).cell' (i:=2) U)) U ?_))))
   refine Tv U U zma U U U (zhS c.s _ hz) ?_
   rintro v47 w47⟨h47,c47⟩
   rw[hLL]at h47
   subst h47
   refine⟨.inl (((zk.drew [] _).trans c40).trans c47),?_⟩
   refine Tg U U (fun _=>zG U U (by omega)) U ?_
   refine Tg U U (fun _=>zrX U (by omega)) U ?_
   refine Tg U U (fun _=>vt (zU U U) (by simp;omega)) U ?_
   refine Tg U U (fun _=>zE U U) U (Tp (fun _=>zD U U) U (Ta U (D4 2 3 6 32 U (ze U (Sr (Oa U (E1 4 U (zj ?_))))))))
   repeat first|refine tr ?_|refine br ?_
   refine zw U U ?_
   refine⟨?_,((hc11.trans (zk.drew [] _)).trans c40).trans c47⟩
   rw[hfit,hw,dt (.inr hhi)];rfl
  refine zH (fun wz=>zk [] w11 wz) mix (by kernel_rfl) (zk.drew [] _) ?_
  refine Tm U ?_
  refine Tp (fun _=>vt (zy U U) (dt (by omega))) U ?_
  refine Tm U (Tg U U (fun _=>zd yz U) U (Ts U U (fun wz hz=>zg ag2 U ((k3.chg0 hz).cell' (i:=1) U)) U (Tg U U (fun _=>zd zbG U) U (Ts U U (fun wz hz=>zg ag3 U ((k2.chg0 hz).cell' (i:=2) U)) U ?_))))
  refine Tv U U zma U U U (zhS c.s _ hz) ?_
  rintro v40 w40⟨h40,c40⟩
  rw[hLL]at h40
  subst h40
  refine⟨.inl ((zk.drew [] _).trans c40),?_⟩
  refine Tg U U (fun _=>vf (zz U U) (df (by omega))) U ?_
  refine Tq U U U (Tg U U (fun _=>zd yz U) U (Ts U U (fun wz hz=>zg ag2 U ((k3.chg0 hz).cell' (i:=1) U)) U (Tg U U (fun _=>zd zbG U) U (Ts U U (fun wz hz=>zg ag3 U ((k2.chg0 hz).cell' (i:=2) U)) U ?_))))
  refine Tv U U zma U U U (zhS c.s _ hz) ?_
  rintro v47 w47⟨h47,c47⟩
  rw[hLL]at h47
  subst h47
  refine⟨.inl (((zk.drew [] _).trans c40).trans c47),?_⟩
  refine Tg U U (fun _=>zG U U (by omega)) U ?_
  refine Tg U U (fun _=>zrX U (by omega)) U ?_
  refine Tg U U (fun _=>vf (zU U U) (by simp;omega)) U ?_
  refine Tg U U (fun _=>zE U U) U (Tp (fun _=>zD U U) U (Ta U (D4 2 3 6 32 U (zb U (zf ?_)))))
  refine zH (fun wz=>zk [] w47 wz) mix (by kernel_rfl) (zk.drew [] _) ?_
  refine Tm U ?_
  refine Tp (fun _=>vf (zy U U) (df (by omega))) U ?_
  refine Tm U ?_
  iterate 6 refine Tk U ?_
  refine Tp (fun _=>zE U U) U (Ta U (D4 2 3 6 53 U (zb U (Sr (Om U ?_)))))
  refine Og (vf (zy U U) (df (by omega))) U ?_
  refine Om U ?_
  iterate 6 refine Ok U ?_
  refine Of U (Oa U (E1 64 U (zb U (zT (zl (Sr (Oa U (E1 4 U (zj ?_)))))))))
  refine zw U U ?_
  refine⟨?_,(((hc11.trans (zk.drew [] _)).trans c40).trans c47).trans (zk.drew [] _)⟩
  rw[hfit,hw,df (by omega)];rfl
 refine zH (fun wz=>zk [] w11 wz) mix (by kernel_rfl) (zk.drew [] _) ?_
 refine Tm U ?_
 refine Tp (fun _=>vf (zy U U) (df (by omega))) U ?_
 refine Tm U ?_
 iterate 7 refine Tk U ?_
 refine zac U U U U U ?_
 refine zac U U U U U ?_
 refine zac U U U U U ?_
 refine zac U U U U U ?_
 refine zac U U U U U ?_
 refine zac U U U U U ?_
 refine zac U U U U U ?_
 refine zac U U U U U ?_
 refine Tk U (Tp (fun _=>zE U U) U (Ta U (D4 2 3 6 32 U (zb U ?_))))
 have hc13:=hc11.trans (zk.drew [] w11)
 have k2:=k2.chg0 (zk.drew [] w11)
 have k3:=k3.chg0 (zk.drew [] w11)
 refine zf ?_
 by_cases t2:x.k=2
 ·have hz:=z1 (.inr (by omega))
  have hw:zbQ c x=decide ((2:Int)^(8*c.s.toNat)≤x.u):=by simp[zbQ,←ht,t2]
  generalize hLL:(2:Int)^(8*c.s.toNat)=M at hw
  by_cases hhi:M≤x.u
  ·refine zH (fun wz=>zk [] w11.drew wz) mix (by kernel_rfl) (zk.drew [] _) ?_
   refine Tm U ?_
   refine Tp (fun _=>vt (zy U U) (dt (by omega))) U ?_
   refine Tm U (Tg U U (fun _=>zd zaT U) U (Ts U U (fun wz hz=>zg zb2 U ((k3.chg0 hz).cell' (i:=2) U)) U (Tg U U (fun _=>zd zbG U) U (Ts U U (fun wz hz=>zg ag3 U ((k2.chg0 hz).cell' (i:=2) U)) U ?_))))
   refine Tv U U zwM U U U (zt4 c.s _ hz) ?_
   rintro v61 w61⟨h61,c61⟩
   rw[hLL]at h61
   subst h61
   refine⟨.inl ((zk.drew [] _).trans c61),?_⟩
   refine Tg U U (fun _=>vt (zU U U) (by simp;omega)) U ?_
   refine Tp (fun _=>zD U U) U (Ta U (D4 2 3 6 53 U (ze U (Sr (Oa U (E1 4 U (zj ?_)))))))
   repeat first|refine tr ?_|refine br ?_
   refine zw U U ?_
   refine⟨?_,(hc13.trans (zk.drew [] _)).trans c61⟩
   rw[hfit,hw,dt hhi];rfl
  refine zH (fun wz=>zk [] w11.drew wz) mix (by kernel_rfl) (zk.drew [] _) ?_
  refine Tm U ?_
  refine Tp (fun _=>vt (zy U U) (dt (by omega))) U ?_
  refine Tm U (Tg U U (fun _=>zd zaT U) U (Ts U U (fun wz hz=>zg zb2 U ((k3.chg0 hz).cell' (i:=2) U)) U (Tg U U (fun _=>zd zbG U) U (Ts U U (fun wz hz=>zg ag3 U ((k2.chg0 hz).cell' (i:=2) U)) U ?_))))
  refine Tv U U zwM U U U (zt4 c.s _ hz) ?_
  rintro v61 w61⟨h61,c61⟩
  rw[hLL]at h61
  subst h61
  refine⟨.inl ((zk.drew [] _).trans c61),?_⟩
  refine Tg U U (fun _=>vf (zU U U) (by simp;omega)) U ?_
  refine Tp (fun _=>zD U U) U (Ta U (D4 2 3 6 53 U (zb U (Sr (Om U ?_)))))
  refine Og (vf (zy U U) (df (by omega))) U ?_
  refine Om U ?_
  iterate 6 refine Ok U ?_
  refine Of U (Oa U (E1 64 U (zb U (zT (zl (Sr (Oa U (E1 4 U (zj ?_)))))))))
  refine zw U U ?_
  refine⟨?_,(hc13.trans (zk.drew [] _)).trans c61⟩
  rw[hfit,hw,df hhi];rfl
 refine zH (fun wz=>zk [] w11.drew wz) mix (by kernel_rfl) (zk.drew [] _) ?_
 refine Tm U ?_
 refine Tp (fun _=>vf (zy U U) (df (by omega))) U ?_
 refine Tm U ?_
 iterate 6 refine Tk U ?_
 refine Tp (fun _=>zE U U) U (Ta U (D4 2 3 6 53 U (zb U ?_)))
 have hc15:=hc13.trans (zk.drew [] w11.drew)
 have k2:=k2.chg0 (zk.drew [] w11.drew)
 have k3:=k3.chg0 (zk.drew [] w11.drew)
 refine Sr (Om U (Og (zy U U) U (Om U ?_)))
 apply zc0 (t:=74)
 case h0=>
  intro H
  iterate 6 refine Ok U ?_
  refine Of U ?_
  exact yL [68,69,70,71,72,73] U H
 case h1=>
  intro hc H
  refine Oi U (zd zaK U) (Oi U (zg yI U (k3.cell' (i:=3) U)) (Oi U (yV st9 U) (Oi U (zd zbG U) (Oi U (zg ag3 U (k2.cell' (i:=2) U)) (Oi U (zU U U) (Ot U ?_))))))
  exact yL [68,69,70,71,72,73] U H
 refine Oa U (E1 64 U ?_)
 have hw:zbQ c x=(decide (x.k=4)&&decide ((x.b.size:Int)>c.s)):=by
  unfold zbQ
  rw[if_neg (by omega),if_neg (by omega)]
  by_cases h4:x.k=4
  ·rw[if_pos (by omega),dt h4,Bool.true_and]
  rw[if_neg (by omega),df h4,Bool.false_and]
 refine zP U (fun hT=>?_) (fun hF=>?_)
 ·refine Sr (Oa U (E1 4 U (zj ?_)))
  repeat first|refine tr ?_|refine br ?_
  refine zw U U ?_
  refine⟨?_,hc15⟩
  rw[hfit,hw,hT];rfl
 refine zT (zl (Sr (Oa U (E1 4 U (zj ?_)))))
 refine zw U U ?_
 refine⟨?_,hc15⟩
 rw[hfit,hw,hF];rfl
theorem zqJ(c k u v:Va)(s:yK)(l:List zX)(w:Wl)(hs:zai w c k u s)(hl:ya w v l)(hn:∀c∈s.cols,c.n.size≤1048576):zS TP 50 #[.agg #[c,k,u],v] w fun r w'=>r=Ii (zaf s l)∧zk [] w w':=by
 obtain⟨pc,dc,rfl,hdc⟩:=zN.val hs.cols
 obtain⟨pv,cv,rfl,hcv⟩:=zN.val hl
 have hml:=zN.max hl
 simp only[maxLen]at hml
 refine A2 Tryz.func50 U U ?_
 refine Sr ?_
 refine Ob U U ?_
 intro b2 w2 e2 n2 c2 k2
 refine Oa U (E2 1 2 U (zf (zf ?_)))
 cases hr:yJ s with
 |false=>
  refine za (Og (zh zaX zaS U U (zv.of_blk0 k2)) U ?_)
  refine Oc zv3 U U U (zjh _ _ _ s _ (hs.chg0 c2) hn) ?_
  rintro v8 w8⟨h8,c8⟩
  rw[hr]at h8
  subst h8
  refine Og (zC U) U (E3 1 2 9 U (ze U (Sr (Oa U (E1 4 U (zj ?_))))))
  repeat first|refine tr ?_|refine br ?_
  refine zw U U ?_
  exact⟨by simp[zaf,hr],c2.trans c8⟩
 |true=>
 refine za (Og (zh zaX zaS U U (zv.of_blk0 k2)) U ?_)
 refine Oc zv3 U U U (zjh _ _ _ s _ (hs.chg0 c2) hn) ?_
 rintro v8 w8⟨h8,c8⟩
 rw[hr]at h8
 subst h8
 refine Og (zC U) U (E3 1 2 9 U (zb U (zm ?_)))
 have k2:=k2.chg0 c8
 have hc8:=c2.trans c8
 refine zf (zf ?_)
 by_cases hlen:l.length≠s.cols.length
 ·refine za (Om U (On yE U (Od yp U (Ol za9 U (k2.cell' (i:=0) U) (On zaO U ?_)))))
  refine Og (vt (zJ U U) (by simp;omega)) U ?_
  refine E3 1 2 15 U (ze U (Sr (Oa U (E1 4 U (zj ?_)))))
  repeat first|refine tr ?_|refine br ?_
  refine zw U U ?_
  exact⟨by simp[zaf,hr,hlen],hc8⟩
 have hlen:l.length=s.cols.length:=by omega
 have hrow:zaf s l=zbh s.cols l:=by simp[zaf,hr,hlen]
 refine za (Om U (On yE U (Od yp U (Ol za9 U (k2.cell' (i:=0) U) (On zaO U ?_)))))
 refine Og (vf (zJ U U) (by simp;omega)) U ?_
 refine E3 1 2 15 U (zb U (zm ?_))
 refine zR (fun F wx=>(∃f5 f19,F=[(1,.slice pv l.length cv),(2,Pt b2),(5,f5),(19,f19)])∧zk [] w8 wx∧(∀(i:Nat) c x,i<l.length→s.cols[i]?=some c→l[i]?=some x→yS c x=0)) ?_ ?_
 ·refine Sr (Oa U (E3 1 2 5 U (zp ?_)))
  refine zQ [1,2,5] (fun m F wx=>∃j:Nat,m=l.length-j∧j≤l.length∧F=[(1,.slice pv l.length cv),(2,Pt b2),(5,Ii j)]∧zk [] w8 wx∧(∀(i:Nat) c x,i<j→s.cols[i]?=some c→l[i]?=some x→yS c x=0)) (m:=l.length-0) ⟨0,rfl,Zl _,rfl,zk.refl _ _,by omega⟩ ?_
  rintro m F wx⟨j,rfl,hj,rfl,hcx,hall⟩
  have k2x:=k2.chg0 hcx
  refine zf (zf ?_)
  by_cases hlt:j<l.length
  ·refine za (Om U (Om U (On yE U ?_)))
   refine Og (vt (zz U U) (by simp;omega)) U ?_
   refine E4 1 2 5 19 U (ze U (zm ?_))
   have hlc:j<s.cols.length:=by omega
   have hx:l[j]?=some l[j]:=by simp[hlt]
   have hy:s.cols[j]?=some s.cols[j]:=by simp[hlc]
   generalize l[j]=x at hx
   generalize s.cols[j]=y at hy
   obtain⟨b,off,cap,hve,-⟩:=zN.at zbr hl hx
   obtain⟨bc,oc,cc,hve2,-⟩:=zN.at zaE hs.cols hy
   cases hve;cases hve2
   have hce:∀{wz:Wl},zk [] wx wz→wz.cell? ⟨b2,0,none⟩=some (.slice (some ⟨bc,oc,none⟩) s.cols.length dc)∧zv wz bc (oc+j*4) y.cs∧zv wz b (off+j*4) x.cs:=fun hc=>by
    obtain⟨b1',o1,c1',he,h1⟩:=zN.at zbr (zN.chg0 hl ((hc8.trans hcx).trans hc)) hx
    obtain⟨b2,o2,c2,he2,h2⟩:=zN.at zaE (zN.chg0 hs.cols ((hc8.trans hcx).trans hc)) hy
    cases he;cases he2
    exact⟨(k2x.chg0 hc).cell' (i:=0) U,h2,h1⟩
   refine zf (zp (zf ?_))
   refine zH (fun wz=>zk [] wx wz) mix (by kernel_rfl) (zk.drew [] wx) ?_
   refine Td yp U (Tr (fun wz hz=>zg za9 U (hce hz).1) U (Tm U ?_))
   refine Tp (fun _=>zi zaO zad U U _ U hlc) U ?_
   refine Tr (fun wz hz=>zh zcI zad U U (hce hz).2.1) U (Tm U (Tm U ?_))
   refine Tp (fun _=>zi yE ym U U _ U hlt) U ?_
   refine Tr (fun wz hz=>zh zaJ ym U U (hce hz).2.2) U ?_
   refine Tc zDm U U U (zyP y x _ (hn y (Mg hy))) ?_
   rintro v31 w31⟨rfl,c31⟩
   refine⟨.inl ((zk.drew [] _).trans c31),?_⟩
   refine Ta U (D4 1 2 5 6 U ?_)
   have hcx31:=(hcx.trans (zk.drew [] _)).trans c31
   refine zf ?_
   by_cases hf:yS y x≠0
   ·refine za (Om U ?_)
    refine Og (vt (zJ U U) (by simp[hf])) U ?_
    refine E5 1 2 5 6 33 U (ze U (Sr (Om U (Oa U (E1 4 U (zj ?_))))))
    repeat first|refine tr ?_|refine br ?_
    refine zw U U ?_
    exact⟨by rw[hrow,ziq hy hx hf hall],hc8.trans hcx31⟩
   have hf:yS y x=0:=by omega
   refine za (Om U ?_)
   refine Og (vf (zJ U U) (by simp[hf])) U ?_
   refine E5 1 2 5 6 33 U (zb U (zT (zl (za (Om U ?_)))))
   refine Og (zG U U (by omega)) U ?_
   refine Oa U (N3 1 2 5 U ?_)
   refine⟨l.length-(j+1),by omega,j+1,rfl,by omega,rfl,hcx31,fun i c' x' hi h1 h2=>?_⟩
   rcases Lg i j with h|h
   ·exact hall i c' x' h h1 h2
   have:i=j:=by omega
   subst this
   rw[hy]at h1;rw[hx]at h2
   cases h1;cases h2;exact hf
  refine za (Om U (Om U (On yE U ?_)))
  refine Og (vf (zz U U) (by simp;omega)) U ?_
  refine E4 1 2 5 19 U (zb U ?_)
  refine zI ?_
  repeat first|refine te ?_|refine bo rfl ?_
  refine zq _ ?_
  exact⟨⟨_,_,rfl⟩,hcx,fun i c x hi=>hall i c x (by omega)⟩
 rintro F wx⟨⟨f5,f19,rfl⟩,hcx,hall⟩
 refine Sr (Oa U (E1 4 U (zj ?_)))
 refine zw U U ?_
 refine⟨?_,hc8.trans hcx⟩
 rw[hrow,zib fun i c x h1 h2=>hall i c x (Gs h2).1 h1 h2]
theorem zzh(v vi:Va)(row:List zX)(st:List Int)(w:Wl)(hv:ya w v row)(hi:yA w vi st)(hr:∀i∈st,0≤i∧i<row.length)(hn':st.length≤1048576) :
 zS TP 125 #[v,vi] w fun r w'=>∃u,r=.tuple #[u,Ii 0]∧zcc w' u (yo row st)∧(∀b∈zu u,w.heap.size≤b)∧zk [] w w':=by
 obtain⟨pi,ci,rfl,hci⟩:=zN.val hi
 obtain⟨pv,cv,rfl,hcv'⟩:=zN.val hv
 refine A2 Tryz.func125 U U ?_
 refine Sr (Oa U (Oa U (E2 0 1 U (Sr (Oa U (E3 0 1 6 U ?_))))))
 refine zR (fun F wx=>∃u f7 f11,F=[(0,.slice pv row.length cv),(1,.slice pi st.length ci),(6,u),(7,f7),(11,f11)]∧yl wx 111 4 zX.cs u (yo row st)∧(∀b∈zu u,w.heap.size≤b)∧zk [] w wx) ?_ ?_
 ·refine Sr (Oa U (E4 0 1 6 7 U (zp ?_)))
  refine zQ [0,1,6,7] (fun m F wx=>∃(j:Nat) (u:Va),m=st.length-j∧j≤st.length∧F=[(0,.slice pv row.length cv),(1,.slice pi st.length ci),(6,u),(7,Ii j)]∧yl wx 111 4 zX.cs u (yo row (st.take j))∧(∀b∈zu u,w.heap.size≤b)∧zk [] w wx) (m:=st.length-0) ⟨0,_,rfl,Zl _,rfl,yl.nil _ _ _ _,by simp[zu],zk.refl _ _⟩ ?_
  rintro m F wx⟨j,u,rfl,hj,rfl,hu,hfu,hcx⟩
  have hvx:=zN.chg0 hv hcx
  refine zf (zf ?_)
  by_cases hlt:j<st.length
  ·refine za (Om U (Om U (On zaH U ?_)))
   refine Og (vt (zz U U) (by simp;omega)) U ?_
   refine E5 0 1 6 7 11 U (ze U (zm ?_))
   have hx:st[j]?=some st[j]:=by simp[hlt]
   generalize st[j]=i at hx
   have hri:=hr i (Mg hx)
   obtain⟨i,rfl⟩:∃k:Nat,i=(k:Int):=⟨i.toNat,by omega⟩
   obtain⟨bi,oi,cap,hve,hcell⟩:=yA.cell (zN.chg0 hi hcx) hx
   cases hve
   have hir:i<row.length:=by omega
   have hxv:row[i]?=some row[i]:=by simp[hir]
   have hat:zdg row (i:Int)=row[i]:=by unfold zdg;rw[Int.toNat_natCast,hxv];rfl
   generalize row[i]=x at hxv hat
   obtain⟨bv,ov,cv',hve,hcv⟩:=zN.at zbr hvx hxv
   cases hve
   refine zf (zp (zf (Sr (Om U (Om U ?_)))))
   refine Og (zi zaH sz3 U U _ U hlt) U ?_
   refine Ol ag3 U hcell ?_
   refine Og (vf (zz U U) (by simp)) U ?_
   refine Om U (Ov U (Ov U ?_))
   refine Oi U (zi zaH sz3 U U _ U hlt) ?_
   refine Oi U (zg ag3 U hcell) (Ov U (Oi U (zV yE U) ?_))
   refine Oi U (vf (yc U U) (by simp;omega)) ?_
   refine Of U (E5 0 1 6 7 27 U (zb U (zm ?_)))
   have hl:(yo row (st.take j)).length=j:=by rw[zhI,List.length_take];omega
   refine za (Om U (Om U (Om U (Om U ?_))))
   refine Og (zi zaH sz3 U U _ U hlt) U ?_
   refine Ol ag3 U hcell ?_
   refine Og (zi yE ym U U _ U hir) U ?_
   refine Og (zh zaJ ym U U hcv) U ?_
   refine Oq (zA zj2 U (vs:=[_]) U (css:=[_]) ⟨U,Tt⟩ U U (cs:=[_,_,_,_]) U U ?_)
   intro b36 w36 e36 n36 c36 k36
   refine Oq (yr zj2 yE U U (yl.chg0 hu c36) (zB.of_blk (n:=1) k36 U (by simp[maxLen]) (zX.one x)) (by rw[hl];simp only[maxLen];omega) (by rw[hl];omega) U ?_)
   intro v37 w37 i37 c37 o37 z37
   refine Oa U (N4 0 1 6 7 U (zl (za (Om U ?_))))
   refine Og (zG U U (by omega)) U ?_
   refine Oa U (N4 0 1 6 7 U ?_)
   have hsz:=hcx.size
   have hs36:=c36.size
   refine⟨st.length-(j+1),by omega,j+1,v37,rfl,by omega,rfl,?_,yt o37 hfu (by omega),?_⟩
   ·rw[zlq hx,hat]
    exact zN.push i37 U U
   exact(hcx.trans c36).own c37 hfu
  refine za (Om U (Om U (On zaH U ?_)))
  refine Og (vf (zz U U) (by simp;omega)) U ?_
  refine E5 0 1 6 7 11 U (zb U ?_)
  refine zI ?_
  repeat first|refine te ?_|refine bo rfl ?_
  refine zq _ ?_
  rw[Tl (by omega)]at hu
  exact⟨u,_,_,U,hu,hfu,hcx⟩
 rintro F wx⟨u,f7,f11,rfl,hu,hfu,hcx⟩
 refine Sr (Om U (Oa U (Oa U (E2 4 5 U (zj ?_)))))
 refine zcF U U U ?_
 exact⟨u,U,hu,hfu,hcx⟩
theorem zzp(c k u:Va)(s:yK)(w:Wl)(hs:zai w c k u s)(hr:yJ s=true)(hn:∀c∈s.cols,c.n.size≤1048576):zS TP 135 #[.agg #[c,k,u]] w fun r w'=>zcm w' r (zW s)∧(∀b∈zu r,w.heap.size≤b)∧zk [] w w':=by
 have h3:=(zZ hr).2.1
 obtain⟨pk,dk,rfl,hdk⟩:=zN.val hs.key
 obtain⟨pu,du,rfl,hdu⟩:=zbT.val hs.uq
 refine A1 Tryz.func135 U U ?_
 refine Sr ?_
 refine Ob U U ?_
 intro b1 w1 e1 n1 c1 k1
 refine Oa U (E1 1 U (zf (Sr (Og (zh zaX zaS U U (zv.of_blk0 k1)) U ?_))))
 refine Oc zv3 U U U (zjh _ _ _ s _ (hs.chg0 c1) hn) ?_
 rintro v4 w4⟨h4,c4⟩
 rw[hr]at h4
 subst h4
 refine Og (zC U) U (E2 1 5 U (zb U (zm ?_)))
 have k1:=k1.chg0 c4
 have hs4:=(hs.chg0 c1).chg0 c4
 obtain⟨vu,ou,lu⟩:=id hs4.uq
 have hvu:=ou.1.len_xs
 refine Sr (Od zbp U (Ol zci U (k1.cell' (i:=1) U) ?_))
 refine Oq (zA ztw U (vs:=[_]) U (css:=[_]) ⟨U,Tt⟩ U U (cs:=[_]) U U ?_)
 intro b8 w8 e8 n8 c8 k8
 refine Od zay U (Ol zcL U ((k1.chg0 c8).cell' (i:=2) U) ?_)
 refine Oq (zcA ztw zbd U U (zB.of_blk (n:=1) k8 U (by simp[maxLen]) (by intro y hy;simp at hy;subst hy;rfl)) (Rd.chg0 ou.1 c8) (by simp only[maxLen];omega) (by omega) U ?_)
 intro v11 w11 i11 c11 o11 z11
 refine Oa U (E1 2 U (zj ?_))
 refine zw U U ?_
 have hsz:=c1.size
 have hsz4:=c4.size
 have hs8:=c8.size
 have hcw:zk [] w w11:=((c1.trans c4).trans c8).own c11 (by intro y hy;simp[zu]at hy;omega)
 have hs11:=hs.chg0 hcw
 have hc411:zk [] w4 w11:=c8.own c11 (by intro y hy;simp[zu]at hy;omega)
 have hlow:zcM w11 3 1 ics vu s.uq:=lu.chg0 hc411
 refine⟨⟨_,?_,(show zcM w11 3 1 ics (.slice pk s.key.length dk::vu) (s.key::s.uq) from⟨hs11.key,hlow⟩)⟩,?_,hcw⟩
 ·have e:(zW s).length=1+s.uq.length:=by simp[zW];omega
  rw[e];exact i11.toOu
 rcases o11 with o11|⟨b,o11,hb⟩
 ·rw[o11];intro x hx;simp[zu]at hx;omega
 rw[o11];intro x hx;simp at hx;omega
theorem zlY(v u:Va)(l m:List Int)(w:Wl)(hv:yA w v l)(hu:yA w u m):zS TP 83 #[v,u] w fun r w'=>r=.bool (decide (l=m))∧zk [] w w':=by
 obtain⟨pv,cv,rfl,hcv⟩:=zN.val hv
 obtain⟨pu,cu,rfl,hcu⟩:=zN.val hu
 have hml:=zN.max hv
 simp only[maxLen]at hml
 refine A2 Tryz.func83 U U ?_
 refine Sr (Oa U (E2 0 1 U (zf (zf ?_))))
 by_cases he:l.length≠m.length
 ·refine za (Om U (On zaH U (Om U (On zaH U ?_))))
  refine Og (vt (zJ U U) (by simp;omega)) U ?_
  refine E3 0 1 10 U (ze U (Sr (Oa U (E1 4 U (zj ?_)))))
  repeat first|refine tr ?_|refine br ?_
  refine zw U U ?_
  exact⟨by rw[df (fun h=>he (by rw[h]))],zk.refl _ _⟩
 have he:l.length=m.length:=by omega
 refine za (Om U (On zaH U (Om U (On zaH U ?_))))
 refine Og (vf (zJ U U) (by simp;omega)) U ?_
 refine E3 0 1 10 U (zb U (zm ?_))
 refine zR (fun F wx=>(∃f5 f14,F=[(0,.slice pv l.length cv),(1,.slice pu m.length cu),(5,f5),(14,f14)])∧zk [] w wx∧l=m) ?_ ?_
 ·refine Sr (Oa U (E3 0 1 5 U (zp ?_)))
  refine zQ [0,1,5] (fun k F wx=>∃j:Nat,k=l.length-j∧j≤l.length∧F=[(0,.slice pv l.length cv),(1,.slice pu m.length cu),(5,Ii j)]∧zk [] w wx∧l.take j=m.take j) (m:=l.length-0) ⟨0,rfl,Zl _,rfl,zk.refl _ _,by simp⟩ ?_
  rintro k F wx⟨j,rfl,hj,rfl,hcx,htk⟩
  refine zf (zf ?_)
  by_cases hlt:j<l.length
  ·refine za (Om U (Om U (On zaH U ?_)))
   refine Og (vt (zz U U) (by simp;omega)) U ?_
   refine E4 0 1 5 14 U (ze U (zm ?_))
   have hlm:j<m.length:=by omega
   have hx:l[j]?=some l[j]:=by simp[hlt]
   have hy:m[j]?=some m[j]:=by simp[hlm]
   generalize l[j]=x at hx
   generalize m[j]=y at hy
   obtain⟨b,off,cap,hve,-⟩:=yA.cell hv hx
   obtain⟨bc,oc,cc,hve2,-⟩:=yA.cell hu hy
   cases hve;cases hve2
   have hce:∀{wz:Wl},zk [] wx wz→wz.cell? ⟨b,off+j*1,none⟩=some (Ii x)∧wz.cell? ⟨bc,oc+j*1,none⟩=some (Ii y):=fun hc=>by
    obtain⟨b1',o1,c1',he,h1⟩:=yA.cell (zN.chg0 hv (hcx.trans hc)) hx
    obtain⟨b2,o2,c2,he2,h2⟩:=yA.cell (zN.chg0 hu (hcx.trans hc)) hy
    cases he;cases he2
    exact⟨h1,h2⟩
   refine zf (zp (zf ?_))
   by_cases hxy:x≠y
   ·refine zH (fun wz=>zk [] wx wz) mix (by kernel_rfl) (zk.drew [] wx) ?_
    refine Tm U (Tm U ?_)
    refine Tp (fun _=>zi zaH sz3 U U _ U hlt) U ?_
    refine Tr (fun wz hz=>zg ag3 U (hce hz).1) U (Tm U (Tm U ?_))
    refine Tp (fun _=>zi zaH sz3 U U _ U hlm) U ?_
    refine Tr (fun wz hz=>zg ag3 U (hce hz).2) U ?_
    refine Tp (fun _=>vt (zJ U U) (by simp[hxy])) U ?_
    refine D4 0 1 5 25 U (ze U (Sr (Oa U (E1 4 U (zj ?_)))))
    repeat first|refine tr ?_|refine br ?_
    refine zw U U ?_
    refine⟨?_,hcx.trans (zk.drew [] _)⟩
    rw[df]
    rintro rfl
    rw[hx]at hy
    exact hxy (Option.some.inj hy)
   have hxy:x=y:=by omega
   refine zH (fun wz=>zk [] wx wz) mix (by kernel_rfl) (zk.drew [] wx) ?_
   refine Tm U (Tm U ?_)
   refine Tp (fun _=>zi zaH sz3 U U _ U hlt) U ?_
   refine Tr (fun wz hz=>zg ag3 U (hce hz).1) U (Tm U (Tm U ?_))
   refine Tp (fun _=>zi zaH sz3 U U _ U hlm) U ?_
   refine Tr (fun wz hz=>zg ag3 U (hce hz).2) U ?_
   refine Tp (fun _=>vf (zJ U U) (by simp[hxy])) U ?_
   refine D4 0 1 5 25 U (zb U (zT (zl (za (Om U ?_)))))
   refine Og (zG U U (by omega)) U ?_
   refine Oa U (N3 0 1 5 U ?_)
   refine⟨l.length-(j+1),by omega,j+1,rfl,by omega,rfl,hcx.trans (zk.drew [] _),?_⟩
   rw[yq hx,yq hy,htk,hxy]
  refine za (Om U (Om U (On zaH U ?_)))
  refine Og (vf (zz U U) (by simp;omega)) U ?_
  refine E4 0 1 5 14 U (zb U ?_)
  refine zI ?_
  repeat first|refine te ?_|refine bo rfl ?_
  refine zq _ ?_
  rw[Tl (by omega),Tl (by omega)]at htk
  exact⟨⟨_,_,U⟩,hcx,htk⟩
 rintro F wx⟨⟨f5,f14,rfl⟩,hcx,heq⟩
 refine Sr (Oa U (E1 4 U (zj ?_)))
 refine zw U U ?_
 exact⟨by rw[dt heq],hcx⟩
theorem zlL(c k u c' k' u':Va)(s t:yK)(w:Wl)(hs:zai w c k u s)(ht:zai w c' k' u' t):zS TP 44 #[.agg #[c,k,u],.agg #[c',k',u']] w fun r w'=>r=.bool (decide (s=t))∧zk [] w w':=by
 obtain⟨pc,dc,rfl,hdc⟩:=zN.val hs.cols
 obtain⟨pk,dk,rfl,hdk⟩:=zN.val hs.key
 obtain⟨pu,du,rfl,hdu⟩:=zbT.val hs.uq
 obtain⟨pc',dc',rfl,hdc'⟩:=zN.val ht.cols
 obtain⟨pk',dk',rfl,hdk'⟩:=zN.val ht.key
 obtain⟨pu',du',rfl,hdu'⟩:=zbT.val ht.uq
 have hmc:=zN.max hs.cols
 have hmu:=zbT.max hs.uq
 simp only[maxLen]at hmc hmu
 refine A2 Tryz.func44 U U ?_
 refine Sr ?_
 refine Ob U U ?_
 intro b2 w2 e2 n2 c2 k2
 refine Ob U U ?_
 intro b3 w3 e3 n3 c3 k3
 refine Oa U (E2 2 3 U ?_)
 have k2:=k2.chg0 c3
 have hc3:zk [] w w3:=c2.trans c3
 have hs3:=hs.chg0 hc3
 have ht3:=ht.chg0 hc3
 refine zf (zf ?_)
 by_cases h1:s.cols.length≠t.cols.length
 ·refine za (Od yp U (Ol za9 U (k2.cell' (i:=0) U) (On zaO U (Od yp U (Ol za9 U (k3.cell' (i:=0) U) (On zaO U ?_))))))
  refine Og (vt (zJ U U) (by simp;omega)) U ?_
  refine Om U ?_
  iterate 7 refine Ok U ?_
  refine Ot U (Om U ?_)
  iterate 6 refine Ok U ?_
  refine Ot U (E3 2 3 30 U (ze U (Sr (Oa U (E1 4 U (zj ?_))))))
  repeat first|refine tr ?_|refine br ?_
  refine zw U U ?_
  exact⟨by rw[df (fun h=>h1 (by rw[h]))],hc3⟩
 by_cases h2:s.uq.length≠t.uq.length
 ·refine za (Od yp U (Ol za9 U (k2.cell' (i:=0) U) (On zaO U (Od yp U (Ol za9 U (k3.cell' (i:=0) U) (On zaO U ?_))))))
  refine Og (vf (zJ U U) (by simp;omega)) U ?_
  refine Om U (Oi U (zd zay U) (Oi U (zg zcL U (k2.cell' (i:=2) U)) (Oi U (zV zbd U) (Oi U (zd zay U) (Oi U (zg zcL U (k3.cell' (i:=2) U)) (Oi U (zV zbd U) ?_))))))
  refine Oi U (vt (zJ U U) (by simp;omega)) ?_
  refine Of U (Om U ?_)
  iterate 6 refine Ok U ?_
  refine Ot U (E3 2 3 30 U (ze U (Sr (Oa U (E1 4 U (zj ?_))))))
  repeat first|refine tr ?_|refine br ?_
  refine zw U U ?_
  exact⟨by rw[df (fun h=>h2 (by rw[h]))],hc3⟩
 by_cases h3:s.key=t.key
 case neg=>
  refine za (Od yp U (Ol za9 U (k2.cell' (i:=0) U) (On zaO U (Od yp U (Ol za9 U (k3.cell' (i:=0) U) (On zaO U ?_))))))
  refine Og (vf (zJ U U) (by simp;omega)) U ?_
  refine Om U (Oi U (zd zay U) (Oi U (zg zcL U (k2.cell' (i:=2) U)) (Oi U (zV zbd U) (Oi U (zd zay U) (Oi U (zg zcL U (k3.cell' (i:=2) U)) (Oi U (zV zbd U) ?_))))))
  refine Oi U (vf (zJ U U) (by simp;omega)) ?_
  refine Of U (Om U (Oi U (zd zbp U) (Oi U (zg zci U (k2.cell' (i:=1) U)) (Oi U (zd zbp U) (Oi U (zg zci U (k3.cell' (i:=1) U)) ?_)))))
  refine Ow U U zu9 U U U (zlY _ _ _ _ _ hs3.key ht3.key) ?_
  rintro v28 w28⟨h28,c28⟩
  rw[df h3]at h28
  subst h28
  refine Oi U (zC U) (Of U (E3 2 3 30 U (ze U (Sr (Oa U (E1 4 U (zj ?_)))))))
  repeat first|refine tr ?_|refine br ?_
  refine zw U U ?_
  exact⟨by rw[df (fun h=>h3 (by rw[h]))],hc3.trans c28⟩
 refine za (Od yp U (Ol za9 U (k2.cell' (i:=0) U) (On zaO U (Od yp U (Ol za9 U (k3.cell' (i:=0) U) (On zaO U ?_))))))
 refine Og (vf (zJ U U) (by simp;omega)) U ?_
 refine Om U (Oi U (zd zay U) (Oi U (zg zcL U (k2.cell' (i:=2) U)) (Oi U (zV zbd U) (Oi U (zd zay U) (Oi U (zg zcL U (k3.cell' (i:=2) U)) (Oi U (zV zbd U) ?_))))))
 refine Oi U (vf (zJ U U) (by simp;omega)) ?_
 refine Of U (Om U (Oi U (zd zbp U) (Oi U (zg zci U (k2.cell' (i:=1) U)) (Oi U (zd zbp U) (Oi U (zg zci U (k3.cell' (i:=1) U)) ?_)))))
 refine Ow U U zu9 U U U (zlY _ _ _ _ _ hs3.key ht3.key) ?_
 rintro v28 w28⟨h28,c28⟩
 rw[dt h3]at h28
 subst h28
 refine Oi U (zC U) (Of U (E3 2 3 30 U (zb U (zm ?_))))
 have k2:=k2.chg0 c28
 have k3:=k3.chg0 c28
 have hc28:=hc3.trans c28
 have hlc:s.cols.length=t.cols.length:=by omega
 have hlu:s.uq.length=t.uq.length:=by omega
 refine zR (fun F wx=>(∃f5 f35,F=[(2,Pt b2),(3,Pt b3),(5,f5),(35,f35)])∧zk [] w28 wx∧s.cols=t.cols) ?_ ?_
 ·refine Sr (Oa U (E3 2 3 5 U (zp ?_)))
  refine zQ [2,3,5] (fun k F wx=>∃j:Nat,k=s.cols.length-j∧j≤s.cols.length∧F=[(2,Pt b2),(3,Pt b3),(5,Ii j)]∧zk [] w28 wx∧s.cols.take j=t.cols.take j) (m:=s.cols.length-0) ⟨0,rfl,Zl _,rfl,zk.refl _ _,by simp⟩ ?_
  rintro k F wx⟨j,rfl,hj,rfl,hcx,htk⟩
  have k2x:=k2.chg0 hcx
  have k3x:=k3.chg0 hcx
  refine zf (zf ?_)
  by_cases hlt:j<s.cols.length
  ·refine za (Om U (Od yp U (Ol za9 U (k2x.cell' (i:=0) U) (On zaO U ?_))))
   refine Og (vt (zz U U) (by simp;omega)) U ?_
   refine E4 2 3 5 35 U (ze U (zm ?_))
   have hlm:j<t.cols.length:=by omega
   have hx:s.cols[j]?=some s.cols[j]:=by simp[hlt]
   have hy:t.cols[j]?=some t.cols[j]:=by simp[hlm]
   generalize s.cols[j]=x at hx
   generalize t.cols[j]=y at hy
   obtain⟨b,off,cap,hve,-⟩:=zN.at zaE hs.cols hx
   obtain⟨bc,oc,cc,hve2,-⟩:=zN.at zaE ht.cols hy
   cases hve;cases hve2
   have hce:∀{wz:Wl},zk [] wx wz→wz.cell? ⟨b2,0,none⟩=some (.slice (some ⟨b,off,none⟩) s.cols.length dc)∧wz.cell? ⟨b3,0,none⟩=some (.slice (some ⟨bc,oc,none⟩) t.cols.length dc')∧zv wz b (off+j*4) x.cs∧zv wz bc (oc+j*4) y.cs:=fun hc=>by
    obtain⟨b1',o1,c1',he,h1⟩:=zN.at zaE (zN.chg0 hs.cols ((hc28.trans hcx).trans hc)) hx
    obtain⟨b2,o2,c2,he2,h2⟩:=zN.at zaE (zN.chg0 ht.cols ((hc28.trans hcx).trans hc)) hy
    cases he;cases he2
    exact⟨(k2x.chg0 hc).cell' (i:=0) U,(k3x.chg0 hc).cell' (i:=0) U,h1,h2⟩
   refine zf (zp (zf ?_))
   refine zH (fun wz=>zk [] wx wz) mix (by kernel_rfl) (zk.drew [] wx) ?_
   refine Td yp U (Tr (fun wz hz=>zg za9 U (hce hz).1) U (Tm U ?_))
   refine Tp (fun _=>zi zaO zad U U _ U hlt) U ?_
   refine Tr (fun wz hz=>zh zcI zad U U (hce hz).2.2.1) U (Td yp U (Tr (fun wz hz=>zg za9 U (hce hz).2.1) U (Tm U ?_)))
   refine Tp (fun _=>zi zaO zad U U _ U hlm) U ?_
   refine Tr (fun wz hz=>zh zcI zad U U (hce hz).2.2.2) U (Tp (fun _=>zhX zxj U U (zuw x y)) U (D4 2 3 5 48 U ?_))
   refine zP U (fun hT=>?_) (fun hF=>?_)
   ·refine Sr (Oa U (E1 4 U (zj ?_)))
    repeat first|refine tr ?_|refine br ?_
    refine zw U U ?_
    refine⟨?_,(hc28.trans hcx).trans (zk.drew [] _)⟩
    rw[df]
    rintro rfl
    rw[hx]at hy
    cases hy
    simp at hT
   refine zT (zl ?_)
   have hxy:x=y:=by simpa using hF
   refine za (Om U ?_)
   refine Og (zG U U (by omega)) U ?_
   refine Oa U (N3 2 3 5 U ?_)
   refine⟨s.cols.length-(j+1),by omega,j+1,rfl,by omega,rfl,hcx.trans (zk.drew [] _),?_⟩
   rw[yq hx,yq hy,htk,hxy]
  refine za (Om U (Od yp U (Ol za9 U (k2x.cell' (i:=0) U) (On zaO U ?_))))
  refine Og (vf (zz U U) (by simp;omega)) U ?_
  refine E4 2 3 5 35 U (zb U ?_)
  refine zI ?_
  repeat first|refine te ?_|refine bo rfl ?_
  refine zq _ ?_
  rw[Tl (by omega),Tl (by omega)]at htk
  exact⟨⟨_,_,U⟩,hcx,htk⟩
 rintro F wx⟨⟨f5,f35,rfl⟩,hcx,hcols⟩
 refine zR (fun F wy=>(∃f6 f53,F=[(2,Pt b2),(3,Pt b3),(6,f6),(53,f53)])∧zk [] w28 wy∧s.uq=t.uq) ?_ ?_
 ·refine Sr (Oa U (E3 2 3 6 U (zp ?_)))
  refine zQ [2,3,6] (fun k F wy=>∃j:Nat,k=s.uq.length-j∧j≤s.uq.length∧F=[(2,Pt b2),(3,Pt b3),(6,Ii j)]∧zk [] w28 wy∧s.uq.take j=t.uq.take j) (m:=s.uq.length-0) ⟨0,rfl,Zl _,rfl,hcx,by simp⟩ ?_
  rintro k F wy⟨j,rfl,hj,rfl,hcy,htk⟩
  have k2x:=k2.chg0 hcy
  have k3x:=k3.chg0 hcy
  refine zf (zf ?_)
  by_cases hlt:j<s.uq.length
  ·refine za (Om U (Od zay U (Ol zcL U (k2x.cell' (i:=2) U) (On zbd U ?_))))
   refine Og (vt (zz U U) (by simp;omega)) U ?_
   refine E4 2 3 6 53 U (ze U (zm ?_))
   have hlm:j<t.uq.length:=by omega
   have hx:s.uq[j]?=some s.uq[j]:=by simp[hlt]
   have hy:t.uq[j]?=some t.uq[j]:=by simp[hlm]
   generalize s.uq[j]=x at hx
   generalize t.uq[j]=y at hy
   have hhs:∀{wz:Wl},zk [] wy wz→zai wz _ _ _ s∧zai wz _ _ _ t:=fun hc=>⟨hs.chg0 ((hc28.trans hcy).trans hc),ht.chg0 ((hc28.trans hcy).trans hc)⟩
   obtain⟨b,off,cap,vx,hve,hc0,hix⟩:=zcm.cell (hhs (zk.refl [] wy)).1.uq hx
   obtain⟨bc,oc,cc,vy,hve2,hc0',hiy⟩:=zcm.cell (hhs (zk.refl [] wy)).2.uq hy
   cases hve;cases hve2
   refine zf (zp (zf ?_))
   by_cases hxy:x=y
   case neg=>
    refine zH (fun wz=>zk [] wy wz) mix (by kernel_rfl) (zk.drew [] wy) ?_
    refine Td zay U (Tr (fun wz hz=>zg zcL U ((k2x.chg0 hz).cell' (i:=2) U)) U (Tm U ?_))
    refine Tp (fun _=>zi zbd zg6 U U _ U hlt) U ?_
    refine Tr (fun wz hz=>zg zci U (zdL hz hc0 (by simp))) U ?_
    refine Td zay U (Tr (fun wz hz=>zg zcL U ((k3x.chg0 hz).cell' (i:=2) U)) U (Tm U ?_))
    refine Tp (fun _=>zi zbd zg6 U U _ U hlm) U ?_
    refine Tr (fun wz hz=>zg zci U (zdL hz hc0' (by simp))) U ?_
    refine Tc zu9 U U U (zlY _ _ _ _ _ (zN.chg0 hix (zk.drew [] _)) (zN.chg0 hiy (zk.drew [] _))) ?_
    rintro v66 w66⟨h66,c66⟩
    rw[df hxy]at h66
    subst h66
    refine⟨.inl ((zk.drew [] _).trans c66),?_⟩
    refine Tp (fun _=>zC U) U (D4 2 3 6 67 U (ze U (Sr (Oa U (E1 4 U (zj ?_))))))
    repeat first|refine tr ?_|refine br ?_
    refine zw U U ?_
    refine⟨?_,((hc28.trans hcy).trans (zk.drew [] _)).trans c66⟩
    rw[df]
    rintro rfl
    rw[hx]at hy
    exact hxy (Option.some.inj hy)
   refine zH (fun wz=>zk [] wy wz) mix (by kernel_rfl) (zk.drew [] wy) ?_
   refine Td zay U (Tr (fun wz hz=>zg zcL U ((k2x.chg0 hz).cell' (i:=2) U)) U (Tm U ?_))
   refine Tp (fun _=>zi zbd zg6 U U _ U hlt) U ?_
   refine Tr (fun wz hz=>zg zci U (zdL hz hc0 (by simp))) U ?_
   refine Td zay U (Tr (fun wz hz=>zg zcL U ((k3x.chg0 hz).cell' (i:=2) U)) U (Tm U ?_))
   refine Tp (fun _=>zi zbd zg6 U U _ U hlm) U ?_
   refine Tr (fun wz hz=>zg zci U (zdL hz hc0' (by simp))) U ?_
   refine Tc zu9 U U U (zlY _ _ _ _ _ (zN.chg0 hix (zk.drew [] _)) (zN.chg0 hiy (zk.drew [] _))) ?_
   rintro v66 w66⟨h66,c66⟩
   rw[dt hxy]at h66
   subst h66
   refine⟨.inl ((zk.drew [] _).trans c66),?_⟩
   refine Tp (fun _=>zC U) U (D4 2 3 6 67 U (zb U (zT (zl (za (Om U ?_))))))
   refine Og (zG U U (by omega)) U ?_
   refine Oa U (N3 2 3 6 U ?_)
   refine⟨s.uq.length-(j+1),by omega,j+1,rfl,by omega,rfl,(hcy.trans (zk.drew [] _)).trans c66,?_⟩
   rw[yq hx,yq hy,htk,hxy]
  refine za (Om U (Od zay U (Ol zcL U (k2x.cell' (i:=2) U) (On zbd U ?_))))
  refine Og (vf (zz U U) (by simp;omega)) U ?_
  refine E4 2 3 6 53 U (zb U ?_)
  refine zI ?_
  repeat first|refine te ?_|refine bo rfl ?_
  refine zq _ ?_
  rw[Tl (by omega),Tl (by omega)]at htk
  exact⟨⟨_,_,U⟩,hcy,htk⟩
 rintro F wy⟨⟨f6,f53,rfl⟩,hcy,huq⟩
 refine Sr (Oa U (E1 4 U (zj ?_)))
 refine zw U U ?_
 refine⟨?_,hc28.trans hcy⟩
 rw[dt]
 obtain⟨a,b,c⟩:=s
 obtain⟨a',b',c'⟩:=t
 simp only at hcols h3 huq
 rw[hcols,h3,huq]
section
variable {P:Program} {n:Nat} {F:Fr} {w:Wl} {dst:Option Nat} {ty:TypeId} {pos:String} {af:Array Edge} {gd:Option (Nat×Bool)}
theorem zwq{x y:Operand}{t u:TypeId}{i:Nat}(j:Nat)(hx:ev F x=some (.int .u64 i))(hy:ev F y=some (.int .u64 j))(hi:i<18446744073709551616)(hj:1≤j):Vl P n F ⟨dst,.binOp .quo t x y u,ty,pos,af,gd⟩ w (.int .u64 ((i/j:Nat):Int)) w:=by
 intro a ha
 have h0:(j:Int)≠0:=by omega
 have h1:(i:Int).tdiv j=((i/j:Nat):Int):=by rw[Int.tdiv_eq_ediv_of_nonneg (by omega)];simp
 have h3:i/j≤i:=Nat.div_le_self _ _
 have h4:IntKind.u64.wrap ((i:Int).tdiv j)=((i/j:Nat):Int):=by
  rw[h1]
  generalize i/j=q at h3
  exact IntWalk.u64_in _ ⟨by omega,by omega⟩
 simp only[execOp,ha.eval hx,ha.eval hy,eqGuard,binOp,Op.intDiv,if_neg h0,h4]
 rfl
theorem zwr{x y:Operand}{t u:TypeId}{i:Nat}(j:Nat)(hx:ev F x=some (.int .u64 i))(hy:ev F y=some (.int .u64 j))(hi:i<18446744073709551616)(hj:1≤j):Vl P n F ⟨dst,.binOp .rem t x y u,ty,pos,af,gd⟩ w (.int .u64 ((i%j:Nat):Int)) w:=by
 intro a ha
 have h0:(j:Int)≠0:=by omega
 have h1:(i:Int).tmod j=((i%j:Nat):Int):=by rw[Int.tmod_eq_emod_of_nonneg (by omega)];simp
 simp only[execOp,ha.eval hx,ha.eval hy,eqGuard,binOp,Op.intDiv,if_neg h0,h1]
 rfl
end
theorem zrD{n:Nat}(hn:n<18446744073709551616)(h0:0<n):yy n=yy (n/256)+1:=by
 have hd:n/256<18446744073709551616:=Nat.lt_of_le_of_lt (Nat.div_le_self _ _) hn
 have key:∀k,yy n≤k+1↔yy (n/256)≤k:=fun k=>by
  rw[zeq hn,zeq hd,Nat.pow_succ,Nat.div_lt_iff_lt_mul (by omega)]
 have h1:1≤yy n:=by
  rcases Nat.eq_zero_or_pos (yy n) with h|h
  ·have:=(zeq hn (k:=0)).1 (by omega)
   simp at this;omega
  exact h
 have a:=(key (yy (n/256))).2 (Nat.le_refl _)
 have b:=(key (yy n-1)).1 (by omega)
 omega
theorem zpv(n:Nat):∀k,be n (k+1)=be (n/256) k++[UInt8.ofNat (n%256)]
 |0=>by simp[be]
 |k+1=>by
  rw[be,zpv n k,be,List.cons_append,Nat.div_div_eq_div_mul,Nat.pow_succ,Nat.mul_comm]
theorem zzf:∀(n:Nat) (w:Wl),n<18446744073709551616→zS TP 313 #[.int .u64 n] w fun r w'=>zB w' 5 1 r (be n (yy n)).length (bv (be n (yy n)))∧(∀b∈zu r,w.heap.size≤b)∧zk [] w w':=by
 intro n
 induction n using Nat.strongRecOn with
 |ind n ih=>
 intro w hn
 refine A1 Tryz.func313 U U ?_
 refine Sr (Oa U (E1 0 U (zf (zf ?_))))
 by_cases h0:n=0
 ·subst h0
  refine za (Om U ?_)
  refine Og (vt (zy U U) (dt (by omega))) U ?_
  refine E2 0 4 U (ze U (Sr (Oa U (E1 2 U (zj ?_)))))
  repeat first|refine tr ?_|refine br ?_
  refine zw U U ?_
  exact⟨zB.nil _ _ _,by simp[zu],zk.refl _ _⟩
 refine za (Om U ?_)
 refine Og (vf (zy U U) (by simp;omega)) U ?_
 refine E2 0 4 U (zb U (zm ?_))
 have hst:=zrD hn (by omega)
 have h8:=zbI n
 have hbl:=za5 (n/256) (yy (n/256))
 refine Sr (Om U ?_)
 refine Og (zwq 256 U U hn (by omega)) U ?_
 refine Oc zxq U U U (ih (n/256) (by omega) _ (by omega)) ?_
 rintro v7 w7⟨i7,f7,c7⟩
 refine Om U ?_
 refine Og (zwr 256 U U hn (by omega)) U ?_
 refine Og (yj zaZ zbC U (show IntKind.u8.wrap ((n%256:Nat):Int)=(((UInt8.ofNat (n%256)).toNat:Nat):Int) by rw[zdP];simp)) U ?_
 refine Oq (zA zbk U (vs:=[_]) U (css:=[_]) ⟨U,Tt⟩ U U (cs:=[_]) U U ?_)
 intro b11 w11 e11 n11 c11 k11
 refine Oq (yr zbk y7 U U (zB.chg0 i7 c11) (zB.of_blk (n:=1) (c:=bv [UInt8.ofNat (n%256)]) k11 U (by simp[maxLen]) (zcX _)) (by simp only[maxLen];omega) (by omega) U ?_)
 intro v12 w12 i12 c12 o12 z12
 refine Oa U (E1 2 U (zj ?_))
 refine zw U U ?_
 have hs7:=c7.size
 refine⟨?_,yt o12 f7 (by have:=c11.size;omega),((c7.trans c11).own c12 f7)⟩
 have e:be n (yy n)=be (n/256) (yy (n/256))++[UInt8.ofNat (n%256)]:=by rw[hst,zpv]
 rw[e,Sa,yF]
 exact i12
theorem ztC(n:Nat)(w:Wl)(hn:n<18446744073709551616):zS TP 232 #[.int .u64 n] w fun r w'=>zB w' 5 1 r (zcD n).length (bv (zcD n))∧(∀b∈zu r,w.heap.size≤b)∧zk [] w w':=by
 have h8:=zbI n
 have hbl:=za5 n (yy n)
 refine A1 Tryz.func232 U U ?_
 refine Sr (Oa U (E1 0 U (Sr (Om U ?_))))
 refine Oc zxq U U U (zzf n _ hn) ?_
 rintro v5 w5⟨i5,f5,c5⟩
 obtain⟨p5,q5,rfl,-⟩:=id (zB.val i5)
 refine Oa U (E1 3 U (Sr (Om U (On y7 U ?_))))
 refine Og (yj zaZ zaB U (show IntKind.u8.wrap (((be n (yy n)).length:Nat):Int)=(((UInt8.ofNat (yy n)).toNat:Nat):Int) by rw[hbl,zdP];simp)) U ?_
 refine Oq (zA zbk U (vs:=[_]) U (css:=[_]) ⟨U,Tt⟩ U U (cs:=[_]) U U ?_)
 intro b9 w9 e9 n9 c9 k9
 refine Om U ?_
 refine Oq (yr zbk y7 U U (zB.of_blk (n:=1) (c:=bv [UInt8.ofNat (yy n)]) k9 U (by simp[maxLen]) (zcX _)) (zB.chg0 i5 c9) (by simp only[maxLen];omega) (by omega) U ?_)
 intro v11 w11 i11 c11 o11 z11
 refine Oa U (E1 2 U (zj ?_))
 refine zw U U ?_
 have hs5:=c5.size
 have f9:∀x∈zu (.slice (some ⟨b9,0,none⟩) 1 1),w.heap.size≤x:=by intro x hx;simp[zu]at hx;omega
 refine⟨?_,yt o11 f9 (by have:=c9.size;omega),(c5.trans c9).own c11 f9⟩
 have e:zcD n=[UInt8.ofNat (yy n)]++be n (yy n):=rfl
 rw[e,Sa,yF]
 exact i11
section
variable {P:Program} {w:Wl} {t t2 ty e:TypeId} {k by':Nat} {z:Va}
theorem zmy(A:App P t e k by' z)(hit:zdD P t2 .i64=true){v:Va}{n m:Nat}{xs:LA}(hv:zB w e k v n xs)(h63:n+m≤maxLen)(hbytes:(n+m)*by'≤140737488355328) :
 ∃v' w',(Builtin.append_ #[t,t2] ty #[v,Ii (m:Int)]).run P w=.ok v' w'∧zB w' e k v' (n+m) (xs++(Builtin.zeroCells z.cells m).toList)∧zk (zu v) w w'∧(zu v'=zu v∨∃b,zu v'=[b]∧w.heap.size≤b):=by
 obtain⟨i,hi,hk,hb,hz⟩:=A.info
 have hund:=yC A.sl
 have hund2:P.underlying t2=some (.int .i64):=by unfold zdD at hit;split at hit<;>simp_all
 have hlx:=hv.len_xs
 have hm63:n+m≤9223372036854775807:=by simp only[maxLen]at h63;omega
 have hwr:IntKind.i64.wrap (m:Int)=m:=IntWalk.i64_in _ ⟨by omega,by omega⟩
 have hneg:¬ ((m:Int)<0):=by omega
 have hbm:m*by'≤140737488355328:=Nat.le_trans (Nat.mul_le_mul_right _ (by omega)) hbytes
 have hbig:¬ (281474976710656<(m:Int)*(i.bytes:Int)):=by
  rw[hb]
  have:((m*by':Nat):Int)≤140737488355328:=Int.ofNat_le.2 hbm
  rw[Int.natCast_mul]at this
  omega
 generalize hys:(Builtin.zeroCells z.cells m).toList=ys
 have hysa:Builtin.zeroCells z.cells m=ys.toArray:=by rw[←hys]
 have hly:ys.length=m*k:=by rw[←hys,Array.length_toList,size_zeroCells,A.zs]
 have hone:∀u∈ys,u.oneCell'=true:=by rw[←hys];exact zbJ z _ A.zo
 have hzero:∀w1:Wl,(zeroValue e).run P w1=.ok z w1:=fun w1=>zcg A.zr
 have hpos:0<k:=A.pos
 have grown:∀old,n+m>old→∀S,zB (w.drew.alloc (.cells (xs.toArray++ys.toArray++Builtin.zeroCells z.cells (grownCap w (n+m) old e-(n+m))) e)) e k
  (.slice (some ⟨w.heap.size,0,none⟩) (n+m) (grownCap w (n+m) old e)) (n+m) (xs++ys) ∧
  zk S w (w.drew.alloc (.cells (xs.toArray++ys.toArray++Builtin.zeroCells z.cells (grownCap w (n+m) old e-(n+m))) e)):=by
  intro old _ S
  have hge:=grownCap_ge w (n+m) old e
  have hcm:=grownCap_le_maxLen w (n+m) old e h63
  refine⟨.inr ⟨w.heap.size,0,_,xs++ys++(Builtin.zeroCells z.cells (grownCap w (n+m) old e-(n+m))).toList,U,?_,hge,hcm,?_,?_,?_⟩,(zk.drew S w).transS (zk.alloc S _ _)⟩
  ·show (w.drew.heap.push _)[w.heap.size]?=_
   rw[show w.heap.size=w.drew.heap.size from rfl,Array.getElem?_push_size]
   simp
  ·simp only[Sa,hlx,hly,Array.length_toList,size_zeroCells,A.zs,←Nat.add_mul,Nat.zero_add]
   rw[Nat.add_sub_cancel' hge]
   exact Nat.le_refl _
  ·rw[List.drop_zero,List.take_left' (by simp[hlx,hly,Nat.add_mul])]
  intro u hu
  simp only[List.mem_append]at hu
  rcases hu with (hu|hu)|hu
  ·exact hv.one_xs u hu
  ·exact hone u hu
  exact zbJ z _ A.zo u hu
 rcases hv with⟨rfl,rfl,rfl⟩|⟨g,off,cap,c,rfl,hv⟩
 ·by_cases hm:m=0
  ·subst hm
   have hy:ys=[]:=List.eq_nil_of_length_eq_zero (by simpa using hly)
   subst hy
   refine⟨.slice none 0 0,w,?_,zB.nil _ _ _,zk.refl _ _,.inl U⟩
   simp[Builtin.append_,run_underlying hund,run_underlying hund2,zY A.sz,asInt,asIntOf,typeInfo,hi,show IntKind.i64.wrap 0=0 from rfl]
  have h0:¬ (0+m≤0):=by omega
  have h63':¬ (9223372036854775807<(m:Int)):=by omega
  have hm0:¬ (m*k=0):=by
   have:1*1≤m*k:=Nat.mul_le_mul (by omega) hpos
   omega
  have h48':¬ (281474976710656<Builtin.nextslicecap m 0*i.bytes):=by
   have:=growslice_fits (need:=m) (old:=0) (bytes:=by') (by omega) (by simpa using hbytes)
   rw[hb];omega
  have hgr:=grown 0 (by omega) []
  refine⟨_,_,?_,hgr.1,hgr.2,.inr ⟨w.heap.size,U,Nat.le_refl _⟩⟩
  simp[Builtin.append_,run_underlying hund,run_underlying hund2,zY A.sz,asInt,asIntOf,hwr,hneg,hbig,typeInfo,hi,hm,hm0,hpos,Nat.pos_iff_ne_zero.1 hpos,h63',h48',Question.forced,run_firstCells_none,hzero,newRow,grownCap,hysa]
 by_cases hroom:n+m≤cap
 ·have hfit:=hv.fit
  have hcap:(n+m)*k≤cap*k:=Nat.mul_le_mul_right _ hroom
  have hfit2:off+n*k+ys.length≤c.length:=by rw[hly];rw[Nat.add_mul]at hcap;omega
  have hst:=zcs (P:=P) (off:=off+n*k) (vs:=ys) hv.blk hfit2 hone
  refine⟨.slice (some ⟨g,off,none⟩) (n+m) cap,w.setRow g (yY c (off+n*k) ys).toArray,?_,.inr ⟨g,off,cap,yY c (off+n*k) ys,U,hv.blk.row _,hroom,hv.max,?_,?_,?_⟩,(zk.row _ _ _),.inl U⟩
  ·by_cases hm:m*k=0
   ·have hy:ys=[]:=List.eq_nil_of_length_eq_zero (by omega)
    subst hy
    simp[Builtin.append_,run_underlying hund,run_underlying hund2,zY A.sz,asInt,asIntOf,hwr,hneg,hbig,typeInfo,hi,hroom,hm,Addr.add_lit,hst]
   simp[Builtin.append_,run_underlying hund,run_underlying hund2,zY A.sz,asInt,asIntOf,hwr,hneg,hbig,typeInfo,hi,hroom,hm,Addr.add_lit,hst,hzero,hysa]
  ·simp only[yY,Sa,List.length_take,List.length_drop]
   omega
  ·have e1:(yY c (off+n*k) ys).drop off=xs++ys++c.drop (off+n*k+ys.length):=by
    unfold yY
    rw[List.append_assoc,List.drop_append_of_le_length (by rw[List.length_take];omega),List.drop_take,←List.append_assoc]
    rw[show off+n*k-off=n*k by omega,←hv.xs]
   rw[e1,List.take_left' (by simp[hlx,hly,Nat.add_mul])]
  intro u hu
  simp only[yY,List.mem_append]at hu
  rcases hu with (hu|hu)|hu
  ·exact hv.one u (List.mem_of_mem_take hu)
  ·exact hone u hu
  exact hv.one u (List.mem_of_mem_drop hu)
 have h0:¬ (n+m≤cap):=hroom
 have h63':¬ (9223372036854775807<((n:Int)+(m:Int))):=by omega
 have hm:m≠0:=by
  have:=hv.le
  omega
 have hm0:¬ (m*k=0):=by
  have:1*1≤m*k:=Nat.mul_le_mul (by omega) hpos
  omega
 have h48':¬ (281474976710656<Builtin.nextslicecap (n+m) cap*i.bytes):=by
  have:=growslice_fits (need:=n+m) (old:=cap) (bytes:=by') (by omega) hbytes
  rw[hb];omega
 have hgr:=grown cap (by omega) (zu (.slice (some ⟨g,off,none⟩) n cap))
 refine⟨_,_,?_,hgr.1,hgr.2,.inr ⟨w.heap.size,U,Nat.le_refl _⟩⟩
 have hfo:(Builtin.firstCells k n (.slice (some ⟨g,off,none⟩) n cap)).run P w.drew=.ok xs.toArray w.drew:=
  zdx (w:=w.drew) (e:=e) (.inr ⟨g,off,cap,c,rfl,⟨hv.blk,hv.le,hv.max,hv.fit,hv.xs,hv.one⟩⟩)
 simp[Builtin.append_,run_underlying hund,run_underlying hund2,zY A.sz,asInt,asIntOf,hwr,hneg,hbig,typeInfo,hi,h0,hm,hm0,Nat.pos_iff_ne_zero.1 hpos,h63',h48',Question.forced,hfo,hzero,newRow,grownCap,hysa]
 rw[show (xs++ys).toArray=xs.toArray++ys.toArray from by simp,Array.append_assoc]
variable {n:Nat} {F:Fr} {d:Tmp} {pos:String} {af:Array Edge} {gd:Option (Nat×Bool)} {K:Fr→Wl→Prop}
theorem zoN(A:App P t e k by' z)(hit:zdD P t2 .i64=true){x y:Operand}{v:Va}{l m:Nat}{j:Int}{xs:LA}(hx:ev F x=some v)(hy:ev F y=some (Ii j))(hj:j=(m:Int))(hv:zB w e k v l xs)
 (h63:l+m≤maxLen) (hbytes:(l+m)*by'≤140737488355328) (hn:Nat.blt d n=true)
 (h:∀v' w',zB w' e k v' (l+m) (xs++(Builtin.zeroCells z.cells m).toList)→zk (zu v) w w'→(zu v'=zu v∨∃b,zu v'=[b]∧w.heap.size≤b)→K ((d,v')::F) w') :
 St P n F ⟨some d,.call { callee:=.builtin .append,args := #[x,y],argTypes := #[t,t2] },ty,pos,af,gd⟩ w K:=by
 subst hj
 obtain⟨v',w',hr,h1,h2,h3⟩:=zmy (ty:=ty) (m:=m) A hit hv h63 hbytes
 refine St.vl (v:=v') (w':=w') ?_ U hn (h v' w' h1 h2 h3)
 intro a ha
 simp[execOp,resolve,invoke,builtin,ha.eval hx,ha.eval hy,hr]
end
theorem zzq(m:Nat):(Builtin.zeroCells (Value.int .u8 0).cells m).toList=bv (List.replicate m 0):=by
 have hc:(Value.int .u8 0).cells = #[.int .u8 0]:=rfl
 rw[hc]
 simp[Builtin.zeroCells,bv,Nat.mod_one,List.map_const']
theorem zAZ(x:zX)(w:Wl)(hx:za2 x=0)(hg:x.Rng):zS TP 186 #[x.v] w fun r w'=>zB w' 5 1 r (zeH x).length (bv (zeH x))∧(∀b∈zu r,w.heap.size≤b)∧zk [] w w':=by
 obtain⟨hk,-,hk3⟩:=zbN (zd5 hx).1
 have hb200:=(zd5 hx).2
 have hi:=hg.i
 refine A1 Tryz.func186 U U ?_
 refine Sr ?_
 refine Ob U U ?_
 intro b1 w1 e1 n1 c1 k1
 refine Oa U (E1 1 U (Sr (Od zal U (Ol zbS U (k1.cell' U) ?_))))
 refine Og (yj zaZ zaB U (show IntKind.u8.wrap x.k=(((UInt8.ofNat x.k.toNat).toNat:Nat):Int) by rw[show x.k=((x.k.toNat:Nat):Int) by omega,zdP];simp)) U ?_
 refine Oq (zA zbk U (vs:=[_]) U (css:=[_]) ⟨U,Tt⟩ U U (cs:=[_]) U U ?_)
 intro b11 w11 e11 n11 c11 k11
 refine Oa U (E2 1 3 U ?_)
 have i11:zB w11 5 1 (.slice (some ⟨b11,0,none⟩) 1 1) 1 (bv [UInt8.ofNat x.k.toNat]):=zB.of_blk (n:=1) k11 rfl (by simp[maxLen]) (zcX _)
 have k1:zO w11 b1 111 x.cs:=k1.chg0 c11
 have hc11:=c1.trans c11
 have f11:∀x∈zu (.slice (some ⟨b11,0,none⟩) 1 1),w.heap.size≤x:=by intro x hx;simp[zu]at hx;have:=c1.size;omega
 have hb1:b1∉zu (.slice (some ⟨b11,0,none⟩) 1 1):=fun hm=>zB.apart i11 k1 rfl b1 hm (by simp)
 have hbw:w.heap.size≤b1:=by omega
 have hke:zeH x=[UInt8.ofNat x.k.toNat]++zgU x:=rfl
 rw[hke]
 generalize hA:UInt8.ofNat x.k.toNat=a at *
 refine zf (Sr (Od zal U (Ol zbS U (k1.cell' U) (E3 1 3 13 U (zp (zf ?_))))))
 by_cases h1:x.k=1
 ·have hT:zgU x=be (x.i+9223372036854775808).toNat 8:=by simp[zgU,h1]
  rw[hT]
  have hn:(x.i+9223372036854775808).toNat<18446744073709551616:=by omega
  refine za ?_
  refine Og (vt (zy U U) (by simp[h1])) U ?_
  refine Oa U (E4 1 3 13 14 U (ze U (Sr (Od yz U (Ol ag2 U (k1.cell' (i:=1) U) ?_)))))
  refine Og (yj zbC zeU U (show IntKind.u64.wrap x.i=(((x.i%18446744073709551616).toNat:Nat):Int) by rw[zc2];omega)) U ?_
  refine Og (zmN (b:=9223372036854775808) U U (by omega) (by decide)) U ?_
  refine Oa U (E2 3 4 U ?_)
  rw[zmL hi]
  generalize (x.i+9223372036854775808).toNat=N at *
  refine Sr (Oa U (E3 3 4 5 U (zp ?_)))
  refine zQ [3,4,5] (fun m F wx=>m≤8∧∃u:Va,F=[(3,u),(4,.int .u64 N),(5,Ii ((m:Int)-1))]∧∃ys,zB wx 5 1 u (1+(8-m)) (bv ([a]++ys))∧ys++be N m=be N 8∧(∀b∈zu u,w.heap.size≤b)∧zk [] w wx) (m:=8) ⟨Nat.le_refl _,_,rfl,[],by simpa using i11,rfl,f11,hc11⟩ ?_
  rintro m F wx⟨hm,u,rfl,ys,hu,hys,hfu,hc⟩
  refine zf (Sr (Om U (Og (yc U U) U (E4 3 4 5 21 U ?_))))
  refine zP U (fun hT=>?_) (fun hF=>?_)
  ·refine zm ?_
   have hm1:1≤m:=by have:=of_decide_eq_true hT;omega
   obtain⟨i,rfl⟩:=Nat.exists_eq_add_of_le hm1
   rw[show (((1+i:Nat):Int)-1)=(i:Int) by omega]
   have p8:(N:Int).fdiv (2^(8*i))=((N/256^i:Nat):Int):=by rw[zlA,Nat.pow_mul]
   refine zf (zp (za (Om U (Om U (Om U ?_)))))
   refine Og (zdG U U (by omega)) U ?_
   refine Og (yj zdF zaB U (show IntKind.u64.wrap (8*(i:Int))=((8*i:Nat):Int) from IntWalk.u64_in _ ⟨by omega,by omega⟩)) U ?_
   refine Og (zcw (8*i) U U (by omega) (show 8*i≤64 by omega) p8) U ?_
   refine Og (yj zaZ zbC U (show IntKind.u8.wrap ((N/256^i:Nat):Int)=(((UInt8.ofNat (N/256^i%256)).toNat:Nat):Int) by rw[zdP];simp)) U ?_
   refine Oq (zA zbk U (vs:=[_]) U (css:=[_]) ⟨U,Tt⟩ U U (cs:=[_]) U U ?_)
   intro b31 w31 e31 n31 c31 k31
   refine Oq (yr zbk y7 U U (zB.chg0 hu c31) (zB.of_blk (n:=1) k31 U (by simp[maxLen]) (by simp[Value.oneCell'])) (by simp only[maxLen];omega) (by omega) U ?_)
   intro v32 w32 i32 c32 o32 z32
   refine Oa U (N3 3 4 5 U (zl (za (Om U ?_))))
   refine Og (yM U U (by omega)) U ?_
   refine Oa U (N3 3 4 5 U ?_)
   refine⟨i,by omega,by omega,v32,rfl,ys++[UInt8.ofNat (N/256^i%256)],?_,?_,yt o32 hfu (by have:=hc.size;have:=c31.size;omega),(hc.trans c31).own c32 hfu⟩
   ·rw[←List.append_assoc,yF]
    have e:1+(8-i)=1+(8-(1+i))+1:=by omega
    rw[e]
    exact i32
   rw[Nat.add_comm 1 i]at hys
   rw[←hys]
   simp[be]
  have hm0:m=0:=by have:=of_decide_eq_false hF;omega
  subst hm0
  refine zI ?_
  repeat first|refine te ?_|refine bo rfl ?_
  refine zq _ ?_
  refine zl (Sr (Om U (Oa U (E1 2 U (zj ?_)))))
  refine zw U U ?_
  have:ys=be N 8:=by simpa[be] using hys
  subst this
  refine⟨?_,hfu,hc⟩
  rw[Sa,za5]
  exact hu
 refine za ?_
 refine Og (vf (zy U U) (by simp[h1])) U ?_
 refine Oa U (E4 1 3 13 14 U (zb U (zf ?_)))
 by_cases h2:x.k=2
 ·have hT:zgU x=zcD x.u:=by simp[zgU,h2]
  rw[hT]
  refine za ?_
  refine Og (vt (zy U U) (by simp[h2])) U ?_
  refine Oa U (E4 1 3 13 33 U (ze U ?_))
  have hnb:=zbI x.u
  have hnl:=zdV x.u
  refine za (Om U (Od zaT U (Ol zb2 U (k1.cell' (i:=2) U) ?_)))
  refine Oc zBn U U U (ztC x.u _ hg.u) ?_
  rintro v38 w38⟨i38,f38,c38⟩
  refine Oq (yr zbk y7 U U (zB.chg0 i11 c38) i38 (by simp only[maxLen];omega) (by omega) U ?_)
  intro v39 w39 i39 c39 o39 z39
  refine Oa U ?_
  refine zcJ [3] (F':=[(3,_)]) U ?_
  refine zl (Sr (Om U (Oa U (E1 2 U (zj ?_)))))
  refine zw U U ?_
  refine⟨?_,yt o39 f11 (by have:=hc11.size;have:=c38.size;omega),(hc11.trans c38).own c39 f11⟩
  rw[Sa,yF]
  exact i39
 refine za ?_
 refine Og (vf (zy U U) (by simp[h2])) U ?_
 refine Oa U (E4 1 3 13 33 U (zb U (zf ?_)))
 by_cases h3:x.k=3
 ·have hT:zgU x=[UInt8.ofNat x.i.toNat]:=by simp[zgU,h3]
  rw[hT]
  refine za ?_
  refine Og (vt (zy U U) (by simp[h3])) U ?_
  refine Oa U (E4 1 3 13 40 U (ze U (za (Om U (Od yz U (Ol ag2 U (k1.cell' (i:=1) U) ?_))))))
  refine Og (yj zaZ zeU U (show IntKind.u8.wrap x.i=(((UInt8.ofNat x.i.toNat).toNat:Nat):Int) by rcases hk3 h3 with h|h<;>rw[h]<;>rfl)) U ?_
  refine Oq (zA zbk U (vs:=[_]) U (css:=[_]) ⟨U,Tt⟩ U U (cs:=[_]) U U ?_)
  intro b46 w46 e46 n46 c46 k46
  refine Oq (yr zbk y7 U U (zB.chg0 i11 c46) (zB.of_blk (n:=1) (c:=bv [UInt8.ofNat x.i.toNat]) k46 U (by simp[maxLen]) (zcX _)) (by simp only[maxLen];omega) (by omega) U ?_)
  intro v47 w47 i47 c47 o47 z47
  refine Oa U ?_
  refine zcJ [3] (F':=[(3,_)]) U ?_
  refine zl (Sr (Om U (Oa U (E1 2 U (zj ?_)))))
  refine zw U U ?_
  refine⟨?_,yt o47 f11 (by have:=hc11.size;have:=c46.size;omega),(hc11.trans c46).own c47 f11⟩
  rw[Sa,yF]
  exact i47
 refine za ?_
 refine Og (vf (zy U U) (by simp[h3])) U ?_
 refine Oa U (E4 1 3 13 40 U (zb U (zf ?_)))
 by_cases h4:x.k=4
 ·have hT:zgU x=zd9 x.b.data.toList:=by simp[zgU,h4]
  rw[hT]
  refine za ?_
  refine Og (vt (zy U U) (by simp[h4])) U ?_
  refine Oa U (E3 1 3 48 U (ze U (Sr (Oa U (E3 1 3 6 U (zp ?_))))))
  have hsl:x.b.data.toList.length=x.b.size:=by simp
  generalize hl:x.b.data.toList=l at *
  refine zQ [1,3,6] (fun m F wx=>∃j:Nat,m=201-j∧8*j≤x.b.size∧(0<j→8*j<x.b.size)∧∃u:Va,F=[(1,Pt b1),(3,u),(6,Ii ((8*j:Nat):Int))]∧∃ys,zB wx 5 1 u ys.length (bv ys)∧ys++zd9 (l.drop (8*j))=[a]++zd9 l∧ys.length=1+9*j∧(∀b∈zu u,w.heap.size≤b)∧b1∉zu u∧zO wx b1 111 x.cs∧zk [] w wx) (m:=201) ⟨0,rfl,by omega,by omega,_,rfl,[a],i11,by simp,rfl,f11,hb1,k1,hc11⟩ ?_
  rintro m F wx⟨j,rfl,hj,hj0,u,rfl,ys,hu,hys,hyl,hfu,hb1u,k1x,hc⟩
  refine zf (zp (zf ?_))
  have hbl:l.length=x.b.size:=hsl
  generalize hr:l.drop (8*j)=r at *
  have hrl:r.length=x.b.size-8*j:=by rw[←hr,List.length_drop,hbl]
  generalize hc8:r.take 8=c at *
  have hcl:c.length=min 8 (x.b.size-8*j):=by rw[←hc8,List.length_take,hrl]
  have hcut:(x.b.extract (8*j) (8*j+c.length)).data.toList=c:=by
   have e1:(x.b.data.extract (8*j) (8*j+c.length)).toList=(l.drop (8*j)).take c.length:=by rw[←hl];simp[List.extract_eq_take_drop]
   rw[ByteArray.data_extract,e1,hr,hcl,←hrl,←hc8,List.take_eq_take_iff]
   simp
  have hcs:(x.b.extract (8*j) (8*j+c.length)).size=c.length:=by
   have e:(x.b.extract (8*j) (8*j+c.length)).data.toList.length=c.length:=congrArg List.length hcut
   have h:∀b:By,b.size=b.data.toList.length:=fun b=>by simp
   exact(h _).trans e
  refine za (Od zaK U (Ol yI U (k1x.cell' (i:=3) U) (Og (yV st9 U) U (Om U ?_))))
  refine Og (yM U U (by omega)) U ?_
  refine Og (zoJ U U) U (Oa U (E4 1 3 6 7 U ?_))
  rw[show (if (x.b.size:Int)-((8*j:Nat):Int)<8 then (x.b.size:Int)-((8*j:Nat):Int) else 8)=((c.length:Nat):Int) by split<;>omega]
  refine Sr (Om U (Od zaK U (Ol yI U (k1x.cell' (i:=3) U) (Om U (Om U (Om U ?_))))))
  refine Og (yv (v':=Ii ((8*j+c.length:Nat):Int)) (zG U U (by omega)) (by congr 1)) U ?_
  refine Og (zws st9 U U U _ _ U U (by omega) (by omega)) U ?_
  refine Oq (zkg zbk st9 U U hu (by rw[hcs];simp only[maxLen];omega) (by rw[hcs];omega) U ?_)
  intro v66 w66 i66 c66 o66 z66
  refine Om U ?_
  refine Og (yv (v':=Ii ((8-c.length:Nat):Int)) (yM U U (by omega)) (by congr 1<;>omega)) U ?_
  refine Oq (zoN zbk zaB U U U i66 (by rw[hcs];simp only[maxLen];omega) (by rw[hcs];omega) U ?_)
  intro v69 w69 i69 c69 o69
  refine Oa U (E4 1 3 6 7 U ?_)
  rw[zzq,hcs,hcut,←yF,←yF,List.append_assoc]at i69
  have hb166:b1∉zu v66:=by
   rcases o66 with h|⟨b',h,hb'⟩<;>rw[h]
   ·exact hb1u
   have:=k1x.lt;simp;omega
  have k66:=k1x.chg c66 hb1u
  have k69:=k66.chg c69 hb166
  have hb169:b1∉zu v69:=by
   rcases o69 with h|⟨b',h,hb'⟩<;>rw[h]
   ·exact hb166
   have:=k66.lt;simp;omega
  have hs:=hc.size
  have hs66:=c66.size
  have hs69:=c69.size
  have f66:=yt o66 hfu (by omega)
  have f69:=yt o69 f66 (by omega)
  have hc69:=(hc.own c66 hfu).own c69 f66
  have e69:ys.length+c.length+(8-c.length)=ys.length+8:=by omega
  rw[e69]at i69
  refine zf (zf ?_)
  by_cases hlt:8*j+c.length<x.b.size
  ·have hc8':c.length=8:=by omega
   refine za (Om U (Om U ?_))
   refine Og (yv (v':=Ii ((8*j+c.length:Nat):Int)) (zG U U (by omega)) (by congr 1)) U ?_
   refine Od zaK U (Ol yI U (k69.cell' (i:=3) U) (Og (yV st9 U) U ?_))
   refine Og (vt (zz U U) (by simp;omega)) U ?_
   refine E5 1 3 6 7 76 U (ze U (Sr (Om U ?_)))
   refine Oq (zA zbk U (vs:=[_]) U (css:=[_]) ⟨U,Tt⟩ U U (cs:=[_]) U U ?_)
   intro b78 w78 e78 n78 c78 k78
   refine Oq (yr zbk y7 U U (zB.chg0 i69 c78) (zB.of_blk (n:=1) (c:=bv [9]) k78 U (by simp[maxLen]) (zcX _)) (by simp only[maxLen];omega) (by omega) U ?_)
   intro v79 w79 i79 c79 o79 z79
   refine Oa U (E3 1 3 6 U ?_)
   refine zI ?_
   repeat first|refine te ?_|refine bo rfl ?_
   refine zq _ ?_
   refine za (Om U ?_)
   refine Og (yv (v':=Ii ((8*(j+1):Nat):Int)) (zG U U (by omega)) (by congr 1)) U ?_
   refine Oa U (N3 1 3 6 U ?_)
   have hg:=zfx (l:=r) (by omega)
   have hb78:b1∉zu v79:=by
    rcases o79 with h|⟨b',h,hb'⟩<;>rw[h]
    ·exact hb169
    have:=k69.lt;have:=c78.size;simp;omega
   refine⟨201-(j+1),by omega,j+1,rfl,by omega,by omega,v79,rfl,ys++(c++List.replicate (8-c.length) 0)++[9],?_,?_,?_,yt o79 f69 (by have:=c78.size;omega),hb78,(k69.chg0 c78).chg c79 hb169,(hc69.trans c78).own c79 f69⟩
   ·have e:(ys++(c++List.replicate (8-c.length) 0)++[9]).length=ys.length+8+1:=by simp;omega
    rw[e,yF]
    exact i79
   ·rw[←hys,hg,hc8,hc8',show 8*(j+1)=8*j+8 by omega,←List.drop_drop,hr]
    simp
   simp;omega
  refine za (Om U (Om U ?_))
  refine Og (yv (v':=Ii ((8*j+c.length:Nat):Int)) (zG U U (by omega)) (by congr 1)) U ?_
  refine Od zaK U (Ol yI U (k69.cell' (i:=3) U) (Og (yV st9 U) U ?_))
  refine Og (vf (zz U U) (by simp;omega)) U ?_
  refine E5 1 3 6 7 76 U (zb U (zm (Sr (Om U (Om U ?_)))))
  refine Og (yj zaZ zaB U (show IntKind.u8.wrap ((c.length:Nat):Int)=(((UInt8.ofNat c.length).toNat:Nat):Int) by rw[zdP];simp)) U ?_
  refine Oq (zA zbk U (vs:=[_]) U (css:=[_]) ⟨U,Tt⟩ U U (cs:=[_]) U U ?_)
  intro b83 w83 e83 n83 c83 k83
  refine Oq (yr zbk y7 U U (zB.chg0 i69 c83) (zB.of_blk (n:=1) (c:=bv [UInt8.ofNat c.length]) k83 U (by simp[maxLen]) (zcX _)) (by simp only[maxLen];omega) (by omega) U ?_)
  intro v84 w84 i84 c84 o84 z84
  refine Oa U (E1 2 U (zj ?_))
  repeat first|refine tr ?_|refine br ?_
  refine zw U U ?_
  refine⟨?_,yt o84 f69 (by have:=c83.size;omega),(hc69.trans c83).own c84 f69⟩
  have hrc:r=c:=by rw[←hc8,Tl (by omega)]
  have e:[a]++zd9 l=ys++(c++List.replicate (8-c.length) 0)++[UInt8.ofNat c.length]:=by
   rw[←hys,zef (by omega),hrc,zlH];simp
  rw[e]
  have e2:(ys++(c++List.replicate (8-c.length) 0)++[UInt8.ofNat c.length]).length=ys.length+8+1:=by simp;omega
  rw[e2,yF]
  exact i84
 have hT:zgU x=[]:=by simp[zgU,h1,h2,h3,h4]
 rw[hT,List.append_nil]
 refine za ?_
 refine Og (vf (zy U U) (by simp[h4])) U ?_
 refine Oa U (E3 1 3 48 U (zb U (zT (zl (Sr (Om U (Oa U (E1 2 U (zj ?_)))))))))
 refine zw U U ?_
 exact⟨i11,f11,hc11⟩
end Go.Wk
