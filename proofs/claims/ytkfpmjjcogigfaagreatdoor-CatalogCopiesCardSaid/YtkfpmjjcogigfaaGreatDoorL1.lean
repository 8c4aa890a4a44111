/- joined texts -/
import Derived.WalkKit
import Derived.Orders
import Derived.KernelRfl
import Derived.Lib.Bytealg
set_option linter.all false
namespace Go.Wk
theorem U.{u}{α:Sort u}{a:α}:a=a:=rfl
theorem df{p:Prop}[Decidable p](h:¬p):decide p=false:=decide_eq_false h
theorem dt{p:Prop}[Decidable p](h:p):decide p=true:=decide_eq_true h
theorem Gs{α:Type}{l:List α}{i:Nat}{a:α}(h:l[i]?=some a):∃h:i<l.length,l[i]=a:=List.getElem?_eq_some_iff.1 h
theorem Tl{α:Type}{l:List α}{i:Nat}(h:l.length≤i):l.take i=l:=List.take_of_length_le h
abbrev Wl:=World
abbrev Va:=Value
abbrev By:=ByteArray
abbrev LA:=List Va
theorem Tt:True:=trivial
theorem Ga{α:Type}{l:Array α}{i:Nat}{a:α}(h:l[i]?=some a):∃h:i<l.size,l[i]=a:=Array.getElem?_eq_some_iff.1 h
theorem Mg{α:Type}{l:List α}{i:Nat}{a:α}(h:l[i]?=some a):a∈l:=List.mem_of_getElem? h
theorem Mc{α:Type}{a b:α}{l:List α}(h:a∈b::l):a=b∨a∈l:=List.mem_cons.1 h
theorem Lg(a b:Nat):a<b∨b≤a:=Nat.lt_or_ge a b
theorem Zl(a:Nat):0≤a:=Nat.zero_le a
theorem Sa{α:Type}{a b:List α}:(a++b).length=a.length+b.length:=List.length_append
abbrev Fr:=List (Nat×Va)
def get:Fr→Nat→Option Va
 |[],_=>none
 |(j,v)::F,i=>bif Nat.beq i j then (bif Nat.ble 1000000 j then none else some v) else get F i
theorem zlG{i d:Nat}(h:i≠d):Nat.beq i d=false:=by
 cases hb:Nat.beq i d with
 |false=>rfl
 |true=>exact absurd (Nat.eq_of_beq_eq_true hb) h
theorem zqC{n d:Nat}(hd:d<n)(hn:n≤1000000):Nat.ble 1000000 d=false:=by
 cases hb:Nat.ble 1000000 d with
 |false=>rfl
 |true=>have:=Nat.le_of_ble_eq_true hb;omega
theorem zch(F:Fr)(d:Nat)(v:Va)(hd:Nat.ble 1000000 d=false):get ((d,v)::F) d=some v:=by
 simp[get,hd]
theorem zcu(F:Fr)(d i:Nat)(v:Va)(h:i≠d):get ((d,v)::F) i=get F i:=by
 simp[get,zlG h]
def zck:Fr→Fr
 |[]=>[]
 |(j,v)::F=>bif Nat.ble 1000000 j then (j,v)::zck F else zck F
def ztV:Va→Nat
 |.int _ k=>k.toNat
 |_=>0
def mkD(b:Nat):Deferred:={ target:=.collected b,args := #[] }
def dOf:Nat×Va→Deferred
 |(_,.func f first cap)=>{ target:=.fn f cap,args:=first }
 |(_,v)=>mkD (ztV v)
def zaj(F:Fr):List Deferred:=(zck F).map dOf
theorem zh7:∀(F:Fr) (i:Nat),get (zck F) i=none
 |[],_=>rfl
 |(j,v)::F,i=>by
  simp only[zck]
  cases hj:Nat.ble 1000000 j with
  |false=>exact zh7 F i
  |true=>
   simp only[cond_true,get,hj]
   rw[zh7 F i]
   cases Nat.beq i j<;>rfl
theorem zgp:∀F:Fr,zck (zck F)=zck F
 |[]=>rfl
 |(j,v)::F=>by
  simp only[zck]
  cases hj:Nat.ble 1000000 j with
  |false=>exact zgp F
  |true=>simp only[cond_true,zck,hj,zgp F]
structure Rep(n:Nat)(F:Fr)(a:Act):Prop where
 lt:n≤1000000
 size:a.tmps.size=n
 defers:a.defers=zaj F
 get:∀i v,get F i=some v→a.tmps[i]?=some v
theorem zes{F:Fr}{d:Nat}{v:Va}(hd:Nat.ble 1000000 d=false):zaj ((d,v)::F)=zaj F:=by simp[zaj,zck,hd]
theorem Rep.put{n:Nat}{F:Fr}{a:Act}(h:Rep n F a){d:Nat}(hd:Nat.blt d n=true)(v:Va):Rep n ((d,v)::F) (a.put (some d) v):=by
 have hd':d<n:=Nat.lt_of_succ_le (Nat.le_of_ble_eq_true hd)
 have hb:=zqC hd' h.lt
 refine⟨h.lt,by simp[Act.put,h.size],by rw[zes hb];simp[Act.put,h.defers],fun i u hi=>?_⟩
 by_cases e:i=d
 ·subst e
  rw[zch _ _ _ hb]at hi
  simp[Act.put,h.size,hd'] at *
  exact hi
 rw[zcu _ _ _ _ e]at hi
 simp only[Act.put]
 rw[Array.getElem?_setIfInBounds_ne (fun x=>e x.symm)]
 exact h.get i u hi
def prune(keep:List Nat)(F:Fr):Fr:=
 match keep with
 |[]=>zck F
 |i::r=>match get F i with
  |some v=>(i,v)::prune r F
  |none=>prune r F
theorem zgx:∀(F:Fr) (i:Nat) (v:Va),get F i=some v→Nat.ble 1000000 i=false
 |[],i,v,h=>by simp[get]at h
 |(j,u)::F,i,v,h=>by
  simp only[get]at h
  by_cases e:i=j
  ·subst e
   cases hb:Nat.ble 1000000 i with
   |false=>rfl
   |true=>simp[hb]at h
  rw[zlG e]at h
  exact zgx F i v h
theorem zid(F:Fr):∀(keep:List Nat) (i:Nat) (v:Va),get (prune keep F) i=some v→get F i=some v
 |[],i,v,h=>by rw[prune,zh7]at h;cases h
 |k::r,i,v,h=>by
  simp only[prune]at h
  cases hk:get F k with
  |none=>rw[hk]at h;exact zid F r i v h
  |some u=>
   rw[hk]at h
   by_cases e:i=k
   ·subst e;rw[zch _ _ _ (zgx F i u hk)]at h;rw[hk];exact h
   rw[zcu _ _ _ _ e]at h;exact zid F r i v h
theorem zgr(F:Fr):∀keep:List Nat,zaj (prune keep F)=zaj F
 |[]=>by simp only[prune,zaj,zgp]
 |k::r=>by
  simp only[prune]
  cases hk:get F k with
  |none=>exact zgr F r
  |some u=>
   show zaj ((k,u)::prune r F)=_
   rw[zes (zgx F k u hk)]
   exact zgr F r
theorem Rep.prune{n:Nat}{F:Fr}{a:Act}(h:Rep n F a)(keep:List Nat):Rep n (prune keep F) a:=
 ⟨h.lt,h.size,by rw[zgr];exact h.defers,fun i v hi=>h.get i v (zid F keep i v hi)⟩
def ev(F:Fr):Operand→Option Va
 |.tmp t=>get F t
 |.const v=>some v
 |.global g=>some (.pointer (some ⟨g,0,none⟩))
 |.func f=>some (.func (.func f) #[] #[])
theorem Rep.eval{n:Nat}{F:Fr}{a:Act}(h:Rep n F a){x:Operand}{v:Va}(hx:ev F x=some v):a.eval x=v:=by
 cases x with
 |tmp t=>
  have:=h.get t v hx
  simp[Act.eval,this]
 |const u=>simpa[ev,Act.eval] using hx
 |global g=>simpa[ev,Act.eval] using hx
 |func f=>simpa[ev,Act.eval] using hx
def zsW(n:Nat)(Q:Exit→Fr→Wl→Prop)(e:Exit)(a:Act)(w:Wl):Prop:=∃F,Rep n F a∧Q e F w
def W(P:Program)(n:Nat)(c:Code)(Q:Exit→Fr→Wl→Prop)(F:Fr)(w:Wl):Prop:=
 ∀a,Rep n F a→c.wp P (zsW n Q) a w
def O(P:Program)(n:Nat)(ops:Array Oper)(Q:Exit→Fr→Wl→Prop)(l:List Oper)(F:Fr)(w:Wl):Prop:=
 ∀a,Rep n F a→wpList P ops (zsW n Q) l a w
def zbx(K:Fr→Wl→Prop)(Q:Exit→Fr→Wl→Prop):Exit→Fr→Wl→Prop
 |.normal,F,w=>K F w
 |e,F,w=>Q e F w
def zd8(id:Nat)(Q:Exit→Fr→Wl→Prop):Exit→Fr→Wl→Prop
 |.exit id',F,w=>if id'=id then Q .normal F w else Q (.exit id') F w
 |e,F,w=>Q e F w
section
variable {P:Program} {n:Nat} {Q:Exit→Fr→Wl→Prop} {F:Fr} {w:Wl}
theorem zxR{c:Code}{Q':Exit→Fr→Wl→Prop}(h:W P n c Q F w)(hq:∀e F w,Q e F w→Q' e F w):W P n c Q' F w:=
 fun a ha=>wp_mono (h a ha) fun e a w ⟨F,hr,hQ⟩=>⟨F,hr,hq e F w hQ⟩
theorem zae(keep:List Nat){c:Code}{F':Fr}(hF:prune keep F=F')(h:W P n c Q F' w):W P n c Q F w:=
 fun a ha=>h a (hF▸ha.prune keep)
theorem zT(h:Q .normal F w):W P n .skip Q F w:=fun _ ha=>wp_skip ⟨F,ha,h⟩
theorem zjc{l:Nat}(h:Q .normal F w):W P n (.label l) Q F w:=fun _ ha=>wp_label ⟨F,ha,h⟩
theorem zI{id:Nat}(h:Q (.exit id) F w):W P n (.exit id) Q F w:=fun _ ha=>wp_exit ⟨F,ha,h⟩
theorem zj(h:Q .ret F w):W P n .ret Q F w:=fun _ ha=>wp_ret ⟨F,ha,h⟩
theorem zf{x y:Code}(h:W P n x (zbx (fun F w=>W P n y Q F w) Q) F w):W P n (.seq x y) Q F w:=by
 intro a ha
 refine wp_seq (wp_mono (h a ha) ?_)
 rintro e a' w'⟨F',hr,hq⟩
 cases e with
 |normal=>exact hq a' hr
 |_=>exact⟨F',hr,hq⟩
theorem zR{x y:Code}(M:Fr→Wl→Prop)(h:W P n x (zbx M Q) F w)(h2:∀F' w',M F' w'→W P n y Q F' w'):W P n (.seq x y) Q F w:=
 zf (zxR h fun e F w hq=>by
  cases e with
  |normal=>exact h2 F w hq
  |_=>exact hq)
theorem zP{c:Operand}{x y:Code}{b:Bool}(hc:ev F c=some (.bool b))(ht:b=true→W P n x Q F w)(hf:b=false→W P n y Q F w) :
 W P n (.cond c x y) Q F w:=by
 intro a ha
 refine wp_cond_split (t:=b) (ha.eval hc) (fun e=>ht e a ha) (fun e=>hf e a ha)
theorem ze{c:Operand}{x y:Code}(hc:ev F c=some (.bool true))(h:W P n x Q F w):W P n (.cond c x y) Q F w:=
 fun a ha=>wp_cond_true (ha.eval hc) (h a ha)
theorem zb{c:Operand}{x y:Code}(hc:ev F c=some (.bool false))(h:W P n y Q F w):W P n (.cond c x y) Q F w:=
 fun a ha=>wp_cond_false (ha.eval hc) (h a ha)
theorem zp{id:Nat}{c:Code}(h:W P n c (zd8 id Q) F w):W P n (.block id c) Q F w:=by
 intro a ha
 refine wp_block (wp_mono (h a ha) ?_)
 rintro e a' w'⟨F',hr,hq⟩
 cases e with
 |exit id'=>
  simp only[zd8]at hq
  simp only[Exit.inBlock]
  split
  ·rename_i e;rw[if_pos e]at hq;exact⟨F',hr,hq⟩
  rename_i e;rw[if_neg e]at hq;exact⟨F',hr,hq⟩
 |_=>exact⟨F',hr,hq⟩
theorem zq(id:Nat)(h:Q .normal F w):zd8 id Q (.exit id) F w:=by simp[zd8,h]
theorem zl3{id id':Nat}(hne:Nat.beq id' id=false)(h:Q (.exit id') F w):zd8 id Q (.exit id') F w:=by
 have:id'≠id:=fun e=>by subst e;simp at hne
 simp[zd8,this,h]
theorem za{id:Nat}{l:List Oper}(h:O P n l.toArray Q l F w):W P n (.region id l.toArray false) Q F w:=
 fun a ha=>wp_region_lit (h a ha)
theorem zak(keep:List Nat){F':Fr}{ops:Array Oper}(hF:prune keep F=F')(h:Q .normal F' w):O P n ops Q [] F w:=
 fun _ ha=>wpList_nil ⟨F',hF▸ha.prune keep,h⟩
theorem zsV{c:Code}{Q:Exit→Act→Wl→Prop}{a:Act}{w:Wl}(I:Nat→Act→Wl→Prop){m:Nat}(h0:I m a w)
 (round:∀m a w,I m a w→c.wp P (Exit.then (fun a' w'=>∃m',m'<m∧I m' a' w') Q) a w):(Code.loop c).wp P Q a w:=by
 intro b k cs
 have key:∀m a w,I m a w →
  ∃e a' w',Q e a' w'∧Arrives P (lone (b.at a (.code c :: .inLoop c::k)) cs w) b k cs e a' w':=by
  intro m
  induction m using Nat.strongRecOn with
  |_ m ih=>
   intro a w hI
   obtain⟨e,a1,w1,hq,harr⟩:=round m a w hI b (.inLoop c::k) cs
   cases e with
   |normal=>
    obtain⟨m',hlt,hI1⟩:=hq
    obtain⟨e2,a2,w2,hq2,harr2⟩:=ih m' hlt a1 w1 hI1
    exact⟨e2,a2,w2,hq2,.of_steps (Steps.trans harr (.one step_inLoop)) harr2⟩
   |exit id=>exact⟨_,a1,w1,hq,.pass (x:=.inLoop c) rfl (fun _ _=>.inl (by simp)) harr⟩
   |goto l=>exact⟨_,a1,w1,hq,.pass (x:=.inLoop c) rfl (fun _ _=>.inl (by simp)) harr⟩
   |ret=>exact⟨_,a1,w1,hq,.pass (x:=.inLoop c) rfl (fun _ _=>.inl (by simp)) harr⟩
   |panic ch=>exact⟨_,a1,w1,hq,.pass (x:=.inLoop c) rfl (fun _ _=>.inl (by simp)) harr⟩
   |outgrown=>exact⟨_,a1,w1,hq,.pass (x:=.inLoop c) rfl (fun _ _=>.inl (by simp)) harr⟩
 obtain⟨e,a',w',hq,harr⟩:=key m a w h0
 exact⟨e,a',w',hq,.of_steps (.one step_loop) harr⟩
theorem zQ(keep:List Nat)(I:Nat→Fr→Wl→Prop){m:Nat}{c:Code}(h0:I m (prune keep F) w)
 (round:∀m F w,I m F w→W P n c (zbx (fun F' w'=>∃m',m'<m∧I m' (prune keep F') w') Q) F w):W P n (.loop c) Q F w:=by
 intro a ha
 refine zsV (fun m a w=>∃F,Rep n F a∧I m F w) ⟨prune keep F,ha.prune keep,h0⟩ ?_
 rintro m a w⟨F1,hr,hI⟩
 refine wp_mono (round m F1 w hI a hr) ?_
 rintro e a' w'⟨F',hr',hq⟩
 cases e with
 |normal=>
  obtain⟨m',hlt,hI'⟩:=hq
  exact⟨m',hlt,prune keep F',hr'.prune keep,hI'⟩
 |_=>exact⟨F',hr',hq⟩
end
def Vl(P:Program)(n:Nat)(F:Fr)(o:Oper)(w:Wl)(v:Va)(w':Wl):Prop:=
 ∀a,Rep n F a→(execOp a.eval o).run P w=.ok (.value v) w'
def Sk(P:Program)(n:Nat)(F:Fr)(o:Oper)(w w':Wl):Prop:=
 ∀a,Rep n F a→(execOp a.eval o).run P w=.ok .skip w'
def St(P:Program)(n:Nat)(F:Fr)(o:Oper)(w:Wl)(K:Fr→Wl→Prop):Prop:=
 ∀a,Rep n F a→o.wp P a w (fun a' w'=>∃F',Rep n F' a'∧a'.defers=a.defers∧K F' w') (fun _ _ _=>False)
section
variable {P:Program} {n:Nat} {Q:Exit→Fr→Wl→Prop} {F:Fr} {w w':Wl} {o:Oper} {K:Fr→Wl→Prop}
theorem St.vl{d:Nat}{v:Va}(hv:Vl P n F o w v w')(hd:o.dst=some d)(hn:Nat.blt d n=true)(h:K ((d,v)::F) w'):St P n F o w K:=by
 intro a ha
 unfold Oper.wp
 rw[hv a ha,Oper.upon_value P o a _ _ w' v,hd]
 exact⟨_,ha.put hn v,U,h⟩
theorem St.vlNone{v:Va}(hv:Vl P n F o w v w')(hd:o.dst=none)(h:K F w'):St P n F o w K:=by
 intro a ha
 unfold Oper.wp
 rw[hv a ha,Oper.upon_value P o a _ _ w' v,hd]
 exact⟨_,ha,U,h⟩
theorem St.sk(hv:Sk P n F o w w')(hd:o.dst=none)(h:K F w'):St P n F o w K:=by
 intro a ha
 unfold Oper.wp
 rw[hv a ha,Oper.upon_skip P o a _ _ w',hd]
 exact⟨_,ha,U,h⟩
def zS(P:Program)(f:FuncId)(args:Array Va)(w:Wl)(R:Va→Wl→Prop):Prop:=
 Calls P f args w fun e w'=>∃v,e=.returned v∧R v w'
theorem zS.mono{f:FuncId}{args:Array Va}{R R':Va→Wl→Prop}(h:zS P f args w R)(hr:∀v w',R v w'→R' v w'):zS P f args w R':=
 Calls.mono h fun _ _ ⟨v,he,hR⟩=>⟨v,he,hr _ _ hR⟩
theorem St.enter{d:Nat}{f:FuncId}{args:Array Va}{R:Va→Wl→Prop}
 (hrun:∀a,Rep n F a→(execOp a.eval o).run P w=.ok (.enter f args) w) (hd:o.dst=some d) (hn:Nat.blt d n=true)
 (hc:zS P f args w R) (h:∀v w',R v w'→K ((d,v)::F) w'):St P n F o w K:=by
 intro a ha
 unfold Oper.wp
 rw[hrun a ha,Oper.upon_enter P o a _ _ w f args]
 refine Calls.mono hc ?_
 rintro e w1⟨v,rfl,hR⟩
 rw[hd]
 exact⟨_,ha.put hn v,U,h v w1 hR⟩
theorem zeC{ops:Array Oper}{rest:List Oper}{j t d:Nat}{b b':Bool}(hg:o.guard=some (j,b))(hd:o.dst=some d)(hn:Nat.blt d n=true)(ht:(ops[j]?).bind (·.dst)=some t)(hv:get F t=some (.bool b'))
 (hne:b' = !b) (h:O P n ops Q rest ((d,undef)::F) w):O P n ops Q (o::rest) F w:=by
 intro a ha
 have hw:Region.wanted o (yielded ops a.tmps)=false:=by
  subst hne
  simp[Region.wanted,hg,yielded,ht,ha.get t _ hv]
 refine wpList_step fun K' hK=>?_
 rw[if_neg (by simp[hw]),hd]
 exact hK _ _ (h _ (ha.put hn undef))
end
def frameOf:Nat→LA→Fr
 |_,[]=>[]
 |i,v::r=>(i,v)::frameOf (i+1) r
theorem ziW:∀(l:LA) (i j:Nat) (v:Va),get (frameOf i l) j=some v→i≤j∧l[j-i]?=some v
 |[],i,j,v,h=>by simp[frameOf,get]at h
 |u::r,i,j,v,h=>by
  simp only[frameOf]at h
  by_cases e:j=i
  ·subst e;rw[zch _ _ _ (zgx _ _ _ h)]at h;simpa using h
  rw[zcu _ _ _ _ e]at h
  obtain⟨h1,h2⟩:=ziW r (i+1) j v h
  refine⟨by omega,?_⟩
  rw[show j-i=(j-(i+1))+1 by omega]
  simpa using h2
def zgs(P:Program)(fn:Func)(R:Va→Wl→Prop)(n:Nat):Exit→Fr→Wl→Prop
 |.normal,F,w | .ret,F,w=>∃v,(∀a,Rep n F a→(results fn a.tmps).run P w=.ok v w)∧zaj F=[]∧R v w
 |_,_,_=>False
theorem zgO:∀(l:LA) (i:Nat),i+l.length≤1000000→zaj (frameOf i l)=[]
 |[],i,_=>rfl
 |v::r,i,h=>by
  simp only[List.length_cons]at h
  simp only[frameOf]
  rw[zes (zqC (n:=i+1) (by omega) (by omega))]
  exact zgO r (i+1) (by omega)
theorem Rep.frameOf{args:LA}{n:Nat}(hl:Nat.ble args.length n=true)(hk:n≤1000000):Rep n (frameOf 0 args) { tmps:=args.toArray++Array.replicate (n-args.toArray.size) undef,defers:=[] }:=by
 have hl':args.length≤n:=by simpa using hl
 refine⟨hk,by simp;omega,(zgO args 0 (by omega)).symm,fun i v hi=>?_⟩
 obtain⟨_,h2⟩:=ziW args 0 i v hi
 have hlt:i<args.length:=by
  rcases Lg i args.length with h'|h'
  ·exact h'
  simp[List.getElem?_eq_none h']at h2
 simp only[Nat.sub_zero]at h2
 simp[Array.getElem?_append,hlt]at h2 ⊢
 exact h2
theorem zS.of_W{P:Program}{f:FuncId}{fn:Func}{c:Code}{args:LA}{w:Wl}{R:Va→Wl→Prop}{n:Nat}{F:Fr}
 (hf:P.funcs[f]?=some fn) (hb:fn.body=some c) (hn:fn.ntmps=n) (hl:Nat.ble args.length n=true) (hF:frameOf 0 args=F)
 (h:W P n c (zgs P fn R n) F w) (hk:Nat.ble n 1000000=true:=by rfl):zS P f args.toArray w R:=by
 subst hF hn
 refine calls_of_wp hf hb ?_
 refine wp_mono (h _ (Rep.frameOf hl (Nat.le_of_ble_eq_true hk))) ?_
 rintro e a w'⟨F',hr',hq⟩
 cases e<;>simp only[zgs]at hq
 case normal=>obtain⟨v,hv,hm,hR⟩:=hq;exact⟨hr'.defers.trans hm,v,hv _ hr',v,rfl,hR⟩
 case ret=>obtain⟨v,hv,hm,hR⟩:=hq;exact⟨hr'.defers.trans hm,v,hv _ hr',v,rfl,hR⟩
section
variable {P:Program} {fn:Func} {R:Va→Wl→Prop} {n:Nat} {F:Fr} {w:Wl}
theorem zug(hr:fn.results = #[])(h:R (.tuple #[]) w)(hm:zaj F=[]:=by rfl):zgs P fn R n .ret F w:=
 ⟨_,fun _ _=>results_none hr _ _ _,hm,h⟩
theorem zgL(hr:fn.results = #[])(h:R (.tuple #[]) w)(hm:zaj F=[]:=by rfl):zgs P fn R n .normal F w:=
 ⟨_,fun _ _=>results_none hr _ _ _,hm,h⟩
theorem zw{t:Nat}{v:Va}(hr:fn.results = #[.tmp t])(hv:get F t=some v)(h:R v w)(hm:zaj F=[]:=by rfl):zgs P fn R n .ret F w:=
 ⟨v,fun a ha=>by rw[results_tmp hr];simp[ha.get t v hv],hm,h⟩
theorem zcF{t u:Nat}{v x:Va}(hr:fn.results = #[.tmp t,.tmp u])(hv:get F t=some v)(hx:get F u=some x)(h:R (.tuple #[v,x]) w)(hm:zaj F=[]:=by rfl):zgs P fn R n .ret F w:=
 ⟨_,fun a ha=>by rw[results_tmp2 hr];simp[ha.get t v hv,ha.get u x hx],hm,h⟩
theorem zgW{t u s:Nat}{v x y:Va}(hr:fn.results = #[.tmp t,.tmp u,.tmp s])(hv:get F t=some v)(hx:get F u=some x)(hy:get F s=some y)(h:R (.tuple #[v,x,y]) w)(hm:zaj F=[]:=by rfl):zgs P fn R n .ret F w:=
 ⟨.tuple #[v,x,y],fun a ha=>by simp[results,hr,ha.get t v hv,ha.get u x hx,ha.get s y hy],hm,h⟩
end
def zO(w:Wl)(b:Nat)(e:TypeId)(c:LA):Prop:=w.heap[b]?=some (.cells c.toArray e (0,0))
structure zk(S:List Nat)(w w':Wl):Prop where
 os:w'.os=w.os
 tape:w'.tape=w.tape
 output:w'.output=w.output
 size:w.heap.size≤w'.heap.size
 block:∀k,k<w.heap.size→k∉S→w'.heap[k]?=w.heap[k]?
theorem zk.refl(S:List Nat)(w:Wl):zk S w w:=⟨rfl,rfl,rfl,Nat.le_refl _,fun _ _ _=>rfl⟩
theorem zk.trans'{S S2:List Nat}{w w1 w2:Wl}(h:zk S w w1)(h2:zk S2 w1 w2)(hs:∀k∈S2,k∈S∨w.heap.size≤k):zk S w w2:=
 ⟨h2.os.trans h.os,h2.tape.trans h.tape,h2.output.trans h.output,Nat.le_trans h.size h2.size,fun k hk hn=>
  (h2.block k (Nat.lt_of_lt_of_le hk h.size) (fun hm=>(hs k hm).elim hn (fun e=>by omega))).trans (h.block k hk hn)⟩
theorem zk.trans{S:List Nat}{w w1 w2:Wl}(h:zk S w w1)(h2:zk [] w1 w2):zk S w w2:=h.trans' h2 (fun _ hk=>by cases hk)
theorem zk.transS{S:List Nat}{w w1 w2:Wl}(h:zk S w w1)(h2:zk S w1 w2):zk S w w2:=h.trans' h2 (fun _ hk=>.inl hk)
theorem zk.weak{S S2:List Nat}{w w1:Wl}(h:zk S w w1)(hs:∀k∈S,k∈S2):zk S2 w w1:=
 ⟨h.os,h.tape,h.output,h.size,fun k hk hn=>h.block k hk (fun e=>hn (hs k e))⟩
theorem zk.any{S:List Nat}{w w1:Wl}(h:zk [] w w1):zk S w w1:=h.weak (fun _ hk=>by cases hk)
theorem zk.own{S:List Nat}{w w1 w2:Wl}(h:zk [] w w1)(h2:zk S w1 w2)(hs:∀k∈S,w.heap.size≤k):zk [] w w2:=h.trans' h2 (fun k hk=>.inr (hs k hk))
theorem zk.drew(S:List Nat)(w:Wl):zk S w w.drew:=⟨rfl,rfl,rfl,Nat.le_refl _,fun _ _ _=>rfl⟩
theorem zk.alloc(S:List Nat)(w:Wl)(o:Obj):zk S w (w.alloc o):=
 ⟨rfl,rfl,rfl,by simp,fun k hk _=>Go.RowKit.Below.heap_alloc w o k hk⟩
theorem zk.below{w w':Wl}(h:zk [] w w'):Go.RowKit.Below w.heap.size w w':=
 ⟨h.os,h.tape,h.output,h.size,fun k hk=>h.block k hk (by simp)⟩
theorem zO.lt{w:Wl}{b:Nat}{e:TypeId}{c:LA}(h:zO w b e c):b<w.heap.size:=(Ga h).1
theorem zO.chg{S:List Nat}{w w':Wl}{b:Nat}{e:TypeId}{c:LA}(h:zO w b e c)(hc:zk S w w')(hs:b∉S):zO w' b e c:=
 (hc.block b h.lt hs).trans h
theorem zO.chg0{w w':Wl}{b:Nat}{e:TypeId}{c:LA}(h:zO w b e c)(hc:zk [] w w'):zO w' b e c:=h.chg hc (by simp)
theorem zO.inj{w:Wl}{b:Nat}{e e':TypeId}{c c':LA}(h:zO w b e c)(h':zO w b e' c'):e=e'∧c=c':=by
 have:=h.symm.trans h'
 simp only[Option.some.injEq,Obj.cells.injEq]at this
 exact⟨this.2.1,by simpa using congrArg Array.toList this.1⟩
theorem zO.ne{w:Wl}{b b':Nat}{e e':TypeId}{c c':LA}(h:zO w b e c)(h':zO w b' e' c')(hne:Nat.beq e e'=false):b≠b':=by
 rintro rfl
 obtain⟨rfl,_⟩:=h.inj h'
 simp at hne
theorem zO.cell{w:Wl}{b:Nat}{e:TypeId}{c:LA}(h:zO w b e c)(i:Nat):w.cell? ⟨b,i,none⟩=c[i]?:=by
 simp[World.cell?,(show w.heap[b]?=_ from h)]
theorem zO.cell'{w:Wl}{b:Nat}{e:TypeId}{c:LA}{v:Va}{i:Nat}(h:zO w b e c)(hi:c[i]?=some v):w.cell? ⟨b,i,none⟩=some v:=by
 rw[h.cell,hi]
theorem zO.free{w:Wl}{b:Nat}{e:TypeId}{c:LA}(h:zO w b e c)(a:Addr)(ha:a.block=b):w.frozen? a=false:=by
 subst ha
 simp[World.frozen?,(show w.heap[a.block]?=_ from h)]
theorem zO.new(w:Wl)(e:TypeId)(c:LA):zO (w.alloc (.cells c.toArray e)) w.heap.size e c:=heap_alloc_new w _
theorem zO.row{w:Wl}{b:Nat}{e:TypeId}{c:LA}(h:zO w b e c)(c':LA):zO (w.setRow b c'.toArray) b e c':=
 setRow_heap w b _ _ _ _ h
theorem zk.row(w:Wl)(b:Nat)(c:Array Va):zk [b] w (w.setRow b c):=
 ⟨rfl,rfl,rfl,by simp[World.setRow],fun k _ hn=>setRow_other w b k c (fun e=>hn (by simp[e]))⟩
def zv(w:Wl)(b off:Nat)(cs:LA):Prop:=∀j u,cs[j]?=some u→w.cell? ⟨b,off+j,none⟩=some u
theorem zv.of_blk{w:Wl}{b:Nat}{e:TypeId}{c:LA}(h:zO w b e c)(off:Nat)(cs:LA)(hs:cs <+: c.drop off):zv w b off cs:=by
 intro j u hj
 rw[h.cell]
 obtain⟨r,hr⟩:=hs
 have h1:(c.drop off)[j]?=some u:=by
  rw[←hr,List.getElem?_append_left (by rcases Lg j cs.length with h'|h';exact h';simp[List.getElem?_eq_none h']at hj)]
  exact hj
 simpa using h1
theorem zv.of_blk0{w:Wl}{b:Nat}{e:TypeId}{c:LA}(h:zO w b e c):zv w b 0 c:=zv.of_blk h 0 c (by simp)
def zao(P:Program)(t:TypeId):Option Nat:=(P.info? t).map (·.size)
def zaw(P:Program)(t:TypeId):Option Va:=(P.info? t).bind (·.zero)
def zAi(P:Program)(t:TypeId):Option Nat:=(P.info? t).map (·.bytes)
def zag(P:Program)(t:TypeId):Option Bool:=(P.underlying t).map fun d=>match d with | .struct _ | .array _ _=>true|_=>false
def zbt(P:Program)(t:TypeId):Option TypeId:=match P.underlying t with|some (.slice e)=>some e|_=>none
def zl5(P:Program)(t:TypeId):Option (Nat×TypeId):=match P.underlying t with|some (.array n e)=>some (n,e)|_=>none
def zbo(P:Program)(t:TypeId)(i:Nat):Option Nat:=
 match P.underlying t with
 |some (.struct fs)=>(fs[i]?).bind fun f=>match zao P f.type with|some 0=>none|some _=>some f.offset|none=>none
 |_=>none
def zn(P:Program)(g:FuncId):Bool:=
 match P.funcs[g]? with
 | some fn => fn.body.isSome && !(fn.name == "runtime.NumGoroutine")
 |none=>false
section
variable {P:Program} {t e:TypeId} {k:Nat} {w:Wl}
theorem zY(h:zao P t=some k):(sizeOf t).run P w=.ok k w:=by
 unfold zao at h
 cases hi:P.info? t with
 |none=>simp[hi]at h
 |some i=>simp[hi]at h;simp[sizeOf,typeInfo,hi,h]
theorem zcg{z:Va}(h:zaw P t=some z):(zeroValue t).run P w=.ok z w:=by
 unfold zaw at h
 cases hi:P.info? t with
 |none=>simp[hi]at h
 |some i=>simp[hi]at h;simp[zeroValue,typeInfo,hi,h]
theorem zaM{b:Bool}(h:zag P t=some b):(isAgg t).run P w=.ok b w:=by
 unfold zag at h
 cases hu:P.underlying t with
 |none=>simp[hu]at h
 |some d=>
  simp[hu]at h
  subst h
  cases d<;>simp[isAgg,run_underlying hu]
theorem yC(h:zbt P t=some e):P.underlying t=some (.slice e):=by
 unfold zbt at h
 split at h
 ·rename_i e' he;simp at h;subst h;exact he
 simp at h
theorem zhk{m:Nat}(h:zl5 P t=some (m,e)):P.underlying t=some (.array m e):=by
 unfold zl5 at h
 split at h
 ·rename_i m' e' he;simp at h;obtain⟨rfl,rfl⟩:=h;exact he
 simp at h
end
def evs(F:Fr):List Operand→Option (LA)
 |[]=>some []
 |x::r=>match ev F x with
  |none=>none
  |some v=>match evs F r with
   |none=>none
   |some vs=>some (v::vs)
theorem Rep.evals{n:Nat}{F:Fr}{a:Act}(h:Rep n F a):∀(l:List Operand) (vs:LA),evs F l=some vs→l.map a.eval=vs
 |[],vs,hl=>by simpa[evs] using hl
 |x::r,vs,hl=>by
  simp only[evs]at hl
  cases hx:ev F x with
  |none=>simp[hx]at hl
  |some v=>
   rw[hx]at hl
   cases hr:evs F r with
   |none=>simp[hr]at hl
   |some us=>
    rw[hr]at hl
    simp only[Option.some.injEq]at hl
    subst hl
    simp[h.eval hx,h.evals r us hr]
def zgY(F:Fr):List (Nat×Operand)→Option (List (Nat×Va))
 |[]=>some []
 |(i,x)::r=>match ev F x with
  |none=>none
  |some v=>match zgY F r with
   |none=>none
   |some vs=>some ((i,v)::vs)
theorem Rep.evals2{n:Nat}{F:Fr}{a:Act}(h:Rep n F a):∀(l:List (Nat×Operand)) (vs:List (Nat×Va)),zgY F l=some vs→l.map (fun p=>(p.1,a.eval p.2))=vs
 |[],vs,hl=>by simpa[zgY] using hl
 |(i,x)::r,vs,hl=>by
  simp only[zgY]at hl
  cases hx:ev F x with
  |none=>simp[hx]at hl
  |some v=>
   rw[hx]at hl
   cases hr:zgY F r with
   |none=>simp[hr]at hl
   |some us=>
    rw[hr]at hl
    simp only[Option.some.injEq]at hl
    subst hl
    simp[h.eval hx,h.evals2 r us hr]
section
variable {P:Program} {n:Nat} {F:Fr} {w:Wl} {dst:Option Tmp} {ty:TypeId} {pos:String} {af:Array Edge} {gd:Option (Nat×Bool)}
theorem zav{x:Operand}{v:Va}(hx:ev F x=some v):Vl P n F ⟨dst,.move x,ty,pos,af,gd⟩ w v w:=
 fun a ha=>by simp[execOp,ha.eval hx]
theorem yg{x:Operand}{v:Va}(hx:ev F x=some v):Vl P n F ⟨dst,.assign x,ty,pos,af,gd⟩ w v w:=
 fun a ha=>by simp[execOp,ha.eval hx]
theorem zD{c x y:Operand}{v:Va}(hc:ev F c=some (.bool true))(hx:ev F x=some v):Vl P n F ⟨dst,.pick c x y,ty,pos,af,gd⟩ w v w:=
 fun a ha=>by simp[execOp,ha.eval hc,ha.eval hx,asBool]
theorem zE{c x y:Operand}{v:Va}(hc:ev F c=some (.bool false))(hy:ev F y=some v):Vl P n F ⟨dst,.pick c x y,ty,pos,af,gd⟩ w v w:=
 fun a ha=>by simp[execOp,ha.eval hc,ha.eval hy,asBool]
theorem zC{x:Operand}{t:TypeId}{b:Bool}(hx:ev F x=some (.bool b)):Vl P n F ⟨dst,.unOp .not t x,ty,pos,af,gd⟩ w (.bool (!b)) w:=
 fun a ha=>by simp[execOp,ha.eval hx,Op.unary]
theorem zz{x y:Operand}{t u:TypeId}{k:IntKind}{i j:Int}(hx:ev F x=some (.int k i))(hy:ev F y=some (.int k j)):Vl P n F ⟨dst,.binOp .lss t x y u,ty,pos,af,gd⟩ w (.bool (decide (i<j))) w:=
 fun a ha=>by simp[execOp,ha.eval hx,ha.eval hy,eqGuard,binOp,Op.intCmp]
theorem za7{x y:Operand}{t u:TypeId}{k:IntKind}{i j:Int}(hx:ev F x=some (.int k i))(hy:ev F y=some (.int k j)):Vl P n F ⟨dst,.binOp .leq t x y u,ty,pos,af,gd⟩ w (.bool (decide (i≤j))) w:=
 fun a ha=>by simp[execOp,ha.eval hx,ha.eval hy,eqGuard,binOp,Op.intCmp]
theorem zU{x y:Operand}{t u:TypeId}{k:IntKind}{i j:Int}(hx:ev F x=some (.int k i))(hy:ev F y=some (.int k j)):Vl P n F ⟨dst,.binOp .gtr t x y u,ty,pos,af,gd⟩ w (.bool (decide (j<i))) w:=
 fun a ha=>by simp[execOp,ha.eval hx,ha.eval hy,eqGuard,binOp,Op.intCmp]
theorem yc{x y:Operand}{t u:TypeId}{k:IntKind}{i j:Int}(hx:ev F x=some (.int k i))(hy:ev F y=some (.int k j)):Vl P n F ⟨dst,.binOp .geq t x y u,ty,pos,af,gd⟩ w (.bool (decide (j≤i))) w:=
 fun a ha=>by simp[execOp,ha.eval hx,ha.eval hy,eqGuard,binOp,Op.intCmp]
theorem zy{x y:Operand}{t u:TypeId}{k:IntKind}{i j:Int}(hx:ev F x=some (.int k i))(hy:ev F y=some (.int k j)):Vl P n F ⟨dst,.binOp .eql t x y u,ty,pos,af,gd⟩ w (.bool (decide (i=j))) w:=
 fun a ha=>by simp[execOp,ha.eval hx,ha.eval hy,eqGuard,binOp,Op.intCmp];rfl
theorem zJ{x y:Operand}{t u:TypeId}{k:IntKind}{i j:Int}(hx:ev F x=some (.int k i))(hy:ev F y=some (.int k j)):Vl P n F ⟨dst,.binOp .neq t x y u,ty,pos,af,gd⟩ w (.bool (!decide (i=j))) w:=
 fun a ha=>by simp[execOp,ha.eval hx,ha.eval hy,eqGuard,binOp,Op.intCmp];rfl
theorem zG{x y:Operand}{t u:TypeId}{i j:Int}(hx:ev F x=some (.int .i64 i))(hy:ev F y=some (.int .i64 j))(h : -9223372036854775808≤i+j∧i+j≤9223372036854775807):Vl P n F ⟨dst,.binOp .add t x y u,ty,pos,af,gd⟩ w (.int .i64 (i+j)) w:=
 fun a ha=>by simp[execOp,ha.eval hx,ha.eval hy,eqGuard,binOp,Op.intArith,IntWalk.i64_in _ h]
theorem yM{x y:Operand}{t u:TypeId}{i j:Int}(hx:ev F x=some (.int .i64 i))(hy:ev F y=some (.int .i64 j))(h : -9223372036854775808≤i-j∧i-j≤9223372036854775807):Vl P n F ⟨dst,.binOp .sub t x y u,ty,pos,af,gd⟩ w (.int .i64 (i-j)) w:=
 fun a ha=>by simp[execOp,ha.eval hx,ha.eval hy,eqGuard,binOp,Op.intArith,IntWalk.i64_in _ h]
theorem zdG{x y:Operand}{t u:TypeId}{i j:Int}(hx:ev F x=some (.int .i64 i))(hy:ev F y=some (.int .i64 j))(h : -9223372036854775808≤i*j∧i*j≤9223372036854775807):Vl P n F ⟨dst,.binOp .mul t x y u,ty,pos,af,gd⟩ w (.int .i64 (i*j)) w:=
 fun a ha=>by simp[execOp,ha.eval hx,ha.eval hy,eqGuard,binOp,Op.intArith,IntWalk.i64_in _ h]
theorem zsP{x y:Operand}{t u:TypeId}{i j:Int}(hx:ev F x=some (.int .i64 i))(hy:ev F y=some (.int .i64 j))(hi:0≤i∧i≤9223372036854775807)(hj:1≤j):Vl P n F ⟨dst,.binOp .quo t x y u,ty,pos,af,gd⟩ w (.int .i64 (i/j)) w:=by
 intro a ha
 have h0:j≠0:=by omega
 have h1:i.tdiv j=i/j:=Int.tdiv_eq_ediv_of_nonneg hi.1
 have h2:0≤i/j:=Int.ediv_nonneg hi.1 (by omega)
 have h3:i/j≤i:=Int.ediv_le_self _ hi.1
 simp[execOp,ha.eval hx,ha.eval hy,eqGuard,binOp,Op.intDiv,h0,h1,IntWalk.i64_in (i/j) ⟨by omega,by omega⟩]
theorem zfM(s u:By):(s.toList==u.toList)=decide (s=u):=by
 have h:s.toList=u.toList↔s=u:=by
  constructor
  ·intro h
   have h1:s.data.toList=u.data.toList:=by simpa[ByteArray.toList_eq] using h
   cases s;cases u
   simp only[ByteArray.mk.injEq]
   exact Array.toList_inj.1 h1
  rintro rfl;rfl
 by_cases e:s=u
 ·subst e;simp
 have:s.toList≠u.toList:=fun h'=>e (h.1 h')
 simp[e,this]
end
def zod(P:Program)(t:TypeId):Bool:=match P.underlying t with|some (.pointer _)=>true|_=>false
def zin(P:Program)(t:TypeId):Bool:=match P.underlying t with|some .string=>true|_=>false
def zdD(P:Program)(t:TypeId)(k:IntKind):Bool:=match P.underlying t with|some (.int k')=>decide (k=k')|_=>false
def zrT(P:Program)(t:TypeId):Bool:=match P.underlying t with|some .bool=>true|_=>false
def blt(s u:By):Bool:=Op.bytesLess s.toList u.toList
theorem zbm{P:Program}{t:TypeId}{x y:Va}{w:Wl}{r:Result Bool}(h:∀d,(Op.equalIn (d+1) t x y).run P w=r):(Op.equal t x y).run P w=r:=h 9999
section
variable {P:Program} {n:Nat} {F:Fr} {w:Wl} {dst:Option Tmp} {ty:TypeId} {pos:String} {af:Array Edge} {gd:Option (Nat×Bool)}
theorem zaQ{x y:Operand}{t u:TypeId}{s r:By}(hx:ev F x=some (.string s))(hy:ev F y=some (.string r)):Vl P n F ⟨dst,.binOp .eql t x y u,ty,pos,af,gd⟩ w (.bool (decide (s=r))) w:=
 fun a ha=>by simp only[execOp,ha.eval hx,ha.eval hy,eqGuard,binOp,Op.stringOp,zfM];simp
theorem zcj{x y:Operand}{t u:TypeId}{s r:By}(hx:ev F x=some (.string s))(hy:ev F y=some (.string r)):Vl P n F ⟨dst,.binOp .neq t x y u,ty,pos,af,gd⟩ w (.bool (!decide (s=r))) w:=
 fun a ha=>by simp only[execOp,ha.eval hx,ha.eval hy,eqGuard,binOp,Op.stringOp,zfM];simp
theorem ziy{x y:Operand}{t u:TypeId}{s r:By}(hx:ev F x=some (.string s))(hy:ev F y=some (.string r)):Vl P n F ⟨dst,.binOp .lss t x y u,ty,pos,af,gd⟩ w (.bool (blt s r)) w:=
 fun a ha=>by simp only[execOp,ha.eval hx,ha.eval hy,eqGuard,binOp,Op.stringOp,blt];simp
theorem zsx{x y:Operand}{t u:TypeId}{s r:By}(hx:ev F x=some (.string s))(hy:ev F y=some (.string r)):Vl P n F ⟨dst,.binOp .geq t x y u,ty,pos,af,gd⟩ w (.bool (!blt s r)) w:=
 fun a ha=>by simp only[execOp,ha.eval hx,ha.eval hy,eqGuard,binOp,Op.stringOp,blt];simp
theorem zy5{x y:Operand}{t u:TypeId}{s r:By}(hx:ev F x=some (.string s))(hy:ev F y=some (.string r))(h:s.size+r.size≤9223372036854775807):Vl P n F ⟨dst,.binOp .add t x y u,ty,pos,af,gd⟩ w (.string (s++r)) w:=
 fun a ha=>by
  have h1:¬ (((s.size+r.size:Nat):Int)>IntKind.i64.max):=by rw[IntKind.max_i64];omega
  simp only[execOp,ha.eval hx,ha.eval hy,eqGuard,binOp,Op.stringOp,if_neg h1];simp
theorem zoY{x y:Operand}{t u:TypeId}{s r:Bool}(hb:zrT P t=true)(hx:ev F x=some (.bool s))(hy:ev F y=some (.bool r)):Vl P n F ⟨dst,.binOp .eql t x y u,ty,pos,af,gd⟩ w (.bool (s==r)) w:=by
 intro a ha
 have hu:P.underlying t=some .bool:=by unfold zrT at hb;split at hb<;>simp_all
 have h1:(Op.equal t (.bool s) (.bool r)).run P w=.ok (s==r) w:=zbm fun d=>by simp[Op.equalIn,run_underlying hu]
 simp[execOp,ha.eval hx,ha.eval hy,eqGuard,binOp,h1]
theorem y8{x y:Operand}{t u:TypeId}{p:Option Addr}(hb:zod P t=true)(hx:ev F x=some (.pointer p))(hy:ev F y=some (.pointer none)):Vl P n F ⟨dst,.binOp .eql t x y u,ty,pos,af,gd⟩ w (.bool p.isNone) w:=by
 intro a ha
 obtain⟨e,hu⟩:∃e,P.underlying t=some (.pointer e):=by unfold zod at hb;split at hb<;>simp_all
 have h1:(Op.equal t (.pointer p) (.pointer none)).run P w=.ok p.isNone w:=zbm fun d=>by cases p<;>simp[Op.equalIn,run_underlying hu]
 simp[execOp,ha.eval hx,ha.eval hy,eqGuard,binOp,h1]
theorem znq{x y:Operand}{t u:TypeId}{p:Option Addr}(hb:zod P t=true)(hx:ev F x=some (.pointer p))(hy:ev F y=some (.pointer none)):Vl P n F ⟨dst,.binOp .neq t x y u,ty,pos,af,gd⟩ w (.bool (!p.isNone)) w:=by
 intro a ha
 obtain⟨e,hu⟩:∃e,P.underlying t=some (.pointer e):=by unfold zod at hb;split at hb<;>simp_all
 have h1:(Op.equal t (.pointer p) (.pointer none)).run P w=.ok p.isNone w:=zbm fun d=>by cases p<;>simp[Op.equalIn,run_underlying hu]
 simp[execOp,ha.eval hx,ha.eval hy,eqGuard,binOp,h1]
theorem zlP{x y:Operand}{t u e:TypeId}{p:Option Addr}{l c:Nat}(hb:zbt P t=some e)(hx:ev F x=some (.slice p l c))(hy:ev F y=some (.slice none 0 0)):Vl P n F ⟨dst,.binOp .eql t x y u,ty,pos,af,gd⟩ w (.bool p.isNone) w:=by
 intro a ha
 have hu:=yC hb
 have h1:(Op.equal t (.slice p l c) (.slice none 0 0)).run P w=.ok p.isNone w:=zbm fun d=>by cases p<;>simp[Op.equalIn,run_underlying hu]
 simp[execOp,ha.eval hx,ha.eval hy,eqGuard,binOp,h1]
theorem zV{x:Operand}{t e:TypeId}{p:Option Addr}{l c:Nat}(hb:zbt P t=some e)(hx:ev F x=some (.slice p l c)) :
 Vl P n F ⟨dst,.call { callee:=.builtin .len,args := #[x],argTypes := #[t] },ty,pos,af,gd⟩ w (.int .i64 l) w:=
 fun a ha=>by simp[execOp,resolve,invoke,builtin,Builtin.len_,ha.eval hx,run_underlying (yC hb),goInt]
theorem zgX{x:Operand}{t e:TypeId}{p:Option Addr}{l c:Nat}(hb:zbt P t=some e)(hx:ev F x=some (.slice p l c)) :
 Vl P n F ⟨dst,.call { callee:=.builtin .cap,args := #[x],argTypes := #[t] },ty,pos,af,gd⟩ w (.int .i64 c) w:=
 fun a ha=>by simp[execOp,resolve,invoke,builtin,Builtin.cap_,ha.eval hx,run_underlying (yC hb),goInt]
theorem yV{x:Operand}{t:TypeId}{s:By}(hb:zin P t=true)(hx:ev F x=some (.string s)) :
 Vl P n F ⟨dst,.call { callee:=.builtin .len,args := #[x],argTypes := #[t] },ty,pos,af,gd⟩ w (.int .i64 s.size) w:=
 fun a ha=>by
  have hu:P.underlying t=some .string:=by unfold zin at hb;split at hb<;>simp_all
  simp[execOp,resolve,invoke,builtin,Builtin.len_,ha.eval hx,run_underlying hu,goInt]
theorem zpe{x y:Operand}{t u:TypeId}{k:IntKind}{i j:Int}(hx:ev F x=some (.int k i))(hy:ev F y=some (.int k j)) :
 Vl P n F ⟨dst,.call { callee:=.builtin .max,args := #[x,y],argTypes := #[t,u] },ty,pos,af,gd⟩ w (.int k (if j>i then j else i)) w:=
 fun a ha=>by simp[execOp,resolve,invoke,builtin,Builtin.max_,Builtin.max2,ha.eval hx,ha.eval hy]
theorem zoJ{x y:Operand}{t u:TypeId}{k:IntKind}{i j:Int}(hx:ev F x=some (.int k i))(hy:ev F y=some (.int k j)) :
 Vl P n F ⟨dst,.call { callee:=.builtin .min,args := #[x,y],argTypes := #[t,u] },ty,pos,af,gd⟩ w (.int k (if j<i then j else i)) w:=
 fun a ha=>by simp[execOp,resolve,invoke,builtin,Builtin.min_,Builtin.min2,ha.eval hx,ha.eval hy]
theorem zM{x:Operand}{i:Nat}{vs:LA}{v:Va}(hx:ev F x=some (.tuple vs.toArray))(hv:vs[i]?=some v):Vl P n F ⟨dst,.extract x i,ty,pos,af,gd⟩ w v w:=
 fun a ha=>by simp[execOp,ha.eval hx,Instr.extract,hv]
theorem zau{fn:Fn}{az bs:List Operand}{vs us:LA}(hf:evs F az=some vs)(hc:evs F bs=some us):Vl P n F ⟨dst,.makeFunc fn az.toArray bs.toArray,ty,pos,af,gd⟩ w (.func fn vs.toArray us.toArray) w:=
 fun a ha=>by simp[execOp,Instr.makeFunc,ha.evals az vs hf,ha.evals bs us hc]
theorem zx{x:Operand}{p:Addr}(hx:ev F x=some (.pointer (some p))):Vl P n F ⟨dst,.nilCheck x,ty,pos,af,gd⟩ w (.pointer (some p)) w:=
 fun a ha=>by simp[execOp,ha.eval hx]
theorem zd{x:Operand}{s:TypeId}{f b off k:Nat}(hf:zbo P s f=some k)(hx:ev F x=some (.pointer (some ⟨b,off,none⟩))):Vl P n F ⟨dst,.fieldAddr s x f,ty,pos,af,gd⟩ w (.pointer (some ⟨b,off+k,none⟩)) w:=by
 intro a ha
 unfold zbo at hf
 split at hf
 ·rename_i fs hu
  cases hi:fs[f]? with
  |none=>simp[hi]at hf
  |some fd=>
   simp only[hi,Option.bind_some]at hf
   split at hf
   ·simp at hf
   ·rename_i k' hne hsz
    simp at hf
    subst hf
    have:k'≠0:=fun e=>hne (by rw[e])
    simp[execOp,Instr.fieldAt,ha.eval hx,run_underlying hu,hi,Instr.sureAddr,fieldPlace,zY hsz,this,Addr.add_lit]
   simp at hf
 simp at hf
theorem zi{x ix:Operand}{t e:TypeId}{k b off l c:Nat}{kk:IntKind}{j:Int}(hs:zbt P t=some e)(hk:zao P e=some k)(hx:ev F x=some (.slice (some ⟨b,off,none⟩) l c))(hj:ev F ix=some (.int kk j))
 (i:Nat) (hi:j=(i:Int)) (hlt:i<l):Vl P n F ⟨dst,.indexAddr t x ix,ty,pos,af,gd⟩ w (.pointer (some ⟨b,off+i*k,none⟩)) w:=by
 intro a ha
 subst hi
 have h1:(0:Int)≤(i:Int)∧(i:Int)<(l:Int):=by omega
 have h2:i<l:=hlt
 simp[execOp,Instr.indexAt,ha.eval hx,ha.eval hj,asIntOf,run_underlying (yC hs),zY hk,h2,Addr.add_lit]
theorem zK{x ix:Operand}{t e:TypeId}{m k b off:Nat}{kk:IntKind}{j:Int}(hs:zl5 P t=some (m,e))(hk:zao P e=some k)(hx:ev F x=some (.pointer (some ⟨b,off,none⟩)))(hj:ev F ix=some (.int kk j))
 (i:Nat) (hi:j=(i:Int)) (hlt:i<m):Vl P n F ⟨dst,.indexAddr t x ix,ty,pos,af,gd⟩ w (.pointer (some ⟨b,off+i*k,none⟩)) w:=by
 intro a ha
 subst hi
 have h2:i<m:=hlt
 simp[execOp,Instr.indexAt,ha.eval hx,ha.eval hj,asIntOf,run_underlying (zhk hs),zY hk,h2,Addr.add_lit,Instr.sureAddr]
def cut(p:Option Addr)(l h m k:Nat):Va:=.slice (if m=l then p else p.map (·.add (l*k))) (h-l) (m-l)
theorem zbq{x hi:Operand}{t e:TypeId}{k l c:Nat}{p:Option Addr}{k2:IntKind}{j:Int}(hs:zbt P t=some e)(hk:zao P e=some k)(hx:ev F x=some (.slice p l c))(hh:ev F hi=some (.int k2 j))
 (h:Nat) (hj:j=(h:Int)) (hle:h≤c):Vl P n F ⟨dst,.slice t x none (some hi) none,ty,pos,af,gd⟩ w (cut p 0 h c k) w:=by
 intro a ha
 subst hj
 simp[execOp,Instr.sliceAt,Instr.slice,Instr.sliceBounds,Instr.sliceBound,ha.eval hx,ha.eval hh,asIntOf,run_underlying (yC hs),zY hk,cut,hle]
theorem zbe{x lo:Operand}{t e:TypeId}{k l c:Nat}{p:Option Addr}{k1:IntKind}{i:Int}(hs:zbt P t=some e)(hk:zao P e=some k)(hx:ev F x=some (.slice p l c))(hl:ev F lo=some (.int k1 i))
 (g:Nat) (hi:i=(g:Int)) (hle:g≤l):Vl P n F ⟨dst,.slice t x (some lo) none none,ty,pos,af,gd⟩ w (cut p g l c k) w:=by
 intro a ha
 subst hi
 simp[execOp,Instr.sliceAt,Instr.slice,Instr.sliceBounds,Instr.sliceBound,ha.eval hx,ha.eval hl,asIntOf,run_underlying (yC hs),zY hk,cut,hle]
theorem zq2{x lo hi:Operand}{t e:TypeId}{k l c:Nat}{p:Option Addr}{k1 k2:IntKind}{i j:Int}(hs:zbt P t=some e)(hk:zao P e=some k)(hx:ev F x=some (.slice p l c))(hl:ev F lo=some (.int k1 i))(hh:ev F hi=some (.int k2 j))
 (g h:Nat) (ei:i=(g:Int)) (ej:j=(h:Int)) (hgh:g≤h) (hle:h≤c):Vl P n F ⟨dst,.slice t x (some lo) (some hi) none,ty,pos,af,gd⟩ w (cut p g h c k) w:=by
 intro a ha
 subst ei ej
 simp[execOp,Instr.sliceAt,Instr.slice,Instr.sliceBounds,Instr.sliceBound,ha.eval hx,ha.eval hl,ha.eval hh,asIntOf,run_underlying (yC hs),zY hk,cut,hle,hgh]
theorem zgK{x hi mx:Operand}{t e:TypeId}{k l c:Nat}{p:Option Addr}{k1 k2:IntKind}{i j:Int}(hs:zbt P t=some e)(hk:zao P e=some k)(hx:ev F x=some (.slice p l c))(hh:ev F hi=some (.int k1 i))(hm:ev F mx=some (.int k2 j))
 (h m:Nat) (ei:i=(h:Int)) (ej:j=(m:Int)) (hgh:h≤m) (hle:m≤c):Vl P n F ⟨dst,.slice t x none (some hi) (some mx),ty,pos,af,gd⟩ w (cut p 0 h m k) w:=by
 intro a ha
 subst ei ej
 simp[execOp,Instr.sliceAt,Instr.slice,Instr.sliceBounds,Instr.sliceBound,ha.eval hx,ha.eval hh,ha.eval hm,asIntOf,run_underlying (yC hs),zY hk,cut,hle,hgh]
theorem zfF{x lo hi mx:Operand}{t e:TypeId}{k l c:Nat}{p:Option Addr}{k0 k1 k2:IntKind}{q i j:Int}(hs:zbt P t=some e)(hk:zao P e=some k)(hx:ev F x=some (.slice p l c))(hl:ev F lo=some (.int k0 q))(hh:ev F hi=some (.int k1 i))(hm:ev F mx=some (.int k2 j))
 (g h m:Nat) (eq:q=(g:Int)) (ei:i=(h:Int)) (ej:j=(m:Int)) (hg:g≤h) (hgh:h≤m) (hle:m≤c):Vl P n F ⟨dst,.slice t x (some lo) (some hi) (some mx),ty,pos,af,gd⟩ w (cut p g h m k) w:=by
 intro a ha
 subst eq ei ej
 simp[execOp,Instr.sliceAt,Instr.slice,Instr.sliceBounds,Instr.sliceBound,ha.eval hx,ha.eval hl,ha.eval hh,ha.eval hm,asIntOf,run_underlying (yC hs),zY hk,cut,hle,hgh,hg]
theorem zg{x:Operand}{t:TypeId}{p:Addr}{v:Va}(ht:zag P t=some false)(hx:ev F x=some (.pointer (some p)))(hc:w.cell? p=some v):Vl P n F ⟨dst,.load t x,ty,pos,af,gd⟩ w v w:=
 fun a ha=>by simp[execOp,Instr.loadAt,Instr.sureAddr,ha.eval hx,loadVar,zaM ht,hc]
theorem zh{x:Operand}{t:TypeId}{b off k:Nat}{cs:LA}(ht:zag P t=some true)(hk:zao P t=some k)(hx:ev F x=some (.pointer (some ⟨b,off,none⟩)))(hl:cs.length=k)(hc:zv w b off cs):Vl P n F ⟨dst,.load t x,ty,pos,af,gd⟩ w (.agg cs.toArray) w:=by
 intro a ha
 subst hl
 have h1:(loadCells ⟨b,off,none⟩ cs.length).run P w=.ok cs.toArray w:=run_loadCells_list w ⟨b,off,none⟩ cs (fun j v hv=>by rw[Addr.add_lit];exact hc j v hv)
 simp[execOp,Instr.loadAt,Instr.sureAddr,ha.eval hx,loadVar,zaM ht,zY hk,h1]
theorem zvq{x:Operand}{t u:TypeId}{k k':IntKind}{i:Int}(hu:zdD P u k'=true)(ht:zdD P t k=true)(hx:ev F x=some (.int k i)):Vl P n F ⟨dst,.convert t u x,ty,pos,af,gd⟩ w (.int k' (k'.wrap i)) w:=by
 intro a ha
 have h1:P.underlying u=some (.int k'):=by unfold zdD at hu;split at hu<;>simp_all
 have h2:P.underlying t=some (.int k):=by unfold zdD at ht;split at ht<;>simp_all
 simp[execOp,convert,ha.eval hx,run_underlying h1,run_underlying h2,Conv.intToInt]
end
section
variable {P:Program} {n:Nat} {F:Fr} {w:Wl} {d:Tmp} {ty:TypeId} {pos:String} {af:Array Edge} {gd:Option (Nat×Bool)} {K:Fr→Wl→Prop}
theorem zF{e:TypeId}{z:Va}{c:LA}(hz:zaw P e=some z)(hc:z.cells=c.toArray)(hn:Nat.blt d n=true)(h:∀b w',w.heap.size=b→w'.heap.size=b+1→zk [] w w'→zO w' b e c→K ((d,.pointer (some ⟨b,0,none⟩))::F) w') :
 St P n F ⟨some d,.alloc e,ty,pos,af,gd⟩ w K:=by
 refine St.vl (v:=.pointer (some ⟨w.heap.size,0,none⟩)) (w':=w.alloc (.cells c.toArray e)) ?_ U hn (h _ _ U (by simp) (zk.alloc _ _ _) (zO.new _ _ _))
 intro a _
 simp[execOp,Instr.alloc,zcg hz,newVar,newRow,hc]
theorem zkh{e:TypeId}{x:Operand}{v:Va}{c:LA}(hx:ev F x=some v)(hc:v.cells=c.toArray)(hn:Nat.blt d n=true)(h:∀b w',w.heap.size=b→w'.heap.size=b+1→zk [] w w'→zO w' b e c→K ((d,.pointer (some ⟨b,0,none⟩))::F) w') :
 St P n F ⟨some d,.box e x,ty,pos,af,gd⟩ w K:=by
 refine St.vl (v:=.pointer (some ⟨w.heap.size,0,none⟩)) (w':=w.alloc (.cells c.toArray e)) ?_ U hn (h _ _ U (by simp) (zk.alloc _ _ _) (zO.new _ _ _))
 intro a ha
 simp[execOp,Instr.box,ha.eval hx,newVar,newRow,hc]
def yY(c:LA)(off:Nat)(vs:LA):LA:=c.take off++vs++c.drop (off+vs.length)
theorem zcs{b off:Nat}{e:TypeId}{c vs:LA}(hb:zO w b e c)(hl:off+vs.length≤c.length)(h1:∀v∈vs,v.oneCell'=true) :
 (storeCells ⟨b,off,none⟩ vs 0).run P w=.ok () (w.setRow b (yY c off vs).toArray):=by
 have:=run_storeCells_at P b off e vs 0 c.toArray w hb (by simpa using hl) h1
 simpa[yY] using this
theorem zt{x y:Operand}{t:TypeId}{v:Va}{b off k:Nat}{e:TypeId}{c vs:LA}(ht:zao P t=some k)(hx:ev F x=some (.pointer (some ⟨b,off,none⟩)))(hy:ev F y=some v)(hv:v.cells=vs.toArray)(hk:vs.length=k)
 (hb:zO w b e c) (hl:off+vs.length≤c.length) (h1:∀v∈vs,v.oneCell'=true)
 (h:∀w',w'.heap.size=w.heap.size→zk [b] w w'→zO w' b e (yY c off vs)→K F w'):St P n F ⟨none,.store t x y,ty,pos,af,gd⟩ w K:=by
 refine St.sk (w':=w.setRow b (yY c off vs).toArray) ?_ U (h _ (by simp[World.setRow]) (zk.row _ _ _) (hb.row _))
 intro a ha
 simp[execOp,Instr.storeAt,Instr.sureAddr,ha.eval hx,ha.eval hy,storeVar,zY ht,hv,hk,zcs hb hl h1]
theorem yX{f:Operand}{az:List Operand}{ts:Array TypeId}{g:FuncId}{first captured:Array Va}{vs args:LA}{R:Va→Wl→Prop}(hb:zn P g=true)(hf:ev F f=some (.func (.func g) first captured))(ha:evs F az=some vs)
 (hargs:first.toList++vs++captured.toList=args) (hn:Nat.blt d n=true) (hc:zS P g args.toArray w R) (h:∀v w',R v w'→K ((d,v)::F) w') :
 St P n F ⟨some d,.call { callee:=.value f,args:=az.toArray,argTypes:=ts },ty,pos,af,gd⟩ w K:=by
 refine St.enter (f:=g) (args:=args.toArray) ?_ U hn hc h
 intro a hr
 subst hargs
 unfold zn at hb
 split at hb
 ·rename_i fn hfn
  simp only[Bool.and_eq_true,Bool.not_eq_true']at hb
  have h1:¬ fn.body=none:=by cases hx:fn.body<;>simp_all
  have h2 : ¬ fn.name = "runtime.NumGoroutine" := by simpa using hb.2
  have e1:∀X:Array Va,(callFunc g X).run P w=.ok (.enter g X) w:=fun X=>by simp[callFunc,hfn,h1,h2]
  have e2:first++vs.toArray++captured=(first.toList++vs++captured.toList).toArray:=by simp
  simp[execOp,resolve,hr.eval hf,Deferred.ofValue,hr.evals az vs ha,invoke,e1]
 simp at hb
end
def kd(o:Oper):Nat:=
 match o.op with
 |.move _ | .assign _ | .pick .. | .build .. | .binOp .. | .unOp .. | .makeInterface .. | .makeFunc .. | .slice .. | .fieldAddr .. | .field .. | .indexAddr .. | .index .. | .extract .. | .nilCheck _=>0
 |.call { callee:=.builtin .cap, .. } | .call { callee:=.builtin .max, .. } | .call { callee:=.builtin .min, .. }=>0
 |.load .. | .convert .. | .call { callee:=.builtin .len, .. }=>1
 |.defer _ | .select .. | .go _=>3
 |_=>2
def zc5(ops:Array Oper):Nat→Nat→Nat→Bool
 |0,_,_=>false
 |f+1,j,i=>match ops[j]? with
  |none=>false
  |some oj=>oj.after.any (fun e=>Region.binds .any e&&e.on==i)||oj.after.any (fun e=>Region.binds .any e&&zc5 ops f e.on i)
def fin(ops:Array Oper)(i:Nat):Bool:=(List.range ops.size).all fun j=>match ops[j]? with|some oj=>kd oj != 1||zc5 ops ops.size i j|none=>true
def zjO(ops:Array Oper)(i:Nat)(oi:Oper)(j:Nat):Bool:=
 match ops[j]? with
 |none=>true
 |some oj=>zc5 ops ops.size j i||(oi.apart ops oj && !(kd oi==2&&kd oj==2))
def tOk(ops:Array Oper):Bool:=(List.range ops.size).all fun i=>match ops[i]? with
 |none=>true
 |some oi=>kd oi != 3&&oi.after.all (fun e => !Region.binds .any e||Nat.blt e.on i)&&(List.range ops.size).all fun j=>Nat.ble j i||zjO ops i oi j
def zd4(ops:Array Oper)(listed:Array Bool):Prop:=∀j oj,ops[j]?=some oj→listed.getD j false=true→∀e∈oj.after,Region.binds .any e=true→listed.getD e.on false=true
section
variable {ops:Array Oper}
theorem zfJ{listed:Array Bool}(hc:zd4 ops listed):∀(f j i:Nat) (oj:Oper),ops[j]?=some oj→(∀e∈oj.after,Region.binds .any e=true→listed.getD e.on false=true)→zc5 ops f j i=true→listed.getD i false=true
 |0,_,_,_,_,_,h=>by simp[zc5]at h
 |f+1,j,i,oj,hj,hall,h=>by
  simp only[zc5,hj,Bool.or_eq_true]at h
  rcases h with h|h
  ·obtain⟨e,he,hb⟩:=Array.any_eq_true'.1 h
   simp only[Bool.and_eq_true,beq_iff_eq]at hb
   rw[←hb.2]
   exact hall e he hb.1
  obtain⟨e,he,hb⟩:=Array.any_eq_true'.1 h
  simp only[Bool.and_eq_true]at hb
  have hl:=hall e he hb.1
  cases ho:ops[e.on]? with
  |none=>cases f<;>simp[zc5,ho]at hb
  |some oe=>exact zfJ hc f e.on i oe ho (hc e.on oe ho hl) hb.2
theorem zd4.set{listed:Array Bool}(hc:zd4 ops listed){i:Nat}(hi:i∈Region.ready .any ops listed):zd4 ops (listed.setIfInBounds i true):=by
 obtain⟨_,oi,hoi,hall⟩:=mem_ready.1 hi
 intro j oj hj hl e he hb
 by_cases hij:i=j
 ·subst hij
  have:oj=oi:=Option.some.inj (hj.symm.trans hoi)
  subst this
  exact getD_set_true (hall e he hb)
 rw[getD_set_ne false hij]at hl
 exact getD_set_true (hc j oj hj hl e he hb)
theorem zrg{listed:Array Bool}(hc:zd4 ops listed){i j:Nat}(hi:i∈Region.ready .any ops listed)(hj:j∈Region.ready .any ops listed)(f:Nat):zc5 ops f j i=false:=by
 obtain⟨_,oj,hoj,hall⟩:=mem_ready.1 hj
 cases h:zc5 ops f j i with
 |false=>rfl
 |true=>
  have h1:=zfJ hc f j i oj hoj hall h
  have h0:=(mem_ready.1 hi).1
  rcases Lg i listed.size with h'|h'
  ·simp[h']at h0 h1;rw[h0]at h1;cases h1
  simp[Array.getElem?_eq_none h']at h1
end
section
variable {P:Program} {ops:Array Oper} {C:Wl→Prop}
def No(_:Exit)(_:Act)(_:Wl):Prop:=False
def Yv(P:Program)(o:Oper)(a:Act)(w:Wl)(v:Va):Prop:=(execOp a.eval o).run P w=.ok (.value v) w
def tAt(P:Program)(C:Wl→Prop)(o:Oper)(B:Bool)(K:Act→Wl→Prop)(a:Act)(w:Wl):Prop:=
 match kd o with
 |0=>∃v,(∀w',Yv P o a w' v)∧K (a.put o.dst v) w
 |1=>∃v,(∀w',C w'→Yv P o a w' v)∧K (a.put o.dst v) w
 |2=>o.wp P a w (fun a' w'=>(C w'∨B=true)∧(∃u,a'=a.put o.dst u)∧K a' w') No
 |_=>False
def tOp(P:Program)(ops:Array Oper)(C:Wl→Prop)(i:Nat)(K:Act→Wl→Prop)(a:Act)(w:Wl):Prop:=
 match ops[i]? with
 |none=>K a w
 |some o=>if Region.wanted o (yielded ops a.tmps) then tAt P C o (fin ops i) K a w else K (a.put o.dst undef) w
theorem zno{o:Oper}{B:Bool}{K K':Act→Wl→Prop}{a:Act}{w:Wl}(h:∀a' w',(w'=w∨C w'∨B=true)→K a' w'→K' a' w')(hh:tAt P C o B K a w):tAt P C o B K' a w:=by
 unfold tAt at *
 split at hh
 ·obtain⟨v,h1,h2⟩:=hh;exact⟨v,h1,h _ _ (.inl rfl) h2⟩
 ·obtain⟨v,h1,h2⟩:=hh;exact⟨v,h1,h _ _ (.inl rfl) h2⟩
 ·exact Oper.wp_mono (fun a' w' ⟨h1,h2,h3⟩=>⟨h1,h2,h _ _ (.inr h1) h3⟩) hh
 exact hh
theorem zgq{i:Nat}{K K':Act→Wl→Prop}{a:Act}{w:Wl}(h:∀a' w',(w'=w∨C w'∨fin ops i=true)→K a' w'→K' a' w')(hh:tOp P ops C i K a w):tOp P ops C i K' a w:=by
 unfold tOp at *
 split
 ·simp only[*]at hh;exact h _ _ (.inl rfl) hh
 rename_i o ho
 simp only[ho]at hh
 split
 ·rename_i hw;simp only[hw,if_true]at hh;exact zno h hh
 rename_i hw;simp only[hw]at hh;exact h _ _ (.inl rfl) hh
theorem zo8{o:Oper}{K:Act→Wl→Prop}{a:Act}{w:Wl}(h:o.wp P a w K No):∃a' w',K a' w':=by
 unfold Oper.wp at h
 generalize (execOp a.eval o).run P w=r at h
 cases r with
 |ok x w1=>
  cases x<;>simp only[Oper.upon]at h
  case enter f args=>
   obtain⟨e,w',fr,hR,_⟩:=h []
   cases e with
   |returned v=>exact⟨_,_,hR⟩
   |panicked c=>exact hR.elim
   |outgrown=>obtain⟨_,_,hx⟩:=hR;exact hx.elim
  case row row args=>
   obtain⟨v,w',hR,_⟩:=h default []
   exact⟨_,_,hR⟩
  all_goals first
   |exact⟨_,_,h⟩
   |exact h.elim
 |halt x w1=>
  cases x<;>simp only[Oper.upon]at h
  all_goals exact h.elim
theorem zwa{o:Oper}{B:Bool}{K:Act→Wl→Prop}{a:Act}{w:Wl}(h:tAt P C o B K a w):∃a' w',K a' w':=by
 unfold tAt at h
 split at h
 ·obtain⟨v,_,h2⟩:=h;exact⟨_,_,h2⟩
 ·obtain⟨v,_,h2⟩:=h;exact⟨_,_,h2⟩
 ·obtain⟨_,_,h1⟩:=zo8 h;exact⟨_,_,h1.2.2⟩
 exact h.elim
theorem zwz{i:Nat}{K:Act→Wl→Prop}{a:Act}{w:Wl}(h:tOp P ops C i K a w):∃a' w',K a' w':=by
 unfold tOp at h
 split at h
 ·exact⟨_,_,h⟩
 split at h
 ·exact zwa h
 exact⟨_,_,h⟩
theorem Yv.put{o:Oper}{a:Act}{w:Wl}{v:Va}(h:Yv P o a w v)(hs:∀cs b,o.op ≠ .select cs b)(x:Option Tmp)(u:Va)(hx:∀d,x=some d→d∉o.looksAt ops):Yv P o (a.put x u) w v:=by
 unfold Yv at *
 rw[execOp_put o hs a x u hx]
 exact h
theorem Yv.unput{o:Oper}{a:Act}{w:Wl}{v:Va}{x:Option Tmp}{u:Va}(h:Yv P o (a.put x u) w v)(hs:∀cs b,o.op ≠ .select cs b)(hx:∀d,x=some d→d∉o.looksAt ops):Yv P o a w v:=by
 unfold Yv at *
 rw[execOp_put o hs a x u hx]at h
 exact h
theorem zg1(a:Act)(x:Option Tmp)(u:Va):(a.put x u).defers=a.defers:=by cases x<;>rfl
theorem zoi{o:Oper}{a:Act}{w:Wl}{K:Act→Wl→Prop}{x:Option Tmp}{u:Va}(hs:∀cs b,o.op ≠ .select cs b)(hx:∀d,x=some d→d∉o.looksAt ops)(hne:∀d,x=some d→o.dst≠some d)
 (h:o.wp P a w (fun a' w'=>(∃y,a'=a.put o.dst y)∧K a' w') No):o.wp P (a.put x u) w (fun a' w'=>∃a0,a'=a0.put x u∧(∃y,a0=a.put o.dst y)∧K a0 w') No:=by
 unfold Oper.wp at *
 rw[execOp_put o hs a x u hx]
 have hc:∀y,(a.put x u).put o.dst y=(a.put o.dst y).put x u:=fun y=>Act.put_comm a u y hne
 generalize (execOp a.eval o).run P w=r at *
 cases r with
 |ok n w1=>
  cases n<;>simp only[Oper.upon]at h ⊢
  case value v=>exact⟨_,hc v,h.1,h.2⟩
  case skip=>exact⟨_,hc undef,h.1,h.2⟩
  case defer dd=>
   obtain⟨⟨y,hy⟩,_⟩:=h
   have:=congrArg Act.defers hy
   simp[zg1]at this
  case enter f args=>
   refine Calls.mono h ?_
   intro e w2 he
   cases e with
   |returned v=>exact⟨_,hc v,he.1,he.2⟩
   |panicked c=>exact he
   |outgrown=>exact he
  case row row args=>exact Rows.mono h fun v w2 hv=>⟨_,hc v,hv.1,hv.2⟩
  all_goals exact h
 |halt h0 w1=>cases h0<;>simp only[Oper.upon]at h ⊢<;>exact h
theorem zju{o:Oper}{a:Act}{w:Wl}{K:Act→Wl→Prop}{x:Option Tmp}{u:Va}(hs:∀cs b,o.op ≠ .select cs b)(hx:∀d,x=some d→d∉o.looksAt ops)(hne:∀d,x=some d→o.dst≠some d)
 (h:o.wp P (a.put x u) w (fun a' w'=>(∃y,a'=(a.put x u).put o.dst y)∧K a' w') No):o.wp P a w (fun a' w'=>(∃y,a'=a.put o.dst y)∧K (a'.put x u) w') No:=by
 unfold Oper.wp at *
 rw[execOp_put o hs a x u hx]at h
 have hc:∀y,(a.put x u).put o.dst y=(a.put o.dst y).put x u:=fun y=>Act.put_comm a u y hne
 generalize (execOp a.eval o).run P w=r at *
 cases r with
 |ok n w1=>
  cases n<;>simp only[Oper.upon]at h ⊢
  case value v=>exact⟨⟨_,rfl⟩,hc v▸h.2⟩
  case skip=>exact⟨⟨_,rfl⟩,hc undef▸h.2⟩
  case defer dd=>
   obtain⟨⟨y,hy⟩,_⟩:=h
   have:=congrArg Act.defers hy
   simp[zg1]at this
  case enter f args=>
   refine Calls.mono h ?_
   intro e w2 he
   cases e with
   |returned v=>exact⟨⟨_,rfl⟩,hc v▸he.2⟩
   |panicked c=>exact he
   |outgrown=>exact he
  case row row args=>exact Rows.mono h fun v w2 hv=>⟨⟨_,rfl⟩,hc v▸hv.2⟩
  all_goals exact h
 |halt h0 w1=>cases h0<;>simp only[Oper.upon]at h ⊢<;>exact h
theorem zly{o:Oper}(h:kd o≠3):∀cs b,o.op ≠ .select cs b:=by
 intro cs b he
 apply h
 simp[kd,he]
theorem zsL{i j:Nat}{oi oj:Oper}(hi:ops[i]?=some oi)(hj:ops[j]?=some oj)(hap:oi.apart ops oj=true)(hki:kd oi≠3)(hkj:kd oj≠3)(hl:¬ (kd oi=2∧kd oj=2)){w0:Wl}(hw0:C w0)
 {K:Act→Wl→Prop} {a:Act} {w:Wl} (h:tOp P ops C i (fun a' w'=>tOp P ops C j K a' w') a w):tOp P ops C j (fun a' w'=>tOp P ops C i K a' w') a w:=by
 obtain⟨h1,h2,h3⟩:=Oper.apart_spec hap
 have h2':∀d,oj.dst=some d→oi.dst≠some d:=fun d hd he=>h2 d he hd
 have si:=zly hki
 have sj:=zly hkj
 have wj:∀(a:Act) u,Region.wanted oj (yielded ops (a.put oi.dst u).tmps)=Region.wanted oj (yielded ops a.tmps):=fun a u=>wanted_put oj a oi.dst u h1
 have wi:∀(a:Act) u,Region.wanted oi (yielded ops (a.put oj.dst u).tmps)=Region.wanted oi (yielded ops a.tmps):=fun a u=>wanted_put oi a oj.dst u h3
 have hcm:∀(a:Act) u y,(a.put oi.dst u).put oj.dst y=(a.put oj.dst y).put oi.dst u:=fun a u y=>Act.put_comm a u y h2
 unfold tOp at *
 simp only[hi,hj] at *
 by_cases hwi:Region.wanted oi (yielded ops a.tmps)=true
 ·by_cases hwj:Region.wanted oj (yielded ops a.tmps)=true
  ·simp only[hwi,hwj,if_true]at h ⊢
   unfold tAt at *
   have ki:kd oi=0∨kd oi=1∨kd oi=2:=by
    revert hki;generalize oi=o;unfold kd;split<;>simp
   have kj:kd oj=0∨kd oj=1∨kd oj=2:=by
    revert hkj;generalize oj=o;unfold kd;split<;>simp
   rcases ki with ki|ki|ki<;>rcases kj with kj|kj|kj<;>simp only[ki,kj]at h ⊢
   case inl.inl=>
    obtain⟨v,hv,hk⟩:=h
    rw[wj,if_pos hwj]at hk
    obtain⟨u,hu,hk⟩:=hk
    refine⟨u,fun w'=>(hu w').unput sj h1,?_⟩
    rw[wi,if_pos hwi]
    exact⟨v,fun w'=>(hv w').put si _ _ h3,hcm a v u▸hk⟩
   case inl.inr.inl=>
    obtain⟨v,hv,hk⟩:=h
    rw[wj,if_pos hwj]at hk
    obtain⟨u,hu,hk⟩:=hk
    refine⟨u,fun w' hw'=>(hu w' hw').unput sj h1,?_⟩
    rw[wi,if_pos hwi]
    exact⟨v,fun w'=>(hv w').put si _ _ h3,hcm a v u▸hk⟩
   case inr.inl.inl=>
    obtain⟨v,hv,hk⟩:=h
    rw[wj,if_pos hwj]at hk
    obtain⟨u,hu,hk⟩:=hk
    refine⟨u,fun w'=>(hu w').unput sj h1,?_⟩
    rw[wi,if_pos hwi]
    exact⟨v,fun w' hw'=>(hv w' hw').put si _ _ h3,hcm a v u▸hk⟩
   case inr.inl.inr.inl=>
    obtain⟨v,hv,hk⟩:=h
    rw[wj,if_pos hwj]at hk
    obtain⟨u,hu,hk⟩:=hk
    refine⟨u,fun w' hw'=>(hu w' hw').unput sj h1,?_⟩
    rw[wi,if_pos hwi]
    exact⟨v,fun w' hw'=>(hv w' hw').put si _ _ h3,hcm a v u▸hk⟩
   case inl.inr.inr=>
    obtain⟨v,hv,hk⟩:=h
    rw[wj,if_pos hwj]at hk
    have hk':=zju (ops:=ops) (K:=fun a' w'=>(C w'∨fin ops j=true)∧K a' w') sj h1 h2 (Oper.wp_mono (fun a' w' ⟨q1,q2,q3⟩=>⟨q2,q1,q3⟩) hk)
    refine Oper.wp_mono ?_ hk'
    rintro a' w'⟨⟨y,rfl⟩,q1,q2⟩
    refine⟨q1,⟨y,U⟩,?_⟩
    rw[wi,if_pos hwi]
    exact⟨v,fun w'=>(hv w').put si _ _ h3,q2⟩
   case inr.inl.inr.inr=>
    obtain⟨v,hv,hk⟩:=h
    rw[wj,if_pos hwj]at hk
    have hk':=zju (ops:=ops) (K:=fun a' w'=>(C w'∨fin ops j=true)∧K a' w') sj h1 h2 (Oper.wp_mono (fun a' w' ⟨q1,q2,q3⟩=>⟨q2,q1,q3⟩) hk)
    refine Oper.wp_mono ?_ hk'
    rintro a' w'⟨⟨y,rfl⟩,q1,q2⟩
    refine⟨q1,⟨y,U⟩,?_⟩
    rw[wi,if_pos hwi]
    exact⟨v,fun w' hw'=>(hv w' hw').put si _ _ h3,q2⟩
   case inr.inr.inl=>
    obtain⟨a1,w1,_,⟨y1,e1⟩,hk1⟩:=zo8 h
    subst e1
    rw[wj,if_pos hwj]at hk1
    obtain⟨u,hu,_⟩:=hk1
    have hu0:∀w',Yv P oj a w' u:=fun w'=>(hu w').unput sj h1
    refine⟨u,hu0,?_⟩
    rw[wi,if_pos hwi]
    have h':=zoi (ops:=ops) (x:=oj.dst) (u:=u) (K:=fun a' w'=>(C w'∨fin ops i=true)∧(if Region.wanted oj (yielded ops a'.tmps)=true then ∃v,(∀w',Yv P oj a' w' v)∧K (a'.put oj.dst v) w' else K (a'.put oj.dst undef) w')) si h3 h2' (Oper.wp_mono (fun a' w' ⟨q1,q2,q3⟩=>⟨q2,q1,q3⟩) h)
    refine Oper.wp_mono ?_ h'
    rintro a' w'⟨a0,rfl,⟨y,rfl⟩,q1,q2⟩
    refine⟨q1,⟨y,hcm a y u⟩,?_⟩
    rw[wj,if_pos hwj]at q2
    obtain⟨v,hv,hk⟩:=q2
    have:v=u:=by
     have e1:=(hv w0).unput sj h1
     have e2:=hu0 w0
     unfold Yv at e1 e2
     rw[e1]at e2
     simpa using e2
    rw[←this]
    exact hk
   case inr.inr.inr.inl=>
    obtain⟨a1,w1,_,⟨y1,e1⟩,hk1⟩:=zo8 h
    subst e1
    rw[wj,if_pos hwj]at hk1
    obtain⟨u,hu,_⟩:=hk1
    have hu0:∀w',C w'→Yv P oj a w' u:=fun w' hw'=>(hu w' hw').unput sj h1
    refine⟨u,hu0,?_⟩
    rw[wi,if_pos hwi]
    have h':=zoi (ops:=ops) (x:=oj.dst) (u:=u) (K:=fun a' w'=>(C w'∨fin ops i=true)∧(if Region.wanted oj (yielded ops a'.tmps)=true then ∃v,(∀w',C w'→Yv P oj a' w' v)∧K (a'.put oj.dst v) w' else K (a'.put oj.dst undef) w')) si h3 h2' (Oper.wp_mono (fun a' w' ⟨q1,q2,q3⟩=>⟨q2,q1,q3⟩) h)
    refine Oper.wp_mono ?_ h'
    rintro a' w'⟨a0,rfl,⟨y,rfl⟩,q1,q2⟩
    refine⟨q1,⟨y,hcm a y u⟩,?_⟩
    rw[wj,if_pos hwj]at q2
    obtain⟨v,hv,hk⟩:=q2
    have:v=u:=by
     have e1:=(hv w0 hw0).unput sj h1
     have e2:=hu0 w0 hw0
     unfold Yv at e1 e2
     rw[e1]at e2
     simpa using e2
    rw[←this]
    exact hk
   case inr.inr.inr.inr=>exact absurd ⟨ki,kj⟩ hl
  have hwj':Region.wanted oj (yielded ops a.tmps)=false:=by simpa using hwj
  simp only[hwi,hwj',if_true,Bool.false_eq_true,if_false]at h ⊢
  rw[wi,if_pos hwi]
  have ki:kd oi=0∨kd oi=1∨kd oi=2:=by
   revert hki;generalize oi=o;unfold kd;split<;>simp
  unfold tAt at h ⊢
  rcases ki with ki|ki|ki<;>simp only[ki]at h ⊢
  ·obtain⟨v,hv,hk⟩:=h
   rw[wj,if_neg hwj]at hk
   exact⟨v,fun w'=>(hv w').put si _ _ h3,hcm a v undef▸hk⟩
  ·obtain⟨v,hv,hk⟩:=h
   rw[wj,if_neg hwj]at hk
   exact⟨v,fun w' hw'=>(hv w' hw').put si _ _ h3,hcm a v undef▸hk⟩
  have h0:oi.wp P a w (fun a' w'=>(∃y,a'=a.put oi.dst y)∧(C w'∨fin ops i=true)∧K (a'.put oj.dst undef) w') No:=by
   refine Oper.wp_mono ?_ h
   rintro a' w'⟨q1,⟨y,rfl⟩,q3⟩
   rw[wj,if_neg hwj]at q3
   exact⟨⟨y,U⟩,q1,q3⟩
  have h':=zoi (ops:=ops) (x:=oj.dst) (u:=undef) (K:=fun a' w'=>(C w'∨fin ops i=true)∧K (a'.put oj.dst undef) w') si h3 h2' h0
  refine Oper.wp_mono ?_ h'
  rintro a' w'⟨a0,rfl,⟨y,rfl⟩,q1,q2⟩
  exact⟨q1,⟨y,hcm a y undef⟩,q2⟩
 have hwi':Region.wanted oi (yielded ops a.tmps)=false:=by simpa using hwi
 simp only[hwi',Bool.false_eq_true,if_false]at h
 rw[wj]at h
 by_cases hwj:Region.wanted oj (yielded ops a.tmps)=true
 ·simp only[hwj,if_true]at h ⊢
  have kj:kd oj=0∨kd oj=1∨kd oj=2:=by
   revert hkj;generalize oj=o;unfold kd;split<;>simp
  unfold tAt at h ⊢
  rcases kj with kj|kj|kj<;>simp only[kj]at h ⊢
  ·obtain⟨v,hv,hk⟩:=h
   refine⟨v,fun w'=>(hv w').unput sj h1,?_⟩
   rw[wi,if_neg hwi]
   exact hcm a undef v▸hk
  ·obtain⟨v,hv,hk⟩:=h
   refine⟨v,fun w' hw'=>(hv w' hw').unput sj h1,?_⟩
   rw[wi,if_neg hwi]
   exact hcm a undef v▸hk
  have hk':=zju (ops:=ops) (K:=fun a' w'=>(C w'∨fin ops j=true)∧K a' w') sj h1 h2 (Oper.wp_mono (fun a' w' ⟨q1,q2,q3⟩=>⟨q2,q1,q3⟩) h)
  refine Oper.wp_mono ?_ hk'
  rintro a' w'⟨⟨y,rfl⟩,q1,q2⟩
  refine⟨q1,⟨y,U⟩,?_⟩
  rw[wi,if_neg hwi]
  exact q2
 simp only[hwj]at h ⊢
 rw[wi,if_neg hwi]
 exact hcm a undef undef▸h
def aT(P:Program)(ops:Array Oper)(C:Wl→Prop)(Q:Act→Wl→Prop):Nat→Array Bool→Act→Wl→Prop
 |0,listed,a,w=>Region.ready .any ops listed=[]∧Q a w
 |f+1,listed,a,w=>(Region.ready .any ops listed=[]→Q a w)∧∀i∈Region.ready .any ops listed,tOp P ops C i (aT P ops C Q f (listed.setIfInBounds i true)) a w
theorem zgo{l:Array Bool}{j:Nat}(i:Nat)(h:l.getD j true=true):(l.setIfInBounds i true).getD j true=true:=by
 by_cases e:i=j
 ·subst e
  rcases Lg i l.size with h'|h'
  ·simp[h']
  simp[Array.getElem?_eq_none h']
 rw[getD_set_ne true e];exact h
def ziL(ops:Array Oper)(listed:Array Bool):Prop:=∀j o,ops[j]?=some o→kd o=1→listed.getD j true=true
theorem ziL.set{listed:Array Bool}(h:ziL ops listed)(i:Nat):ziL ops (listed.setIfInBounds i true):=fun j o hj hk=>zgo i (h j o hj hk)
theorem zn3{i:Nat}{listed:Array Bool}(hf:fin ops i=true)(hc:zd4 ops listed)(hi:i∈Region.ready .any ops listed):ziL ops (listed.setIfInBounds i true):=by
 intro j o hj hk
 have h1:=List.all_eq_true.1 hf j (List.mem_range.2 (Ga hj).1)
 simp only[hj,hk,Bool.or_eq_true]at h1
 obtain⟨_,oi,hoi,hall⟩:=mem_ready.1 hi
 rcases h1 with h1|h1
 ·simp at h1
 have h2:=zfJ hc _ i j oi hoi hall h1
 refine zgo i ?_
 rcases Lg j listed.size with h'|h'
 ·simp[h']at h2 ⊢;exact h2
 simp[Array.getElem?_eq_none h']at h2
theorem zgf{Q:Act→Wl→Prop}{Q':Exit→Act→Wl→Prop}(hQ:∀a w,Q a w→Q' .normal a w):∀(f:Nat) (listed:Array Bool) (a:Act) (w:Wl),zd4 ops listed→(C w∨ziL ops listed) →
 aT P ops C Q f listed a w→wpAny P .any ops Q' f listed a w
 |0,_,_,_,_,_,h=>⟨h.1,hQ _ _ h.2⟩
 |f+1,listed,a,w,hc,hw,h=>by
  refine⟨fun h0=>hQ _ _ (h.1 h0),fun i hi=>?_⟩
  have h1:=h.2 i hi
  have ih:=fun a' w' hw'=>zgf (Q:=Q) (Q':=Q') hQ f (listed.setIfInBounds i true) a' w' (hc.set hi) hw'
  have hw':C w∨ziL ops (listed.setIfInBounds i true):=hw.imp id (fun h=>h.set i)
  unfold tOp at h1
  unfold wpOp
  cases ho:ops[i]? with
  |none=>simp only[ho]at h1 ⊢;exact ih _ _ hw' h1
  |some o=>
   simp only[ho]at h1 ⊢
   split at h1
   ·rename_i hwd
    rw[if_pos hwd]
    refine .inl ?_
    unfold tAt at h1
    split at h1
    ·obtain⟨v,hv,hk⟩:=h1
     have e:=hv w
     unfold Yv at e
     unfold Oper.wp
     rw[e]
     exact ih _ _ hw' hk
    ·rename_i hk1
     obtain⟨v,hv,hk⟩:=h1
     have hCw:C w:=by
      rcases hw with hw|hw
      ·exact hw
      have:=hw i o ho hk1
      have h0:=(mem_ready.1 hi).1
      rw[this]at h0
      cases h0
     have e:=hv w hCw
     unfold Yv at e
     unfold Oper.wp
     rw[e]
     exact ih _ _ hw' hk
    ·refine Oper.wp_mono (Q:=Q') (K:=fun a' w'=>(C w'∨fin ops i=true)∧(∃u,a'=a.put o.dst u)∧aT P ops C Q f (listed.setIfInBounds i true) a' w') ?_ ?_
     ·rintro a' w' ⟨q1,_,q3⟩
      exact ih _ _ (q1.imp id fun hf=>zn3 hf hc hi) q3
     unfold Oper.wp at h1 ⊢
     generalize (execOp a.eval o).run P w=r at *
     cases r with
     |ok n w1=>
      cases n<;>simp only[Oper.upon]at h1 ⊢
      case enter f args=>
       refine Calls.mono h1 ?_
       intro e w2 he
       cases e with
       |returned v=>exact he
       |panicked c=>exact he.elim
       |outgrown=>obtain⟨_,_,hx⟩:=he;exact hx.elim
      all_goals exact h1
     |halt h0 w1=>cases h0<;>simp only[Oper.upon]at h1 ⊢<;>exact h1.elim
    exact h1.elim
   rename_i hwd
   rw[if_neg hwd]
   exact ih _ _ hw' h1
theorem zm7{Q:Act→Wl→Prop}{i:Nat}{oi:Oper}(hi:ops[i]?=some oi)(hki:kd oi≠3)(hk3:∀(j:Nat) (oj:Oper),ops[j]?=some oj→kd oj≠3){w0:Wl}(hw0:C w0) :
 ∀(f:Nat) (listed:Array Bool) (a:Act) (w:Wl),zd4 ops listed →
  (∀(j:Nat) (oj:Oper),ops[j]?=some oj→j≠i→listed.getD j true=false→zc5 ops ops.size j i=true∨(oi.apart ops oj=true∧¬ (kd oi=2∧kd oj=2))) →
  i∈Region.ready .any ops listed→tOp P ops C i (aT P ops C Q f (listed.setIfInBounds i true)) a w→aT P ops C Q (f+1) listed a w:=by
 intro f
 induction f with
 |zero=>
  intro listed a w _ _ hr H
  refine⟨fun h=>(by rw[h]at hr;cases hr),fun j hj=>?_⟩
  by_cases hji:j=i
  ·subst hji;exact H
  have:=ready_mono hj hji
  obtain⟨a',w',h1,_⟩:=zwz H
  rw[h1]at this
  cases this
 |succ f ih=>
  intro listed a w hc hfree hr H
  refine⟨fun h=>(by rw[h]at hr;cases hr),fun j hj=>?_⟩
  by_cases hji:j=i
  ·subst hji;exact H
  obtain⟨hjun,oj,hoj,hall⟩:=mem_ready.1 hj
  have hnr:=zrg hc hr hj ops.size
  obtain⟨hap,hl⟩:=(hfree j oj hoj hji hjun).resolve_left (by simp[hnr])
  have H1:tOp P ops C i (fun a' w'=>tOp P ops C j (aT P ops C Q f ((listed.setIfInBounds i true).setIfInBounds j true)) a' w') a w:=
   zgq (fun a' w' _ h=>h.2 j (ready_mono hj hji)) H
  have H2:=zsL hi hoj hap hki (hk3 j oj hoj) hl hw0 H1
  refine zgq (fun a' w' _ h3=>ih (listed.setIfInBounds j true) a' w' (hc.set hj) ?_ (ready_mono hr (Ne.symm hji)) ?_) H2
  ·intro k ok hk hki hun
   refine hfree k ok hk hki ?_
   by_cases hjk:j=k
   ·subst hjk;exact hjun
   rw[getD_set_ne true hjk]at hun;exact hun
  rw[Array.setIfInBounds_comm _ _ hji]
  exact h3
def wpT(P:Program)(ops:Array Oper)(C:Wl→Prop)(Q:Act→Wl→Prop):Nat→List Oper→Act→Wl→Prop
 |_,[],a,w=>Q a w
 |k,o::rest,a,w=>if Region.wanted o (yielded ops a.tmps) then tAt P C o (fin ops k) (wpT P ops C Q (k+1) rest) a w else wpT P ops C Q (k+1) rest (a.put o.dst undef) w
theorem zjJ(h:tOk ops=true)(i:Nat)(oi:Oper)(hi:ops[i]?=some oi):kd oi≠3∧(∀e∈oi.after,Region.binds .any e=true→e.on<i) ∧
 ∀j oj,ops[j]?=some oj→i<j→zc5 ops ops.size j i=true∨(oi.apart ops oj=true∧¬ (kd oi=2∧kd oj=2)):=by
 have h1:=List.all_eq_true.1 h i (List.mem_range.2 (Ga hi).1)
 simp only[hi,Bool.and_eq_true]at h1
 obtain⟨⟨h1,h2⟩,h3⟩:=h1
 refine⟨by simpa using h1,fun e he hb=>?_,fun j oj hj hij=>?_⟩
 ·have:=Array.all_eq_true_iff_forall_mem.1 h2 e he
  simp only[hb,Bool.not_true,Bool.false_or]at this
  exact Nat.lt_of_succ_le (Nat.le_of_ble_eq_true this)
 have:=List.all_eq_true.1 h3 j (List.mem_range.2 (Ga hj).1)
 simp only[Bool.or_eq_true,zjO,hj]at this
 rcases this with this|this
 ·have:=Nat.le_of_ble_eq_true this;omega
 rcases this with this|this
 ·exact .inl this
 simp only[Bool.and_eq_true,Bool.not_eq_true']at this
 refine .inr ⟨this.1,fun⟨e1,e2⟩=>?_⟩
 have h3:=this.2
 rw[e1,e2]at h3
 simp at h3
theorem ziv{Q:Act→Wl→Prop}(hB:tOk ops=true){w0:Wl}(hw0:C w0):∀(l:List Oper) (k:Nat) (listed:Array Bool) (a:Act) (w:Wl),(∀j,l[j]?=ops[k+j]?)→k+l.length=ops.size→listed.size=ops.size →
 (∀j,j<ops.size→(listed.getD j true=true↔j<k))→wpT P ops C Q k l a w→aT P ops C Q l.length listed a w
 |[],k,listed,a,w,_,hk,hs,hli,h=>by
  refine⟨?_,h⟩
  refine List.eq_nil_iff_forall_not_mem.2 fun j hj=>?_
  obtain⟨h0,oj,hoj,_⟩:=mem_ready.1 hj
  have hlt:=(Ga hoj).1
  have:=(hli j hlt).2 (by simp at hk;omega)
  rw[this]at h0
  cases h0
 |o::l,k,listed,a,w,hl,hk,hs,hli,h=>by
  have h0:ops[k]?=some o:=by simpa using (hl 0).symm
  have hklt:=(Ga h0).1
  obtain⟨hk3,hed,hpair⟩:=zjJ hB k o h0
  have hget:∀j,j<ops.size→(listed.getD j false=true↔j<k):=fun j hj=>by
   rw[←hli j hj]
   have:j<listed.size:=by omega
   simp[this]
  have hclosed:zd4 ops listed:=by
   intro j oj hj hlj e he hb
   have hjlt:=(Ga hj).1
   have h1:=(hget j hjlt).1 hlj
   have h2:=(zjJ hB j oj hj).2.1 e he hb
   exact(hget e.on (by omega)).2 (by omega)
  have hready:k∈Region.ready .any ops listed:=by
   refine mem_ready.2 ⟨?_,o,h0,fun e he hb=>(hget e.on (by have:=hed e he hb;omega)).2 (hed e he hb)⟩
   cases hx:listed.getD k true with
   |false=>rfl
   |true=>have:=(hli k hklt).1 hx;omega
  refine zm7 h0 hk3 (fun j oj hj=>(zjJ hB j oj hj).1) hw0 l.length listed a w hclosed ?_ hready ?_
  ·intro j oj hj hne hun
   have hjlt:=(Ga hj).1
   have:¬ j<k:=fun hh=>by have:=(hli j hjlt).2 hh;rw[this]at hun;cases hun
   exact hpair j oj hj (by omega)
  have hrest:∀a' w',wpT P ops C Q (k+1) l a' w'→aT P ops C Q l.length (listed.setIfInBounds k true) a' w':=fun a' w' h'=>
   ziv hB hw0 l (k+1) _ a' w' (fun j=>by have:=hl (j+1);simpa[Nat.add_assoc,Nat.add_comm 1 j] using this) (by simp at hk;omega) (by simpa using hs)
    (fun j hj=>by
     by_cases e:k=j
     ·subst e
      have:k<listed.size:=by omega
      simp[this]
     rw[getD_set_ne true e,hli j hj];omega) h'
  unfold tOp
  simp only[h0]
  simp only[wpT]at h
  split at h
  ·rename_i hw;rw[if_pos hw];exact zno (fun a' w' _=>hrest a' w') h
  rename_i hw;rw[if_neg hw];exact hrest _ _ h
theorem zmF{id:Nat}{Q:Act→Wl→Prop}{Q':Exit→Act→Wl→Prop}{a:Act}{w:Wl}(hQ:∀a w,Q a w→Q' .normal a w)(hm:P.follows .mixedOrders=true)(hB:tOk ops=true)(hC:C w.drew)
 (h:wpT P ops C Q 0 ops.toList a w.drew):(Code.region id ops true).wp P Q' a w:=by
 refine wp_region_any hm ?_
 have:=ziv (P:=P) (Q:=Q) hB hC ops.toList 0 (Array.replicate ops.size false) a w.drew (by simp) (by simp) (by simp) (fun j hj=>by simp[hj]) h
 refine zgf (C:=C) hQ _ _ _ _ ?_ (.inl hC) (by simpa using this)
 intro j oj hj hl
 have hjlt:=(Ga hj).1
 simp[hjlt]at hl
end
def Wd(n:Nat)(F:Fr)(ops:Array Oper)(o:Oper):Prop:=∀a,Rep n F a→Region.wanted o (yielded ops a.tmps)=true
section
variable {P:Program} {n:Nat} {Q:Exit→Fr→Wl→Prop} {F:Fr} {w w':Wl} {o:Oper} {ops:Array Oper} {rest:List Oper} {C:Wl→Prop} {k d:Nat}
theorem gn(hg:o.guard=none):Wd n F ops o:=fun _ _=>by simp[Region.wanted,hg]
theorem gy{j t:Nat}{b:Bool}(hg:o.guard=some (j,b))(ht:(ops[j]?).bind (·.dst)=some t)(hv:get F t=some (.bool b)):Wd n F ops o:=fun a ha=>by
 simp[Region.wanted,hg,yielded,ht,ha.get t _ hv]
theorem zf5(hw:Wd n F ops o)(h:St P n F o w (fun F' w'=>O P n ops Q rest F' w')):O P n ops Q (o::rest) F w:=by
 intro a ha
 refine wpList_step fun K' hK=>?_
 rw[if_pos (hw a ha)]
 have h1:=h a ha
 unfold Oper.wp at *
 generalize (execOp a.eval o).run P w=r at *
 cases r with
 |ok x w1=>
  cases x<;>simp only[Oper.upon]at h1 ⊢
  case enter f args=>
   refine Calls.mono h1 ?_
   intro e w2 he
   cases e with
   |returned v=>obtain⟨F',hr,_,hO⟩:=he;exact hK _ _ (hO _ hr)
   |panicked c=>exact he.elim
   |outgrown=>obtain⟨_,_,hx⟩:=he;exact hx.elim
  case row row args=>
   refine Rows.mono h1 ?_
   rintro v w2⟨F',hr,_,hO⟩
   exact hK _ _ (hO _ hr)
  all_goals first
   |(obtain⟨F',hr,_,hO⟩:=h1;exact hK _ _ (hO _ hr))
   |exact h1.elim
 |halt x w1=>
  cases x<;>simp only[Oper.upon]at h1
def T(P:Program)(n:Nat)(ops:Array Oper)(C:Wl→Prop)(Q:Exit→Fr→Wl→Prop)(k:Nat)(l:List Oper)(F:Fr)(w:Wl):Prop:=
 ∀a,Rep n F a→wpT P ops C (fun a w=>∃F,Rep n F a∧Q .normal F w) k l a w
theorem zH(C:Wl→Prop){id:Nat}{l:List Oper}(hm:P.follows .mixedOrders=true)(hB:tOk l.toArray=true)(hC:C w.drew)(h:T P n l.toArray C Q 0 l F w.drew):W P n (.region id l.toArray true) Q F w:=
 fun a ha=>zmF (C:=C) (Q:=fun a w=>∃F,Rep n F a∧Q .normal F w) (fun _ _ h=>h) hm hB hC (by simpa using h a ha)
theorem zb0(keep:List Nat){F':Fr}(hF:prune keep F=F')(h:Q .normal F' w):T P n ops C Q k [] F w:=fun _ ha=>⟨F',hF▸ha.prune keep,h⟩
theorem zif{v:Va}(hk:Nat.ble (kd o) 1=true)(hw:Wd n F ops o)(hv:∀w,Vl P n F o w v w)(hd:o.dst=some d)(hn:Nat.blt d n=true)(h:T P n ops C Q (k+1) rest ((d,v)::F) w):T P n ops C Q k (o::rest) F w:=by
 intro a ha
 have hk':kd o=0∨kd o=1:=by have:=Nat.le_of_ble_eq_true hk;omega
 rcases hk' with hk|hk
 ·simp only[wpT,hw a ha,if_true,tAt,hk]
  refine⟨v,fun w'=>hv w' a ha,?_⟩
  rw[hd]
  exact h _ (ha.put hn v)
 simp only[wpT,hw a ha,if_true,tAt,hk]
 refine⟨v,fun w' _=>hv w' a ha,?_⟩
 rw[hd]
 exact h _ (ha.put hn v)
theorem zsX{v:Va}(hk:kd o=1)(hw:Wd n F ops o)(hv:∀w,C w→Vl P n F o w v w)(hd:o.dst=some d)(hn:Nat.blt d n=true)(h:T P n ops C Q (k+1) rest ((d,v)::F) w):T P n ops C Q k (o::rest) F w:=by
 intro a ha
 simp only[wpT,hw a ha,if_true,tAt,hk]
 refine⟨v,fun w' hw'=>hv w' hw' a ha,?_⟩
 rw[hd]
 exact h _ (ha.put hn v)
theorem zmD{a:Act}{K:Act→Wl→Prop}(h:o.wp P a w K No)(hK:∀a' w',K a' w'→a'.defers=a.defers):o.wp P a w (fun a' w'=>(∃u,a'=a.put o.dst u)∧K a' w') No:=by
 unfold Oper.wp at *
 generalize (execOp a.eval o).run P w=r at *
 cases r with
 |ok x w1=>
  cases x<;>simp only[Oper.upon]at h ⊢
  case value v=>exact⟨⟨_,rfl⟩,h⟩
  case skip=>exact⟨⟨_,rfl⟩,h⟩
  case defer dd=>
   have:=hK _ _ h
   simp[zg1]at this
  case enter f args=>
   refine Calls.mono h ?_
   intro e w2 he
   cases e with
   |returned v=>exact⟨⟨_,rfl⟩,he⟩
   |panicked c=>exact he
   |outgrown=>obtain⟨_,_,hx⟩:=he;exact hx.elim
  case row row args=>exact Rows.mono h fun v w2 hv=>⟨⟨_,rfl⟩,hv⟩
  all_goals exact h
 |halt x w1=>cases x<;>simp only[Oper.upon]at h ⊢<;>exact h
theorem zaR(hk:kd o=2)(hw:Wd n F ops o)(h:St P n F o w (fun F' w'=>(C w'∨fin ops k=true)∧T P n ops C Q (k+1) rest F' w')):T P n ops C Q k (o::rest) F w:=by
 intro a ha
 simp only[wpT,hw a ha,if_true,tAt,hk]
 refine Oper.wp_mono ?_ (zmD (h a ha) fun a' w' ⟨F',_,hd,_⟩=>hd)
 rintro a' w'⟨hs,F',hr,_,hc,hT⟩
 exact⟨hc,hs,hT _ hr⟩
theorem zDh{j t:Nat}{b b':Bool}(hg:o.guard=some (j,b))(hd:o.dst=some d)(hn:Nat.blt d n=true)(ht:(ops[j]?).bind (·.dst)=some t)(hv:get F t=some (.bool b'))(hne:b' = !b)
 (h:T P n ops C Q (k+1) rest ((d,undef)::F) w):T P n ops C Q k (o::rest) F w:=by
 intro a ha
 have hw:Region.wanted o (yielded ops a.tmps)=false:=by
  subst hne
  simp[Region.wanted,hg,yielded,ht,ha.get t _ hv]
 simp only[wpT,hw,Bool.false_eq_true,if_false]
 rw[hd]
 exact h _ (ha.put hn undef)
end
structure zeZ(w:Wl)(e k:Nat)(b off len cap:Nat)(c xs:LA):Prop where
 blk:zO w b e c
 le:len≤cap
 max:cap≤maxLen
 fit:off+cap*k≤c.length
 xs:xs=(c.drop off).take (len*k)
 one:∀u∈c,u.oneCell'=true
def zB(w:Wl)(e k:Nat)(v:Va)(len:Nat)(xs:LA):Prop:=
 (v=.slice none 0 0∧len=0∧xs=[])∨∃b off cap c,v=.slice (some ⟨b,off,none⟩) len cap∧zeZ w e k b off len cap c xs
def zu:Va→List Nat
 |.slice (some a) _ _=>[a.block]
 |_=>[]
theorem zeZ.len_xs{w:Wl}{e k b off len cap:Nat}{c xs:LA}(h:zeZ w e k b off len cap c xs):xs.length=len*k:=by
 have h1:=h.fit
 have h2:len*k≤cap*k:=Nat.mul_le_mul_right _ h.le
 rw[h.xs,List.length_take,List.length_drop]
 omega
theorem zeZ.one_xs{w:Wl}{e k b off len cap:Nat}{c xs:LA}(h:zeZ w e k b off len cap c xs):∀u∈xs,u.oneCell'=true:=by
 intro u hu
 rw[h.xs]at hu
 exact h.one u (List.mem_of_mem_drop (List.mem_of_mem_take hu))
theorem zeZ.cells{w:Wl}{e k b off len cap:Nat}{c xs:LA}(h:zeZ w e k b off len cap c xs):zv w b off xs:=
 zv.of_blk h.blk off xs (by rw[h.xs];exact List.take_prefix _ _)
theorem zeZ.chg{S:List Nat}{w w':Wl}{e k b off len cap:Nat}{c xs:LA}(h:zeZ w e k b off len cap c xs)(hc:zk S w w')(hb:b∉S):zeZ w' e k b off len cap c xs:=
 ⟨h.blk.chg hc hb,h.le,h.max,h.fit,h.xs,h.one⟩
theorem zB.nil(w:Wl)(e k:Nat):zB w e k (.slice none 0 0) 0 []:=.inl ⟨rfl,rfl,rfl⟩
theorem zB.len_xs{w:Wl}{e k:Nat}{v:Va}{len:Nat}{xs:LA}(h:zB w e k v len xs):xs.length=len*k:=by
 rcases h with⟨_,rfl,rfl⟩|⟨b,off,cap,c,_,h⟩
 ·simp
 exact h.len_xs
theorem zB.one_xs{w:Wl}{e k:Nat}{v:Va}{len:Nat}{xs:LA}(h:zB w e k v len xs):∀u∈xs,u.oneCell'=true:=by
 rcases h with⟨_,rfl,rfl⟩|⟨b,off,cap,c,_,h⟩
 ·simp
 exact h.one_xs
theorem zB.val{w:Wl}{e k:Nat}{v:Va}{len:Nat}{xs:LA}(h:zB w e k v len xs):∃p c,v=.slice p len c∧len≤c:=by
 rcases h with⟨rfl,rfl,_⟩|⟨b,off,cap,c,rfl,h⟩
 ·exact⟨_,_,U,Nat.le_refl _⟩
 exact⟨_,_,U,h.le⟩
theorem zB.chg{S:List Nat}{w w':Wl}{e k:Nat}{v:Va}{len:Nat}{xs:LA}(h:zB w e k v len xs)(hc:zk S w w')(hb:∀b∈zu v,b∉S):zB w' e k v len xs:=by
 rcases h with h|⟨b,off,cap,c,rfl,h⟩
 ·exact .inl h
 exact .inr ⟨b,off,cap,c,rfl,h.chg hc (hb b (by simp[zu]))⟩
theorem zB.chg0{w w':Wl}{e k:Nat}{v:Va}{len:Nat}{xs:LA}(h:zB w e k v len xs)(hc:zk [] w w'):zB w' e k v len xs:=h.chg hc (by simp)
theorem zB.lt{w:Wl}{e k:Nat}{v:Va}{len:Nat}{xs:LA}(h:zB w e k v len xs):∀b∈zu v,b<w.heap.size:=by
 rcases h with⟨rfl,_⟩|⟨b,off,cap,c,rfl,h⟩
 ·simp[zu]
 intro b' hb'
 simp[zu]at hb'
 subst hb'
 exact h.blk.lt
theorem zB.apart{w:Wl}{e k:Nat}{v:Va}{len:Nat}{xs:LA}(h:zB w e k v len xs){b:Nat}{e':TypeId}{c:LA}(hb:zO w b e' c)(hne:Nat.beq e e'=false):∀x∈zu v,x∉[b]:=by
 rcases h with⟨rfl,_⟩|⟨b',off,cap,c',rfl,h⟩
 ·simp[zu]
 intro x hx
 simp[zu]at hx
 subst hx
 simpa using h.blk.ne hb hne
theorem zB.at1{w:Wl}{e:Nat}{v:Va}{len:Nat}{xs:LA}(h:zB w e 1 v len xs){i:Nat}(hi:i<len):∃b off cap u,v=.slice (some ⟨b,off,none⟩) len cap∧xs[i]?=some u∧w.cell? ⟨b,off+i*1,none⟩=some u:=by
 rcases h with⟨_,rfl,_⟩|⟨b,off,cap,c,rfl,h⟩
 ·omega
 have hl:=h.len_xs
 have:i<xs.length:=by omega
 refine⟨b,off,cap,xs[i],rfl,by simp[this],?_⟩
 rw[Nat.mul_one]
 exact h.cells i _ (by simp[this])
theorem zB.atk{w:Wl}{e k:Nat}{v:Va}{len:Nat}{xs:LA}(h:zB w e k v len xs){i:Nat}(hi:i<len):∃b off cap,v=.slice (some ⟨b,off,none⟩) len cap∧zv w b (off+i*k) ((xs.drop (i*k)).take k):=by
 rcases h with⟨_,rfl,_⟩|⟨b,off,cap,c,rfl,h⟩
 ·omega
 refine⟨b,off,cap,U,fun j u hj=>?_⟩
 have h1:xs[i*k+j]?=some u:=by
  rw[List.getElem?_take]at hj
  split at hj
  ·simpa using hj
  cases hj
 have:=h.cells (i*k+j) u h1
 rw[←this]
 congr 2
 omega
section
variable {P:Program} {w:Wl} {t t2 ty e:TypeId} {k by':Nat} {z:Va}
theorem zdx{v:Va}{len:Nat}{xs:LA}(h:zB w e k v len xs):(Builtin.firstCells k len v).run P w=.ok xs.toArray w:=by
 rcases h with⟨rfl,rfl,rfl⟩|⟨b,off,cap,c,rfl,h⟩
 ·simp[Builtin.firstCells]
 exact run_firstCells_some w k len ⟨b,off,none⟩ len cap xs h.len_xs (fun j v hv=>by rw[Addr.add_lit];exact h.cells j v hv)
theorem zh1{v:Va}{len:Nat}{xs:LA}(h:zB w e k v len xs):(Builtin.lenOf v).run P w=.ok len w:=by
 obtain⟨p,c,rfl,_⟩:=h.val
 simp[Builtin.lenOf]
theorem zbJ(z:Va)(n:Nat)(hz:∀u∈z.cells,u.oneCell'=true):∀u∈(Builtin.zeroCells z.cells n).toList,u.oneCell'=true:=by
 intro u hu
 simp only[Builtin.zeroCells,Array.mem_toList_iff,Array.mem_map]at hu
 obtain⟨i,hi,rfl⟩:=hu
 have hi':i<n*z.cells.size:=by simpa using hi
 have hp:0<z.cells.size:=by
  rcases Nat.eq_zero_or_pos z.cells.size with h|h
  ·rw[h]at hi';simp at hi'
  exact h
 have hlt:i%z.cells.size<z.cells.size:=Nat.mod_lt _ hp
 rw[getElem!_pos z.cells _ hlt]
 exact hz _ (Array.getElem_mem hlt)
structure App(P:Program)(t e k by':Nat)(z:Va):Prop where
 sl:zbt P t=some e
 sz:zao P e=some k
 zr:zaw P e=some z
 by':zAi P e=some by'
 zs:z.cells.size=k
 zo:∀u∈z.cells,u.oneCell'=true
 pos:0<k
theorem App.info(A:App P t e k by' z):∃i,P.info? e=some i∧i.size=k∧i.bytes=by'∧i.zero=some z:=by
 have h1:=A.sz
 have h2:=A.by'
 have h3:=A.zr
 unfold zao at h1
 unfold zAi at h2
 unfold zaw at h3
 cases hi:P.info? e with
 |none=>simp[hi]at h1
 |some i=>simp[hi]at h1 h2 h3;exact⟨i,rfl,h1,h2,h3⟩
theorem zoM(A:App P t e k by' z){e2:TypeId}(ht2:zbt P t2=some e2){v s:Va}{n m:Nat}{xs ys:LA}(hv:zB w e k v n xs)(hs:zB w e k s m ys)(h63:n+m≤maxLen)(hbytes:(n+m)*by'≤140737488355328) :
 ∃v' w',(Builtin.append_ #[t,t2] ty #[v,s]).run P w=.ok v' w'∧zB w' e k v' (n+m) (xs++ys)∧zk (zu v) w w'∧(zu v'=zu v∨∃b,zu v'=[b]∧w.heap.size≤b) ∧
  (v'=.slice none 0 0↔v=.slice none 0 0∧m=0):=by
 obtain⟨i,hi,hk,hb,hz⟩:=A.info
 have hund:=yC A.sl
 have hund2:=yC ht2
 have hlx:=hv.len_xs
 have hly:=hs.len_xs
 have hm63:n+m≤9223372036854775807:=by simp only[maxLen]at h63;omega
 have hls:=zh1 (P:=P) hs
 have hfs:=zdx (P:=P) hs
 have hfs':∀w1:Wl,w1.heap=w.heap→(Builtin.firstCells k m s).run P w1=.ok ys.toArray w1:=fun w1 h1=>by
  refine zdx (w:=w1) (e:=e) ?_
  rcases hs with hs|⟨b,off,cap,c,rfl,hs⟩
  ·exact .inl hs
  exact .inr ⟨b,off,cap,c,rfl,⟨by unfold zO;rw[h1];exact hs.blk,hs.le,hs.max,hs.fit,hs.xs,hs.one⟩⟩
 -- the new block
 have grown:∀old,n+m>old→∀S,zB (w.drew.alloc (.cells (xs.toArray++ys.toArray++Builtin.zeroCells z.cells (grownCap w (n+m) old e-(n+m))) e)) e k
  (.slice (some ⟨w.heap.size,0,none⟩) (n+m) (grownCap w (n+m) old e)) (n+m) (xs++ys) ∧
  zk S w (w.drew.alloc (.cells (xs.toArray++ys.toArray++Builtin.zeroCells z.cells (grownCap w (n+m) old e-(n+m))) e)):=by
  intro old _ S
  have hge:=grownCap_ge w (n+m) old e
  have hcm:=grownCap_le_maxLen w (n+m) old e h63
  refine⟨.inr ⟨w.heap.size,0,_,xs++ys++(Builtin.zeroCells z.cells (grownCap w (n+m) old e-(n+m))).toList,U,?_,hge,hcm,?_,?_,?_⟩,(zk.drew S w).transS (zk.alloc S _ _)⟩
  ·show (w.drew.heap.push _)[w.heap.size]?=_
   rw[show w.heap.size=w.drew.heap.size from rfl,Array.getElem?_push_size]
   simp
  ·simp only[Sa,hlx,hly,Array.length_toList,size_zeroCells,A.zs,←Nat.add_mul,Nat.zero_add]
   rw[Nat.add_sub_cancel' hge]
   exact Nat.le_refl _
  ·rw[List.drop_zero,List.take_left' (by simp[hlx,hly,Nat.add_mul])]
  intro u hu
  simp only[List.mem_append]at hu
  rcases hu with (hu|hu)|hu
  ·exact hv.one_xs u hu
  ·exact hs.one_xs u hu
  exact zbJ z _ A.zo u hu
 have hzero:∀w1:Wl,(zeroValue e).run P w1=.ok z w1:=fun w1=>zcg A.zr
 rcases hv with⟨rfl,rfl,rfl⟩|⟨g,off,cap,c,rfl,hv⟩
 ·by_cases hm:m=0
  ·subst hm
   have hy:ys=[]:=List.eq_nil_of_length_eq_zero (by simpa using hly)
   subst hy
   refine⟨.slice none 0 0,w,?_,zB.nil _ _ _,zk.refl _ _,.inl U,by simp⟩
   simp[Builtin.append_,run_underlying hund,run_underlying hund2,zY A.sz,hls,hfs]
  have h0:¬ (0+m≤0):=by omega
  have h63':¬ (9223372036854775807<(m:Int)):=by omega
  have h48':¬ (281474976710656<Builtin.nextslicecap m 0*i.bytes):=by
   have:=growslice_fits (need:=m) (old:=0) (bytes:=by') (by omega) (by simpa using hbytes)
   rw[hb];omega
  have hgr:=grown 0 (by omega) []
  refine⟨_,_,?_,hgr.1,hgr.2,.inr ⟨w.heap.size,rfl,Nat.le_refl _⟩,by simp[hm]⟩
  have hfd:=hfs' w.drew rfl
  simp[Builtin.append_,run_underlying hund,run_underlying hund2,zY A.sz,hls,typeInfo,hi,hm,h63',h48',Question.forced,run_firstCells_none,hfd,hzero,newRow,grownCap]
 by_cases hroom:n+m≤cap
 ·have hfit:=hv.fit
  have hcap:(n+m)*k≤cap*k:=Nat.mul_le_mul_right _ hroom
  have hfit2:off+n*k+ys.length≤c.length:=by rw[hly];rw[Nat.add_mul]at hcap;omega
  have hst:=zcs (P:=P) (off:=off+n*k) (vs:=ys) hv.blk hfit2 hs.one_xs
  refine⟨.slice (some ⟨g,off,none⟩) (n+m) cap,w.setRow g (yY c (off+n*k) ys).toArray,?_,.inr ⟨g,off,cap,yY c (off+n*k) ys,rfl,hv.blk.row _,hroom,hv.max,?_,?_,?_⟩,(zk.row _ _ _),.inl U,by simp⟩
  ·simp[Builtin.append_,run_underlying hund,run_underlying hund2,zY A.sz,hls,hroom,hfs,Addr.add_lit,hst]
  ·simp only[yY,Sa,List.length_take,List.length_drop]
   omega
  ·have e1:(yY c (off+n*k) ys).drop off=xs++ys++c.drop (off+n*k+ys.length):=by
    unfold yY
    rw[List.append_assoc,List.drop_append_of_le_length (by rw[List.length_take];omega),List.drop_take,←List.append_assoc]
    rw[show off+n*k-off=n*k by omega,←hv.xs]
   rw[e1,List.take_left' (by simp[hlx,hly,Nat.add_mul])]
  intro u hu
  simp only[yY,List.mem_append]at hu
  rcases hu with (hu|hu)|hu
  ·exact hv.one u (List.mem_of_mem_take hu)
  ·exact hs.one_xs u hu
  exact hv.one u (List.mem_of_mem_drop hu)
 have h0:¬ (n+m≤cap):=hroom
 have h63':¬ (9223372036854775807<((n:Int)+(m:Int))):=by omega
 have h48':¬ (281474976710656<Builtin.nextslicecap (n+m) cap*i.bytes):=by
  have:=growslice_fits (need:=n+m) (old:=cap) (bytes:=by') (by omega) hbytes
  rw[hb];omega
 have hgr:=grown cap (by omega) (zu (.slice (some ⟨g,off,none⟩) n cap))
 refine⟨_,_,?_,hgr.1,hgr.2,.inr ⟨w.heap.size,rfl,Nat.le_refl _⟩,by simp⟩
 have hfd:=hfs' w.drew rfl
 have hfo:(Builtin.firstCells k n (.slice (some ⟨g,off,none⟩) n cap)).run P w.drew=.ok xs.toArray w.drew:=
  zdx (w:=w.drew) (e:=e) (.inr ⟨g,off,cap,c,rfl,⟨hv.blk,hv.le,hv.max,hv.fit,hv.xs,hv.one⟩⟩)
 simp[Builtin.append_,run_underlying hund,run_underlying hund2,zY A.sz,hls,typeInfo,hi,h0,h63',h48',Question.forced,hfo,hfd,hzero,newRow,grownCap]
 rw[show (xs++ys).toArray=xs.toArray++ys.toArray from by simp,Array.append_assoc]
end
section
variable {P:Program} {n:Nat} {F:Fr} {w:Wl} {d:Tmp} {ty t t2 e e2:TypeId} {k by':Nat} {z:Va} {pos:String} {af:Array Edge} {gd:Option (Nat×Bool)} {K:Fr→Wl→Prop}
theorem yr(A:App P t e k by' z)(ht2:zbt P t2=some e2){x y:Operand}{v s:Va}{l m:Nat}{xs ys:LA}(hx:ev F x=some v)(hy:ev F y=some s)(hv:zB w e k v l xs)(hs:zB w e k s m ys)(h63:l+m≤maxLen)(hbytes:(l+m)*by'≤140737488355328)
 (hn:Nat.blt d n=true) (h:∀v' w',zB w' e k v' (l+m) (xs++ys)→zk (zu v) w w'→(zu v'=zu v∨∃b,zu v'=[b]∧w.heap.size≤b)→(v'=.slice none 0 0↔v=.slice none 0 0∧m=0)→K ((d,v')::F) w') :
 St P n F ⟨some d,.call { callee:=.builtin .append,args := #[x,y],argTypes := #[t,t2] },ty,pos,af,gd⟩ w K:=by
 obtain⟨v',w',hr,h1,h2,h3,h4⟩:=zoM (ty:=ty) A ht2 hv hs h63 hbytes
 refine St.vl (v:=v') (w':=w') ?_ U hn (h v' w' h1 h2 h3 h4)
 intro a ha
 simp[execOp,resolve,invoke,builtin,ha.eval hx,ha.eval hy,hr]
end
def zg4:LA→List (LA)→Prop
 |[],[]=>True
 |v::r,c::s=>v.cells=c.toArray∧zg4 r s
 |_,_=>False
def zbL:Nat→LA→List (Nat×Va)
 |_,[]=>[]
 |j,v::r=>(j,v)::zbL (j+1) r
theorem zcr{l vs:LA}{o:Nat}(h:o+vs.length≤l.length):(yY l o vs).length=l.length:=by
 simp only[yY,Sa,List.length_take,List.length_drop];omega
theorem zqR{l c f:LA}{o:Nat}(h:o+(c++f).length≤l.length):yY (yY l o c) (o+c.length) f=yY l o (c++f):=by
 simp only[Sa]at h
 have hl:(l.take o++c).length=o+c.length:=by simp;omega
 unfold yY
 rw[List.take_left' hl,show o+c.length+f.length=(o+c.length)+f.length from rfl,←List.drop_drop,List.drop_left' hl,List.drop_drop,Sa]
 simp[Nat.add_assoc]
theorem zmd(vs:LA):∀(j off:Nat) (cs:Array Va),off+j+vs.length≤cs.size →
 (vs.zipIdx j).foldl (fun cs (p:Va×Nat)=>cs.setIfInBounds (off+p.2) p.1) cs=(yY cs.toList (off+j) vs).toArray:=by
 induction vs with
 |nil=>intro j off cs _;simp[yY]
 |cons v r ih=>
  intro j off cs h
  simp only[List.length_cons]at h
  rw[List.zipIdx_cons,List.foldl_cons,ih (j+1) off _ (by simp;omega)]
  congr 1
  have:=list_seg_step cs.toList (off+j) v r (by simp;omega)
  simp only[yY,Array.toList_setIfInBounds,List.length_cons]
  rw[←this]
  rfl
def zk6(place:Nat→Option (Nat×Nat)):Nat→Nat→List Nat→Bool
 |_,_,[]=>true
 |j,off,s::r=>(match place j with|some (o,z)=>Nat.beq o off&&Nat.beq z s|none=>false)&&zk6 place (j+1) (off+s) r
theorem zhx(place:Nat→Option (Nat×Nat)):∀(vs:LA) (css:List (LA)) (j off:Nat) (cs:Array Va),zg4 vs css→zk6 place j off (css.map List.length)=true→off+css.flatten.length≤cs.size →
 Instr.fill place cs (zbL j vs)=some (yY cs.toList off css.flatten).toArray
 |[],[],j,off,cs,_,_,_=>by simp[zbL,Instr.fill,yY]
 |[],_::_,_,_,_,h,_,_=>h.elim
 |_::_,[],_,_,_,h,_,_=>h.elim
 |v::r,c::s,j,off,cs,h,hp,hl=>by
  obtain⟨hv,hr⟩:=h
  simp only[List.map_cons,zk6,Bool.and_eq_true]at hp
  obtain⟨hp1,hp2⟩:=hp
  simp only[List.flatten_cons,Sa]at hl
  simp only[zbL,Instr.fill]
  cases hpl:place j with
  |none=>simp[hpl]at hp1
  |some oz=>
   obtain⟨o,z⟩:=oz
   simp only[hpl,Bool.and_eq_true]at hp1
   have e1:o=off:=Nat.eq_of_beq_eq_true hp1.1
   have e2:z=c.length:=Nat.eq_of_beq_eq_true hp1.2
   subst e1 e2
   have hsz:v.cells.size=c.length:=by rw[hv];simp
   have hno:¬ (v.cells.size≠c.length∨o+v.cells.size>cs.size):=by rw[hsz];omega
   simp only[hv,List.size_toArray]
   rw[if_neg (by simp;omega)]
   have hf:=zmd c 0 o cs (by omega)
   simp only[Nat.add_zero]at hf
   have hz:c.toArray.zipIdx=(c.zipIdx 0).toArray:=by simp
   rw[hz,List.foldl_toArray',hf]<;>try simp
   have hrec:=zhx place r s (j+1) (o+c.length) (yY cs.toList o c).toArray hr hp2 (by simp only[yY,List.size_toArray,Sa,List.length_take,List.length_drop,Array.length_toList];omega)
   rw[hrec]
   congr 2
   exact zqR (by simp only[Sa,Array.length_toList];omega)
theorem zt8{l f:LA}(h:f.length=l.length):yY l 0 f=f:=by
 simp[yY,h]
def zdJ(P:Program)(t:TypeId):Option (List (Nat×Nat)):=
 match P.underlying t with
 |some (.struct fs)=>fs.toList.mapM fun f=>(zao P f.type).map fun s=>(f.offset,s)
 |_=>none
theorem zg5{P:Program}{w:Wl}:∀(fs:List Field) (pl:List (Nat×Nat)),fs.mapM (fun f=>(zao P f.type).map fun s=>(f.offset,s))=some pl →
 (fs.mapM (fun f=>do pure (f.offset,←sizeOf f.type):Field→Sem (Nat×Nat))).run P w=.ok pl w
 |[],pl,h=>by simp at h;subst h;simp
 |f::r,pl,h=>by
  simp only[List.mapM_cons,Option.bind_eq_bind,Option.bind_eq_some_iff,Option.map_eq_some_iff]at h
  obtain⟨p,⟨s,hs,rfl⟩,q,hq,h⟩:=h
  simp at h
  subst h
  have ih:=zg5 (w:=w) r q hq
  simp only[List.mapM_cons,Sem.run_bind,zY hs,Result.andThen_ok,Sem.run_pure,ih]
section
variable {P:Program} {n:Nat} {F:Fr} {w:Wl} {dst:Option Tmp} {ty:TypeId} {pos:String} {af:Array Edge} {gd:Option (Nat×Bool)}
theorem zL{t:TypeId}{pl:List (Nat×Nat)}{z:Va}{zc:LA}{parts:List (Nat×Operand)}{vs:LA}{css:List (LA)}{cs:LA}(hpl:zdJ P t=some pl)(hz:zaw P t=some z)(hzc:z.cells=zc.toArray)
 (hp:zgY F parts=some (zbL 0 vs)) (hc:zg4 vs css) (hk:zk6 (pl[·]?) 0 0 (css.map List.length)=true) (hl:Nat.ble css.flatten.length zc.length=true) (hcs:yY zc 0 css.flatten=cs) :
 Vl P n F ⟨dst,.build t parts.toArray,ty,pos,af,gd⟩ w (.agg cs.toArray) w:=by
 intro a ha
 subst hcs
 unfold zdJ at hpl
 split at hpl
 ·rename_i fs hu
  have hpl':=zg5 (w:=w) fs.toList pl hpl
  have hm:(fs.mapM (fun f=>do pure (f.offset,←sizeOf f.type):Field→Sem (Nat×Nat))).run P w=.ok pl.toArray w:=by
   rw[Array.mapM_eq_mapM_toList]
   simp only[Sem.run_map,hpl',Result.andThen_ok]
  have hfill:=zhx (pl[·]?) vs css 0 0 zc.toArray hc hk (by simpa using Nat.le_of_ble_eq_true hl)
  have hev:=ha.evals2 parts _ hp
  have hget:(fun i:Nat=>pl.toArray[i]?)=(fun i:Nat=>pl[i]?):=by funext i;simp
  have hpm:(parts.toArray.map fun(i,x)=>(i,a.eval x)).toList=zbL 0 vs:=by rw[←hev];simp
  simp only[execOp,Instr.build,Sem.run_bind,zcg hz,Result.andThen_ok,run_underlying hu,hm,hpm,hzc,hget,hfill,Sem.run_pure]
 simp at hpl
theorem zer{t e:TypeId}{m k:Nat}{z:Va}{zc:LA}{parts:List (Nat×Operand)}{vs:LA}{css:List (LA)}{cs:LA}(hpl:zl5 P t=some (m,e))(hs:zao P e=some k)(hz:zaw P t=some z)(hzc:z.cells=zc.toArray)
 (hp:zgY F parts=some (zbL 0 vs)) (hc:zg4 vs css) (hk:zk6 (fun i=>some (i*k,k)) 0 0 (css.map List.length)=true) (hl:Nat.ble css.flatten.length zc.length=true) (hcs:yY zc 0 css.flatten=cs) :
 Vl P n F ⟨dst,.build t parts.toArray,ty,pos,af,gd⟩ w (.agg cs.toArray) w:=by
 intro a ha
 subst hcs
 have hfill:=zhx (fun i=>some (i*k,k)) vs css 0 0 zc.toArray hc hk (by simpa using Nat.le_of_ble_eq_true hl)
 have hev:=ha.evals2 parts _ hp
 have hpm:(parts.toArray.map fun(i,x)=>(i,a.eval x)).toList=zbL 0 vs:=by rw[←hev];simp
 simp only[execOp,Instr.build,Sem.run_bind,zcg hz,Result.andThen_ok,run_underlying (zhk hpl),zY hs,hpm,hzc,hfill,Sem.run_pure]
end
section
variable {P:Program} {n:Nat} {F:Fr} {w:Wl} {d:Tmp} {ty:TypeId} {pos:String} {af:Array Edge} {gd:Option (Nat×Bool)} {K:Fr→Wl→Prop}
theorem zA{t e:TypeId}{k len by':Nat}{z:Va}{parts:List (Nat×Operand)}{vs:LA}{css:List (LA)}{cs:LA}(A:App P t e k by' z)(hmax:Nat.ble (len*k) 16777216=true)
 (hp:zgY F parts=some (zbL 0 vs)) (hc:zg4 vs css) (hk:zk6 (fun i=>some (i*k,k)) 0 0 (css.map List.length)=true) (hl:Nat.beq css.flatten.length (len*k)=true) (hcs:css.flatten=cs) (hn:Nat.blt d n=true)
 (h:∀b w',w.heap.size=b→w'.heap.size=b+1→zk [] w w'→zO w' b e cs→K ((d,.slice (some ⟨b,0,none⟩) len len)::F) w') :
 St P n F ⟨some d,.buildSlice t len parts.toArray,ty,pos,af,gd⟩ w K:=by
 subst hcs
 refine St.vl (v:=.slice (some ⟨w.heap.size,0,none⟩) len len) (w':=w.alloc (.cells css.flatten.toArray e)) ?_ U hn (h _ _ U (by simp) (zk.alloc _ _ _) (zO.new _ _ _))
 intro a ha
 have hl':css.flatten.length=len*k:=Nat.eq_of_beq_eq_true hl
 have hle:¬ (len*k>2^24):=by have:=Nat.le_of_ble_eq_true hmax;omega
 have hev:=ha.evals2 parts _ hp
 have hpm:(parts.toArray.map fun(i,x)=>(i,a.eval x)).toList=zbL 0 vs:=by rw[←hev];simp
 have hfill:∀zc:Array Va,zc.size=len*k→Instr.fill (fun i=>some (i*k,k)) zc (zbL 0 vs)=some css.flatten.toArray:=fun zc hz=>by
  have:=zhx (fun i=>some (i*k,k)) vs css 0 0 zc hc hk (by omega)
  rw[this,zt8 (by simpa using hl'.trans hz.symm)]
 by_cases h0:len*k=0
 ·simp only[execOp,Instr.buildSlice,Sem.run_bind,run_underlying (yC A.sl),Result.andThen_ok,zY A.sz,if_neg hle,if_pos h0,hpm,Sem.run_pure]
  rw[hfill _ (by simp)]
  simp[newRow]
 simp only[execOp,Instr.buildSlice,Sem.run_bind,run_underlying (yC A.sl),Result.andThen_ok,zY A.sz,if_neg hle,if_neg h0,hpm,Sem.run_pure,zcg A.zr]
 rw[hfill _ (by simp)]
 simp[newRow]
end
section
variable {P:Program} {n:Nat} {Q:Exit→Fr→Wl→Prop} {K:Fr→Wl→Prop} {F:Fr} {w:Wl} {ops:Array Oper} {id:Nat}
theorem yO(keep:List Nat){F':Fr}(hF:prune keep F=F')(h:K F' w):O P n ops (zbx K Q) [] F w:=zak keep hF h
theorem zhy(keep:List Nat){F':Fr}{C:Wl→Prop}{k:Nat}(hF:prune keep F=F')(h:K F' w):T P n ops C (zbx K Q) k [] F w:=zb0 keep hF h
theorem zcJ(keep:List Nat){F':Fr}(hF:prune keep F=F')(h:Q .normal F' w):O P n ops Q [] F w:=zak keep hF h
theorem zdI(keep:List Nat){F':Fr}{C:Wl→Prop}{k:Nat}(hF:prune keep F=F')(h:Q .normal F' w):T P n ops C Q k [] F w:=zb0 keep hF h
theorem zm(h:K F w):W P n .skip (zbx K Q) F w:=zT h
theorem zdZ(h:K F w):zbx K Q .normal F w:=h
theorem zbW(h:Q .ret F w):zbx K Q .ret F w:=h
theorem zl(h:Q .normal F w):zd8 id Q .normal F w:=h
theorem zqZ(h:Q .ret F w):zd8 id Q .ret F w:=h
theorem zxK{o:Oper}{w':Wl}{b b':Bool}(h:Vl P n F o w (.bool b) w')(e:b=b'):Vl P n F o w (.bool b') w':=e▸h
theorem yv{o:Oper}{w':Wl}{v v':Va}(h:Vl P n F o w v w')(e:v=v'):Vl P n F o w v' w':=e▸h
theorem yj{x:Operand}{t u:TypeId}{dst:Option Tmp}{ty:TypeId}{pos:String}{af:Array Edge}{gd:Option (Nat×Bool)}{k k':IntKind}{i j:Int}(hu:zdD P u k'=true)(ht:zdD P t k=true)(hx:ev F x=some (.int k i))(hj:k'.wrap i=j):Vl P n F ⟨dst,.convert t u x,ty,pos,af,gd⟩ w (.int k' j) w:=
 hj▸zvq hu ht hx
end
theorem zhL:∀(x y:List UInt8),Op.bytesLess x y=decide (x<y)
 |[],[]=>by simp[Op.bytesLess]
 |_::_,[]=>by simp[Op.bytesLess]
 |[],_::_=>by simp[Op.bytesLess]
 |a::x,b::y=>by
  rw[Op.bytesLess,zhL x y]
  simp only[List.cons_lt_cons_iff]
  by_cases h1:a<b<;>by_cases h2:a=b<;>by_cases h3:x<y<;>simp[h1,h2,h3]
theorem zeM(s u:By):blt s u=true↔s.data.toList<u.data.toList:=by
 unfold blt
 rw[zhL,ByteArray.toList_eq,ByteArray.toList_eq]
 simp
theorem zuE{s u:By}(h:s.data.toList=u.data.toList):s=u:=by
 cases s;cases u
 simp only[ByteArray.mk.injEq]
 exact Array.toList_inj.1 h
theorem zaz(s:By):blt s s=false:=by
 cases h:blt s s with
 |false=>rfl
 |true=>exact absurd ((zeM s s).1 h) (List.lt_irrefl _)
theorem zdB{s u v:By}(h1:blt s u=true)(h2:blt u v=true):blt s v=true:=
 (zeM s v).2 (List.lt_trans ((zeM s u).1 h1) ((zeM u v).1 h2))
theorem zdy{s u:By}(h1:blt s u=true):blt u s=false:=by
 cases h:blt u s with
 |false=>rfl
 |true=>have:=zdB h1 h;rw[zaz]at this;cases this
theorem ze3{s u:By}(h1:blt s u=false)(h2:blt u s=false):s=u:=by
 refine zuE ?_
 have a1:¬ s.data.toList<u.data.toList:=fun h=>by rw[(zeM s u).2 h]at h1;cases h1
 have a2:¬ u.data.toList<s.data.toList:=fun h=>by rw[(zeM u s).2 h]at h2;cases h2
 exact List.le_antisymm (List.not_lt.1 a2) (List.not_lt.1 a1)
theorem ziw{s u:By}(h:blt s u=true):s≠u:=by
 rintro rfl
 rw[zaz]at h
 cases h
theorem zpS:∀(x y:List UInt8),Lib.compareBytes x y<0↔x<y
 |[],[]=>by simp[Lib.compareBytes]
 |_::_,[]=>by simp[Lib.compareBytes]
 |[],_::_=>by simp[Lib.compareBytes]
 |a::x,b::y=>by
  have ih:=zpS x y
  rw[Lib.compareBytes,List.cons_lt_cons_iff]
  by_cases h1:a<b
  ·simp[h1]
  by_cases h2:b<a
  ·have:a≠b:=fun e=>by subst e;exact h1 h2
   simp[h1,h2,this]
  have:a=b:=UInt8.le_antisymm (UInt8.not_lt.1 h2) (UInt8.not_lt.1 h1)
  subst this
  simp[h1,ih]
theorem zpO:∀(x y:List UInt8),Lib.compareBytes x y=0↔x=y
 |[],[]=>by simp[Lib.compareBytes]
 |_::_,[]=>by simp[Lib.compareBytes]
 |[],_::_=>by simp[Lib.compareBytes]
 |a::x,b::y=>by
  have ih:=zpO x y
  rw[Lib.compareBytes]
  by_cases h1:a<b
  ·have:a≠b:=fun e=>by subst e;exact UInt8.lt_irrefl _ h1
   simp[h1,this]
  by_cases h2:b<a
  ·have:a≠b:=fun e=>by subst e;exact h1 h2
   simp[h1,h2,this]
  have:a=b:=UInt8.le_antisymm (UInt8.not_lt.1 h2) (UInt8.not_lt.1 h1)
  subst this
  simp[h1,ih]
def zia(s u:By):Int:=Extern.BytealgCompare.cmp s u
theorem zi8(s u:By):zia s u<0↔blt s u=true:=by
 unfold zia
 rw[Lib.cmp_eq,zpS,zeM]
theorem zqp(s u:By):zia s u=0↔s=u:=by
 unfold zia
 rw[Lib.cmp_eq,zpO]
 exact⟨zuE,fun h=>by rw[h]⟩
def zfZ(P:Program)(g:FuncId):Option (Array Va→Sem Va):=
 match P.funcs[g]? with
 | some fn => if fn.name == "runtime.NumGoroutine" || fn.body.isSome || (Extern.findNext fn).isSome then none else Extern.find fn
 |none=>none
section
variable {P:Program} {n:Nat} {F:Fr} {w:Wl} {d:Tmp} {ty:TypeId} {pos:String} {af:Array Edge} {gd:Option (Nat×Bool)} {K:Fr→Wl→Prop}
theorem zdi{f:Operand}{az:List Operand}{ts:Array TypeId}{g:FuncId}{x:Array Va→Sem Va}{vs:LA}{v:Va}{w':Wl}(hb:zfZ P g=some x)(hf:ev F f=some (.func (.func g) #[] #[]))(ha:evs F az=some vs)
 (hx:(x vs.toArray).run P w=.ok v w') (hn:Nat.blt d n=true) (h:K ((d,v)::F) w') :
 St P n F ⟨some d,.call { callee:=.value f,args:=az.toArray,argTypes:=ts },ty,pos,af,gd⟩ w K:=by
 refine St.vl (v:=v) (w':=w') ?_ U hn h
 intro a hr
 unfold zfZ at hb
 split at hb
 ·rename_i fn hfn
  split at hb
  ·simp at hb
  rename_i hc
  simp only[Bool.or_eq_true,not_or,Bool.not_eq_true]at hc
  obtain⟨⟨c1,c2⟩,c3⟩:=hc
  have h1:fn.body=none:=by simpa using c2
  have h2 : ¬ fn.name = "runtime.NumGoroutine" := by simpa using c1
  have h3:Extern.findNext fn=none:=by simpa using c3
  simp[execOp,resolve,hr.eval hf,Deferred.ofValue,hr.evals az vs ha,invoke,callFunc,hfn,h1,h2,h3,hb,hx]
 simp at hb
end
section
variable {P:Program} {n:Nat} {F:Fr} {w:Wl} {d:Tmp} {ty t t2 e e2:TypeId} {k by':Nat} {z:Va} {pos:String} {af:Array Edge} {gd:Option (Nat×Bool)} {K:Fr→Wl→Prop}
theorem zdO(A:App P t e k by' z)(hit:zdD P t2 .i64=true){x y:Operand}{v:Va}{l m:Nat}{j:Int}{xs:LA}(hx:ev F x=some v)(hy:ev F y=some (.int .i64 j))(hj:j=(m:Int))(hv:zB w e k v l xs)
 (hgrow:∀p c,v=.slice p l c→c<l+m) (h63:l+m≤maxLen) (hbytes:(l+m)*by'≤140737488355328) (hn:Nat.blt d n=true)
 (h:∀b cap zs w',w.heap.size=b→zk [] w w'→l+m≤cap→cap≤maxLen→zs.length=(cap-l)*k→(∀u∈xs++zs,u.oneCell'=true)→zO w' b e (xs++zs)→K ((d,.slice (some ⟨b,0,none⟩) (l+m) cap)::F) w') :
 St P n F ⟨some d,.call { callee:=.builtin .append,args := #[x,y],argTypes := #[t,t2] },ty,pos,af,gd⟩ w K:=by
 subst hj
 obtain⟨i,hi,hk,hb,hz⟩:=A.info
 obtain⟨p,c,rfl,hlc⟩:=hv.val
 have hgr:=hgrow p c rfl
 have hund:=yC A.sl
 have hund2:P.underlying t2=some (.int .i64):=by unfold zdD at hit;split at hit<;>simp_all
 have hm63:l+m≤9223372036854775807:=by simp only[maxLen]at h63;omega
 have hge:=grownCap_ge w (l+m) c e
 have hcm:=grownCap_le_maxLen w (l+m) c e h63
 have hbm:m*by'≤140737488355328:=Nat.le_trans (Nat.mul_le_mul_right _ (by omega)) hbytes
 have hlx:=hv.len_xs
 let zs:=(Builtin.zeroCells z.cells m).toList++(Builtin.zeroCells z.cells (grownCap w (l+m) c e-(l+m))).toList
 have hone:∀u∈xs++zs,u.oneCell'=true:=by
  intro u hu
  simp only[zs,List.mem_append]at hu
  rcases hu with hu|hu|hu
  ·exact hv.one_xs u hu
  ·exact zbJ z _ A.zo u hu
  exact zbJ z _ A.zo u hu
 have hlen:zs.length=(grownCap w (l+m) c e-l)*k:=by
  simp only[zs,Sa,Array.length_toList,size_zeroCells,A.zs,←Nat.add_mul]
  congr 1;omega
 refine St.vl (v:=.slice (some ⟨w.heap.size,0,none⟩) (l+m) (grownCap w (l+m) c e)) (w':=w.drew.alloc (.cells (xs++zs).toArray e)) ?_ U hn
  (h _ _ zs _ rfl ((zk.drew [] w).trans (zk.alloc [] _ _)) hge hcm hlen hone ?_)
 ·have h0:¬ (l+m≤c):=by omega
  have hwr:IntKind.i64.wrap (m:Int)=m:=IntWalk.i64_in _ ⟨by omega,by omega⟩
  have hneg:¬ ((m:Int)<0):=by omega
  have hbig:¬ (281474976710656<(m:Int)*(i.bytes:Int)):=by
   rw[hb]
   have:((m*by':Nat):Int)≤140737488355328:=Int.ofNat_le.2 hbm
   rw[Int.natCast_mul]at this
   omega
  have h63':¬ (9223372036854775807<(l:Int)+(m:Int)):=by omega
  have h48':¬ (281474976710656<Builtin.nextslicecap (l+m) c*i.bytes):=by
   have:=growslice_fits (need:=l+m) (old:=c) (bytes:=by') (by omega) hbytes
   rw[hb];omega
  have hfo:(Builtin.firstCells k l (.slice p l c)).run P w.drew=.ok xs.toArray w.drew:=by
   refine zdx (w:=w.drew) (e:=e) ?_
   rcases hv with hv|⟨b,off,cap,cc,he,hv⟩
   ·exact .inl hv
   exact .inr ⟨b,off,cap,cc,he,⟨hv.blk,hv.le,hv.max,hv.fit,hv.xs,hv.one⟩⟩
  have hzero:∀w1:Wl,(zeroValue e).run P w1=.ok z w1:=fun w1=>zcg A.zr
  have e1:(xs++zs).toArray=xs.toArray++Builtin.zeroCells z.cells m++Builtin.zeroCells z.cells (grownCap w (l+m) c e-(l+m)):=by
   apply Array.toList_inj.1
   simp[zs]
  have happ:(Builtin.append_ #[t,t2] ty #[.slice p l c,.int .i64 (m:Int)]).run P w=.ok (.slice (some ⟨w.heap.size,0,none⟩) (l+m) (grownCap w (l+m) c e)) (w.drew.alloc (.cells (xs++zs).toArray e)):=by
   rw[e1]
   have hpos:0<k:=A.pos
   by_cases hm:m=0
   ·omega
   have hm0:¬ (m*k=0):=by
    have:1*1≤m*k:=Nat.mul_le_mul (by omega) hpos
    omega
   simp[Builtin.append_,run_underlying hund,run_underlying hund2,zY A.sz,asInt,asIntOf,hwr,typeInfo,hi,hneg,hbig,h0,h63',h48',Question.forced,hfo,hzero,newRow,grownCap,hm0]
  intro a ha
  simp[execOp,resolve,invoke,builtin,ha.eval hx,ha.eval hy,happ]
 show (w.drew.heap.push _)[w.heap.size]?=_
 rw[show w.heap.size=w.drew.heap.size from rfl,Array.getElem?_push_size]
theorem zjb(hs:zbt P t=some e)(hk:zao P e=some k){x y:Operand}{v:Va}{b off dl dc m c:Nat}{cs ys:LA}(hx:ev F x=some (.slice (some ⟨b,off,none⟩) dl dc))(hy:ev F y=some v)(hv:zB w e k v m ys)
 (hb:zO w b e cs) (hc:min m dl=c) (hl:off+c*k≤cs.length) (hn:Nat.blt d n=true)
 (h:∀w',w'.heap.size=w.heap.size→zk [b] w w'→zO w' b e (yY cs off (ys.take (c*k)))→K ((d,.int .i64 c)::F) w') :
 St P n F ⟨some d,.call { callee:=.builtin .copy,args := #[x,y],argTypes := #[t,t2] },ty,pos,af,gd⟩ w K:=by
 subst hc
 have hly:=hv.len_xs
 have hle:min m dl*k≤m*k:=Nat.mul_le_mul_right _ (Nat.min_le_left _ _)
 have hlt:(ys.take (min m dl*k)).length=min m dl*k:=by rw[List.length_take];omega
 have hone:∀u∈ys.take (min m dl*k),u.oneCell'=true:=fun u hu=>hv.one_xs u (List.mem_of_mem_take hu)
 have hst:=zcs (P:=P) (off:=off) (vs:=ys.take (min m dl*k)) hb (by rw[hlt];exact hl) hone
 refine St.vl (v:=.int .i64 (min m dl:Nat)) (w':=w.setRow b (yY cs off (ys.take (min m dl*k))).toArray) ?_ U hn (h _ (by simp[World.setRow]) (zk.row _ _ _) (hb.row _))
 intro a ha
 have hfirst:(Builtin.firstCells k (min m dl) v).run P w=.ok (ys.take (min m dl*k)).toArray w:=by
  rcases hv with⟨rfl,rfl,rfl⟩|⟨b',off',cap',c',rfl,hv⟩
  ·simp[Builtin.firstCells]
  refine run_firstCells_some w k (min m dl) ⟨b',off',none⟩ m cap' _ hlt (fun j u hu=>?_)
  rw[Addr.add_lit]
  rw[List.getElem?_take]at hu
  split at hu
  ·exact hv.cells j u hu
  cases hu
 simp[execOp,resolve,invoke,builtin,Builtin.copy_,ha.eval hx,ha.eval hy,run_underlying (yC hs),zY hk,zh1 hv,hfirst,hst,goInt]
theorem zsy(A:App P t e k by' z){x:Operand}{b off dl dc:Nat}{cs:LA}(hx:ev F x=some (.slice (some ⟨b,off,none⟩) dl dc))(hb:zO w b e cs)(hl:off+dl*k≤cs.length)
 (h:∀w' zs,w'.heap.size=w.heap.size→zk [b] w w'→zs.length=dl*k→(∀u∈zs,u.oneCell'=true)→zO w' b e (yY cs off zs)→K F w') :
 St P n F ⟨none,.call { callee:=.builtin .clear,args := #[x],argTypes := #[t] },ty,pos,af,gd⟩ w K:=by
 have hund:=yC A.sl
 have hzl:(Builtin.zeroCells z.cells dl).toList.length=dl*k:=by simp[size_zeroCells,A.zs]
 have hst:=zcs (P:=P) (off:=off) (vs:=(Builtin.zeroCells z.cells dl).toList) hb (by rw[hzl];exact hl) (zbJ z _ A.zo)
 by_cases h0:dl=0
 ·subst h0
  have he:Builtin.zeroCells z.cells 0 = #[]:=Array.eq_empty_of_size_eq_zero (by rw[size_zeroCells];simp)
  refine St.vlNone (v:=.tuple #[]) (w':=w) ?_ U (h w [] U (zk.refl _ _) (by simp) (by simp) (by simpa[yY] using hb))
  intro a ha
  simp[execOp,resolve,invoke,builtin,Builtin.clear_,ha.eval hx,run_underlying hund]
 refine St.vlNone (v:=.tuple #[]) (w':=w.setRow b (yY cs off (Builtin.zeroCells z.cells dl).toList).toArray) ?_ U (h _ _ (by simp[World.setRow]) (zk.row _ _ _) hzl (zbJ z _ A.zo) (hb.row _))
 intro a ha
 obtain⟨q,rfl⟩:∃q,dl=q+1:=⟨dl-1,by omega⟩
 simp[execOp,resolve,invoke,builtin,Builtin.clear_,ha.eval hx,run_underlying hund,zcg A.zr,hst]
end
end Go.Wk
