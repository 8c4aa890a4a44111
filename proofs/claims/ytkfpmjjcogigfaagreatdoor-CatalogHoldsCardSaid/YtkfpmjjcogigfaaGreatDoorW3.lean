/- joined texts -/
import Derived.Test.YtkfpmjjcogigfaaGreatDoorW2
import Derived.Stop.Asserts
import Derived.RangeFuncRecord
import Derived.OrdersIn
set_option linter.all false
namespace Go.Wk
theorem zb6{a b:Int}(h:a=b):(!decide (a=b))=false:=by simp[h]
theorem zet{a b:Int}(h:a≠b):(!decide (a=b))=true:=by simp[h]
section
variable {P:Program} {w:Wl} {t t2 ty e:TypeId} {k by':Nat} {z:Va}
theorem zfg(A:App P t e k by' z){d2:TypeDesc}(hund2:P.underlying t2=some d2)(hd:(∃e2,d2=.slice e2)∨d2=.string){v s:Va}{n m:Nat}{xs ys:List Va}(hv:zw w e k v n xs)
 (hly:ys.length=m*k) (hone:∀u∈ys,u.oneCell'=true) (hls:(Builtin.lenOf s).run P w=.ok m w) (hfs':∀w1:Wl,w1.heap=w.heap→(Builtin.firstCells k m s).run P w1=.ok ys.toArray w1) (h63:n+m≤maxLen) (hbytes:(n+m)*by'≤140737488355328) :
 ∃v' w',(Builtin.append_ #[t,t2] ty #[v,s]).run P w=.ok v' w'∧zw w' e k v' (n+m) (xs++ys)∧zl (zq v) w w'∧(zq v'=zq v∨∃b,zq v'=[b]∧w.heap.size≤b) ∧
  (v'=.slice none 0 0↔v=.slice none 0 0∧m=0):=by
 rcases hd with⟨e2,rfl⟩|rfl
 all_goals
  obtain⟨i,hi,hk,hb,hz⟩:=A.info
  have hund:=yf A.sl
  have hlx:=hv.len_xs
  have hfs:=hfs' w rfl
  have hm63:n+m≤9223372036854775807:=by simp only[maxLen]at h63;omega
  -- the new block
  have grown:∀old,n+m>old→∀S,zw (w.drew.alloc (.cells (xs.toArray++ys.toArray++Builtin.zeroCells z.cells (grownCap w (n+m) old e-(n+m))) e)) e k
   (.slice (some ⟨w.heap.size,0,none⟩) (n+m) (grownCap w (n+m) old e)) (n+m) (xs++ys) ∧
   zl S w (w.drew.alloc (.cells (xs.toArray++ys.toArray++Builtin.zeroCells z.cells (grownCap w (n+m) old e-(n+m))) e)):=by
   intro old _ S
   have hge:=grownCap_ge w (n+m) old e
   have hcm:=grownCap_le_maxLen w (n+m) old e h63
   refine⟨.inr ⟨w.heap.size,0,_,xs++ys++(Builtin.zeroCells z.cells (grownCap w (n+m) old e-(n+m))).toList,U,?_,hge,hcm,?_,?_,?_⟩,(zl.drew S w).transS (zl.alloc S _ _)⟩
   ·show (w.drew.heap.push _)[w.heap.size]? = _
    rw[show w.heap.size=w.drew.heap.size from rfl,Array.getElem?_push_size]
    simp
   ·simp only[List.length_append,hlx,hly,Array.length_toList,size_zeroCells,A.zs,←Nat.add_mul,Nat.zero_add]
    rw[Nat.add_sub_cancel' hge]
    exact Nat.le_refl _
   ·rw[List.drop_zero,List.take_left' (by simp[hlx,hly,Nat.add_mul])]
   intro u hu
   simp only[List.mem_append]at hu
   rcases hu with (hu|hu)|hu
   ·exact hv.one_xs u hu
   ·exact hone u hu
   exact zbM z _ A.zo u hu
  have hzero:∀w1:Wl,(zeroValue e).run P w1=.ok z w1:=fun w1=>zbE A.zr
  rcases hv with⟨rfl,rfl,rfl⟩|⟨g,off,cap,c,rfl,hv⟩
  ·by_cases hm:m=0
   ·subst hm
    have hy:ys=[]:=List.eq_nil_of_length_eq_zero (by simpa using hly)
    subst hy
    refine⟨.slice none 0 0,w,?_,zw.nil _ _ _,zl.refl _ _,.inl U,by simp⟩
    simp[Builtin.append_,run_underlying hund,run_underlying hund2,zU A.sz,hls,hfs]
   have h0:¬ (0+m≤0):=by omega
   have h63':¬ (9223372036854775807<(m:Int)):=by omega
   have h48':¬ (281474976710656<Builtin.nextslicecap m 0*i.bytes):=by
    have:=growslice_fits (need:=m) (old:=0) (bytes:=by') (by omega) (by simpa using hbytes)
    rw[hb];omega
   have hgr:=grown 0 (by omega) []
   refine⟨_,_,?_,hgr.1,hgr.2,.inr ⟨w.heap.size,rfl,Nat.le_refl _⟩,by simp[hm]⟩
   have hfd:=hfs' w.drew rfl
   simp[Builtin.append_,run_underlying hund,run_underlying hund2,zU A.sz,hls,typeInfo,hi,hm,h63',h48',Question.forced,run_firstCells_none,hfd,hzero,newRow,grownCap]
  by_cases hroom:n+m≤cap
  ·have hfit:=hv.fit
   have hcap:(n+m)*k≤cap*k:=Nat.mul_le_mul_right _ hroom
   have hfit2:off+n*k+ys.length≤c.length:=by rw[hly];rw[Nat.add_mul]at hcap;omega
   have hst:=zcd (P:=P) (off:=off+n*k) (vs:=ys) hv.blk hfit2 hone
   refine⟨.slice (some ⟨g,off,none⟩) (n+m) cap,w.setRow g (yF c (off+n*k) ys).toArray,?_,.inr ⟨g,off,cap,yF c (off+n*k) ys,rfl,hv.blk.row _,hroom,hv.max,?_,?_,?_⟩,(zl.row _ _ _),.inl U,by simp⟩
   ·simp[Builtin.append_,run_underlying hund,run_underlying hund2,zU A.sz,hls,hroom,hfs,Addr.add_lit,hst]
   ·simp only[yF,List.length_append,List.length_take,List.length_drop]
    omega
   ·have e1:(yF c (off+n*k) ys).drop off=xs++ys++c.drop (off+n*k+ys.length):=by
     unfold yF
     rw[List.append_assoc,List.drop_append_of_le_length (by rw[List.length_take];omega),List.drop_take,←List.append_assoc]
     rw[show off+n*k-off=n*k by omega,←hv.xs]
    rw[e1,List.take_left' (by simp[hlx,hly,Nat.add_mul])]
   intro u hu
   simp only[yF,List.mem_append]at hu
   rcases hu with (hu|hu)|hu
   ·exact hv.one u (List.mem_of_mem_take hu)
   ·exact hone u hu
   exact hv.one u (List.mem_of_mem_drop hu)
  have h0:¬ (n+m≤cap):=hroom
  have h63':¬ (9223372036854775807<((n:Int)+(m:Int))):=by omega
  have h48':¬ (281474976710656<Builtin.nextslicecap (n+m) cap*i.bytes):=by
   have:=growslice_fits (need:=n+m) (old:=cap) (bytes:=by') (by omega) hbytes
   rw[hb];omega
  have hgr:=grown cap (by omega) (zq (.slice (some ⟨g,off,none⟩) n cap))
  refine⟨_,_,?_,hgr.1,hgr.2,.inr ⟨w.heap.size,rfl,Nat.le_refl _⟩,by simp⟩
  have hfd:=hfs' w.drew rfl
  have hfo:(Builtin.firstCells k n (.slice (some ⟨g,off,none⟩) n cap)).run P w.drew=.ok xs.toArray w.drew:=
   zds (w:=w.drew) (e:=e) (.inr ⟨g,off,cap,c,rfl,⟨hv.blk,hv.le,hv.max,hv.fit,hv.xs,hv.one⟩⟩)
  simp[Builtin.append_,run_underlying hund,run_underlying hund2,zU A.sz,hls,typeInfo,hi,h0,h63',h48',Question.forced,hfo,hfd,hzero,newRow,grownCap]
  rw[show (xs++ys).toArray=xs.toArray++ys.toArray from by simp,Array.append_assoc]
end
section
variable {P:Program} {n:Nat} {F:Fr} {w:Wl} {d:Tmp} {ty t t2 e:TypeId} {by':Nat} {z:Va} {pos:String} {af:Array Edge} {gd:Option (Nat×Bool)} {K:Fr→Wl→Prop}
theorem zna(A:App P t e 1 by' z)(ht2:zhR P t2=true){x y:Operand}{v:Va}{s:By}{l:Nat}{xs:List Va}(hx:ev F x=some v)(hy:ev F y=some (.string s))(hv:zw w e 1 v l xs)(h63:l+s.size≤maxLen)(hbytes:(l+s.size)*by'≤140737488355328)
 (hn:Nat.blt d n=true) (h:∀v' w',zw w' e 1 v' (l+s.size) (xs++bv s.data.toList)→zl (zq v) w w'→(zq v'=zq v∨∃b,zq v'=[b]∧w.heap.size≤b)→(v'=.slice none 0 0↔v=.slice none 0 0∧s.size=0)→K ((d,v')::F) w') :
 St P n F ⟨some d,.call { callee:=.builtin .append,args := #[x,y],argTypes := #[t,t2] },ty,pos,af,gd⟩ w K:=by
 have hsz:s.data.toList.length=s.size:=by simp
 obtain⟨v',w',hr,h1,h2,h3,h4⟩:=zfg (ty:=ty) (s:=.string s) (m:=s.size) (ys:=bv s.data.toList) A (yN ht2) (.inr rfl) hv (by rw[zct,hsz,Nat.mul_one]) (zeB _) (by simp[Builtin.lenOf])
  (fun w1 _=>by
   have:s.extract 0 s.size=s:=by simp
   simp only[Builtin.firstCells,this,bv,Sem.run_pure]
   rw[←Array.toList_map,Array.toArray_toList]) h63 hbytes
 refine St.vl (v:=v') (w':=w') ?_ U hn (h v' w' h1 h2 h3 h4)
 intro a ha
 simp[execOp,resolve,invoke,builtin,ha.eval hx,ha.eval hy,hr]
end
section
variable {P:Program} {n:Nat} {F:Fr} {w:Wl} {dst:Option Tmp} {ty t u e:TypeId} {pos:String} {af:Array Edge} {gd:Option (Nat×Bool)}
theorem zhi{x:Operand}{v:Va}{len:Nat}{l:List UInt8}(hs:za3 P t=some e)(he:zdk P e .u8=true)(hu:zhR P u=true)(hx:ev F x=some v)(hv:zaA w e 1 v len (bv l)) :
 Vl P n F ⟨dst,.convert t u x,ty,pos,af,gd⟩ w (.string ⟨l.toArray⟩) w:=by
 have hl:=hv.len_xs
 rw[zct,Nat.mul_one]at hl
 obtain⟨p,c,rfl,_⟩:=hv.val
 rcases id hv with⟨h,rfl,_⟩|⟨b,off,cap,c',fr,h,_⟩
 ·cases h
  have:l=[]:=List.eq_nil_of_length_eq_zero hl
  subst this
  intro a ha
  simp[execOp,ha.eval hx,convert,run_underlying (yf hs),run_underlying (zM he),run_underlying (yN hu)]
  trivial
 cases h
 exact zrG hs he hu hx hl.symm hv.cells
end
def zmV(P:Program)(t:TypeId):Option Nat:=match P.underlying t with
 |some (.int _)=>some 0
 |some .string=>some 1
 |some .bool=>some 2
 |_=>none
def zjx(P:Program):List Field→Nat→List Nat→Bool
 |[],_,[]=>true
 | f :: r, i, k :: ks => (zmV P f.type == some k) && Nat.beq f.offset i && decide (f.name ≠ "_") && (yZ P f.type == some false) && zjx P r (i + 1) ks
 |_,_,_=>false
def zqK(P:Program)(t:TypeId)(ks:List Nat):Bool:=match P.underlying t with
 |some (.struct fs) => !P.stoodInHeld t && !P.eqGuardType P.depth t && zjx P fs.toList 0 ks
 |_=>false
def zlD:Nat→Va→Va→Option Bool
 |0,.int k i,.int k' j=>if k=k' then some (decide (i=j)) else none
 |1,.string a,.string b=>some (decide (a=b))
 |2,.bool a,.bool b=>some (a == b)
 |_,_,_=>none
def zem:List Nat→List Va→List Va→Option Bool
 |[],[],[]=>some true
 |k::ks,a::r,b::s=>match zlD k a b,zem ks r s with
  |some x,some y=>some (x && y)
  |_,_=>none
 |_,_,_=>none
section
variable {P:Program} {w:Wl}
theorem zrd{t:TypeId}{k:Nat}{a b:Va}{r:Bool}(d:Nat)(ht:zmV P t=some k)(h:zlD k a b=some r):(Op.equalIn (d+1) t a b).run P w=.ok r w:=by
 unfold zmV at ht
 split at ht
 ·rename_i k' hu
  cases ht
  cases a<;>cases b<;>simp only[zlD]at h<;>try (cases h;done)
  rename_i k1 i k2 j
  split at h
  ·rename_i he
   subst he
   cases h
   rw[run_equalIn_int w d t k1 k' i j hu]
   rfl
  cases h
 ·rename_i hu
  cases ht
  cases a<;>cases b<;>simp only[zlD]at h<;>try (cases h;done)
  cases h
  rw[run_equalIn_string w d t _ _ hu,zeS]
 ·rename_i hu
  cases ht
  cases a<;>cases b<;>simp only[zlD]at h<;>try (cases h;done)
  cases h
  rw[run_equalIn_bool w d t _ _ hu]
 cases ht
theorem ziQ(d:Nat):∀(fs:List Field) (ks:List Nat) (i:Nat) (az bs A B:List Va) (r:Bool),zjx P fs i ks=true→A=az.drop i→B=bs.drop i→zem ks A B=some r →
 (Op.eqFields (d+1) az.toArray bs.toArray fs).run P w=.ok r w
 |[],[],i,az,bs,A,B,r,_,hA,hB,h=>by
  cases A<;>cases B<;>simp only[zem]at h<;>try (cases h;done)
  cases h
  simp[Op.eqFields]
 |[],_::_,i,az,bs,A,B,r,hf,_,_,_=>by simp[zjx]at hf
 |_::_,[],i,az,bs,A,B,r,hf,_,_,_=>by simp[zjx]at hf
 |f::fs,k::ks,i,az,bs,A,B,r,hf,hA,hB,h=>by
  simp only[zjx,Bool.and_eq_true,beq_iff_eq,decide_eq_true_eq]at hf
  obtain⟨⟨⟨⟨h1,h2⟩,h3⟩,h4⟩,h5⟩:=hf
  have ei:f.offset=i:=Nat.eq_of_beq_eq_true h2
  cases A with
  |nil=>cases B<;>simp[zem]at h
  |cons a A=>
   cases B with
   |nil=>simp[zem]at h
   |cons b B=>
    simp only[zem]at h
    cases hx:zlD k a b with
    |none=>simp[hx]at h
    |some x=>
     rw[hx]at h
     cases hy:zem ks A B with
     |none=>simp[hy]at h
     |some y=>
      rw[hy]at h
      simp only[Option.some.injEq]at h
      have ga:az.toArray[i]? = some a:=by
       have:(az.drop i)[0]? = some a:=by rw[←hA];rfl
       simpa using this
      have gb:bs.toArray[i]? = some b:=by
       have:(bs.drop i)[0]? = some b:=by rw[←hB];rfl
       simpa using this
      have hA':A=az.drop (i+1):=by
       have:A=(az.drop i).drop 1:=by rw[←hA];rfl
       rw[this,List.drop_drop]
      have hB':B=bs.drop (i+1):=by
       have:B=(bs.drop i).drop 1:=by rw[←hB];rfl
       rw[this,List.drop_drop]
      have ih:=ziQ d fs ks (i+1) az bs A B y h5 hA' hB' hy
      have p1:(part f.type az.toArray i).run P w=.ok a w:=by simp[part,zao h4,ga]
      have p2:(part f.type bs.toArray i).run P w=.ok b w:=by simp[part,zao h4,gb]
      have q:=zrd (P:=P) (w:=w) d h1 hx
      subst h
      cases x<;>simp only[Op.eqFields,ei,Sem.run_ite,if_pos h3,Sem.run_bind,p1,p2,q,ih,Result.andThen_ok,Sem.run_pure,Bool.not_true,Bool.not_false,Bool.true_and,Bool.false_and]<;>simp
end
section
variable {P:Program} {n:Nat} {F:Fr} {w:Wl} {dst:Option Tmp} {ty:TypeId} {pos:String} {af:Array Edge} {gd:Option (Nat×Bool)}
theorem zsy{t:TypeId}{ks:List Nat}{az bs:List Va}{r:Bool}(h:zqK P t ks=true)(he:zem ks az bs=some r):(Op.equalIn 10000 t (.agg az.toArray) (.agg bs.toArray)).run P w=.ok r w∧P.eqGuardType P.depth t=false:=by
 unfold zqK at h
 split at h
 ·rename_i fs hu
  simp only[Bool.and_eq_true,Bool.not_eq_true']at h
  obtain⟨⟨hs,hg⟩,h2⟩:=h
  have hfo:P.fieldsOf t=fs:=by simp[Program.fieldsOf,hu]
  refine⟨?_,hg⟩
  rw[run_equalIn_agg w 9999 t _ _ (by rw[hfo];exact hu) hs,hfo]
  exact ziQ 9998 _ ks 0 az bs az bs r h2 U U he
 cases h
theorem zkC{x y:Operand}{t u:TypeId}{ks:List Nat}{az bs:List Va}{r:Bool}(h:zqK P t ks=true)(hx:ev F x=some (.agg az.toArray))(hy:ev F y=some (.agg bs.toArray))(he:zem ks az bs=some r) :
 Vl P n F ⟨dst,.binOp .neq t x y u,ty,pos,af,gd⟩ w (.bool (!r)) w:=by
 intro ac ha
 obtain⟨e1,hg⟩:=zsy (P:=P) (w:=w) h he
 simp only[execOp,ha.eval hx,ha.eval hy,Sem.run_bind,run_eqGuard_agg w _ _ _ _ _ _ hg,Result.andThen_ok,run_neq_struct,e1]
 simp
end
def zgy(P:Program)(i t:TypeId):Option Bool:=match P.underlying i with
 |some (.interface want)=>(P.info? t).map fun d=>(lacking want d.methods).isEmpty
 |_=>none
section
variable {P:Program} {n:Nat} {F:Fr} {w:Wl} {dst:Option Tmp} {ty:TypeId} {pos:String} {af:Array Edge} {gd:Option (Nat×Bool)}
theorem zki{x y:Operand}{t u tx ty':TypeId}{vx vy:Va}(h:zmz P t=true)(hx:ev F x=some (.iface tx vx))(hy:ev F y=some (.iface ty' vy))(hne:Nat.beq tx ty'=false) :
 Vl P n F ⟨dst,.binOp .eql t x y u,ty,pos,af,gd⟩ w (.bool false) w:=by
 intro a ha
 obtain⟨ms,hu⟩:=zff h
 have hn:tx≠ty':=fun e=>by subst e;simp at hne
 have h1:(Op.equal t (.iface tx vx) (.iface ty' vy)).run P w=.ok false w:=zbb fun d=>by simp[Op.equalIn,run_underlying hu,hn]
 simp[execOp,ha.eval hx,ha.eval hy,eqGuard,binOp,h1]
theorem zmh{x y:Operand}{t u tx:TypeId}{k:IntKind}{i j:Int}(h:zmz P t=true)(hc:(P.info? tx).map (·.comparable)=some true)(hk:zdk P tx k=true)(hx:ev F x=some (.iface tx (.int k i)))(hy:ev F y=some (.iface tx (.int k j))) :
 Vl P n F ⟨dst,.binOp .eql t x y u,ty,pos,af,gd⟩ w (.bool (decide (i=j))) w:=by
 intro a ha
 obtain⟨ms,hu⟩:=zff h
 cases hi:P.info? tx with
 |none=>simp[hi]at hc
 |some d=>
  simp[hi]at hc
  have key:∀d,(Op.equalIn (d+1+1) t (.iface tx (.int k i)) (.iface tx (.int k j))).run P w=.ok (decide (i=j)) w:=fun d=>by
   simp[Op.equalIn,run_underlying hu,typeInfo,hi,hc,run_underlying (zM hk)]
   rfl
  have h1:(Op.equal t (.iface tx (.int k i)) (.iface tx (.int k j))).run P w=.ok (decide (i=j)) w:=key 9998
  simp[execOp,ha.eval hx,ha.eval hy,eqGuard,binOp,h1]
theorem zbk{x:Operand}{xt i t:TypeId}{v:Va}{b:Bool}(h:zgy P i t=some b)(hz:zaa P i=some .nilIface)(hx:ev F x=some (.iface t v)) :
 Vl P n F ⟨dst,.typeAssert x xt i true,ty,pos,af,gd⟩ w (.tuple #[if b then .iface t v else .nilIface,.bool b]) w:=by
 intro a ha
 unfold zgy at h
 split at h
 ·rename_i want hu
  cases b with
  |true=>
   have h1:=run_typeAssert_hasB hu h v xt w
   simp[execOp,ha.eval hx,h1]
  |false=>
   cases hi:P.info? t with
   |none=>simp[hi]at h
   |some d=>
    simp only[hi,Option.map_some,Option.some.injEq]at h
    cases hm:Instr.missingMethod want d.methods with
    |none=>
     exfalso
     have hl:lacking want d.methods≠[]:=fun e=>by rw[e]at h;cases h
     obtain⟨m,hm'⟩:=missingMethod_some hl
     rw[hm]at hm';cases hm'
    |some m=>simp[execOp,Instr.typeAssert,ha.eval hx,run_underlying hu,typeInfo,hi,hm,zbE hz]
 simp at h
end
section
variable {P:Program} {fn:Func} {R:Va→Wl→Prop} {n:Nat} {F:Fr} {w:Wl}
theorem zjZ{t ty:Nat}{p:Addr}{v:Va}(hr:fn.results = #[.cell t ty])(hag:yZ P ty=some false)(hv:get F t=some (.pointer (some p)))(hc:w.cell? p=some v)(h:R v w)(hm:yU F=[]:=by rfl):zfR P fn R n .ret F w:=
 ⟨v,fun a ha=>by simp[results,hr,ha.get t _ hv,asAddr,loadVar,zao hag,hc],hm,h⟩
end
def Bk(B:Nat)(W W':Wl):Prop:=∃T,(∀b∈T,B≤b∧∃o:Obj,W.heap[b]? = some o∧o.isCells=false)∧zl T W W'
def zm8:Obj→Bool
 |.mapIter .. => true
 |_=>false
def BkL(B:Nat)(W W':Wl):Prop:=∃T,(∀b∈T,B≤b∧∃o:Obj,W.heap[b]? = some o∧o.isCells=false∧zm8 o=false)∧zl T W W'
theorem BkL.bk{B:Nat}{W W':Wl}(h:BkL B W W'):Bk B W W':=
 let ⟨T,hT,hc⟩:=h; ⟨T,fun b hb=>let ⟨h1,o,h2,h3,_⟩:=hT b hb; ⟨h1,o,h2,h3⟩,hc⟩
theorem zK.bk{B:Nat}{W W':Wl}{b:Nat}{e:TypeId}{c:List Va}(h:zK W b e c)(hk:Bk B W W'):zK W' b e c:=by
 obtain⟨T,hT,hc⟩:=hk
 refine h.chg hc fun hm=>?_
 obtain⟨_,o,ho,hn⟩:=hT b hm
 rw[show W.heap[b]? = _ from h]at ho
 cases ho;cases hn
theorem zw.bk{B:Nat}{W W':Wl}{e k:Nat}{v:Va}{len:Nat}{xs:List Va}(h:zw W e k v len xs)(hk:Bk B W W'):zw W' e k v len xs:=by
 obtain⟨T,hT,hc⟩:=hk
 refine h.chg hc fun b hb hm=>?_
 rcases h with⟨rfl,_,_⟩|⟨b',off,cap,c,rfl,hs⟩
 ·simp[zq]at hb
 simp[zq]at hb
 subst hb
 obtain⟨_,o,ho,hn⟩:=hT b hm
 have:=hs.blk
 rw[show W.heap[b]? = _ from this]at ho
 cases ho;cases hn
theorem zl.bk{S:List Nat}{B:Nat}{w W W':Wl}(h:zl S w W)(hB:w.heap.size≤B)(hk:Bk B W W'):zl S w W':=by
 obtain⟨T,hT,hc⟩:=hk
 exact h.trans' hc fun b hb=>.inr (Nat.le_trans hB (hT b hb).1)
structure Kr(S:List Nat)(keep:TypeId→Bool)(B:Nat)(W W':Wl):Prop where
 size:W.heap.size≤W'.heap.size
 low:∀k,k<B→k∉S→W'.heap[k]? = W.heap[k]?
 cells:∀(k:Nat) b e f,W.heap[k]? = some (Obj.cells b e f)→keep e=true→W'.heap[k]? = some (Obj.cells b e f)
 iters:∀(k:Nat) (o:Obj),B≤k→W.heap[k]? = some o→zm8 o=true→W'.heap[k]? = some o
theorem Kr.refl(S:List Nat)(keep:TypeId→Bool)(B:Nat)(W:Wl):Kr S keep B W W:=⟨Nat.le_refl _,fun _ _ _=>rfl,fun _ _ _ _ h _=>h,fun _ _ _ h _=>h⟩
theorem Kr.trans{S:List Nat}{keep:TypeId→Bool}{B:Nat}{W1 W2 W3:Wl}(h:Kr S keep B W1 W2)(k:Kr S keep B W2 W3):Kr S keep B W1 W3:=
 ⟨Nat.le_trans h.size k.size,fun i hi hs=>(k.low i hi hs).trans (h.low i hi hs),fun i b e f hi he=>k.cells i b e f (h.cells i b e f hi he) he,fun i o hB hi ho=>k.iters i o hB (h.iters i o hB hi ho) ho⟩
theorem Kr.kp{S:List Nat}{keep:TypeId→Bool}{B:Nat}{W1 W2:Wl}(h:Kr S keep B W1 W2):Kp S B W1 W2:=⟨h.size,h.low⟩
theorem Kr.bk{S:List Nat}{keep:TypeId→Bool}{B:Nat}{W W':Wl}(hk:BkL B W W')(hs:B≤W.heap.size):Kr S keep B W W':=by
 obtain⟨T,hT,hc⟩:=hk
 refine⟨hc.size,fun k hk _=>hc.block k (by omega) (fun hm=>by have:=(hT k hm).1;omega),fun k b e f h _=>?_,fun k o _ h ho=>?_⟩
 ·refine(hc.block k (Array.getElem?_eq_some_iff.1 h).1 fun hm=>?_).trans h
  obtain⟨_,o,ho,hn,_⟩:=hT k hm
  rw[h]at ho
  cases ho;cases hn
 refine(hc.block k (Array.getElem?_eq_some_iff.1 h).1 fun hm=>?_).trans h
 obtain⟨_,o',ho',_,hn⟩:=hT k hm
 rw[h]at ho'
 cases ho'
 rw[ho]at hn;cases hn
theorem Kr.chg{S T:List Nat}{keep:TypeId→Bool}{B:Nat}{W W':Wl}(hc:zl T W W')(hB:B≤W.heap.size)(hT:∀b∈T,(b∈S∨B≤b)∧∃e c,zK W b e c∧keep e=false):Kr S keep B W W':=by
 refine⟨hc.size,fun k hk hs=>hc.block k (by omega) (fun hm=>by rcases (hT k hm).1 with h|h;exact hs h;omega),fun k b e f h he=>?_,fun k o _ h ho=>?_⟩
 ·refine(hc.block k (Array.getElem?_eq_some_iff.1 h).1 fun hm=>?_).trans h
  obtain⟨_,e',c,hb,hke⟩:=hT k hm
  rw[show W.heap[k]? = _ from hb]at h
  cases h
  rw[he]at hke;cases hke
 refine(hc.block k (Array.getElem?_eq_some_iff.1 h).1 fun hm=>?_).trans h
 obtain⟨_,e',c,hb,hke⟩:=hT k hm
 rw[show W.heap[k]? = _ from hb]at h
 cases h
 cases ho
def zq5{α:Type}(P:Program)(g:Nat)(lb:Array Va)(encs:α→Array Va)(S0:List Nat)(keep:TypeId→Bool)(Rel:α→Wl→Prop)(Done Part:List α→Wl→Prop)(N:Nat)(w:Wl):Prop:=
 ∀(l:Nat) (J Jx:List α→Wl→Prop) (W:Wl),zl [] w W→AbidesFrom W.heap.size J→AbidesFrom W.heap.size Jx →
  (∀pre x W1,J pre W1→Rel x W1→pre.length<N→YieldAt Fence.wide 1 P l (encs x) W1 fun e W'=>
   (e=.returned (.bool true)∧J (pre++[x]) W'∧Kr S0 keep w.heap.size W1 W')∨(e=.returned (.bool false)∧Jx (pre++[x]) W')) →
  J [] W →
  CallsIn Fence.wide 2 P g (#[.func (.yield l) #[] #[]]++lb) W fun e W'=>(∃v,e=.returned v)∧((∃xs,Done xs W'∧J xs W')∨(∃pre,Part pre W'∧Jx pre W'))
theorem Bk.of_grown{B:Nat}{X Y:Wl}{row:Option Nat}(hg:X.grownBy Y row)(hr:∀r,row=some r→B≤r∧∃o:Obj,X.heap[r]? = some o∧o.isWalk=true):Bk B X Y:=by
 refine⟨row.toList,?_,⟨hg.os,hg.tape,hg.output,hg.size,fun k hk hn=>hg.block k hk (fun e=>hn (by rw[←e];simp))⟩⟩
 intro b hb
 cases row with
 |none=>simp at hb
 |some r=>
  simp at hb
  subst hb
  obtain⟨h1,o,ho,hw⟩:=hr b rfl
  exact⟨h1,o,ho,Obj.not_cells_of_walk hw⟩
theorem Bk.low{B B':Nat}{X Y:Wl}(h:Bk B X Y)(hb:B'≤B):Bk B' X Y:=let ⟨T,hT,hc⟩:=h; ⟨T,fun b hm=>⟨Nat.le_trans hb (hT b hm).1,(hT b hm).2⟩,hc⟩
theorem Bk.same{B k:Nat}{X Y:Wl}{o:Obj}(h:Bk B X Y)(hk:k<B)(ho:X.heap[k]? = some o):Y.heap[k]? = some o:=by
 obtain⟨T,hT,hc⟩:=h
 exact(hc.block k (Array.getElem?_eq_some_iff.1 ho).1 fun hm=>by have:=(hT k hm).1;omega).trans ho
theorem KeepsFrom.put{C l:Nat}{X:Wl}{o:Obj}(h:l<C):KeepsFrom C X (X.putObj l o):=⟨by simp[World.putObj],fun k _ hk ho _=>(World.putObj_heap_other (by omega)).trans ho⟩
theorem KeepsFrom.up{B C:Nat}{X Y:Wl}(h:KeepsFrom B X Y)(hb:B≤C):KeepsFrom C X Y:=⟨h.size,fun k o hk ho hn=>h.same k o (Nat.le_trans hb hk) ho hn⟩
def zwH{α:Type}(P:Program)(g:Nat)(lb:Array Va)(encs:α→Array Va)(Kq:Wl→Wl→Prop)(S Sp Go:List α→Prop)(w:Wl):Prop:=
 ∀(l:Nat) (J Jx:List α→Wl→Prop) (W:Wl),RowKit.Below w.heap.size w W→AbidesFrom W.heap.size J→AbidesFrom W.heap.size Jx →
  (∀pre x W1,J pre W1→Go (pre++[x])→YieldAt Fence.wide 1 P l (encs x) W1 fun e W'=>(e=.returned (.bool true)∧J (pre++[x]) W'∧Kq W1 W')∨(e=.returned (.bool false)∧Jx (pre++[x]) W')) →
  J [] W →
  CallsIn Fence.wide 2 P g (#[.func (.yield l) #[] #[]]++lb) W fun e W'=>(∃v,e=.returned v)∧((∃xs,S xs∧J xs W')∨(∃pre,Sp pre∧Jx pre W'))
theorem zwH.toK{α:Type}{P:Program}{g:Nat}{lb:Array Va}{encs:α→Array Va}{Kq:Wl→Wl→Prop}{S Sp Go:List α→Prop}{N:Nat}{w:Wl}(h:zwH P g lb encs Kq S Sp Go w)(hG:∀l,Go l→l.length≤N):SeqStopsK Fence.wide 2 P g lb encs Kq S Sp N w:=by
 intro l J Jx W hc hJ hJx hY h0
 exact h l J Jx W hc hJ hJx (fun pre x W1 hj hg=>hY pre x W1 hj (by have:=hG _ hg;simp at this;omega)) h0
def zy0{α:Type}(P:Program)(g:Nat)(lb:Array Va)(encs:α→Array Va)(S0:List Nat)(keep:TypeId→Bool)(Rel:α→Wl→Prop)(Done Part:List α→Wl→Prop)(Go:List α→Prop)(w:Wl):Prop:=
 ∀(l:Nat) (J Jx:List α→Wl→Prop) (W:Wl),zl [] w W→(∀s X Y,Bk W.heap.size X Y→J s X→J s Y)→(∀s X Y,Bk W.heap.size X Y→Jx s X→Jx s Y) →
  (∀pre x W1,J pre W1→Rel x W1→Go (pre++[x])→YieldAt Fence.wide 1 P l (encs x) W1 fun e W'=>
   (e=.returned (.bool true)∧J (pre++[x]) W'∧Kr S0 keep w.heap.size W1 W'∧KeepsFrom W.heap.size W1 W')∨(e=.returned (.bool false)∧Jx (pre++[x]) W'∧KeepsFrom W.heap.size W1 W')) →
  J [] W →
  CallsIn Fence.wide 2 P g (#[.func (.yield l) #[] #[]]++lb) W fun e W'=>(∃v,e=.returned v)∧((∃xs,Done xs W'∧J xs W')∨(∃pre,Part pre W'∧Jx pre W'))
theorem zq5.toN{α:Type}{P:Program}{g:Nat}{lb:Array Va}{encs:α→Array Va}{S0:List Nat}{keep:TypeId→Bool}{Rel:α→Wl→Prop}{Done Part:List α→Wl→Prop}{N:Nat}{w:Wl}(h:zq5 P g lb encs S0 keep Rel Done Part N w):zy0 P g lb encs S0 keep Rel Done Part (fun l=>l.length≤N) w:=by
 intro l J Jx W hc hJ hJx hY h0
 refine h l J Jx W hc (fun s X Y row hs hg hr=>hJ s X Y (Bk.of_grown hg hr) hs) (fun s X Y row hs hg hr=>hJx s X Y (Bk.of_grown hg hr) hs) (fun pre x W1 hj hr hl=>?_) h0
 obtain⟨fn,tmps,assign,body,hr',hR⟩:=hY pre x W1 hj hr (by simp;omega)
 exact⟨fn,tmps,assign,body,hr',hR.mono fun e w' hq=>hq.imp (fun⟨h1,h2,h3,_⟩=>⟨h1,h2,h3⟩) (fun⟨h1,h2,_⟩=>⟨h1,h2⟩)⟩
def zql{α:Type}(S0:List Nat)(keep:TypeId→Bool)(B:Nat)(I:List α→Wl→Prop)(Ix:Code→List α→Wl→Prop)(xs:List α)(W:Wl):Exit→Fr→Wl→Prop
 |.normal,_,W'=>KeepsFrom B W W'∧Kr S0 keep B W W'∧I xs W'
 |.ret,_,W'=>KeepsFrom B W W'∧Ix .ret xs W'
 |.exit id,_,W'=>KeepsFrom B W W'∧Ix (.exit id) xs W'
 |_,_,_=>False
theorem KeepsFrom.chg{B:Nat}{T:List Nat}{W W':Wl}(hc:zl T W W')(hT:∀b∈T,∃e c,zK W b e c):KeepsFrom B W W':=
 ⟨hc.size,fun k o _ hk ho=>by
  refine(hc.block k (Array.getElem?_eq_some_iff.1 hk).1 fun hm=>?_).trans hk
  obtain⟨e,c,hb⟩:=hT k hm
  rw[show W.heap[k]? = _ from hb]at hk
  cases hk;cases ho⟩
section
variable {P:Program} {n:Nat} {Q:Exit→Fr→Wl→Prop} {F:Fr} {w:Wl}
theorem zqn{α:Type}{g:Operand}{ps:Array Tmp}{assign body:Code}{gf:FuncId}{lb:List Va}{encs:α→Array Va}{S0:List Nat}{keep:TypeId→Bool}{Rel:α→Wl→Prop}{Done Part:List α→Wl→Prop}{Go:List α→Prop}
 (I:List α→Wl→Prop) (Ix:Code→List α→Wl→Prop) (F1 Fx:α→Fr)
 (hg:ev F g=some (.func (.func gf) #[] lb.toArray)) (hb:zi P gf=true)
 (hseq:zy0 P gf lb.toArray encs S0 keep Rel Done Part Go w) (hps:∀x,(encs x).size=ps.size)
 (hRel:∀x W W',Bk w.heap.size W W'→Rel x W→Rel x W') (hDone:∀x W W',Bk w.heap.size W W'→Done x W→Done x W') (hPart:∀x W W',Bk w.heap.size W W'→Part x W→Part x W')
 (hI:∀pre W W',Bk w.heap.size W W'→I pre W→I pre W') (hIx:∀c pre W W',Bk w.heap.size W W'→Ix c pre W→Ix c pre W') (h0:I [] w) (hsz:∀pre W,I pre W→w.heap.size≤W.heap.size)
 (hF1:∀x a,Rep n F a→Rep n (F1 x) { tmps:=(ps.zip (encs x)).foldl (fun t (p,v)=>t.setIfInBounds p v) a.tmps,defers:=[] })
 (hasg:∀l x W,WX (some l) P n assign (fun e F' W'=>e=.normal∧F'=Fx x∧W'=W) (F1 x) W)
 (hbody:∀l pre x W,I pre W→Rel x W→Go (pre++[x])→WX (some l) P n body (zql S0 keep w.heap.size I Ix (pre++[x]) W) (Fx x) W)
 (hdone:∀(D:Nat) (xs:List α) (W:Wl),w.heap.size≤D→Done xs W→I xs W→W.heap[D]? = some (.deferred (some []))→Q .normal ((1000000,.int .i64 D)::F) W)
 (hstop:∀(D:Nat) (c:Code) (pre:List α) (W':Wl),w.heap.size≤D→Part pre W'→Ix c pre W'→W'.heap[D]? = some (.deferred (some []))→W P n c Q ((1000000,.int .i64 D)::F) W') :
 W P n (.rangeFunc g ps assign body) Q F w:=by
 intro a ha
 refine(wpIn_wide (n:=3)).1 ?_
 have eg:∀(args:Array Va) (w:Wl),(callFunc gf args).run P w=.ok (.enter gf args) w:=by
  intro args w
  unfold zi at hb
  split at hb
  ·rename_i fn hfn
   simp only[Bool.and_eq_true,Bool.not_eq_true']at hb
   have h1:¬ fn.body=none:=by cases hx:fn.body<;>simp_all
   have h2 : ¬ fn.name = "runtime.NumGoroutine" := by simpa using hb.2
   simp[callFunc,hfn,h1,h2]
  simp at hb
 refine wpIn_rangeFunc ?_
 intro fn hfn
 generalize hB:w.heap.size=B at *
 generalize hrec:(fun(st:LoopState) (pe:Option Code)=>({ state:=st,pending:=pe,fn,tmps:=a.tmps,params:=ps,assign,body,defers:=B }:Loop))=rec
 have hrp:∀st pe,(rec st pe).params=ps∧(rec st pe).fn=fn∧(rec st pe).tmps=a.tmps∧(rec st pe).assign=assign∧(rec st pe).body=body∧(rec st pe).state=st∧(rec st pe).pending=pe:=fun st pe=>by rw[←hrec];exact⟨rfl,rfl,rfl,rfl,rfl,rfl,rfl⟩
 have hst:∀st pe st',({ rec st pe with state:=st' }:Loop)=rec st' pe:=fun st pe st'=>by rw[←hrec]
 have hst2:∀st pe st' pe',({ rec st pe with state:=st',pending:=pe' }:Loop)=rec st' pe':=fun st pe st' pe'=>by rw[←hrec]
 generalize hWa:w.alloc (.deferred (some []))=Wa
 have hca:zl [] w Wa:=hWa▸zl.alloc [] w _
 have hsa:Wa.heap.size=B+1:=by rw[←hWa,←hB];simp
 have hda:Wa.heap[B]? = some (.deferred (some [])):=by rw[←hWa,←hB];exact heap_alloc_new w _
 generalize hW1:Wa.alloc (.loop (rec .ready none))=W1
 have hc1:zl [] Wa W1:=hW1▸zl.alloc [] Wa _
 have hl1:W1.heap[B+1]? = some (.loop (rec .ready none)):=by rw[←hW1,←hsa];exact heap_alloc_new Wa _
 have hd1:W1.heap[B]? = some (.deferred (some [])):=(hc1.block B (by omega) (by simp)).trans hda
 have hw1:zl [] w W1:=hca.trans hc1
 have hs1:W1.heap.size=B+2:=by rw[←hW1];simp[hsa]
 have bk0:∀{X Y:Wl},zl [] X Y→Bk B X Y:=fun h=>⟨[],by simp,h⟩
 have bkp:∀{X:Wl} {l:Nat} {o:Obj} (o':Obj),B≤l→X.heap[l]? = some o→o.isCells=false∧zm8 o=false→BkL B X (X.putObj l o'):=fun {X l o} o' hl ho hn=>⟨[l],by intro b hb;simp at hb;subst hb;exact⟨hl,o,ho,hn.1,hn.2⟩,zl.put X l o'⟩
 refine⟨B+1,[{ target:=.collected B,args := #[] }],W1,{ target:=.fn (.func gf) lb.toArray,args := #[.func (.yield (B+1)) #[] #[]] },W1,gf,
  #[.func (.yield (B+1)) #[] #[]]++lb.toArray,W1,?_,?_,?_,?_,fun _=>by omega,?_⟩
 ·rw[←hW1,←hWa,←hrec,←hB]
  exact run_enterLoop_outer _ _ _ _ _
 ·simp only[resolve,ha.eval hg]
  simp[go_sem]
 ·intro f' hf'
  simp[Target.leads]at hf'
  trivial
 ·simp[invoke,go_sem,eg]
 refine(hseq (B+1) (fun pre W=>I pre W∧W.heap[B+1]? = some (.loop (rec .ready none))∧W.heap[B]? = some (.deferred (some [])))
  (fun pre W=>∃c,Ix c pre W∧W.heap[B+1]? = some (.loop (rec .done (some c)))∧W.heap[B]? = some (.deferred (some []))) W1 hw1
  (fun s X Y hb hs=>⟨hI s X Y (hb.low (by omega)) hs.1,hb.same (by omega) hs.2.1,hb.same (by omega) hs.2.2⟩)
  (fun s X Y hb hs=>by obtain⟨c,h1,h2,h3⟩:=hs;exact⟨c,hIx c s X Y (hb.low (by omega)) h1,hb.same (by omega) h2,hb.same (by omega) h3⟩)
  ?_ ⟨hI [] w W1 (bk0 hw1) h0,hl1,hd1⟩).mono ?_
 ·rintro pre x X ⟨hi,hl,hd⟩ hr hlen
  have hX:=hsz pre X hi
  have hlt:=(Array.getElem?_eq_some_iff.1 hl).1
  have hy:=run_yield (P:=P) (args:=encs x) hl (by rw[(hrp _ _).1];exact hps x)
  rw[(hrp .ready none).1,(hrp .ready none).2.1,(hrp .ready none).2.2.1,(hrp .ready none).2.2.2.1,(hrp .ready none).2.2.2.2.1]at hy
  refine⟨fn,_,assign,body,hy,roundIn_of_wpIn hfn ?_⟩
  refine wpIn_mono (hasg (B+1) x X _ (hF1 x a ha)) ?_
  rintro e a' X'⟨F',hrep,rfl,rfl,rfl⟩
  have hbg:=run_beginRound (P:=P) hl (hrp _ _).2.2.2.2.2.1
  rw[hst]at hbg
  refine⟨_,hbg,?_⟩
  have hl2:(X'.putObj (B+1) (.loop (rec .busy none))).heap[B+1]? = some (.loop (rec .busy none)):=World.putObj_heap_same hlt
  have hd2:(X'.putObj (B+1) (.loop (rec .busy none))).heap[B]? = some (.deferred (some [])):=(World.putObj_heap_other (by omega)).trans hd
  have hbk:=bkp (X:=X') (.loop (rec .busy none)) (show B≤B+1 by omega) hl ⟨rfl,rfl⟩
  have hKY:KeepsFrom (B+2) X' (X'.putObj (B+1) (.loop (rec .busy none))):=KeepsFrom.put (by omega)
  generalize hY:X'.putObj (B+1) (.loop (rec .busy none))=Y at *
  have hYs:B≤Y.heap.size:=by obtain⟨T,_,hc⟩:=hbk;exact Nat.le_trans hX hc.size
  refine wpIn_mono (hbody (B+1) pre x Y (hI pre X' Y hbk.bk hi) (hRel x X' Y hbk.bk hr) hlen _ hrep) ?_
  have fin:∀(jump:Option Code) (Z:Wl),KeepsFrom B Y Z→∃Z',(Instr.endRound (B+1) jump).run P Z=.ok (.bool jump.isNone) Z'∧BkL B Z Z'∧KeepsFrom (B+2) Z Z' ∧
   Z'.heap[B+1]? = some (.loop (rec (if jump.isNone then .ready else .done) jump))∧Z'.heap[B]? = some (.deferred (some [])):=fun jump Z hk=>by
   have hl3:=hk.same (B+1) _ (by omega) hl2 rfl
   have hd3:=hk.same B _ (Nat.le_refl _) hd2 rfl
   have he:=run_endRound (P:=P) jump hl3
   rw[hst2]at he
   exact⟨_,he,bkp _ (by omega) hl3 ⟨rfl,rfl⟩,KeepsFrom.put (by omega),World.putObj_heap_same (Array.getElem?_eq_some_iff.1 hl3).1,(World.putObj_heap_other (by omega)).trans hd3⟩
  rintro e a1 Z⟨F2,hr2,hq⟩
  cases e<;>simp only[zql]at hq
  case normal=>
   obtain⟨hk,hkr,hi3⟩:=hq
   obtain⟨Z',he,hb',hkz,hl',hd'⟩:=fin none Z hk
   exact⟨_,_,he,.inl ⟨rfl,⟨hI _ _ _ hb'.bk hi3,hl',hd'⟩,by rw[hB];exact((Kr.bk hbk hX).trans hkr).trans (Kr.bk hb' (Nat.le_trans hYs hkr.size)),by rw[hs1];exact(hKY.trans (KeepsFrom.up hk (by omega))).trans hkz⟩⟩
  case ret=>
   obtain⟨hk,hi3⟩:=hq
   obtain⟨Z',he,hb',hkz,hl',hd'⟩:=fin (some .ret) Z hk
   exact⟨_,_,he,.inr ⟨rfl,⟨.ret,hIx _ _ _ _ hb'.bk hi3,hl',hd'⟩,by rw[hs1];exact(hKY.trans (KeepsFrom.up hk (by omega))).trans hkz⟩⟩
  case exit id=>
   obtain⟨hk,hi3⟩:=hq
   obtain⟨Z',he,hb',hkz,hl',hd'⟩:=fin (some (.exit id)) Z hk
   exact⟨_,_,he,.inr ⟨rfl,⟨.exit id,hIx _ _ _ _ hb'.bk hi3,hl',hd'⟩,by rw[hs1];exact(hKY.trans (KeepsFrom.up hk (by omega))).trans hkz⟩⟩
 rintro e X⟨⟨v,rfl⟩,(⟨xs,hS,hi,hl,hd⟩|⟨pre,hS,c,hi,hl,hd⟩)⟩
 ·have he:=run_endLoop (P:=P) hl (by rw[(hrp _ _).2.2.2.2.2.1];simp)
  rw[hst,(hrp _ _).2.2.2.2.2.2]at he
  have hbk:=bkp (X:=X) (.loop (rec .exhausted none)) (show B≤B+1 by omega) hl ⟨rfl,rfl⟩
  exact⟨none,_,he,_,ha.mark B,hdone B xs _ (Nat.le_refl _) (hDone _ _ _ hbk.bk hS) (hI _ _ _ hbk.bk hi) ((World.putObj_heap_other (by omega)).trans hd)⟩
 have he:=run_endLoop (P:=P) hl (by rw[(hrp _ _).2.2.2.2.2.1];simp)
 rw[hst,(hrp _ _).2.2.2.2.2.2]at he
 have hbk:=bkp (X:=X) (.loop (rec .exhausted (some c))) (show B≤B+1 by omega) hl ⟨rfl,rfl⟩
 exact⟨some c,_,he,wpIn_wide.2 (hstop B c pre _ (Nat.le_refl _) (hPart _ _ _ hbk.bk hS) (hIx _ _ _ _ hbk.bk hi) ((World.putObj_heap_other (by omega)).trans hd) _ (ha.mark B))⟩
theorem zmb{α:Type}{g:Operand}{ps:Array Tmp}{assign body:Code}{gf:FuncId}{lb:List Va}{encs:α→Array Va}{S0:List Nat}{keep:TypeId→Bool}{Rel:α→Wl→Prop}{Done Part:List α→Wl→Prop}{N:Nat}
 (I:List α→Wl→Prop) (Ix:Code→List α→Wl→Prop) (F1 Fx:α→Fr)
 (hg:ev F g=some (.func (.func gf) #[] lb.toArray)) (hb:zi P gf=true)
 (hseq:zq5 P gf lb.toArray encs S0 keep Rel Done Part N w) (hps:∀x,(encs x).size=ps.size)
 (hRel:∀x W W',Bk w.heap.size W W'→Rel x W→Rel x W') (hDone:∀x W W',Bk w.heap.size W W'→Done x W→Done x W') (hPart:∀x W W',Bk w.heap.size W W'→Part x W→Part x W')
 (hI:∀pre W W',Bk w.heap.size W W'→I pre W→I pre W') (hIx:∀c pre W W',Bk w.heap.size W W'→Ix c pre W→Ix c pre W') (h0:I [] w) (hsz:∀pre W,I pre W→w.heap.size≤W.heap.size)
 (hF1:∀x a,Rep n F a→Rep n (F1 x) { tmps:=(ps.zip (encs x)).foldl (fun t (p,v)=>t.setIfInBounds p v) a.tmps,defers:=[] })
 (hasg:∀l x W,WX (some l) P n assign (fun e F' W'=>e=.normal∧F'=Fx x∧W'=W) (F1 x) W)
 (hbody:∀l pre x W,I pre W→Rel x W→pre.length<N→WX (some l) P n body (zql S0 keep w.heap.size I Ix (pre++[x]) W) (Fx x) W)
 (hdone:∀(D:Nat) (xs:List α) (W:Wl),w.heap.size≤D→Done xs W→I xs W→W.heap[D]? = some (.deferred (some []))→Q .normal ((1000000,.int .i64 D)::F) W)
 (hstop:∀(D:Nat) (c:Code) (pre:List α) (W':Wl),w.heap.size≤D→Part pre W'→Ix c pre W'→W'.heap[D]? = some (.deferred (some []))→W P n c Q ((1000000,.int .i64 D)::F) W') :
 W P n (.rangeFunc g ps assign body) Q F w:=
 zqn I Ix F1 Fx hg hb hseq.toN hps hRel hDone hPart hI hIx h0 hsz hF1 hasg (fun l pre x W h1 h2 h3=>hbody l pre x W h1 h2 (by simp at h3;omega)) hdone hstop
end
section
variable {P:Program} {n:Nat} {F:Fr} {w:Wl} {d:Tmp} {dst:Option Tmp} {ty t t2 u e:TypeId} {by':Nat} {z:Va} {pos:String} {af:Array Edge} {gd:Option (Nat×Bool)} {K:Fr→Wl→Prop}
theorem zos{x:Operand}{t:TypeId}{m k b off:Nat}(hs:zlk P t=some (m,e))(hk:yR P e=some k)(hx:ev F x=some (.pointer (some ⟨b,off,none⟩))) :
 Vl P n F ⟨dst,.slice t x none none none,ty,pos,af,gd⟩ w (.slice (some ⟨b,off,none⟩) m m) w:=by
 intro a ha
 by_cases h0:m=0
 ·subst h0
  simp[execOp,Instr.sliceAt,Instr.sureAddr,Instr.slice,Instr.sliceBounds,Instr.sliceBound,ha.eval hx,run_underlying (zgP hs),zU hk,asAddr]
 simp[execOp,Instr.sliceAt,Instr.sureAddr,Instr.slice,Instr.sliceBounds,Instr.sliceBound,ha.eval hx,run_underlying (zgP hs),zU hk,asAddr,h0,Addr.add_lit]
theorem zaA.of_blk{w:Wl}{e b:Nat}{cs:List Va}(hb:zK w b e cs)(hl:cs.length≤maxLen)(h1:∀u∈cs,u.oneCell'=true):zaA w e 1 (.slice (some ⟨b,0,none⟩) cs.length cs.length) cs.length cs:=
 .inr ⟨b,0,cs.length,cs,(0,0),rfl,hb,Nat.le_refl _,hl,by omega,by simp,h1⟩
theorem zrj{t2 e':TypeId}{k:Nat}(hs:za3 P t=some e)(hk:yR P e=some k){x y:Operand}{v:Va}{b off dl dc m c:Nat}{cs ys:List Va}(hx:ev F x=some (.slice (some ⟨b,off,none⟩) dl dc))(hy:ev F y=some v)(hv:zaA w e k v m ys)
 (hb:zK w b e' cs) (hc:min m dl=c) (hl:off+c*k≤cs.length) (hn:Nat.blt d n=true)
 (h:∀w',w'.heap.size=w.heap.size→zl [b] w w'→zK w' b e' (yF cs off (ys.take (c*k)))→K ((d,.int .i64 c)::F) w') :
 St P n F ⟨some d,.call { callee:=.builtin .copy,args := #[x,y],argTypes := #[t,t2] },ty,pos,af,gd⟩ w K:=by
 subst hc
 have hly:=hv.len_xs
 have hle:min m dl*k≤m*k:=Nat.mul_le_mul_right _ (Nat.min_le_left _ _)
 have hlt:(ys.take (min m dl*k)).length=min m dl*k:=by rw[List.length_take];omega
 have hone:∀u∈ys.take (min m dl*k),u.oneCell'=true:=fun u hu=>hv.one_xs u (List.mem_of_mem_take hu)
 have hst:=zcd (P:=P) (off:=off) (vs:=ys.take (min m dl*k)) hb (by rw[hlt];exact hl) hone
 have hlo:(Builtin.lenOf v).run P w=.ok m w:=by
  obtain⟨p,c,rfl,_⟩:=hv.val
  simp[Builtin.lenOf]
 refine St.vl (v:=.int .i64 (min m dl:Nat)) (w':=w.setRow b (yF cs off (ys.take (min m dl*k))).toArray) ?_ U hn (h _ (by simp[World.setRow]) (zl.row _ _ _) (hb.row _))
 intro a ha
 have hfirst:(Builtin.firstCells k (min m dl) v).run P w=.ok (ys.take (min m dl*k)).toArray w:=by
  obtain⟨p,c,rfl,_⟩:=hv.val
  rcases id hv with⟨he,rfl,rfl⟩|⟨b',off',cap',c',fr,he,_⟩
  ·simp only[Value.slice.injEq]at he
   obtain⟨rfl,_,_⟩:=he
   simp[Builtin.firstCells]
  simp only[Value.slice.injEq]at he
  obtain⟨rfl,_,rfl⟩:=he
  have hcs:=hv.cells
  refine run_firstCells_some w k (min m dl) ⟨b',off',none⟩ m c _ hlt (fun j u hu=>?_)
  rw[Addr.add_lit]
  rw[List.getElem?_take]at hu
  split at hu
  ·exact hcs j u hu
  cases hu
 simp[execOp,resolve,invoke,builtin,Builtin.copy_,ha.eval hx,ha.eval hy,run_underlying (yf hs),zU hk,hlo,hfirst,hst,goInt]
theorem zmI{e2 e':TypeId}{k:Nat}(A:App P t e k by' z)(ht2:za3 P t2=some e2){x y:Operand}{v s:Va}{l m:Nat}{xs ys:List Va}(hx:ev F x=some v)(hy:ev F y=some s)(hv:zw w e k v l xs)(hs:zaA w e' k s m ys)(h63:l+m≤maxLen)(hbytes:(l+m)*by'≤140737488355328)
 (hn:Nat.blt d n=true) (h:∀v' w',zw w' e k v' (l+m) (xs++ys)→zl (zq v) w w'→(zq v'=zq v∨∃b,zq v'=[b]∧w.heap.size≤b)→(v'=.slice none 0 0↔v=.slice none 0 0∧m=0)→K ((d,v')::F) w') :
 St P n F ⟨some d,.call { callee:=.builtin .append,args := #[x,y],argTypes := #[t,t2] },ty,pos,af,gd⟩ w K:=by
 obtain⟨v',w',hr,h1,h2,h3,h4⟩:=zfg (ty:=ty) (s:=s) (m:=m) (ys:=ys) A (yf ht2) (.inl ⟨_,rfl⟩) hv hs.len_xs hs.one_xs (by
  obtain⟨p,c,rfl,_⟩:=hs.val
  simp[Builtin.lenOf])
  (fun w1 h1=>by
   have hs1:zaA w1 e' k s m ys:=by
    rcases hs with hs|⟨b,off,cap,c,fr,rfl,hs⟩
    ·exact .inl hs
    exact .inr ⟨b,off,cap,c,fr,rfl,by rw[h1];exact hs⟩
   have hl:=hs1.len_xs
   obtain⟨p,c,rfl,_⟩:=hs1.val
   rcases id hs1 with⟨he,rfl,rfl⟩|⟨b',off',cap',c',fr,he,_⟩
   ·simp only[Value.slice.injEq]at he
    obtain⟨rfl,_,_⟩:=he
    simp[Builtin.firstCells]
   simp only[Value.slice.injEq]at he
   obtain⟨rfl,_,rfl⟩:=he
   exact run_firstCells_some w1 k m ⟨b',off',none⟩ m c _ hl (fun j u hu=>by rw[Addr.add_lit];exact hs1.cells j u hu)) h63 hbytes
 refine St.vl (v:=v') (w':=w') ?_ U hn (h v' w' h1 h2 h3 h4)
 intro a ha
 simp[execOp,resolve,invoke,builtin,ha.eval hx,ha.eval hy,hr]
end
section
variable {ρ:Option Nat} {P:Program} {ops:Array Oper} {C:Wl→Prop}
theorem zp1{o:Oper}(h:kd o≠3):zjW o=false:=by
 cases hd:zjW o with
 |false=>rfl
 |true=>
  exfalso
  apply h
  unfold zjW at hd
  split at hd
  ·rename_i d he
   unfold kd
   rw[he]
  cases hd
theorem zf1{Q:Act→Wl→Prop}{Q':Exit→Act→Wl→Prop}(hQ:∀a w,Q a w→Q' .normal a w):∀(f:Nat) (listed:Array Bool) (a:Act) (w:Wl),zda ops listed→(C w∨zhy ops listed) →
 aT P ops C Q f listed a w→wpAnyIn (fz ρ) 1 P .any ops Q' f listed a w
 |0,_,_,_,_,_,h=>⟨h.1,hQ _ _ h.2⟩
 |f+1,listed,a,w,hc,hw,h=>by
  refine⟨fun h0=>hQ _ _ (h.1 h0),fun i hi=>?_⟩
  have h1:=h.2 i hi
  have ih:=fun a' w' hw'=>zf1 (Q:=Q) (Q':=Q') hQ f (listed.setIfInBounds i true) a' w' (hc.set hi) hw'
  have hw':C w∨zhy ops (listed.setIfInBounds i true):=hw.imp id (fun h=>h.set i)
  unfold tOp at h1
  unfold wpOpIn
  cases ho:ops[i]? with
  |none=>simp only[ho]at h1 ⊢;exact ih _ _ hw' h1
  |some o=>
   simp only[ho]at h1 ⊢
   split at h1
   ·rename_i hwd
    rw[if_pos hwd]
    have val:∀v,(execOp a.eval o).run P w=.ok (.value v) w→aT P ops C Q f (listed.setIfInBounds i true) (a.put o.dst v) w→kd o≠3→o.wpIn (fz ρ) 1 P a w (wpAnyIn (fz ρ) 1 P .any ops Q' f (listed.setIfInBounds i true)) Q':=fun v e hk h3=>by
     have hwp:o.wp P a w (fun a' w'=>a'=a.put o.dst v∧w'=w) (fun _ _ _=>False):=by
      unfold Oper.wp
      rw[e]
      exact⟨U,U⟩
     exact zge (zp1 h3) hwp (by rintro a' w' ⟨rfl,rfl⟩;exact ih _ _ hw' hk)
    unfold tAt at h1
    split at h1
    ·rename_i hk0
     obtain⟨v,hv,hk⟩:=h1
     exact val v (hv w) hk (by omega)
    ·rename_i hk1
     obtain⟨v,hv,hk⟩:=h1
     have hCw:C w:=by
      rcases hw with hw|hw
      ·exact hw
      have:=hw i o ho hk1
      have h0:=(mem_ready.1 hi).1
      rw[this]at h0
      cases h0
     exact val v (hv w hCw) hk (by omega)
    ·rename_i hk2
     exact zge (zp1 (by omega)) h1 (by rintro a' w' ⟨q1,_,q3⟩;exact ih _ _ (q1.imp id fun hf=>zmk hf hc hi) q3)
    exact h1.elim
   rename_i hwd
   rw[if_neg hwd]
   exact⟨fun _ _=>trivial,ih _ _ hw' h1⟩
theorem zjg{id:Nat}{Q:Act→Wl→Prop}{Q':Exit→Act→Wl→Prop}{a:Act}{w:Wl}(hQ:∀a w,Q a w→Q' .normal a w)(hm:P.follows .mixedOrders=true)(hB:tOk ops=true)(hC:C w.drew)
 (h:wpT P ops C Q 0 ops.toList a w.drew):(Code.region id ops true).wpIn (fz ρ) 1 P Q' a w:=by
 refine wpIn_region_any hm ?_
 have:=zhe (P:=P) (Q:=Q) hB hC ops.toList 0 (Array.replicate ops.size false) a w.drew (by simp) (by simp) (by simp) (fun j hj=>by simp[hj]) h
 refine zf1 (C:=C) hQ _ _ _ _ ?_ (.inl hC) (by simpa using this)
 intro j oj hj hl
 have hjlt:=(Array.getElem?_eq_some_iff.1 hj).1
 simp[hjlt]at hl
end
section
variable {ρ:Option Nat} {P:Program} {n:Nat} {Q:Exit→Fr→Wl→Prop} {F:Fr} {w:Wl}
theorem zqQ(C:Wl→Prop){id:Nat}{l:List Oper}(hm:P.follows .mixedOrders=true)(hB:tOk l.toArray=true)(hC:C w.drew)(h:T P n l.toArray C Q 0 l F w.drew):WX ρ P n (.region id l.toArray true) Q F w:=
 fun a ha=>zjg (C:=C) (Q:=fun a w=>∃F,Rep n F a∧Q .normal F w) (fun _ _ h=>h) hm hB hC (by simpa using h a ha)
end
theorem Rep.vars1{n:Nat}{F F1:Fr}{a:Act}(h:Rep n F a){p:Nat}{u:Va}(hp:Nat.blt p n=true)(hF:(p,u)::Wk.nomark F=F1) :
 Rep n F1 { tmps:=((#[p]:Array Tmp).zip #[u]).foldl (fun t (p,v)=>t.setIfInBounds p v) a.tmps,defers:=[] }:=by
 subst hF
 have:=h.nomark.put hp u
 simpa[Act.put] using this
section
variable {ρ:Option Nat} {P:Program} {n:Nat} {Q:Exit→Fr→Wl→Prop} {F:Fr} {w:Wl}
theorem zwg{c:Code}{Q':Exit→Fr→Wl→Prop}(h:WX ρ P n c Q F w)(hq:∀e F w,Q e F w→Q' e F w):WX ρ P n c Q' F w:=
 fun a ha=>wpIn_mono (h a ha) fun e a w ⟨F,hr,hQ⟩=>⟨F,hr,hq e F w hQ⟩
theorem zpR{x y:Code}(M:Fr→Wl→Prop)(h:WX ρ P n x (zaK M Q) F w)(h2:∀F' w',M F' w'→WX ρ P n y Q F' w'):WX ρ P n (.seq x y) Q F w:=
 zfw (zwg h fun e F w hq=>by
  cases e with
  |normal=>exact h2 F w hq
  |_=>exact hq)
end
def zlO(pl:Nat→Option (Nat×Nat)):List Va→List (Nat×Va)→List (List Va)→Option (List Va)
 |c,[],[]=>some c
 |c,(i,_)::r,s::ss=>match pl i with
  |some (o,z)=>if Nat.beq z s.length && Nat.ble (o+z) c.length then zlO pl (yF c o s) r ss else none
  |none=>none
 |_,_,_=>none
theorem zmu(place:Nat→Option (Nat×Nat)):∀(qs:List (Nat×Va)) (css:List (List Va)) (c cs:List Va),zf4 (qs.map (·.2)) css→zlO place c qs css=some cs→Instr.fill place c.toArray qs=some cs.toArray
 |[],[],c,cs,_,h=>by simp[zlO]at h;subst h;simp[Instr.fill]
 |[],_::_,_,_,h,_=>h.elim
 |_::_,[],_,_,h,_=>h.elim
 |(i,v)::r,s::ss,c,cs,h,hf=>by
  obtain⟨hv,hr⟩:=h
  unfold zlO at hf
  simp only[Instr.fill]
  cases hpl:place i with
  |none=>simp[hpl]at hf
  |some oz=>
   obtain⟨o,z⟩:=oz
   simp only[hpl]at hf
   split at hf
   ·rename_i hc
    simp only[Bool.and_eq_true]at hc
    have e2:z=s.length:=Nat.eq_of_beq_eq_true hc.1
    have hle:=Nat.le_of_ble_eq_true hc.2
    subst e2
    simp only at hv
    simp only[hv,List.size_toArray]
    rw[if_neg (by simp;omega)]
    have hfs:=zkU s 0 o c.toArray (by simp;omega)
    simp only[Nat.add_zero]at hfs
    have hz:s.toArray.zipIdx=(s.zipIdx 0).toArray:=by simp
    rw[hz,List.foldl_toArray',hfs]<;>try simp
    exact zmu place r ss _ cs hr hf
   cases hf
section
variable {P:Program} {n:Nat} {F:Fr} {w:Wl} {dst:Option Tmp} {ty:TypeId} {pos:String} {af:Array Edge} {gd:Option (Nat×Bool)}
theorem zbP{t:TypeId}{pl:List (Nat×Nat)}{z:Va}{zc:List Va}{parts:List (Nat×Operand)}{qs:List (Nat×Va)}{css:List (List Va)}{cs:List Va}(hpl:zdh P t=some pl)(hz:zaa P t=some z)(hzc:z.cells=zc.toArray)
 (hp:zf6 F parts=some qs) (hc:zf4 (qs.map (·.2)) css) (hcs:zlO (pl[·]?) zc qs css=some cs) :
 Vl P n F ⟨dst,.build t parts.toArray,ty,pos,af,gd⟩ w (.agg cs.toArray) w:=by
 intro a ha
 unfold zdh at hpl
 split at hpl
 ·rename_i fs hu
  have hpl':=zgd (w:=w) fs.toList pl hpl
  have hm:(fs.mapM (fun f=>do pure (f.offset,←sizeOf f.type):Field→Sem (Nat×Nat))).run P w=.ok pl.toArray w:=by
   rw[Array.mapM_eq_mapM_toList]
   simp only[Sem.run_map,hpl',Result.andThen_ok]
  have hfill:=zmu (pl[·]?) qs css zc cs hc hcs
  have hev:=ha.evals2 parts _ hp
  have hget:(fun i:Nat=>pl.toArray[i]?)=(fun i:Nat=>pl[i]?):=by funext i;simp
  have hpm:(parts.toArray.map fun(i,x)=>(i,a.eval x)).toList=qs:=by rw[←hev];simp
  simp only[execOp,Instr.build,Sem.run_bind,zbE hz,Result.andThen_ok,run_underlying hu,hm,hpm,hzc,hget,hfill,Sem.run_pure]
 simp at hpl
end
section
variable {P:Program} {fn:Func} {R:Va→Wl→Prop} {n:Nat} {F:Fr} {w:Wl}
theorem zpw{D:Nat}(hm:yU F=[mkD D])(hD:w.heap[D]? = some (.deferred (some [])))
 (h:∀w',zl [D] w w'→∃v,(∀a,Rep n F a→(results fn a.tmps).run P w'=.ok v w')∧R v w'):zjs P fn R n .ret F w:=by
 obtain⟨v,h1,h2⟩:=h _ (zl.put w D (.deferred none))
 exact⟨v,_,by rw[hm];exact⟨D,rfl,hD,rfl⟩,h1,h2⟩
theorem zvk{t u D:Nat}{v y:Va}(hr:fn.results = #[.tmp t,.tmp u])(hv:get F t=some v)(hy:get F u=some y)(hm:yU F=[mkD D])(hD:w.heap[D]? = some (.deferred (some [])))
 (h:∀w',zl [D] w w'→R (.tuple #[v,y]) w'):zjs P fn R n .ret F w:=
 zpw hm hD fun w' hc=>⟨_,fun a ha=>by simp[results,hr,ha.get t _ hv,ha.get u _ hy],h w' hc⟩
end
def zme(ms:List Nat):List Edge→Nat
 |[]=>0
 |e::r=>(if Region.binds .any e then (ms.getD e.on 0) ||| (1 <<< e.on) else 0) ||| zme ms r
def zor:List Oper→List Nat→List Nat
 |[],ms=>ms
 |o::r,ms=>zor r (ms++[zme ms o.after.toList])
def zrM(ms:List Nat)(j i:Nat):Bool:=Nat.testBit (ms.getD j 0) i
def zyj(ops:List Oper)(ms:List Nat):Bool:=(List.range ops.length).all fun i=>match ops[i]? with
 |none=>true
 |some oi=>kd oi != 3 && oi.after.all (fun e => !Region.binds .any e || Nat.blt e.on i) && (List.range ops.length).all fun j=>Nat.ble j i || (match ops[j]? with
  |none=>true
  |some oj=>zrM ms j i || (oi.apart ops.toArray oj && !(kd oi == 2 && kd oj == 2)))
theorem zk9{ops:Array Oper}:∀(f j i:Nat),zch ops f j i=true→zch ops (f+1) j i=true
 |0,_,_,h=>by simp[zch]at h
 |f+1,j,i,h=>by
  unfold zch at h ⊢
  cases hj:ops[j]? with
  |none=>simp[hj]at h
  |some oj=>
   simp only[hj,Bool.or_eq_true]at h ⊢
   rcases h with h|h
   ·exact .inl h
   obtain⟨e,he,hb⟩:=Array.any_eq_true'.1 h
   simp only[Bool.and_eq_true]at hb
   exact .inr (Array.any_eq_true'.2 ⟨e,he,by simp only[Bool.and_eq_true];exact⟨hb.1,zk9 f e.on i hb.2⟩⟩)
theorem zkQ{ops:Array Oper}{f g j i:Nat}(h:zch ops f j i=true)(hle:f≤g):zch ops g j i=true:=by
 induction g with
 | zero => have:f=0:=by omega
           subst this;exact h
 |succ g ih=>
  rcases Nat.lt_or_ge g f with hl|hl
  ·have:f=g+1:=by omega
   subst this;exact h
  exact zk9 _ _ _ (ih hl)
def zwV(ops:Array Oper)(ms:List Nat):Prop:=∀j i,Nat.testBit (ms.getD j 0) i=true→zch ops (j+1) j i=true
theorem zjt{ms:List Nat}{i:Nat}:∀{l:List Edge},Nat.testBit (zme ms l) i=true→∃e∈l,Region.binds .any e=true∧(Nat.testBit (ms.getD e.on 0) i=true∨e.on=i)
 |[],h=>by simp[zme]at h
 |e::r,h=>by
  unfold zme at h
  rw[Nat.testBit_or,Bool.or_eq_true]at h
  rcases h with h|h
  ·by_cases hb:Region.binds .any e=true
   ·rw[if_pos hb,Nat.testBit_or,Bool.or_eq_true]at h
    refine⟨e,by simp,hb,?_⟩
    rcases h with h|h
    ·exact .inl h
    rw[Nat.one_shiftLeft,Nat.testBit_two_pow]at h
    exact .inr (of_decide_eq_true h)
   rw[if_neg hb]at h;simp at h
  obtain⟨e',he,h1⟩:=zjt h
  exact⟨e',by simp[he],h1⟩
theorem zih{ops:Array Oper}:∀(l:List Oper) (ms:List Nat),(∀k,l[k]? = ops[ms.length+k]?)→zwV ops ms→zwV ops (zor l ms)
 |[],ms,_,h=>h
 |o::r,ms,hl,h=>by
  refine zih r _ (fun k=>?_) ?_
  ·have:=hl (k+1)
   simp only[List.length_append,List.length_cons,List.length_nil]
   rw[show ms.length+(0+1)+k=ms.length+(k+1) by omega,←this]
   simp
  intro j i hb
  rcases Nat.lt_or_ge j ms.length with hj|hj
  ·rw[List.getD_eq_getElem?_getD,List.getElem?_append_left hj,←List.getD_eq_getElem?_getD]at hb
   exact h j i hb
  by_cases hje:j=ms.length
  ·subst hje
   have ho:ops[ms.length]? = some o:=by have:=hl 0;simp at this;exact this.symm
   rw[List.getD_eq_getElem?_getD,List.getElem?_append_right (Nat.le_refl _)]at hb
   simp at hb
   obtain⟨e,he,h1,h2⟩:=zjt hb
   have he':e∈o.after:=by simpa using he
   unfold zch
   simp only[ho,Bool.or_eq_true]
   rcases h2 with h2|h2
   ·have hlt:e.on<ms.length:=by
     rcases Nat.lt_or_ge e.on ms.length with hh|hh
     ·exact hh
     rw[List.getD_eq_getElem?_getD,List.getElem?_eq_none hh]at h2;simp at h2
    refine .inr (Array.any_eq_true'.2 ⟨e,he',?_⟩)
    simp only[Bool.and_eq_true]
    exact⟨h1,zkQ (h e.on i h2) (by omega)⟩
   refine .inl (Array.any_eq_true'.2 ⟨e,he',?_⟩)
   simp only[Bool.and_eq_true,beq_iff_eq]
   exact⟨h1,h2⟩
  rw[List.getD_eq_getElem?_getD,List.getElem?_eq_none (by simp;omega)]at hb
  simp at hb
theorem zo3{l:List Oper}{j i:Nat}(hj:j<l.length)(h:zrM (zor l []) j i=true):zch l.toArray l.toArray.size j i=true:=by
 have hg:=zih (ops:=l.toArray) l [] (fun k=>by simp) (fun j i hb=>by simp at hb)
 exact zkQ (hg j i h) (by simp;omega)
theorem zf9{l:List Oper}(h:zyj l (zor l [])=true):tOk l.toArray=true:=by
 unfold tOk
 unfold zyj at h
 rw[List.all_eq_true]at h ⊢
 intro i hi
 have hi':i∈List.range l.length:=by simpa using hi
 have h1:=h i hi'
 have e:l.toArray[i]? = l[i]? := by simp
 rw[e]
 cases ho:l[i]? with
 |none=>rfl
 |some oi=>
  rw[ho]at h1
  simp only[Bool.and_eq_true]at h1 ⊢
  refine⟨h1.1,?_⟩
  have h2:=h1.2
  rw[List.all_eq_true]at h2 ⊢
  intro j hj
  have hj':j∈List.range l.length:=by simpa using hj
  have h3:=h2 j hj'
  simp only[Bool.or_eq_true]at h3 ⊢
  rcases h3 with h3|h3
  ·exact .inl h3
  refine .inr ?_
  unfold ziD
  have e':l.toArray[j]? = l[j]? := by simp
  rw[e']
  cases hoj:l[j]? with
  |none=>rfl
  |some oj=>
   rw[hoj]at h3
   simp only[Bool.or_eq_true]at h3 ⊢
   rcases h3 with h3|h3
   ·exact .inl (zo3 (List.mem_range.1 hj') h3)
   exact .inr h3
theorem pi2{α β:Type}{a c:α}{b d:β}(h:(a,b)=(c,d)):a=c∧b=d:=Prod.mk.inj h
section
variable {P:Program} {n:Nat} {Q:Exit→Fr→Wl→Prop} {K:Fr→Wl→Prop} {C:Wl→Prop} {F:Fr} {w w':Wl} {ops:Array Oper} {rest:List Oper} {op:Op} {ty t e:TypeId} {pos:String} {af:Array Edge} {d j q:Nat} {v:Va} {x y c:Operand} {k:Nat} {ρ:Option Nat} {b b':Bool}
theorem Og(hv:Vl P n F ⟨some d,op,ty,pos,af,none⟩ w v w')(hn:Nat.blt d n=true)(h:O P n ops Q rest ((d,v)::F) w'):O P n ops Q (⟨some d,op,ty,pos,af,none⟩::rest) F w:=zy (gn rfl) (St.vl hv rfl hn h)
theorem Om(hx:(ev F x,Nat.blt d n)=(some v,true))(h:O P n ops Q rest ((d,v)::F) w):O P n ops Q (⟨some d,.move x,ty,pos,af,none⟩::rest) F w:=zy (gn rfl) (St.vl (zaT (pi2 hx).1) rfl (pi2 hx).2 h)
theorem Oa(hx:(ev F x,Nat.blt d n)=(some v,true))(h:O P n ops Q rest ((d,v)::F) w):O P n ops Q (⟨some d,.assign x,ty,pos,af,none⟩::rest) F w:=zy (gn rfl) (St.vl (yM (pi2 hx).1) rfl (pi2 hx).2 h)
theorem Oe{i:Nat}{vs:List Va}(hx:ev F x=some (.tuple vs.toArray))(hi:(vs[i]?,Nat.blt d n)=(some v,true))(h:O P n ops Q rest ((d,v)::F) w):O P n ops Q (⟨some d,.extract x i,ty,pos,af,none⟩::rest) F w:=zy (gn rfl) (St.vl (zJ hx (pi2 hi).1) rfl (pi2 hi).2 h)
theorem Ot{z:Operand}(hc:(ev F c,ev F x,Nat.blt d n)=(some (.bool true),some v,true))(h:O P n ops Q rest ((d,v)::F) w):O P n ops Q (⟨some d,.pick c x z,ty,pos,af,none⟩::rest) F w:=zy (gn rfl) (St.vl (zW (pi2 hc).1 (pi2 (pi2 hc).2).1) rfl (pi2 (pi2 hc).2).2 h)
theorem Of{z:Operand}(hc:(ev F c,ev F x,Nat.blt d n)=(some (.bool false),some v,true))(h:O P n ops Q rest ((d,v)::F) w):O P n ops Q (⟨some d,.pick c z x,ty,pos,af,none⟩::rest) F w:=zy (gn rfl) (St.vl (zR (pi2 hc).1 (pi2 (pi2 hc).2).1) rfl (pi2 (pi2 hc).2).2 h)
theorem Oy(ht:(ops[j]?).bind (·.dst)=some q)(hb:(get F q,Nat.blt d n)=(some (.bool b),true))(hv:Vl P n F ⟨some d,op,ty,pos,af,some (j,b)⟩ w v w')(h:O P n ops Q rest ((d,v)::F) w'):O P n ops Q (⟨some d,op,ty,pos,af,some (j,b)⟩::rest) F w:=zy (gy rfl ht (pi2 hb).1) (St.vl hv rfl (pi2 hb).2 h)
theorem Oz(ht:(ops[j]?).bind (·.dst)=some q)(hb:(get F q,Nat.blt d n,b')=(some (.bool b'),true, !b))(h:O P n ops Q rest ((d,undef)::F) w):O P n ops Q (⟨some d,op,ty,pos,af,some (j,b)⟩::rest) F w:=zdG rfl rfl (pi2 (pi2 hb).2).1 ht (pi2 hb).1 (pi2 (pi2 hb).2).2 h
theorem Ol{p:Addr}(ht:yZ P t=some false)(hx:(ev F x,Nat.blt d n)=(some (.pointer (some p)),true))(hc:w.cell? p=some v)(h:O P n ops Q rest ((d,v)::F) w):O P n ops Q (⟨some d,.load t x,ty,pos,af,none⟩::rest) F w:=zy (gn rfl) (St.vl (zj ht (pi2 hx).1 hc) rfl (pi2 hx).2 h)
theorem Od{f bb off:Nat}(hf:za2 P t f=some k)(hx:(ev F x,Nat.blt d n)=(some (.pointer (some ⟨bb,off,none⟩)),true))(h:O P n ops Q rest ((d,.pointer (some ⟨bb,off+k,none⟩))::F) w):O P n ops Q (⟨some d,.fieldAddr t x f,ty,pos,af,none⟩::rest) F w:=zy (gn rfl) (St.vl (ze hf (pi2 hx).1) rfl (pi2 hx).2 h)
theorem On{p:Option Addr}{l m:Nat}(hb:za3 P t=some e)(hx:(ev F x,Nat.blt d n)=(some (.slice p l m),true))(h:O P n ops Q rest ((d,.int .i64 l)::F) w):O P n ops Q (⟨some d,.call { callee:=.builtin .len,args := #[x],argTypes := #[t] },ty,pos,af,none⟩::rest) F w:=zy (gn rfl) (St.vl (z5 hb (pi2 hx).1) rfl (pi2 hx).2 h)
theorem Oc{f:Operand}{az:List Operand}{ts:Array TypeId}{g:FuncId}{first captured:Array Va}{vs args:List Va}{R:Va→Wl→Prop}(hb:zi P g=true)(hf:ev F f=some (.func (.func g) first captured))(ha:evs F az=some vs)
 (hn:(first.toList++vs++captured.toList,Nat.blt d n)=(args,true)) (hc:zL P g args.toArray w R) (h:∀v w',R v w'→O P n ops Q rest ((d,v)::F) w') :
 O P n ops Q (⟨some d,.call { callee:=.value f,args:=az.toArray,argTypes:=ts },ty,pos,af,none⟩::rest) F w:=zy (gn rfl) (zaf hb hf ha (pi2 hn).1 (pi2 hn).2 hc h)
theorem Ob{cs:List Va}(hx:ev F x=some v)(hc:(v.cells,Nat.blt d n)=(cs.toArray,true))(h:∀b w',w.heap.size=b→w'.heap.size=b+1→zl [] w w'→zK w' b e cs→O P n ops Q rest ((d,.pointer (some ⟨b,0,none⟩))::F) w') :
 O P n ops Q (⟨some d,.box e x,ty,pos,af,none⟩::rest) F w:=zy (gn rfl) (ziv hx (pi2 hc).1 (pi2 hc).2 h)
theorem Sr{id:Nat}{l:List Oper}{y:Code}(h:O P n l.toArray (zaK (fun F w=>W P n y Q F w) Q) l F w):W P n (.seq (.region id l.toArray false) y) Q F w:=zd (za h)
theorem Tm(hx:(ev F x,Nat.blt d n)=(some v,true))(h:T P n ops C Q (k+1) rest ((d,v)::F) w):T P n ops C Q k (⟨some d,.move x,ty,pos,af,none⟩::rest) F w:=zhc rfl (gn rfl) (fun _=>zaT (pi2 hx).1) rfl (pi2 hx).2 h
theorem Ta(hx:(ev F x,Nat.blt d n)=(some v,true))(h:T P n ops C Q (k+1) rest ((d,v)::F) w):T P n ops C Q k (⟨some d,.assign x,ty,pos,af,none⟩::rest) F w:=zhc rfl (gn rfl) (fun _=>yM (pi2 hx).1) rfl (pi2 hx).2 h
theorem Td{f bb off i:Nat}(hf:za2 P t f=some i)(hx:(ev F x,Nat.blt d n)=(some (.pointer (some ⟨bb,off,none⟩)),true))(h:T P n ops C Q (k+1) rest ((d,.pointer (some ⟨bb,off+i,none⟩))::F) w):T P n ops C Q k (⟨some d,.fieldAddr t x f,ty,pos,af,none⟩::rest) F w:=zhc rfl (gn rfl) (fun _=>ze hf (pi2 hx).1) rfl (pi2 hx).2 h
theorem Tq(ht:(ops[j]?).bind (·.dst)=some q)(hb:get F q=some (.bool b))(hx:(ev F x,Nat.blt d n)=(some v,true))(h:T P n ops C Q (k+1) rest ((d,v)::F) w):T P n ops C Q k (⟨some d,.move x,ty,pos,af,some (j,b)⟩::rest) F w:=zhc rfl (gy rfl ht hb) (fun _=>zaT (pi2 hx).1) rfl (pi2 hx).2 h
theorem Tz(ht:(ops[j]?).bind (·.dst)=some q)(hb:(get F q,Nat.blt d n,b')=(some (.bool b'),true, !b))(h:T P n ops C Q (k+1) rest ((d,undef)::F) w):T P n ops C Q k (⟨some d,op,ty,pos,af,some (j,b)⟩::rest) F w:=zz6 rfl rfl (pi2 (pi2 hb).2).1 ht (pi2 hb).1 (pi2 (pi2 hb).2).2 h
theorem Xm(hx:(ev F x,Nat.blt d n)=(some v,true))(h:OX ρ P n ops Q rest ((d,v)::F) w):OX ρ P n ops Q (⟨some d,.move x,ty,pos,af,none⟩::rest) F w:=yO (gn rfl) rfl (St.vl (zaT (pi2 hx).1) rfl (pi2 hx).2 h)
theorem E1(a:Nat){x0:Va}(hF:prune [a] F=[(a,x0)])(h:K [(a,x0)] w):O P n ops (zaK K Q) [] F w:=yC [a] hF h
theorem E2(a b:Nat){x0 x1:Va}(hF:prune [a,b] F=[(a,x0),(b,x1)])(h:K [(a,x0),(b,x1)] w):O P n ops (zaK K Q) [] F w:=yC [a,b] hF h
theorem E3(a b c:Nat){x0 x1 x2:Va}(hF:prune [a,b,c] F=[(a,x0),(b,x1),(c,x2)])(h:K [(a,x0),(b,x1),(c,x2)] w):O P n ops (zaK K Q) [] F w:=yC [a,b,c] hF h
theorem N3(a b c:Nat){x0 x1 x2:Va}(hF:prune [a,b,c] F=[(a,x0),(b,x1),(c,x2)])(h:Q .normal [(a,x0),(b,x1),(c,x2)] w):O P n ops Q [] F w:=yC [a,b,c] hF h
theorem E4(a b c d:Nat){x0 x1 x2 x3:Va}(hF:prune [a,b,c,d] F=[(a,x0),(b,x1),(c,x2),(d,x3)])(h:K [(a,x0),(b,x1),(c,x2),(d,x3)] w):O P n ops (zaK K Q) [] F w:=yC [a,b,c,d] hF h
theorem N4(a b c d:Nat){x0 x1 x2 x3:Va}(hF:prune [a,b,c,d] F=[(a,x0),(b,x1),(c,x2),(d,x3)])(h:Q .normal [(a,x0),(b,x1),(c,x2),(d,x3)] w):O P n ops Q [] F w:=yC [a,b,c,d] hF h
theorem E5(a b c d e:Nat){x0 x1 x2 x3 x4:Va}(hF:prune [a,b,c,d,e] F=[(a,x0),(b,x1),(c,x2),(d,x3),(e,x4)])(h:K [(a,x0),(b,x1),(c,x2),(d,x3),(e,x4)] w):O P n ops (zaK K Q) [] F w:=yC [a,b,c,d,e] hF h
theorem N5(a b c d e:Nat){x0 x1 x2 x3 x4:Va}(hF:prune [a,b,c,d,e] F=[(a,x0),(b,x1),(c,x2),(d,x3),(e,x4)])(h:Q .normal [(a,x0),(b,x1),(c,x2),(d,x3),(e,x4)] w):O P n ops Q [] F w:=yC [a,b,c,d,e] hF h
theorem E6(a b c d e f:Nat){x0 x1 x2 x3 x4 x5:Va}(hF:prune [a,b,c,d,e,f] F=[(a,x0),(b,x1),(c,x2),(d,x3),(e,x4),(f,x5)])(h:K [(a,x0),(b,x1),(c,x2),(d,x3),(e,x4),(f,x5)] w):O P n ops (zaK K Q) [] F w:=yC [a,b,c,d,e,f] hF h
theorem N6(a b c d e f:Nat){x0 x1 x2 x3 x4 x5:Va}(hF:prune [a,b,c,d,e,f] F=[(a,x0),(b,x1),(c,x2),(d,x3),(e,x4),(f,x5)])(h:Q .normal [(a,x0),(b,x1),(c,x2),(d,x3),(e,x4),(f,x5)] w):O P n ops Q [] F w:=yC [a,b,c,d,e,f] hF h
theorem E7(a b c d e f g:Nat){x0 x1 x2 x3 x4 x5 x6:Va}(hF:prune [a,b,c,d,e,f,g] F=[(a,x0),(b,x1),(c,x2),(d,x3),(e,x4),(f,x5),(g,x6)])(h:K [(a,x0),(b,x1),(c,x2),(d,x3),(e,x4),(f,x5),(g,x6)] w):O P n ops (zaK K Q) [] F w:=yC [a,b,c,d,e,f,g] hF h
theorem E8(a b c d e f g i:Nat){x0 x1 x2 x3 x4 x5 x6 x7:Va}(hF:prune [a,b,c,d,e,f,g,i] F=[(a,x0),(b,x1),(c,x2),(d,x3),(e,x4),(f,x5),(g,x6),(i,x7)])(h:K [(a,x0),(b,x1),(c,x2),(d,x3),(e,x4),(f,x5),(g,x6),(i,x7)] w):O P n ops (zaK K Q) [] F w:=yC [a,b,c,d,e,f,g,i] hF h
theorem Oj(ht:(ops[j]?).bind (·.dst)=some q)(hb:(get F q,ev F x,Nat.blt d n)=(some (.bool b),some v,true))(h:O P n ops Q rest ((d,v)::F) w):O P n ops Q (⟨some d,.move x,ty,pos,af,some (j,b)⟩::rest) F w:=zy (gy rfl ht (pi2 hb).1) (St.vl (zaT (pi2 (pi2 hb).2).1) rfl (pi2 (pi2 hb).2).2 h)
theorem Oq{o:Option Tmp}(h:St P n F ⟨o,op,ty,pos,af,none⟩ w (fun F' w'=>O P n ops Q rest F' w')):O P n ops Q (⟨o,op,ty,pos,af,none⟩::rest) F w:=zy (gn rfl) h
theorem Oh(ht:(ops[j]?).bind (·.dst)=some q)(hb:(get F q,Nat.blt d n)=(some undef,true))(h:O P n ops Q rest ((d,undef)::F) w):O P n ops Q (⟨some d,op,ty,pos,af,some (j,b)⟩::rest) F w:=ziH rfl rfl (pi2 hb).2 ht (pi2 hb).1 h
theorem Ow{f:Operand}{az:List Operand}{ts:Array TypeId}{g:FuncId}{first captured:Array Va}{vs args:List Va}{R:Va→Wl→Prop}(ht:(ops[j]?).bind (·.dst)=some q)(hq:get F q=some (.bool b))(hb:zi P g=true)(hf:ev F f=some (.func (.func g) first captured))(ha:evs F az=some vs)
 (hn:(first.toList++vs++captured.toList,Nat.blt d n)=(args,true)) (hc:zL P g args.toArray w R) (h:∀v w',R v w'→O P n ops Q rest ((d,v)::F) w') :
 O P n ops Q (⟨some d,.call { callee:=.value f,args:=az.toArray,argTypes:=ts },ty,pos,af,some (j,b)⟩::rest) F w:=zy (gy rfl ht hq) (zaf hb hf ha (pi2 hn).1 (pi2 hn).2 hc h)
theorem Tp(hv:∀w,Vl P n F ⟨some d,op,ty,pos,af,none⟩ w v w)(hk:(Nat.ble (kd ⟨some d,op,ty,pos,af,none⟩) 1,Nat.blt d n)=(true,true))(h:T P n ops C Q (k+1) rest ((d,v)::F) w):T P n ops C Q k (⟨some d,op,ty,pos,af,none⟩::rest) F w:=zhc (pi2 hk).1 (gn rfl) hv rfl (pi2 hk).2 h
theorem Tg(ht:(ops[j]?).bind (·.dst)=some q)(hb:get F q=some (.bool b))(hv:∀w,Vl P n F ⟨some d,op,ty,pos,af,some (j,b)⟩ w v w)(hk:(Nat.ble (kd ⟨some d,op,ty,pos,af,some (j,b)⟩) 1,Nat.blt d n)=(true,true))(h:T P n ops C Q (k+1) rest ((d,v)::F) w):T P n ops C Q k (⟨some d,op,ty,pos,af,some (j,b)⟩::rest) F w:=zhc (pi2 hk).1 (gy rfl ht hb) hv rfl (pi2 hk).2 h
theorem Tr(hv:∀w,C w→Vl P n F ⟨some d,op,ty,pos,af,none⟩ w v w)(hk:(kd ⟨some d,op,ty,pos,af,none⟩,Nat.blt d n)=(1,true))(h:T P n ops C Q (k+1) rest ((d,v)::F) w):T P n ops C Q k (⟨some d,op,ty,pos,af,none⟩::rest) F w:=zpT (pi2 hk).1 (gn rfl) hv rfl (pi2 hk).2 h
theorem Ts(ht:(ops[j]?).bind (·.dst)=some q)(hb:get F q=some (.bool b))(hv:∀w,C w→Vl P n F ⟨some d,op,ty,pos,af,some (j,b)⟩ w v w)(hk:(kd ⟨some d,op,ty,pos,af,some (j,b)⟩,Nat.blt d n)=(1,true))(h:T P n ops C Q (k+1) rest ((d,v)::F) w):T P n ops C Q k (⟨some d,op,ty,pos,af,some (j,b)⟩::rest) F w:=zpT (pi2 hk).1 (gy rfl ht hb) hv rfl (pi2 hk).2 h
theorem Tc{f:Operand}{az:List Operand}{ts:Array TypeId}{g:FuncId}{first captured:Array Va}{vs args:List Va}{R:Va→Wl→Prop}(hb:zi P g=true)(hf:ev F f=some (.func (.func g) first captured))(ha:evs F az=some vs)
 (hn:(first.toList++vs++captured.toList,Nat.blt d n)=(args,true)) (hc:zL P g args.toArray w R) (h:∀v w',R v w'→(C w'∨fin ops k=true)∧T P n ops C Q (k+1) rest ((d,v)::F) w') :
 T P n ops C Q k (⟨some d,.call { callee:=.value f,args:=az.toArray,argTypes:=ts },ty,pos,af,none⟩::rest) F w:=za4 rfl (gn rfl) (zaf hb hf ha (pi2 hn).1 (pi2 hn).2 hc h)
theorem Tv{f:Operand}{az:List Operand}{ts:Array TypeId}{g:FuncId}{first captured:Array Va}{vs args:List Va}{R:Va→Wl→Prop}(ht:(ops[j]?).bind (·.dst)=some q)(hq:get F q=some (.bool b))(hb:zi P g=true)(hf:ev F f=some (.func (.func g) first captured))(ha:evs F az=some vs)
 (hn:(first.toList++vs++captured.toList,Nat.blt d n)=(args,true)) (hc:zL P g args.toArray w R) (h:∀v w',R v w'→(C w'∨fin ops k=true)∧T P n ops C Q (k+1) rest ((d,v)::F) w') :
 T P n ops C Q k (⟨some d,.call { callee:=.value f,args:=az.toArray,argTypes:=ts },ty,pos,af,some (j,b)⟩::rest) F w:=za4 rfl (gy rfl ht hq) (zaf hb hf ha (pi2 hn).1 (pi2 hn).2 hc h)
theorem vt{o:Oper}(h:Vl P n F o w (.bool b) w')(e:b=true):Vl P n F o w (.bool true) w':=e▸h
theorem vf{o:Oper}(h:Vl P n F o w (.bool b) w')(e:b=false):Vl P n F o w (.bool false) w':=e▸h
theorem D1(a:Nat){x0:Va}(hF:prune [a] F=[(a,x0)])(h:K [(a,x0)] w):T P n ops C (zaK K Q) k [] F w:=zbf [a] hF h
theorem D2(a b:Nat){x0 x1:Va}(hF:prune [a,b] F=[(a,x0),(b,x1)])(h:K [(a,x0),(b,x1)] w):T P n ops C (zaK K Q) k [] F w:=zbf [a,b] hF h
theorem D3(a b c:Nat){x0 x1 x2:Va}(hF:prune [a,b,c] F=[(a,x0),(b,x1),(c,x2)])(h:K [(a,x0),(b,x1),(c,x2)] w):T P n ops C (zaK K Q) k [] F w:=zbf [a,b,c] hF h
theorem D4(a b c d:Nat){x0 x1 x2 x3:Va}(hF:prune [a,b,c,d] F=[(a,x0),(b,x1),(c,x2),(d,x3)])(h:K [(a,x0),(b,x1),(c,x2),(d,x3)] w):T P n ops C (zaK K Q) k [] F w:=zbf [a,b,c,d] hF h
theorem D5(a b c d e:Nat){x0 x1 x2 x3 x4:Va}(hF:prune [a,b,c,d,e] F=[(a,x0),(b,x1),(c,x2),(d,x3),(e,x4)])(h:K [(a,x0),(b,x1),(c,x2),(d,x3),(e,x4)] w):T P n ops C (zaK K Q) k [] F w:=zbf [a,b,c,d,e] hF h
theorem D6(a b c d e f:Nat){x0 x1 x2 x3 x4 x5:Va}(hF:prune [a,b,c,d,e,f] F=[(a,x0),(b,x1),(c,x2),(d,x3),(e,x4),(f,x5)])(h:K [(a,x0),(b,x1),(c,x2),(d,x3),(e,x4),(f,x5)] w):T P n ops C (zaK K Q) k [] F w:=zbf [a,b,c,d,e,f] hF h
end
theorem A1{P:Program}{f:FuncId}{fn:Func}{y:Code}{a:Va}{w:Wl}{R:Va→Wl→Prop}{n:Nat}{F:Fr}(hf:P.funcs[f]? = some fn)(hb:(fn.body,fn.ntmps)=(some y,n))(hl:(Nat.ble 1 n,frameOf 0 [a])=(true,F))(h:W P n y (zfR P fn R n) F w)(hk:Nat.ble n 1000000=true:=by rfl):zL P f #[a] w R:=zL.of_W (args:=[a]) hf (pi2 hb).1 (pi2 hb).2 (pi2 hl).1 (pi2 hl).2 h hk
theorem A2{P:Program}{f:FuncId}{fn:Func}{y:Code}{a b:Va}{w:Wl}{R:Va→Wl→Prop}{n:Nat}{F:Fr}(hf:P.funcs[f]? = some fn)(hb:(fn.body,fn.ntmps)=(some y,n))(hl:(Nat.ble 2 n,frameOf 0 [a,b])=(true,F))(h:W P n y (zfR P fn R n) F w)(hk:Nat.ble n 1000000=true:=by rfl):zL P f #[a,b] w R:=zL.of_W (args:=[a,b]) hf (pi2 hb).1 (pi2 hb).2 (pi2 hl).1 (pi2 hl).2 h hk
theorem A3{P:Program}{f:FuncId}{fn:Func}{y:Code}{a b c:Va}{w:Wl}{R:Va→Wl→Prop}{n:Nat}{F:Fr}(hf:P.funcs[f]? = some fn)(hb:(fn.body,fn.ntmps)=(some y,n))(hl:(Nat.ble 3 n,frameOf 0 [a,b,c])=(true,F))(h:W P n y (zfR P fn R n) F w)(hk:Nat.ble n 1000000=true:=by rfl):zL P f #[a,b,c] w R:=zL.of_W (args:=[a,b,c]) hf (pi2 hb).1 (pi2 hb).2 (pi2 hl).1 (pi2 hl).2 h hk
theorem A4{P:Program}{f:FuncId}{fn:Func}{y:Code}{a b c d:Va}{w:Wl}{R:Va→Wl→Prop}{n:Nat}{F:Fr}(hf:P.funcs[f]? = some fn)(hb:(fn.body,fn.ntmps)=(some y,n))(hl:(Nat.ble 4 n,frameOf 0 [a,b,c,d])=(true,F))(h:W P n y (zfR P fn R n) F w)(hk:Nat.ble n 1000000=true:=by rfl):zL P f #[a,b,c,d] w R:=zL.of_W (args:=[a,b,c,d]) hf (pi2 hb).1 (pi2 hb).2 (pi2 hl).1 (pi2 hl).2 h hk
section
variable {K:Fr→Wl→Prop} {Q:Exit→Fr→Wl→Prop} {F:Fr} {w:Wl} {id i:Nat}
theorem tr(h:Q .ret F w):zaK K Q .ret F w:=h
theorem br(h:Q .ret F w):zc6 id Q .ret F w:=h
theorem te(h:Q (.exit id) F w):zaK K Q (.exit id) F w:=h
theorem bo(hne:Nat.beq i id=false)(h:Q (.exit i) F w):zc6 id Q (.exit i) F w:=zkq hne h
end
def Rd(w:Wl)(k:Nat)(v:Va)(len:Nat)(xs:List Va):Prop:=
 ∃p cap,v=.slice p len cap∧len≤cap∧cap≤maxLen∧xs.length=len*k∧(∀u∈xs,u.oneCell'=true)∧(0<len→∃b off,p=some ⟨b,off,none⟩∧zB w b off xs)
section
variable {w w':Wl} {e k:Nat} {v:Va} {len:Nat} {xs:List Va}
theorem zw.toRd(h:zw w e k v len xs):Rd w k v len xs:=by
 have hl:=h.len_xs
 have ho:=h.one_xs
 rcases h with⟨rfl,rfl,rfl⟩|⟨b,off,cap,c,rfl,h⟩
 ·exact⟨none,0,rfl,Nat.le_refl _,Nat.zero_le _,hl,ho,fun h=>absurd h (by omega)⟩
 exact⟨some ⟨b,off,none⟩,cap,U,h.le,h.max,hl,ho,fun _=>⟨b,off,U,h.cells⟩⟩
theorem Rd.val(h:Rd w k v len xs):∃p c,v=.slice p len c∧len≤c:=let ⟨p,c,h1,h2,_⟩:=h; ⟨p,c,h1,h2⟩
theorem Rd.len_xs(h:Rd w k v len xs):xs.length=len*k:=let ⟨_,_,_,_,_,h4,_⟩:=h;h4
theorem Rd.one_xs(h:Rd w k v len xs):∀u∈xs,u.oneCell'=true:=let ⟨_,_,_,_,_,_,h5,_⟩:=h;h5
theorem Rd.one1(h:Rd w k v len xs):v.oneCell'=true:=by obtain⟨p,c,rfl,_⟩:=h;rfl
theorem Rd.nil(w:Wl)(k:Nat):Rd w k (.slice none 0 0) 0 []:=⟨none,0,rfl,Nat.le_refl _,Nat.zero_le _,by simp,by simp,fun h=>absurd h (by omega)⟩
theorem zrw{b off:Nat}{u:Va}{j:Nat}(h:zB w b off xs)(hj:xs[j]? = some u):b<w.heap.size:=by
 have hc:=h j u hj
 rcases Nat.lt_or_ge b w.heap.size with h1|h1
 ·exact h1
 simp[World.cell?,Array.getElem?_eq_none h1]at hc
theorem Rd.keep(h:Rd w k v len xs)(hk:∀b off u j,v=.slice (some ⟨b,off,none⟩) len (match v with | .slice _ _ c=>c|_=>0)→xs[j]? = some u→w.cell? ⟨b,off+j,none⟩=some u→w'.cell? ⟨b,off+j,none⟩=some u):Rd w' k v len xs:=by
 obtain⟨p,cap,rfl,h2,h3,h4,h5,h6⟩:=h
 refine⟨p,cap,U,h2,h3,h4,h5,fun hp=>?_⟩
 obtain⟨b,off,rfl,hc⟩:=h6 hp
 exact⟨b,off,U,fun j u hj=>hk b off u j U hj (hc j u hj)⟩
theorem zgX{S:List Nat}(hc:zl S w w'){b o:Nat}{u:Va}(h:w.cell? ⟨b,o,none⟩=some u)(hb:b∉S):w'.cell? ⟨b,o,none⟩=some u:=by
 have hlt:b<w.heap.size:=by
  rcases Nat.lt_or_ge b w.heap.size with h1|h1
  ·exact h1
  simp[World.cell?,Array.getElem?_eq_none h1]at h
 have:=hc.block b hlt hb
 unfold World.cell? at h ⊢
 rw[this];exact h
theorem Rd.chg{S:List Nat}(h:Rd w k v len xs)(hc:zl S w w')(hb:∀b∈zq v,b∉S):Rd w' k v len xs:=
 h.keep fun b off u j hv _ hcell=>zgX hc hcell (hb b (by rw[hv];simp[zq]))
theorem Rd.chg0(h:Rd w k v len xs)(hc:zl [] w w'):Rd w' k v len xs:=h.chg hc (by simp)
theorem Rd.chgC{S:List Nat}(h:Rd w k v len xs)(hc:zl S w w')(hd:∀b∈S,∀c e fr,w.heap[b]? = some (.cells c e fr)→∀u∈xs,u∉c.toList):Rd w' k v len xs:=
 h.keep fun b off u j _ hj hcell=>zgX hc hcell fun hm=>by
  have hlt:b<w.heap.size:=by
   rcases Nat.lt_or_ge b w.heap.size with h1|h1
   ·exact h1
   simp[World.cell?,Array.getElem?_eq_none h1]at hcell
  obtain⟨o,ho⟩:∃o,w.heap[b]? = some o:=⟨w.heap[b],by simp[hlt]⟩
  unfold World.cell? at hcell
  rw[ho]at hcell
  cases o with
  |cells c e fr=>
   refine hd b hm c e fr ho u (List.mem_of_getElem? hj) ?_
   have h2:c[off+j]? = some u:=by simpa using hcell
   exact Array.mem_toList_iff.2 (Array.mem_of_getElem? h2)
  |_=>simp at hcell
theorem Rd.at1(h:Rd w 1 v len xs){i:Nat}(hi:i<len):∃b off cap u,v=.slice (some ⟨b,off,none⟩) len cap∧xs[i]? = some u∧w.cell? ⟨b,off+i*1,none⟩=some u:=by
 obtain⟨p,cap,rfl,h2,h3,h4,h5,h6⟩:=h
 obtain⟨b,off,rfl,hc⟩:=h6 (by omega)
 have hl:i<xs.length:=by omega
 refine⟨b,off,cap,xs[i],rfl,by simp[hl],?_⟩
 rw[Nat.mul_one]
 exact hc i _ (by simp[hl])
theorem Rd.atk(h:Rd w k v len xs){i:Nat}(hi:i<len):∃b off cap,v=.slice (some ⟨b,off,none⟩) len cap∧zB w b (off+i*k) ((xs.drop (i*k)).take k):=by
 obtain⟨p,cap,rfl,h2,h3,h4,h5,h6⟩:=h
 obtain⟨b,off,rfl,hc⟩:=h6 (by omega)
 refine⟨b,off,cap,U,fun j u hj=>?_⟩
 have h1:xs[i*k+j]? = some u:=by
  rw[List.getElem?_take]at hj
  split at hj
  ·simpa using hj
  cases hj
 have:=hc (i*k+j) u h1
 rw[←this]
 congr 2
 omega
theorem Rd.cut{p:Option Addr}{cap:Nat}(hs:Rd w k (.slice p len cap) len xs){l h m:Nat}(h1:l≤h)(h2:h≤m)(h3:m≤cap)(h4:h≤len) :
 Rd w k (Wk.cut p l h m k) (h-l) ((xs.drop (l*k)).take ((h-l)*k)):=by
 obtain⟨p',cap',he,g2,g3,g4,g5,g6⟩:=hs
 simp only[Value.slice.injEq]at he
 obtain⟨rfl,_,rfl⟩:=he
 have hmk:h*k≤len*k:=Nat.mul_le_mul_right _ h4
 have hs2:(h-l)*k=h*k-l*k:=Nat.sub_mul _ _ _
 refine⟨_,m-l,rfl,by omega,by omega,?_,fun u hu=>g5 u (List.mem_of_mem_drop (List.mem_of_mem_take hu)),fun hp=>?_⟩
 ·rw[List.length_take,List.length_drop,g4];omega
 obtain⟨b,off,rfl,hc⟩:=g6 (by omega)
 have hne:m≠l:=by omega
 refine⟨b,off+l*k,by rw[if_neg hne];simp[Addr.add_lit],fun j u hj=>?_⟩
 rw[List.getElem?_take]at hj
 split at hj
 ·rw[List.getElem?_drop]at hj
  have:=hc _ _ hj
  rw[←this];congr 2;omega
 cases hj
end
section
variable {P:Program} {n:Nat} {F:Fr} {w:Wl} {d:Tmp} {ty t t2 e:TypeId} {by':Nat} {z:Va} {pos:String} {af:Array Edge} {gd:Option (Nat×Bool)} {K:Fr→Wl→Prop}
theorem ziT{e2:TypeId}{k:Nat}(A:App P t e k by' z)(ht2:za3 P t2=some e2){x y:Operand}{v s:Va}{l m:Nat}{xs ys:List Va}(hx:ev F x=some v)(hy:ev F y=some s)(hv:zw w e k v l xs)(hs:Rd w k s m ys)(h63:l+m≤maxLen)(hbytes:(l+m)*by'≤140737488355328)
 (hn:Nat.blt d n=true) (h:∀v' w',zw w' e k v' (l+m) (xs++ys)→zl (zq v) w w'→(zq v'=zq v∨∃b,zq v'=[b]∧w.heap.size≤b)→(v'=.slice none 0 0↔v=.slice none 0 0∧m=0)→K ((d,v')::F) w') :
 St P n F ⟨some d,.call { callee:=.builtin .append,args := #[x,y],argTypes := #[t,t2] },ty,pos,af,gd⟩ w K:=by
 obtain⟨v',w',hr,h1,h2,h3,h4⟩:=zfg (ty:=ty) (s:=s) (m:=m) (ys:=ys) A (yf ht2) (.inl ⟨_,rfl⟩) hv hs.len_xs hs.one_xs (by
  obtain⟨p,c,rfl,_⟩:=hs.val
  simp[Builtin.lenOf])
  (fun w1 h1=>by
   obtain⟨p,cap,rfl,g2,g3,g4,g5,g6⟩:=hs
   rcases Nat.eq_zero_or_pos m with hz|hp
   ·subst hz
    have:ys=[]:=List.eq_nil_of_length_eq_zero (by rw[g4];simp)
    subst this
    cases p with
    |none=>simp[Builtin.firstCells]
    |some a=>exact run_firstCells_some w1 k 0 a 0 cap [] (by simp) (fun j u hu=>by simp at hu)
   obtain⟨b,off,rfl,hc⟩:=g6 hp
   exact run_firstCells_some w1 k m ⟨b,off,none⟩ m cap _ g4 (fun j u hu=>by
    rw[Addr.add_lit]
    have:=hc j u hu
    unfold World.cell? at this ⊢
    rw[h1];exact this)) h63 hbytes
 refine St.vl (v:=v') (w':=w') ?_ U hn (h v' w' h1 h2 h3 h4)
 intro a ha
 simp[execOp,resolve,invoke,builtin,ha.eval hx,ha.eval hy,hr]
end
def dr(ds:List Nat):Fr→Fr
 |[]=>[]
 |(j,v)::F=>bif Nat.ble 1000000 j then (j,v)::dr ds F else bif ds.any (Nat.beq j) then dr ds F else (j,v)::dr ds F
theorem zry(ds:List Nat):∀(F:Fr) (i:Nat) (v:Va),get (dr ds F) i=some v→get F i=some v
 |[],i,v,h=>by simp[dr,get]at h
 |(j,u)::F,i,v,h=>by
  have ih:=zry ds F i v
  have hin:∀(F:Fr),ds.any (Nat.beq i)=true→Nat.ble 1000000 i=false→get (dr ds F) i=none:=by
   intro F hi hb
   induction F with
   |nil=>rfl
   |cons p F ih=>
    obtain⟨j,u⟩:=p
    unfold dr
    cases hj:Nat.ble 1000000 j with
    |true=>
     simp only[cond_true,Wk.get]
     have:Nat.beq i j=false:=by
      cases hb2:Nat.beq i j with
      |false=>rfl
      |true=>have:=Nat.eq_of_beq_eq_true hb2;subst this;rw[hb]at hj;cases hj
     rw[this];exact ih
    |false=>
     simp only[cond_false]
     cases hd:ds.any (Nat.beq j) with
     |true=>simpa using ih
     |false=>
      simp only[cond_false,Wk.get]
      have:Nat.beq i j=false:=by
       cases hb2:Nat.beq i j with
       |false=>rfl
       |true=>have:=Nat.eq_of_beq_eq_true hb2;subst this;rw[hi]at hd;cases hd
      rw[this];exact ih
  unfold dr at h
  cases hj:Nat.ble 1000000 j with
  |true=>
   simp only[hj,cond_true,Wk.get]at h ⊢
   cases hb:Nat.beq i j with
   |true=>rw[hb]at h;simp at h
   |false=>rw[hb]at h;exact ih h
  |false=>
   simp only[hj,cond_false]at h
   simp only[Wk.get,hj,cond_false]
   cases hb:Nat.beq i j with
   |true=>
    have e:=Nat.eq_of_beq_eq_true hb
    subst e
    cases hd:ds.any (Nat.beq i) with
    |true=>
     rw[hd]at h
     simp only[cond_true]at h
     rw[hin F hd hj]at h;cases h
    |false=>
     rw[hd]at h
     simpa[Wk.get,hj,hb] using h
   |false=>
    cases hd:ds.any (Nat.beq j) with
    |true=>rw[hd]at h;simp only[cond_true]at h;exact ih h
    |false=>
     rw[hd]at h
     simp only[cond_false,Wk.get,hb]at h
     exact ih h
theorem zk0(ds:List Nat):∀F:Fr,yU (dr ds F)=yU F
 |[]=>rfl
 |(j,u)::F=>by
  have ih:=zk0 ds F
  unfold dr
  cases hj:Nat.ble 1000000 j with
  |true=>
   simp only[cond_true]
   have e:∀F:Fr,yU ((j,u)::F)=yU ([(j,u)]:Fr)++yU F:=by
    intro F
    simp[yU,zcj,hj,dOf,zqU]
   rw[e,e F,ih]
  |false=>
   simp only[cond_false]
   rw[zdn hj]
   cases ds.any (Nat.beq j) with
   |true=>simpa using ih
   |false=>simp only[cond_false];rw[zdn hj];exact ih
theorem Rep.dr{n:Nat}{F:Fr}{a:Act}(h:Rep n F a)(ds:List Nat):Rep n (dr ds F) a:=
 ⟨h.lt,h.size,by rw[zk0];exact h.defers,fun i v hi=>h.get i v (zry ds F i v hi)⟩
section
variable {P:Program} {n k m:Nat} {ops:Array Oper} {Q:Exit→Fr→Wl→Prop} {C:Wl→Prop} {ρ:Option Nat} {F F' G:Fr} {w:Wl} {l rest':List Oper} {c d:Bool} {g t:Nat}
theorem zhO(ds:List Nat)(hF:dr ds F=F')(h:O P n ops Q l F' w):O P n ops Q l F w:=fun a ha=>h a (hF▸ha.dr ds)
theorem ze4(ds:List Nat)(hF:dr ds F=F')(h:T P n ops C Q k l F' w):T P n ops C Q k l F w:=fun a ha=>h a (hF▸ha.dr ds)
theorem zpL(h0:O P n ops Q rest' ((t,.bool true)::(g,.bool true)::G) w→O P n ops Q l ((g,.bool true)::G) w)
 (h1:c=false→O P n ops Q rest' ((t,.bool d)::(g,.bool false)::G) w→O P n ops Q l ((g,.bool false)::G) w)
 (h:O P n ops Q rest' ((t,.bool (c || d))::(g,.bool c)::G) w):O P n ops Q l ((g,.bool c)::G) w:=by
 cases c with
 |true=>exact h0 (by simpa using h)
 |false=>exact h1 rfl (by simpa using h)
theorem zty(h0:T P n ops C Q m rest' ((t,.bool true)::(g,.bool true)::G) w→T P n ops C Q k l ((g,.bool true)::G) w)
 (h1:c=false→T P n ops C Q m rest' ((t,.bool d)::(g,.bool false)::G) w→T P n ops C Q k l ((g,.bool false)::G) w)
 (h:T P n ops C Q m rest' ((t,.bool (c || d))::(g,.bool c)::G) w):T P n ops C Q k l ((g,.bool c)::G) w:=by
 cases c with
 |true=>exact h0 (by simpa using h)
 |false=>exact h1 rfl (by simpa using h)
theorem zmo(h0:T P n ops C Q m rest' ((t,.bool false)::(g,.bool false)::G) w→T P n ops C Q k l ((g,.bool false)::G) w)
 (h1:c=true→T P n ops C Q m rest' ((t,.bool d)::(g,.bool true)::G) w→T P n ops C Q k l ((g,.bool true)::G) w)
 (h:T P n ops C Q m rest' ((t,.bool (c && d))::(g,.bool c)::G) w):T P n ops C Q k l ((g,.bool c)::G) w:=by
 cases c with
 |true=>exact h1 rfl (by simpa using h)
 |false=>exact h0 (by simpa using h)
end
end Go.Wk
