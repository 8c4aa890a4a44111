/- joined texts -/
import Derived.Test.YtkfpmjjcogigfaaGreatDoorL17
import Derived.Test.YtkfpmjjcogigfaaGreatDoorTie
import Derived.Test.YtkfpmjjcogigfaaGreatDoorCards
import Derived.SevenTiedAt
set_option linter.all false
namespace Go.Proofs.YtkfpmjjcogigfaaGreatDoor
open Go.ChangeShapes Go.WideShapes Go.ChangeAt Go.RowKit Go.Deep
set_option maxRecDepth 100000 in
theorem zf7(os:Os)(started:os.Started)(H:Type)(enc:TypeId×Value→H) :
 ReturnsInHanded {} Tryz.checked os 7 .any (fun w args=>(Rows.catalogCopiesSpec.pre enc Tryz.prog Tryz.f7 [] false w args∧laidMetH Tryz.prog zkV w)∧sizedMet enc Tryz.prog Tryz.f7 (OpenSpec.ofChange Rows.catalogCopiesSpec) false w args)
  (Rows.catalogCopiesSpec.post enc Tryz.prog Tryz.f7 false true false false):=by
 refine returnsInHanded_of_change_and (C:=Tryz.checked) (X:=fun w _=>laidMetH Tryz.prog zkV w) (fun _ _ _ hh h=>h.of_heap hh) zDB started (by kernel_rfl) Tryz.func7
  (ChangeSpec.witness_shaped (enc:=enc) (C:=Tryz.checked) (os:=os) (X:=fun w _=>laidMetH Tryz.prog zkV w) false (World.doorLaid Tryz.prog 31 os) #[.slice none 0 0,.agg #[.int .i64 0,.string ⟨#[]⟩,.slice none 0 0,.slice none 0 0,.slice none 0 0,.slice none 0 0,.slice none 0 0,.slice none 0 0,.int .i64 0,.string ⟨#[]⟩,.slice none 0 0,.slice none 0 0,.slice none 0 0,.slice none 0 0,.slice none 0 0,.slice none 0 0]] 8 rfl (World.shaped_of_RefB (by kernel_rfl) (by kernel_rfl)) (by kernel_rfl) (by kernel_rfl) (by kernel_rfl) (ztF os _)) ?_
 intro W base args ds gs before hval0 hW _ _ hL _
 have hval:∀(j:Nat) t v,Tryz.f7.params[j]?=some t→args[j]?=some v→Value.okWide Tryz.prog W .any base t v:=hval0
 have hW':=hW
 obtain⟨p,q,hA0,hV,rfl,hfz,hnd⟩:=hW
 have hA:DataW.TrodAll enc Tryz.prog W 0 (fun _=>true) true Tryz.f7.params.toList args.toList ds p:=hA0
 rw[Tryz.params7]at hA hval
 obtain⟨v0,v1,d0,d1,p0,p1,rfl,rfl,rfl,h0,h1⟩:=trodAll_two hA
 obtain⟨rfl,rfl⟩:=trodVars_none hV
 clear hA0 hval0
 simp only[List.append_nil]at hW'
 have hlt:∀x∈p0++p1,x.block<W.heap.size:=fun x hx=>by simpa using hW'.lt x hx
 letI:Wk.Lw:=⟨W.heap.size⟩
 obtain⟨a0,n0,m0,rfl⟩:=okWide_slice Tryz.underlying22 (hval 0 22 v0 rfl rfl)
 obtain⟨u0,xs0,e0,hx0,hm0⟩:∃v l,[Value.slice a0 n0 m0]=[v]∧Wk.zed W v l∧∀y∈l,Wk.zie y:=by
  obtain⟨fuel,h⟩:=h0
  exact zsG (Nat.le_refl _) h
 obtain rfl:u0=.slice a0 n0 m0:=by simpa using e0.symm
 obtain⟨cs1,rfl⟩:∃cs1,v1=.agg cs1:=by
  have h:=hval 1 74 v1 rfl rfl
  simp only[Value.okWide,Tryz.underlying74]at h
  obtain⟨cs,h1,_⟩:=h
  exact⟨cs,h1⟩
 obtain⟨y,z,ex,⟨hy,my⟩,hz,mz⟩:∃y z:Wk.EvT×Wk.EvV,cs1.toList=Wk.evC y.1 y.2++Wk.evC z.1 z.2∧(Wk.zbj W y.2 y.1∧Wk.zie y.1)∧Wk.zbj W z.2 z.1∧Wk.zie z.1:=by
  obtain⟨fuel,h⟩:=h1
  exact zoV (Nat.le_refl _) h
 obtain rfl:cs1=(Wk.evP y z).toArray:=by unfold Wk.evP;rw[←ex,Array.toArray_toList]
 refine Calls.mono (Wk.zi0 _ xs0 y z W (zm2 hL) (Nat.le_refl _) hx0 hy hz hm0 my mz) fun e W' hh=>?_
 obtain⟨r,he,hr,hc⟩:=hh
 subst he
 subst hr
 have hb:Below W.heap.size W W':=hc.below
 refine⟨_,rfl,_,_,_,[],p0++p1,[],hW',trodAll_mk1 (shut_bool Tryz.underlying4 _),?_,rfl,hb.frame _,fun h=>by cases h⟩
 exact trodAll_mk2 (Below.trod zmu (by kernel_rfl) (of_decide_eq_true (by kernel_rfl)) h0 hb (fun x hx=>hlt x (by simp[hx]))) (Below.trod zmu (by kernel_rfl) (of_decide_eq_true (by kernel_rfl)) h1 hb (fun x hx=>hlt x (by simp[hx])))
def ziX:(Rows.catalogCopiesRow.inPlace==Tryz.prog.inPlace 7)=true:=by kernel_rfl
def zi4:(Rows.catalogCopiesRow.unfollowed==Tryz.prog.unfollowed 7)=true:=by kernel_rfl
def zi1:(Rows.catalogCopiesRow.recurses==Tryz.prog.recurses 7)=true:=by kernel_rfl
def zi3:(Rows.catalogCopiesRow.named==Tryz.prog.varsNamed 7)=true:=by kernel_rfl
theorem zf2:joinedFacts Tryz.prog 7 Tryz.f7 Rows.catalogCopiesSpec Rows.catalogCopiesRow=true:=by
 unfold joinedFacts
 rw[ziX,zi4,zi1,zi3]
 kernel_rfl
theorem zfl:Rows.CatalogCopiesSaid:=
 OpenClaim.holds_of_wide 7 Tryz.f7 rfl rfl rfl rfl rfl rfl rfl ⟨rfl,rfl,rfl,rfl,rfl⟩ rfl rfl rfl rfl rfl (by kernel_rfl) Tryz.func7 zf2
  (of_decide_eq_true (by kernel_rfl)) (by unfold Func.isWrapper;first|(rw[if_pos (by decide +kernel)];kernel_rfl)|(rw[if_neg (by decide +kernel)];exact⟨rfl,rfl⟩))
  (fun os started H enc _=>zf7 os started H enc)
theorem catalogCopies_holds:Rows.CatalogCopiesCardSaid:=
 Claim7.holds_tied_plain_at .later [] [.data, .data, .data, .handle] true (true, "dc33cbe44915f4cfb8ce020ca162a85b788a8c615e806cfaf93cba9cc8124cc0") true
  zfl (fun _ h=>by cases h) (by kernel_rfl) (fun _ h=>by cases h) catalogCopies_row_tie rfl ⟨rfl,rfl⟩ (by kernel_rfl) rfl
  (fun f fn hf hfn=>by
   obtain rfl : f = 7 := Option.some.inj ((show Tryz.prog.funcNamed "swingbridge/swingbridgelaw13.CatalogCopies" = some 7 by kernel_rfl).symm.trans hf) |>.symm
   obtain rfl:fn=Tryz.f7:=(Option.some.inj (Tryz.func7.symm.trans hfn)).symm
   exact⟨by kernel_rfl,fun j t ht=>by
    rw[Tryz.params7]at ht
    have hm:t∈[22,74]:=by simpa using Array.mem_of_getElem? ht
    have hall:([22,74].all fun u => !Tryz.prog.wantsStandIn u)=true:=by kernel_rfl
    exact(show Tryz.prog.wantsStandIn t=false by simpa using List.all_eq_true.1 hall t hm)⟩)
  (zuR (P:=Tryz.prog) zzu _ rfl)
end Go.Proofs.YtkfpmjjcogigfaaGreatDoor
