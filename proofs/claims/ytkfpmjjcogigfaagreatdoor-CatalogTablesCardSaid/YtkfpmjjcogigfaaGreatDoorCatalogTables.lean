/- joined texts -/
import Derived.Test.YtkfpmjjcogigfaaGreatDoorI17
import Derived.Test.YtkfpmjjcogigfaaGreatDoorTie
import Derived.Test.YtkfpmjjcogigfaaGreatDoorCards
import Derived.SevenTiedAt
set_option linter.all false
namespace Go.Proofs.YtkfpmjjcogigfaaGreatDoor
open Go.ChangeShapes Go.WideShapes Go.ChangeAt Go.RowKit Go.Deep
set_option maxRecDepth 100000 in
theorem zfX(os:Os)(started:os.Started)(H:Type)(enc:TypeId×Value→H) :
 ReturnsInHanded {} Tryz.checked os 6 .any (fun w args=>(Rows.catalogTablesSpec.pre enc Tryz.prog Tryz.f6 [] false w args∧laidMetH Tryz.prog zkK w)∧sizedMet enc Tryz.prog Tryz.f6 (OpenSpec.ofChange Rows.catalogTablesSpec) false w args)
  (Rows.catalogTablesSpec.post enc Tryz.prog Tryz.f6 false true false false):=by
 refine returnsInHanded_of_change_and (C:=Tryz.checked) (X:=fun w _=>laidMetH Tryz.prog zkK w) (fun _ _ _ hh h=>h.of_heap hh) zDg started (by kernel_rfl) Tryz.func6
  (ChangeSpec.witness_shaped (enc:=enc) (C:=Tryz.checked) (os:=os) (X:=fun w _=>laidMetH Tryz.prog zkK w) false (World.doorLaid Tryz.prog 31 os) #[.slice none 0 0,.agg #[.int .i64 0,.string ⟨#[]⟩,.slice none 0 0,.slice none 0 0,.slice none 0 0,.slice none 0 0,.slice none 0 0,.slice none 0 0]] 8 rfl (World.shaped_of_RefB (by kernel_rfl) (by kernel_rfl)) (by kernel_rfl) (by kernel_rfl) (by kernel_rfl) (zub os _)) ?_
 intro W base args ds gs before hval0 hW _ _ hL _
 have hval:∀(j:Nat) t v,Tryz.f6.params[j]? = some t→args[j]? = some v→Value.okWide Tryz.prog W .any base t v:=hval0
 have hW':=hW
 obtain⟨p,q,hA0,hV,rfl,hfz,hnd⟩:=hW
 have hA:DataW.TrodAll enc Tryz.prog W 0 (fun _=>true) true Tryz.f6.params.toList args.toList ds p:=hA0
 rw[Tryz.params6]at hA hval
 obtain⟨v0,v1,d0,d1,p0,p1,rfl,rfl,rfl,h0,h1⟩:=trodAll_two hA
 obtain⟨rfl,rfl⟩:=trodVars_none hV
 clear hA0 hval0
 simp only[List.append_nil]at hW'
 have hlt:∀x∈p0++p1,x.block<W.heap.size:=fun x hx=>by simpa using hW'.lt x hx
 letI:Wk.Lw:=⟨W.heap.size⟩
 obtain⟨a0,n0,m0,rfl⟩:=okWide_slice Tryz.underlying22 (hval 0 22 v0 rfl rfl)
 obtain⟨u0,xs0,e0,hx0,hm0⟩:∃v l,[Value.slice a0 n0 m0]=[v]∧Wk.zej W v l∧∀y∈l,Wk.zln y:=by
  obtain⟨fuel,h⟩:=h0
  exact ztI (Nat.le_refl _) h
 obtain rfl:u0=.slice a0 n0 m0:=by simpa using e0.symm
 obtain⟨cs1,rfl,_⟩:=okWide_struct Tryz.underlying39 (hval 1 39 v1 rfl rfl)
 obtain⟨x,e,ex,hx,mx⟩:∃(x:Wk.EvT) (e:Wk.EvV),cs1.toList=Wk.evC x e∧Wk.zbv W e x∧Wk.zln x:=by
  obtain⟨fuel,h⟩:=h1
  exact zpV (Nat.le_refl _) h
 obtain rfl:cs1=(Wk.evC x e).toArray:=by rw[←ex,Array.toArray_toList]
 refine Calls.mono (Wk.ziQ _ xs0 e x W (zmu hL) (Nat.le_refl _) hx0 hx hm0 mx) fun e W' hh=>?_
 obtain⟨r,he,hr,hc⟩:=hh
 subst he
 subst hr
 have hb:Below W.heap.size W W':=hc.below
 refine⟨_,rfl,_,_,_,[],p0++p1,[],hW',trodAll_mk1 (shut_bool Tryz.underlying4 _),?_,rfl,hb.frame _,fun h=>by cases h⟩
 exact trodAll_mk2 (Below.trod zny (by kernel_rfl) (of_decide_eq_true (by kernel_rfl)) h0 hb (fun x hx=>hlt x (by simp[hx]))) (Below.trod zny (by kernel_rfl) (of_decide_eq_true (by kernel_rfl)) h1 hb (fun x hx=>hlt x (by simp[hx])))
theorem ziP:(Rows.catalogTablesRow.inPlace == Tryz.prog.inPlace 6)=true:=by kernel_rfl
theorem ziO:(Rows.catalogTablesRow.unfollowed == Tryz.prog.unfollowed 6)=true:=by kernel_rfl
theorem ziN:(Rows.catalogTablesRow.recurses == Tryz.prog.recurses 6)=true:=by kernel_rfl
theorem ziM:(Rows.catalogTablesRow.named == Tryz.prog.varsNamed 6)=true:=by kernel_rfl
theorem zfU:joinedFacts Tryz.prog 6 Tryz.f6 Rows.catalogTablesSpec Rows.catalogTablesRow=true:=by
 unfold joinedFacts
 rw[ziP,ziO,ziN,ziM]
 kernel_rfl
theorem zeO:Rows.CatalogTablesSaid:=
 OpenClaim.holds_of_wide 6 Tryz.f6 rfl rfl rfl rfl rfl rfl rfl ⟨rfl,rfl,rfl,rfl,rfl⟩ rfl rfl rfl rfl rfl (by kernel_rfl) Tryz.func6 zfU
  (of_decide_eq_true (by kernel_rfl)) (by unfold Func.isWrapper;first|(rw[if_pos (by decide +kernel)];kernel_rfl)|(rw[if_neg (by decide +kernel)];exact⟨rfl,rfl⟩))
  (fun os started H enc _=>zfX os started H enc)
theorem catalogTables_holds:Rows.CatalogTablesCardSaid:=
 Claim7.holds_tied_plain_at .later [] [.data, .data, .data, .handle] true (true, "dc33cbe44915f4cfb8ce020ca162a85b788a8c615e806cfaf93cba9cc8124cc0") true
  zeO (fun _ h=>by cases h) (by kernel_rfl) (fun _ h=>by cases h) catalogTables_row_tie rfl ⟨rfl,rfl⟩ (by kernel_rfl) rfl
  (fun f fn hf hfn=>by
   obtain rfl : f = 6 := Option.some.inj ((show Tryz.prog.funcNamed "swingbridge/swingbridgelaw13.CatalogTables" = some 6 by kernel_rfl).symm.trans hf) |>.symm
   obtain rfl:fn=Tryz.f6:=(Option.some.inj (Tryz.func6.symm.trans hfn)).symm
   exact⟨by kernel_rfl,fun j t ht=>by
    rw[Tryz.params6]at ht
    have hm:t∈[22,39]:=by simpa using Array.mem_of_getElem? ht
    have hall:([22,39].all fun u => !Tryz.prog.wantsStandIn u)=true:=by kernel_rfl
    exact(show Tryz.prog.wantsStandIn t=false by simpa using List.all_eq_true.1 hall t hm)⟩)
  (zvb (P:=Tryz.prog) zyX _ rfl)
end Go.Proofs.YtkfpmjjcogigfaaGreatDoor
