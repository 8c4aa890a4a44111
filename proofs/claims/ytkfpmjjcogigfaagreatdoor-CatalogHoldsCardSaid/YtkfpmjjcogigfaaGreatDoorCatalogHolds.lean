/- joined texts -/
import Derived.Test.YtkfpmjjcogigfaaGreatDoorW17
import Derived.Test.YtkfpmjjcogigfaaGreatDoorTie
import Derived.Test.YtkfpmjjcogigfaaGreatDoorCards
import Derived.SevenTiedAt
set_option linter.all false
namespace Go.Proofs.YtkfpmjjcogigfaaGreatDoor
open Go.ChangeShapes Go.WideShapes Go.ChangeAt Go.RowKit Go.Deep
set_option maxRecDepth 100000 in
theorem zfU(os:Os)(started:os.Started)(H:Type)(enc:TypeId×Value→H) :
 ReturnsInHanded {} Tryz.checked os 3 .any (fun w args=>(Rows.catalogHoldsSpec.pre enc Tryz.prog Tryz.f3 [] false w args∧laidMetH Tryz.prog zjL w)∧sizedMet enc Tryz.prog Tryz.f3 (OpenSpec.ofChange Rows.catalogHoldsSpec) false w args)
  (Rows.catalogHoldsSpec.post enc Tryz.prog Tryz.f3 false true false false):=by
 refine returnsInHanded_of_change_and (C:=Tryz.checked) (X:=fun w _=>laidMetH Tryz.prog zjL w) (fun _ _ _ hh h=>h.of_heap hh) zz3 started (by kernel_rfl) Tryz.func3
  (ChangeSpec.witness_shaped (enc:=enc) (C:=Tryz.checked) (os:=os) (X:=fun w _=>laidMetH Tryz.prog zjL w) false (World.doorLaid Tryz.prog 31 os) #[.slice none 0 0] 8 rfl (World.shaped_of_RefB (by kernel_rfl) (by kernel_rfl)) (by kernel_rfl) (by kernel_rfl) (by kernel_rfl) (zrA os _)) ?_
 intro W base args ds gs before hval0 hW _ _ hL _
 have hval:∀(j:Nat) t v,Tryz.f3.params[j]? = some t→args[j]? = some v→Value.okWide Tryz.prog W .any base t v:=hval0
 have hW':=hW
 obtain⟨p,q,hA0,hV,rfl,hfz,hnd⟩:=hW
 have hA:DataW.TrodAll enc Tryz.prog W 0 (fun _=>true) true Tryz.f3.params.toList args.toList ds p:=hA0
 rw[Tryz.params3]at hA hval
 obtain⟨v0,vs0,d0,ds0,p0,q0,hargs,rfl,rfl,h0,r0⟩:=trodAll_cons hA
 obtain⟨rfl,rfl,rfl⟩:=trodAll_nil r0
 obtain rfl:args = #[v0]:=by cases args;simp_all
 obtain⟨rfl,rfl⟩:=trodVars_none hV
 clear hA0 hval0
 simp only[List.append_nil]at hW'
 have hlt:∀x∈p0,x.block<W.heap.size:=fun x hx=>by simpa using hW'.lt x hx
 letI:Wk.Lw:=⟨W.heap.size⟩
 obtain⟨a0,n0,m0,rfl⟩:=okWide_slice Tryz.underlying22 (hval 0 22 v0 rfl rfl)
 obtain⟨u0,xs0,e0,hx0,hm0⟩:∃v l,[Value.slice a0 n0 m0]=[v]∧Wk.zdd W v l∧∀y∈l,Wk.zmT y:=by
  obtain⟨fuel,h⟩:=h0
  exact zrb (Nat.le_refl _) h
 obtain rfl:u0=.slice a0 n0 m0:=by simpa using e0.symm
 refine Calls.mono (Wk.ziO _ xs0 W (zl4 hL) (Nat.le_refl _) hx0 hm0) fun e W' hh=>?_
 obtain⟨r,he,hr,hc⟩:=hh
 subst he
 subst hr
 have hb:Below W.heap.size W W':=hc.below
 refine⟨_,rfl,_,_,_,[],p0,[],hW',trodAll_mk1 (shut_bool Tryz.underlying4 _),?_,rfl,hb.frame _,fun h=>by cases h⟩
 exact trodAll_mk1 (Below.trod zsv (by kernel_rfl) (of_decide_eq_true (by kernel_rfl)) h0 hb (fun x hx=>hlt x (by simp[hx])))
theorem zh9:(Rows.catalogHoldsRow.inPlace == Tryz.prog.inPlace 3)=true:=by kernel_rfl
theorem ziW:(Rows.catalogHoldsRow.unfollowed == Tryz.prog.unfollowed 3)=true:=by kernel_rfl
theorem zil:(Rows.catalogHoldsRow.recurses == Tryz.prog.recurses 3)=true:=by kernel_rfl
theorem ziR:(Rows.catalogHoldsRow.named == Tryz.prog.varsNamed 3)=true:=by kernel_rfl
theorem zfT:joinedFacts Tryz.prog 3 Tryz.f3 Rows.catalogHoldsSpec Rows.catalogHoldsRow=true:=by
 unfold joinedFacts
 rw[zh9,ziW,zil,ziR]
 kernel_rfl
theorem zeJ:Rows.CatalogHoldsSaid:=
 OpenClaim.holds_of_wide 3 Tryz.f3 rfl rfl rfl rfl rfl rfl rfl ⟨rfl,rfl,rfl,rfl,rfl⟩ rfl rfl rfl rfl rfl (by kernel_rfl) Tryz.func3 zfT
  (of_decide_eq_true (by kernel_rfl)) (by unfold Func.isWrapper;first|(rw[if_pos (by decide +kernel)];kernel_rfl)|(rw[if_neg (by decide +kernel)];exact⟨rfl,rfl⟩))
  (fun os started H enc _=>zfU os started H enc)
theorem catalogHolds_holds:Rows.CatalogHoldsCardSaid:=
 Claim7.holds_tied_plain_at .later [] [.data, .data, .data, .handle] true (true, "dc33cbe44915f4cfb8ce020ca162a85b788a8c615e806cfaf93cba9cc8124cc0") true
  zeJ (fun _ h=>by cases h) (by kernel_rfl) (fun _ h=>by cases h) catalogHolds_row_tie rfl ⟨rfl,rfl⟩ (by kernel_rfl) rfl
  (fun f fn hf hfn=>by
   obtain rfl : f = 3 := Option.some.inj ((show Tryz.prog.funcNamed "swingbridge/swingbridgelaw13.CatalogHolds" = some 3 by kernel_rfl).symm.trans hf) |>.symm
   obtain rfl:fn=Tryz.f3:=(Option.some.inj (Tryz.func3.symm.trans hfn)).symm
   exact⟨by kernel_rfl,fun j t ht=>by
    rw[Tryz.params3]at ht
    have hm:t∈[22]:=by simpa using Array.mem_of_getElem? ht
    have hall:([22].all fun u => !Tryz.prog.wantsStandIn u)=true:=by kernel_rfl
    exact(show Tryz.prog.wantsStandIn t=false by simpa using List.all_eq_true.1 hall t hm)⟩)
  (ztJ (P:=Tryz.prog) zvp _ rfl)
end Go.Proofs.YtkfpmjjcogigfaaGreatDoor
