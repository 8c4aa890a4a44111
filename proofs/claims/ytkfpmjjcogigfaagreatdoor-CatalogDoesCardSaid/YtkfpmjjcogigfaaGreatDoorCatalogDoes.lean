/- joined texts -/
import Derived.Test.YtkfpmjjcogigfaaGreatDoorF17
import Derived.Test.YtkfpmjjcogigfaaGreatDoorTie
import Derived.Test.YtkfpmjjcogigfaaGreatDoorCards
import Derived.SevenTiedAt
set_option linter.all false
namespace Go.Proofs.YtkfpmjjcogigfaaGreatDoor
open Go.ChangeShapes Go.WideShapes Go.ChangeAt Go.RowKit Go.Deep
set_option maxRecDepth 100000 in
theorem zg6(os:Os)(started:os.Started)(H:Type)(enc:TypeId×Value→H) :
 ReturnsInHanded {} Tryz.checked os 4 .any (fun w args=>(Rows.catalogDoesSpec.pre enc Tryz.prog Tryz.f4 [] false w args∧laidMetH Tryz.prog zlj w)∧sizedMet enc Tryz.prog Tryz.f4 (OpenSpec.ofChange Rows.catalogDoesSpec) false w args)
  (Rows.catalogDoesSpec.post enc Tryz.prog Tryz.f4 false true false false):=by
 refine returnsInHanded_of_change_and (C:=Tryz.checked) (X:=fun w _=>laidMetH Tryz.prog zlj w) (fun _ _ _ hh h=>h.of_heap hh) zC3 started (by kernel_rfl) Tryz.func4
  (ChangeSpec.witness_shaped (enc:=enc) (C:=Tryz.checked) (os:=os) (X:=fun w _=>laidMetH Tryz.prog zlj w) false (World.doorLaid Tryz.prog 31 os) #[.slice none 0 0,.string ⟨#[]⟩] 8 rfl (World.shaped_of_RefB (by kernel_rfl) (by kernel_rfl)) (by kernel_rfl) (by kernel_rfl) (by kernel_rfl) (zth os _)) ?_
 intro W base args ds gs before hval0 hW _ _ hL _
 have hval:∀(j:Nat) t v,Tryz.f4.params[j]? = some t→args[j]? = some v→Value.okWide Tryz.prog W .any base t v:=hval0
 have hW':=hW
 obtain⟨p,q,hA0,hV,rfl,hfz,hnd⟩:=hW
 have hA:DataW.TrodAll enc Tryz.prog W 0 (fun _=>true) true Tryz.f4.params.toList args.toList ds p:=hA0
 rw[Tryz.params4]at hA hval
 obtain⟨v0,v1,d0,d1,p0,p1,rfl,rfl,rfl,h0,h1⟩:=trodAll_two hA
 obtain⟨rfl,rfl⟩:=trodVars_none hV
 clear hA0 hval0
 simp only[List.append_nil]at hW'
 have hlt:∀x∈p0++p1,x.block<W.heap.size:=fun x hx=>by simpa using hW'.lt x hx
 letI:Wk.Lw:=⟨W.heap.size⟩
 obtain⟨a0,n0,m0,rfl⟩:=okWide_slice Tryz.underlying22 (hval 0 22 v0 rfl rfl)
 obtain⟨u0,xs0,e0,hx0,hm0⟩:∃v l,[Value.slice a0 n0 m0]=[v]∧Wk.zeq W v l∧∀y∈l,Wk.zoz y:=by
  obtain⟨fuel,h⟩:=h0
  exact zt9 (Nat.le_refl _) h
 obtain rfl:u0=.slice a0 n0 m0:=by simpa using e0.symm
 obtain⟨nm,rfl⟩:=okWide_string Tryz.underlying9 (hval 1 9 v1 rfl rfl)
 refine Calls.mono (Wk.zku _ xs0 nm W (zmg hL) (Nat.le_refl _) hx0 hm0) fun e W' hh=>?_
 obtain⟨r,he,hr,hc⟩:=hh
 subst he
 subst hr
 have hb:Below W.heap.size W W':=hc.below
 refine⟨_,rfl,_,_,_,[],p0++p1,[],hW',trodAll_mk1 (shut_bool Tryz.underlying4 _),?_,rfl,hb.frame _,fun h=>by cases h⟩
 exact trodAll_mk2 (Below.trod znF (by kernel_rfl) (of_decide_eq_true (by kernel_rfl)) h0 hb (fun x hx=>hlt x (by simp[hx]))) (Below.trod znF (by kernel_rfl) (of_decide_eq_true (by kernel_rfl)) h1 hb (fun x hx=>hlt x (by simp[hx])))
theorem zkr:(Rows.catalogDoesRow.inPlace == Tryz.prog.inPlace 4)=true:=by kernel_rfl
theorem zkt:(Rows.catalogDoesRow.unfollowed == Tryz.prog.unfollowed 4)=true:=by kernel_rfl
theorem zkz:(Rows.catalogDoesRow.recurses == Tryz.prog.recurses 4)=true:=by kernel_rfl
theorem zkx:(Rows.catalogDoesRow.named == Tryz.prog.varsNamed 4)=true:=by kernel_rfl
theorem zgW:joinedFacts Tryz.prog 4 Tryz.f4 Rows.catalogDoesSpec Rows.catalogDoesRow=true:=by
 unfold joinedFacts
 rw[zkr,zkt,zkz,zkx]
 kernel_rfl
theorem zfH:Rows.CatalogDoesSaid:=
 OpenClaim.holds_of_wide 4 Tryz.f4 rfl rfl rfl rfl rfl rfl rfl ⟨rfl,rfl,rfl,rfl,rfl⟩ rfl rfl rfl rfl rfl (by kernel_rfl) Tryz.func4 zgW
  (of_decide_eq_true (by kernel_rfl)) (by unfold Func.isWrapper;first|(rw[if_pos (by decide +kernel)];kernel_rfl)|(rw[if_neg (by decide +kernel)];exact⟨rfl,rfl⟩))
  (fun os started H enc _=>zg6 os started H enc)
theorem catalogDoes_holds:Rows.CatalogDoesCardSaid:=
 Claim7.holds_tied_plain_at .later [] [.data, .data, .data, .handle] true (true, "dc33cbe44915f4cfb8ce020ca162a85b788a8c615e806cfaf93cba9cc8124cc0") true
  zfH (fun _ h=>by cases h) (by kernel_rfl) (fun _ h=>by cases h) catalogDoes_row_tie rfl ⟨rfl,rfl⟩ (by kernel_rfl) rfl
  (fun f fn hf hfn=>by
   obtain rfl : f = 4 := Option.some.inj ((show Tryz.prog.funcNamed "swingbridge/swingbridgelaw13.CatalogDoes" = some 4 by kernel_rfl).symm.trans hf) |>.symm
   obtain rfl:fn=Tryz.f4:=(Option.some.inj (Tryz.func4.symm.trans hfn)).symm
   exact⟨by kernel_rfl,fun j t ht=>by
    rw[Tryz.params4]at ht
    have hm:t∈[22,9]:=by simpa using Array.mem_of_getElem? ht
    have hall:([22,9].all fun u => !Tryz.prog.wantsStandIn u)=true:=by kernel_rfl
    exact(show Tryz.prog.wantsStandIn t=false by simpa using List.all_eq_true.1 hall t hm)⟩)
  (zvQ (P:=Tryz.prog) zxH _ rfl)
end Go.Proofs.YtkfpmjjcogigfaaGreatDoor
