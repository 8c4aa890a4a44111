/- joined texts -/
import Derived.Test.YtkfpmjjcogigfaaGreatDoorQ17
import Derived.Test.YtkfpmjjcogigfaaGreatDoorTie
import Derived.Test.YtkfpmjjcogigfaaGreatDoorCards
import Derived.SevenTiedAt
set_option linter.all false
namespace Go.Proofs.YtkfpmjjcogigfaaGreatDoor
open Go.ChangeShapes Go.WideShapes Go.ChangeAt Go.RowKit Go.Deep
set_option maxRecDepth 100000 in
theorem zg7(os:Os)(started:os.Started)(H:Type)(enc:TypeId×Value→H) :
 ReturnsInHanded {} Tryz.checked os 5 .any (fun w args=>(Rows.catalogAllSpec.pre enc Tryz.prog Tryz.f5 [] false w args∧laidMetH Tryz.prog zla w)∧sizedMet enc Tryz.prog Tryz.f5 (OpenSpec.ofChange Rows.catalogAllSpec) false w args)
  (Rows.catalogAllSpec.post enc Tryz.prog Tryz.f5 false true false false):=by
 refine returnsInHanded_of_change_and (C:=Tryz.checked) (X:=fun w _=>laidMetH Tryz.prog zla w) (fun _ _ _ hh h=>h.of_heap hh) zCK started (by kernel_rfl) Tryz.func5
  (ChangeSpec.witness_shaped (enc:=enc) (C:=Tryz.checked) (os:=os) (X:=fun w _=>laidMetH Tryz.prog zla w) false (World.doorLaid Tryz.prog 31 os) #[.slice none 0 0,.slice none 0 0] 8 rfl (World.shaped_of_RefB (by kernel_rfl) (by kernel_rfl)) (by kernel_rfl) (by kernel_rfl) (by kernel_rfl) (ztu os _)) ?_
 intro W base args ds gs before hval0 hW _ _ hL _
 have hval:∀(j:Nat) t v,Tryz.f5.params[j]? = some t→args[j]? = some v→Value.okWide Tryz.prog W .any base t v:=hval0
 have hW':=hW
 obtain⟨p,q,hA0,hV,rfl,hfz,hnd⟩:=hW
 have hA:DataW.TrodAll enc Tryz.prog W 0 (fun _=>true) true Tryz.f5.params.toList args.toList ds p:=hA0
 rw[Tryz.params5]at hA hval
 obtain⟨v0,v1,d0,d1,p0,p1,rfl,rfl,rfl,h0,h1⟩:=trodAll_two hA
 obtain⟨rfl,rfl⟩:=trodVars_none hV
 clear hA0 hval0
 simp only[List.append_nil]at hW'
 have hlt:∀x∈p0++p1,x.block<W.heap.size:=fun x hx=>by simpa using hW'.lt x hx
 letI:Wk.Lw:=⟨W.heap.size⟩
 obtain⟨a0,n0,m0,rfl⟩:=okWide_slice Tryz.underlying22 (hval 0 22 v0 rfl rfl)
 obtain⟨u0,xs0,e0,hx0,hm0⟩:∃v l,[Value.slice a0 n0 m0]=[v]∧Wk.zdj W v l∧∀y∈l,Wk.zlC y:=by
  obtain⟨fuel,h⟩:=h0
  exact zn0 (Nat.le_refl _) h
 obtain rfl:u0=.slice a0 n0 m0:=by simpa using e0.symm
 obtain⟨a1,n1,m1,rfl⟩:=okWide_slice Tryz.underlying22 (hval 1 22 v1 rfl rfl)
 obtain⟨u1,xs1,e1,hx1,hm1⟩:∃v l,[Value.slice a1 n1 m1]=[v]∧Wk.zdj W v l∧∀y∈l,Wk.zlC y:=by
  obtain⟨fuel,h⟩:=h1
  exact zn0 (Nat.le_refl _) h
 obtain rfl:u1=.slice a1 n1 m1:=by simpa using e1.symm
 refine Calls.mono (Wk.zln _ _ xs0 xs1 W (zmB hL) (Nat.le_refl _) hx0 hx1 hm0 hm1) fun e W' hh=>?_
 obtain⟨r,he,hr,hc⟩:=hh
 subst he
 subst hr
 have hb:Below W.heap.size W W':=hc.below
 refine⟨_,rfl,_,_,_,[],p0++p1,[],hW',trodAll_mk1 (shut_bool Tryz.underlying4 _),?_,rfl,hb.frame _,fun h=>by cases h⟩
 exact trodAll_mk2 (Below.trod znL (by kernel_rfl) (of_decide_eq_true (by kernel_rfl)) h0 hb (fun x hx=>hlt x (by simp[hx]))) (Below.trod znL (by kernel_rfl) (of_decide_eq_true (by kernel_rfl)) h1 hb (fun x hx=>hlt x (by simp[hx])))
theorem zlx:(Rows.catalogAllRow.inPlace == Tryz.prog.inPlace 5)=true:=by kernel_rfl
theorem zlL:(Rows.catalogAllRow.unfollowed == Tryz.prog.unfollowed 5)=true:=by kernel_rfl
theorem zlu:(Rows.catalogAllRow.recurses == Tryz.prog.recurses 5)=true:=by kernel_rfl
theorem zlR:(Rows.catalogAllRow.named == Tryz.prog.varsNamed 5)=true:=by kernel_rfl
theorem zg8:joinedFacts Tryz.prog 5 Tryz.f5 Rows.catalogAllSpec Rows.catalogAllRow=true:=by
 unfold joinedFacts
 rw[zlx,zlL,zlu,zlR]
 kernel_rfl
theorem zf5:Rows.CatalogAllSaid:=
 OpenClaim.holds_of_wide 5 Tryz.f5 rfl rfl rfl rfl rfl rfl rfl ⟨rfl,rfl,rfl,rfl,rfl⟩ rfl rfl rfl rfl rfl (by kernel_rfl) Tryz.func5 zg8
  (of_decide_eq_true (by kernel_rfl)) (by unfold Func.isWrapper;first|(rw[if_pos (by decide +kernel)];kernel_rfl)|(rw[if_neg (by decide +kernel)];exact⟨rfl,rfl⟩))
  (fun os started H enc _=>zg7 os started H enc)
theorem catalogAll_holds:Rows.CatalogAllCardSaid:=
 Claim7.holds_tied_plain_at .later [] [.data, .data, .data, .handle] true (true, "dc33cbe44915f4cfb8ce020ca162a85b788a8c615e806cfaf93cba9cc8124cc0") true
  zf5 (fun _ h=>by cases h) (by kernel_rfl) (fun _ h=>by cases h) catalogAll_row_tie rfl ⟨rfl,rfl⟩ (by kernel_rfl) rfl
  (fun f fn hf hfn=>by
   obtain rfl : f = 5 := Option.some.inj ((show Tryz.prog.funcNamed "swingbridge/swingbridgelaw13.CatalogAll" = some 5 by kernel_rfl).symm.trans hf) |>.symm
   obtain rfl:fn=Tryz.f5:=(Option.some.inj (Tryz.func5.symm.trans hfn)).symm
   exact⟨by kernel_rfl,fun j t ht=>by
    rw[Tryz.params5]at ht
    have hm:t∈[22,22]:=by simpa using Array.mem_of_getElem? ht
    have hall:([22,22].all fun u => !Tryz.prog.wantsStandIn u)=true:=by kernel_rfl
    exact(show Tryz.prog.wantsStandIn t=false by simpa using List.all_eq_true.1 hall t hm)⟩)
  (zvg (P:=Tryz.prog) zxM _ rfl)
end Go.Proofs.YtkfpmjjcogigfaaGreatDoor
