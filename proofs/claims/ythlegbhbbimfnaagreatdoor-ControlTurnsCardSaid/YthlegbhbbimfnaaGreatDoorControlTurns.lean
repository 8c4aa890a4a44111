/- joined texts -/
import Derived.Test.YthlegbhbbimfnaaGreatDoorQ9
import Derived.Test.YthlegbhbbimfnaaGreatDoorTie
import Derived.Test.YthlegbhbbimfnaaGreatDoorCards
import Derived.SevenTiedAt
set_option linter.all false
namespace Go.Proofs.YthlegbhbbimfnaaGreatDoor
open Go.ChangeShapes Go.WideShapes Go.ChangeAt Go.RowKit Go.Deep
set_option maxRecDepth 100000 in
theorem znJ (os : Os) (started : os.Started) (H : Type) (enc : TypeId × Value → H) :
 ReturnsInHanded {} Tryz.checked os 3 .any (fun w args => (Rows.controlTurnsSpec.pre enc Tryz.prog Tryz.f3 [] false w args ∧ laidMetH Tryz.prog znP w) ∧ sizedMet enc Tryz.prog Tryz.f3 (OpenSpec.ofChange Rows.controlTurnsSpec) false w args)
  (Rows.controlTurnsSpec.post enc Tryz.prog Tryz.f3 false true false false) := by
 refine returnsInHanded_of_change_and (C := Tryz.checked) (X := fun w _ => laidMetH Tryz.prog znP w) (fun _ _ _ hh h => h.of_heap hh) znZ started (by kernel_rfl) Tryz.func3
  (ChangeSpec.witness_shaped (enc := enc) (C := Tryz.checked) (os := os) (X := fun w _ => laidMetH Tryz.prog znP w) false (World.doorLaid Tryz.prog 31 os) #[.string ⟨#[]⟩, .agg #[.int .i64 0, .string ⟨#[]⟩, .bool false, .int .i64 0, .int .i64 0, .int .i64 0, .slice none 0 0], .agg #[.int .i64 0, .string ⟨#[]⟩, .bool false, .int .i64 0, .int .i64 0, .int .i64 0, .slice none 0 0]] 8 rfl (World.shaped_of_RefB (by kernel_rfl) (by kernel_rfl)) (by kernel_rfl) (by kernel_rfl) (by kernel_rfl) (znU os _)) ?_
 intro W base args ds gs before hval0 hW _ _ hL _
 have hval : ∀ (j : Nat) t v, Tryz.f3.params[j]? = some t → args[j]? = some v → Value.okWide Tryz.prog W .any base t v := hval0
 have hW' := hW
 obtain ⟨p, q, hA0, hV, rfl, hfz, hnd⟩ := hW
 have hA : DataW.TrodAll enc Tryz.prog W 0 (fun _ => true) true Tryz.f3.params.toList args.toList ds p := hA0
 rw [Tryz.params3] at hA hval
 obtain ⟨v0, v1, v2, d0, d1, d2, p0, p1, p2, rfl, rfl, rfl, h0, h1, h2⟩ := trodAll_three hA
 obtain ⟨rfl, rfl⟩ := trodVars_none hV
 clear hA0 hval0
 simp only [List.append_nil] at hW'
 have hlt : ∀ x ∈ p0 ++ p1 ++ p2, x.block < W.heap.size := fun x hx => by simpa using hW'.lt x hx
 obtain ⟨t, rfl⟩ := okWide_string Tryz.underlying9 (hval 0 9 v0 rfl rfl)
 obtain ⟨cs1, rfl, _⟩ := okWide_struct Tryz.underlying27 (hval 1 27 v1 rfl rfl)
 obtain ⟨a, u, ea, ha⟩ : ∃ (y : Wk.PrT) (u : Value), cs1.toList = y.cs u ∧ Wk.zbv W u y := by
  obtain ⟨fuel, h⟩ := h1
  exact znQ h
 obtain rfl : cs1 = (a.cs u).toArray := by rw [← ea, Array.toArray_toList]
 obtain ⟨cs2, rfl, _⟩ := okWide_struct Tryz.underlying27 (hval 2 27 v2 rfl rfl)
 obtain ⟨b, v, eb, hb2⟩ : ∃ (y : Wk.PrT) (u : Value), cs2.toList = y.cs u ∧ Wk.zbv W u y := by
  obtain ⟨fuel, h⟩ := h2
  exact znQ h
 obtain rfl : cs2 = (b.cs v).toArray := by rw [← eb, Array.toArray_toList]
 refine Calls.mono (Wk.zh6 t a b u v W ha hb2 (znR hL)) fun e W' hh => ?_
 obtain ⟨r, he, hr, hc⟩ := hh
 subst he
 subst hr
 have hb : Below W.heap.size W W' := hc.below
 refine ⟨_, rfl, _, _, _, [], p0 ++ p1 ++ p2, [], hW', trodAll_mk1 (shut_bool Tryz.underlying4 _), ?_, rfl, hb.frame _, fun h => by cases h⟩
 have e : p0 ++ p1 ++ p2 = p0 ++ (p1 ++ p2) := by simp
 rw [e]
 exact trodAll_mk3 (Below.trod znM (by kernel_rfl) (of_decide_eq_true (by kernel_rfl)) h0 hb (fun x hx => hlt x (by simp [hx]))) (Below.trod znM (by kernel_rfl) (of_decide_eq_true (by kernel_rfl)) h1 hb (fun x hx => hlt x (by simp [hx]))) (Below.trod znM (by kernel_rfl) (of_decide_eq_true (by kernel_rfl)) h2 hb (fun x hx => hlt x (by simp [hx])))
theorem znN : (Rows.controlTurnsRow.inPlace == Tryz.prog.inPlace 3) = true := by kernel_rfl
theorem znL : (Rows.controlTurnsRow.unfollowed == Tryz.prog.unfollowed 3) = true := by kernel_rfl
theorem znO : (Rows.controlTurnsRow.recurses == Tryz.prog.recurses 3) = true := by kernel_rfl
theorem znK : (Rows.controlTurnsRow.named == Tryz.prog.varsNamed 3) = true := by kernel_rfl
theorem znI : joinedFacts Tryz.prog 3 Tryz.f3 Rows.controlTurnsSpec Rows.controlTurnsRow = true := by
 unfold joinedFacts
 rw [znN, znL, znO, znK]
 kernel_rfl
theorem znH : Rows.ControlTurnsSaid :=
 OpenClaim.holds_of_wide 3 Tryz.f3 rfl rfl rfl rfl rfl rfl rfl ⟨rfl, rfl, rfl, rfl, rfl⟩ rfl rfl rfl rfl rfl (by kernel_rfl) Tryz.func3 znI
  (of_decide_eq_true (by kernel_rfl)) (by unfold Func.isWrapper; first | (rw [if_pos (by decide +kernel)]; kernel_rfl) | (rw [if_neg (by decide +kernel)]; exact ⟨rfl, rfl⟩))
  (fun os started H enc _ => znJ os started H enc)
theorem controlTurns_holds : Rows.ControlTurnsCardSaid :=
 Claim7.holds_tied_plain_at .later [] [.data, .data, .data, .handle] true (true, "c499add716200c8a3cf60041e365d54bae87ebd5c714896e91ee9282fc57e720") true
  znH (fun _ h => by cases h) (by kernel_rfl) (fun _ h => by cases h) controlTurns_row_tie rfl ⟨rfl, rfl⟩ (by kernel_rfl) rfl
  (fun f fn hf hfn => by
   obtain rfl : f = 3 := Option.some.inj ((show Tryz.prog.funcNamed "swingbridge/swingbridgelaw20.ControlTurns" = some 3 by kernel_rfl).symm.trans hf) |>.symm
   obtain rfl : fn = Tryz.f3 := (Option.some.inj (Tryz.func3.symm.trans hfn)).symm
   exact ⟨by kernel_rfl, fun j t ht => by
    rw [Tryz.params3] at ht
    have hm : t ∈ [9, 27, 27] := by simpa using Array.mem_of_getElem? ht
    have hall : ([9, 27, 27].all fun u => !Tryz.prog.wantsStandIn u) = true := by kernel_rfl
    exact (show Tryz.prog.wantsStandIn t = false by simpa using List.all_eq_true.1 hall t hm)⟩)
  (by kernel_rfl)
end Go.Proofs.YthlegbhbbimfnaaGreatDoor
