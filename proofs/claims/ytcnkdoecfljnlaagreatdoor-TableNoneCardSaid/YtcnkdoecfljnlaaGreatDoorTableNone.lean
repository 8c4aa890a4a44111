/-
  The law TableNone: for every call, the call returns true, and the argument reads as it did. No condition beyond what the row lists of the package variables, which the card ties to the program text.
-/
import Derived.Test.YtcnkdoecfljnlaaGreatDoorQ15
import Derived.Test.YtcnkdoecfljnlaaGreatDoorTie
import Derived.Test.YtcnkdoecfljnlaaGreatDoorCards
import Derived.SevenTiedAt
set_option linter.all false
namespace Go.Proofs.YtcnkdoecfljnlaaGreatDoor
open Go.ChangeShapes Go.WideShapes Go.ChangeAt Go.RowKit Go.Deep

set_option maxRecDepth 100000 in
theorem tableNone_lifted (os : Os) (started : os.Started) (H : Type) (enc : TypeId × Value → H) :
    ReturnsInHanded {} Tryz.checked os 8 .any (fun w args => (Rows.tableNoneSpec.pre enc Tryz.prog Tryz.f8 [] false w args ∧ laidMetH Tryz.prog laid4 w) ∧ sizedMet enc Tryz.prog Tryz.f8 (OpenSpec.ofChange Rows.tableNoneSpec) false w args)
      (Rows.tableNoneSpec.post enc Tryz.prog Tryz.f8 false true false false) := by
  refine returnsInHanded_of_change_and (C := Tryz.checked) (X := fun w _ => laidMetH Tryz.prog laid4 w) (fun _ _ _ hh h => h.of_heap hh) ownT started (by kernel_rfl) Tryz.func8
    (ChangeSpec.witness_shaped (enc := enc) (C := Tryz.checked) (os := os) (X := fun w _ => laidMetH Tryz.prog laid4 w) false (World.doorLaid Tryz.prog 31 os) #[.agg #[.int .i64 0, .int .i64 0, .slice none 0 0, .string ⟨#[]⟩]] 8 rfl (World.shaped_of_RefB (by kernel_rfl) (by kernel_rfl)) (by kernel_rfl) (by kernel_rfl) (by kernel_rfl) (door_met os _)) ?_
  intro W base args ds gs before hval0 hW _ _ hL _
  have hval : ∀ (j : Nat) t v, Tryz.f8.params[j]? = some t → args[j]? = some v → Value.okWide Tryz.prog W .any base t v := hval0
  have hW' := hW
  obtain ⟨p, q, hA0, hV, rfl, hfz, hnd⟩ := hW
  have hA : DataW.TrodAll enc Tryz.prog W 0 (fun _ => true) true Tryz.f8.params.toList args.toList ds p := hA0
  rw [Tryz.params8] at hA hval
  obtain ⟨v0, vs0, d0, ds0, p0, q0, hargs, rfl, rfl, h0, r0⟩ := trodAll_cons hA
  obtain ⟨rfl, rfl, rfl⟩ := trodAll_nil r0
  obtain rfl : args = #[v0] := by cases args; simp_all
  obtain ⟨rfl, rfl⟩ := trodVars_none hV
  clear hA0 hval0
  simp only [List.append_nil] at hW'
  have hlt : ∀ x ∈ p0, x.block < W.heap.size := fun x hx => by simpa using hW'.lt x hx
  obtain ⟨cs, rfl, _⟩ := okWide_struct Tryz.underlying50 (hval 0 50 v0 rfl rfl)
  obtain ⟨x, ex, a, hx⟩ : ∃ y : Wk.ActV, cs.toList = y.cs ∧ ∃ a, Wk.IsAct W y a := by
    obtain ⟨fuel, h⟩ := h0
    exact open_act h
  obtain rfl : cs = x.cs.toArray := by rw [← ex, Array.toArray_toList]
  refine Calls.mono (Wk.l_None x a W (eok_of_laid hL) hx) fun e W' hh => ?_
  obtain ⟨r, he, hr, hc⟩ := hh
  subst he
  subst hr
  have hb : Below W.heap.size W W' := hc.below
  refine ⟨_, rfl, _, _, _, [], p0, [], hW', trodAll_mk1 (shut_bool Tryz.underlying4 _), ?_, rfl, hb.frame _, fun h => by cases h⟩
  exact trodAll_mk1 (Below.trod laidOutT (by kernel_rfl) (of_decide_eq_true (by kernel_rfl)) h0 hb (fun x hx => hlt x (by simp [hx])))

theorem tableNone_1 : (Rows.tableNoneRow.inPlace == Tryz.prog.inPlace 8) = true := by kernel_rfl
theorem tableNone_2 : (Rows.tableNoneRow.unfollowed == Tryz.prog.unfollowed 8) = true := by kernel_rfl
theorem tableNone_3 : (Rows.tableNoneRow.recurses == Tryz.prog.recurses 8) = true := by kernel_rfl
theorem tableNone_4 : (Rows.tableNoneRow.named == Tryz.prog.varsNamed 8) = true := by kernel_rfl
theorem tableNone_closed : joinedFacts Tryz.prog 8 Tryz.f8 Rows.tableNoneSpec Rows.tableNoneRow = true := by
  unfold joinedFacts
  rw [tableNone_1, tableNone_2, tableNone_3, tableNone_4]
  kernel_rfl

theorem tableNone_row_holds : Rows.TableNoneSaid :=
  OpenClaim.holds_of_wide 8 Tryz.f8 rfl rfl rfl rfl rfl rfl rfl ⟨rfl, rfl, rfl, rfl, rfl⟩ rfl rfl rfl rfl rfl (by kernel_rfl) Tryz.func8 tableNone_closed
    (of_decide_eq_true (by kernel_rfl)) (by unfold Func.isWrapper; first | (rw [if_pos (by decide +kernel)]; kernel_rfl) | (rw [if_neg (by decide +kernel)]; exact ⟨rfl, rfl⟩))
    (fun os started H enc _ => tableNone_lifted os started H enc)

theorem tableNone_holds : Rows.TableNoneCardSaid :=
  Claim7.holds_tied_plain_at .later [] [.data, .data, .data, .handle] true (true, "6f9801c9f4e626fc7470ec2fe8adc9d318d76d73760030916c961e75bbcbc5c1") true
    tableNone_row_holds (fun _ h => by cases h) (by kernel_rfl) (fun _ h => by cases h) tableNone_row_tie rfl ⟨rfl, rfl⟩ (by kernel_rfl) rfl
    (fun f fn hf hfn => by
      obtain rfl : f = 8 := Option.some.inj ((show Tryz.prog.funcNamed "swingbridge/swingbridgelaw12.TableNone" = some 8 by kernel_rfl).symm.trans hf) |>.symm
      obtain rfl : fn = Tryz.f8 := (Option.some.inj (Tryz.func8.symm.trans hfn)).symm
      exact ⟨by kernel_rfl, fun j t ht => by
        rw [Tryz.params8] at ht
        have hm : t ∈ [50] := by simpa using Array.mem_of_getElem? ht
        have hall : ([50].all fun u => !Tryz.prog.wantsStandIn u) = true := by kernel_rfl
        exact (show Tryz.prog.wantsStandIn t = false by simpa using List.all_eq_true.1 hall t hm)⟩)
    (by kernel_rfl)
end Go.Proofs.YtcnkdoecfljnlaaGreatDoor
