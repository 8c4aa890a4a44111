/- joined texts -/
import Derived.Test.YtcnkdoecfljnlaaGreatDoorZ15
import Derived.Test.YtcnkdoecfljnlaaGreatDoorTie
import Derived.Test.YtcnkdoecfljnlaaGreatDoorCards
import Derived.SevenTiedAt
set_option linter.all false
namespace Go.Proofs.YtcnkdoecfljnlaaGreatDoor
open Go.ChangeShapes Go.WideShapes Go.ChangeAt Go.RowKit Go.Deep
set_option maxRecDepth 100000 in
theorem zgh (os : Os) (started : os.Started) (H : Type) (enc : TypeId × Value → H) :
 ReturnsInHanded {} Tryz.checked os 5 .any (fun w args => (Rows.tableHoldsSpec.pre enc Tryz.prog Tryz.f5 [] false w args ∧ laidMetH Tryz.prog ziA w) ∧ sizedMet enc Tryz.prog Tryz.f5 (OpenSpec.ofChange Rows.tableHoldsSpec) false w args)
  (Rows.tableHoldsSpec.post enc Tryz.prog Tryz.f5 false true false false) := by
 refine returnsInHanded_of_change_and (C := Tryz.checked) (X := fun w _ => laidMetH Tryz.prog ziA w) (fun _ _ _ hh h => h.of_heap hh) zxw started (by kernel_rfl) Tryz.func5
  (ChangeSpec.witness_shaped (enc := enc) (C := Tryz.checked) (os := os) (X := fun w _ => laidMetH Tryz.prog ziA w) false (World.doorLaid Tryz.prog 31 os) #[.agg #[.slice none 0 0, .slice none 0 0, .slice none 0 0], .slice none 0 0, .agg #[.int .i64 0, .int .i64 0, .slice none 0 0, .string ⟨#[]⟩]] 8 rfl (World.shaped_of_RefB (by kernel_rfl) (by kernel_rfl)) (by kernel_rfl) (by kernel_rfl) (by kernel_rfl) (zoN os _)) ?_
 intro W base args ds gs before hval0 hW _ _ hL _
 have hval : ∀ (j : Nat) t v, Tryz.f5.params[j]? = some t → args[j]? = some v → Value.okWide Tryz.prog W .any base t v := hval0
 have hW' := hW
 obtain ⟨p, q, hA0, hV, rfl, hfz, hnd⟩ := hW
 have hA : DataW.TrodAll enc Tryz.prog W 0 (fun _ => true) true Tryz.f5.params.toList args.toList ds p := hA0
 rw [Tryz.params5] at hA hval
 obtain ⟨v0, v1, v2, d0, d1, d2, p0, p1, p2, rfl, rfl, rfl, h0, h1, h2⟩ := trodAll_three hA
 obtain ⟨rfl, rfl⟩ := trodVars_none hV
 clear hA0 hval0
 simp only [List.append_nil] at hW'
 have hlt : ∀ x ∈ p0 ++ p1 ++ p2, x.block < W.heap.size := fun x hx => by simpa using hW'.lt x hx
 obtain ⟨cs0, rfl, _⟩ := okWide_struct Tryz.underlying30 (hval 0 30 v0 rfl rfl)
 obtain ⟨c, k, u, s, ec, hs⟩ : ∃ c k u s, cs0.toList = [c, k, u] ∧ Wk.y4 W c k u s := by
  obtain ⟨fuel, h⟩ := h0
  exact zpI h (by rw [Array.toArray_toList]; exact hval 0 30 _ rfl rfl)
 obtain rfl : cs0 = #[c, k, u] := by rw [← Array.toArray_toList (xs := cs0), ec]
 obtain ⟨a1, n1, m1, rfl⟩ := okWide_slice Tryz.underlying47 (hval 1 47 v1 rfl rfl)
 obtain ⟨v, al, ev, hl⟩ : ∃ v al, [Value.slice a1 n1 m1] = [v] ∧ Wk.zc8 W v al := by
  obtain ⟨fuel, h⟩ := h1
  exact znz h
 obtain rfl : v = .slice a1 n1 m1 := by simpa using ev.symm
 obtain ⟨cs2, rfl, _⟩ := okWide_struct Tryz.underlying50 (hval 2 50 v2 rfl rfl)
 obtain ⟨x, ex, a, hx⟩ : ∃ y : Wk.zcb, cs2.toList = y.cs ∧ ∃ a, Wk.zbO W y a := by
  obtain ⟨fuel, h⟩ := h2
  exact zkH h
 obtain rfl : cs2 = x.cs.toArray := by rw [← ex, Array.toArray_toList]
 refine Calls.mono (Wk.zjv c k u s _ al x a W (zki hL) hs hl hx) fun e W' hh => ?_
 obtain ⟨r, he, hr, hc⟩ := hh
 subst he
 subst hr
 have hb : Below W.heap.size W W' := hc.below
 refine ⟨_, rfl, _, _, _, [], p0 ++ p1 ++ p2, [], hW', trodAll_mk1 (shut_bool Tryz.underlying4 _), ?_, rfl, hb.frame _, fun h => by cases h⟩
 have e : p0 ++ p1 ++ p2 = p0 ++ (p1 ++ p2) := by simp
 rw [e]
 exact trodAll_mk3 (Below.trod zhK (by kernel_rfl) (of_decide_eq_true (by kernel_rfl)) h0 hb (fun x hx => hlt x (by simp [hx]))) (Below.trod zhK (by kernel_rfl) (of_decide_eq_true (by kernel_rfl)) h1 hb (fun x hx => hlt x (by simp [hx]))) (Below.trod zhK (by kernel_rfl) (of_decide_eq_true (by kernel_rfl)) h2 hb (fun x hx => hlt x (by simp [hx])))
theorem zjK : (Rows.tableHoldsRow.inPlace == Tryz.prog.inPlace 5) = true := by kernel_rfl
theorem zjw : (Rows.tableHoldsRow.unfollowed == Tryz.prog.unfollowed 5) = true := by kernel_rfl
theorem zjj : (Rows.tableHoldsRow.recurses == Tryz.prog.recurses 5) = true := by kernel_rfl
theorem zjA : (Rows.tableHoldsRow.named == Tryz.prog.varsNamed 5) = true := by kernel_rfl
theorem zf7 : joinedFacts Tryz.prog 5 Tryz.f5 Rows.tableHoldsSpec Rows.tableHoldsRow = true := by
 unfold joinedFacts
 rw [zjK, zjw, zjj, zjA]
 kernel_rfl
theorem zeL : Rows.TableHoldsSaid :=
 OpenClaim.holds_of_wide 5 Tryz.f5 rfl rfl rfl rfl rfl rfl rfl ⟨rfl, rfl, rfl, rfl, rfl⟩ rfl rfl rfl rfl rfl (by kernel_rfl) Tryz.func5 zf7
  (of_decide_eq_true (by kernel_rfl)) (by unfold Func.isWrapper; first | (rw [if_pos (by decide +kernel)]; kernel_rfl) | (rw [if_neg (by decide +kernel)]; exact ⟨rfl, rfl⟩))
  (fun os started H enc _ => zgh os started H enc)
theorem tableHolds_holds : Rows.TableHoldsCardSaid :=
 Claim7.holds_tied_plain_at .later [] [.data, .data, .data, .handle] true (true, "6f9801c9f4e626fc7470ec2fe8adc9d318d76d73760030916c961e75bbcbc5c1") true
  zeL (fun _ h => by cases h) (by kernel_rfl) (fun _ h => by cases h) tableHolds_row_tie rfl ⟨rfl, rfl⟩ (by kernel_rfl) rfl
  (fun f fn hf hfn => by
   obtain rfl : f = 5 := Option.some.inj ((show Tryz.prog.funcNamed "swingbridge/swingbridgelaw12.TableHolds" = some 5 by kernel_rfl).symm.trans hf) |>.symm
   obtain rfl : fn = Tryz.f5 := (Option.some.inj (Tryz.func5.symm.trans hfn)).symm
   exact ⟨by kernel_rfl, fun j t ht => by
    rw [Tryz.params5] at ht
    have hm : t ∈ [30, 47, 50] := by simpa using Array.mem_of_getElem? ht
    have hall : ([30, 47, 50].all fun u => !Tryz.prog.wantsStandIn u) = true := by kernel_rfl
    exact (show Tryz.prog.wantsStandIn t = false by simpa using List.all_eq_true.1 hall t hm)⟩)
  (by kernel_rfl)
end Go.Proofs.YtcnkdoecfljnlaaGreatDoor
