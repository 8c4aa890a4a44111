/- joined texts -/
import Derived.Test.YtcnkdoecfljnlaaGreatDoorW15
import Derived.Test.YtcnkdoecfljnlaaGreatDoorTie
import Derived.Test.YtcnkdoecfljnlaaGreatDoorCards
import Derived.SevenTiedAt
set_option linter.all false
namespace Go.Proofs.YtcnkdoecfljnlaaGreatDoor
open Go.ChangeShapes Go.WideShapes Go.ChangeAt Go.RowKit Go.Deep
set_option maxRecDepth 100000 in
theorem zfW (os : Os) (started : os.Started) (H : Type) (enc : TypeId × Value → H) :
 ReturnsInHanded {} Tryz.checked os 6 .any (fun w args => (Rows.tablePlaysSpec.pre enc Tryz.prog Tryz.f6 [] false w args ∧ laidMetH Tryz.prog zil w) ∧ sizedMet enc Tryz.prog Tryz.f6 (OpenSpec.ofChange Rows.tablePlaysSpec) false w args)
  (Rows.tablePlaysSpec.post enc Tryz.prog Tryz.f6 false true false false) := by
 refine returnsInHanded_of_change_and (C := Tryz.checked) (X := fun w _ => laidMetH Tryz.prog zil w) (fun _ _ _ hh h => h.of_heap hh) zxn started (by kernel_rfl) Tryz.func6
  (ChangeSpec.witness_shaped (enc := enc) (C := Tryz.checked) (os := os) (X := fun w _ => laidMetH Tryz.prog zil w) false (World.doorLaid Tryz.prog 31 os) #[.agg #[.slice none 0 0, .slice none 0 0, .slice none 0 0], .slice none 0 0] 8 rfl (World.shaped_of_RefB (by kernel_rfl) (by kernel_rfl)) (by kernel_rfl) (by kernel_rfl) (by kernel_rfl) (zoK os _)) ?_
 intro W base args ds gs before hval0 hW _ _ hL _
 have hval : ∀ (j : Nat) t v, Tryz.f6.params[j]? = some t → args[j]? = some v → Value.okWide Tryz.prog W .any base t v := hval0
 have hW' := hW
 obtain ⟨p, q, hA0, hV, rfl, hfz, hnd⟩ := hW
 have hA : DataW.TrodAll enc Tryz.prog W 0 (fun _ => true) true Tryz.f6.params.toList args.toList ds p := hA0
 rw [Tryz.params6] at hA hval
 obtain ⟨v0, v1, d0, d1, p0, p1, rfl, rfl, rfl, h0, h1⟩ := trodAll_two hA
 obtain ⟨rfl, rfl⟩ := trodVars_none hV
 clear hA0 hval0
 simp only [List.append_nil] at hW'
 have hlt : ∀ x ∈ p0 ++ p1, x.block < W.heap.size := fun x hx => by simpa using hW'.lt x hx
 obtain ⟨cs0, rfl, _⟩ := okWide_struct Tryz.underlying30 (hval 0 30 v0 rfl rfl)
 obtain ⟨c, k, u, s, ec, hs⟩ : ∃ c k u s, cs0.toList = [c, k, u] ∧ Wk.yL W c k u s := by
  obtain ⟨fuel, h⟩ := h0
  exact zpC h (by rw [Array.toArray_toList]; exact hval 0 30 _ rfl rfl)
 obtain rfl : cs0 = #[c, k, u] := by rw [← Array.toArray_toList (xs := cs0), ec]
 obtain ⟨a1, n1, m1, rfl⟩ := okWide_slice Tryz.underlying47 (hval 1 47 v1 rfl rfl)
 obtain ⟨v, al, ev, hl⟩ : ∃ v al, [Value.slice a1 n1 m1] = [v] ∧ Wk.zdm W v al := by
  obtain ⟨fuel, h⟩ := h1
  exact znE h
 obtain rfl : v = .slice a1 n1 m1 := by simpa using ev.symm
 refine Calls.mono (Wk.zjC c k u s _ al W (zkC hL) hs hl) fun e W' hh => ?_
 obtain ⟨r, he, hr, hc⟩ := hh
 subst he
 subst hr
 have hb : Below W.heap.size W W' := hc.below
 refine ⟨_, rfl, _, _, _, [], p0 ++ p1, [], hW', trodAll_mk1 (shut_bool Tryz.underlying4 _), ?_, rfl, hb.frame _, fun h => by cases h⟩
 exact trodAll_mk2 (Below.trod zkc (by kernel_rfl) (of_decide_eq_true (by kernel_rfl)) h0 hb (fun x hx => hlt x (by simp [hx]))) (Below.trod zkc (by kernel_rfl) (of_decide_eq_true (by kernel_rfl)) h1 hb (fun x hx => hlt x (by simp [hx])))
theorem zjb : (Rows.tablePlaysRow.inPlace == Tryz.prog.inPlace 6) = true := by kernel_rfl
theorem zjB : (Rows.tablePlaysRow.unfollowed == Tryz.prog.unfollowed 6) = true := by kernel_rfl
theorem zi8 : (Rows.tablePlaysRow.recurses == Tryz.prog.recurses 6) = true := by kernel_rfl
theorem zjG : (Rows.tablePlaysRow.named == Tryz.prog.varsNamed 6) = true := by kernel_rfl
theorem zf7 : joinedFacts Tryz.prog 6 Tryz.f6 Rows.tablePlaysSpec Rows.tablePlaysRow = true := by
 unfold joinedFacts
 rw [zjb, zjB, zi8, zjG]
 kernel_rfl
theorem zeY : Rows.TablePlaysSaid :=
 OpenClaim.holds_of_wide 6 Tryz.f6 rfl rfl rfl rfl rfl rfl rfl ⟨rfl, rfl, rfl, rfl, rfl⟩ rfl rfl rfl rfl rfl (by kernel_rfl) Tryz.func6 zf7
  (of_decide_eq_true (by kernel_rfl)) (by unfold Func.isWrapper; first | (rw [if_pos (by decide +kernel)]; kernel_rfl) | (rw [if_neg (by decide +kernel)]; exact ⟨rfl, rfl⟩))
  (fun os started H enc _ => zfW os started H enc)
theorem tablePlays_holds : Rows.TablePlaysCardSaid :=
 Claim7.holds_tied_plain_at .later [] [.data, .data, .data, .handle] true (true, "6f9801c9f4e626fc7470ec2fe8adc9d318d76d73760030916c961e75bbcbc5c1") true
  zeY (fun _ h => by cases h) (by kernel_rfl) (fun _ h => by cases h) tablePlays_row_tie rfl ⟨rfl, rfl⟩ (by kernel_rfl) rfl
  (fun f fn hf hfn => by
   obtain rfl : f = 6 := Option.some.inj ((show Tryz.prog.funcNamed "swingbridge/swingbridgelaw12.TablePlays" = some 6 by kernel_rfl).symm.trans hf) |>.symm
   obtain rfl : fn = Tryz.f6 := (Option.some.inj (Tryz.func6.symm.trans hfn)).symm
   exact ⟨by kernel_rfl, fun j t ht => by
    rw [Tryz.params6] at ht
    have hm : t ∈ [30, 47] := by simpa using Array.mem_of_getElem? ht
    have hall : ([30, 47].all fun u => !Tryz.prog.wantsStandIn u) = true := by kernel_rfl
    exact (show Tryz.prog.wantsStandIn t = false by simpa using List.all_eq_true.1 hall t hm)⟩)
  (by kernel_rfl)
end Go.Proofs.YtcnkdoecfljnlaaGreatDoor
