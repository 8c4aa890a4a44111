/- joined texts -/
import Derived.Test.YtcnkdoecfljnlaaGreatDoorY15
import Derived.Test.YtcnkdoecfljnlaaGreatDoorTie
import Derived.Test.YtcnkdoecfljnlaaGreatDoorCards
import Derived.SevenTiedAt
set_option linter.all false
namespace Go.Proofs.YtcnkdoecfljnlaaGreatDoor
open Go.ChangeShapes Go.WideShapes Go.ChangeAt Go.RowKit Go.Deep
set_option maxRecDepth 100000 in
theorem zfE (os : Os) (started : os.Started) (H : Type) (enc : TypeId × Value → H) :
 ReturnsInHanded {} Tryz.checked os 7 .any (fun w args => (Rows.tableCopiesSpec.pre enc Tryz.prog Tryz.f7 [] false w args ∧ laidMetH Tryz.prog ziG w) ∧ sizedMet enc Tryz.prog Tryz.f7 (OpenSpec.ofChange Rows.tableCopiesSpec) false w args)
  (Rows.tableCopiesSpec.post enc Tryz.prog Tryz.f7 false true false false) := by
 refine returnsInHanded_of_change_and (C := Tryz.checked) (X := fun w _ => laidMetH Tryz.prog ziG w) (fun _ _ _ hh h => h.of_heap hh) zxX started (by kernel_rfl) Tryz.func7
  (ChangeSpec.witness_shaped (enc := enc) (C := Tryz.checked) (os := os) (X := fun w _ => laidMetH Tryz.prog ziG w) false (World.doorLaid Tryz.prog 31 os) #[.agg #[.slice none 0 0, .slice none 0 0, .slice none 0 0], .slice none 0 0, .agg #[.int .i64 0, .int .i64 0, .slice none 0 0, .string ⟨#[]⟩, .int .i64 0, .int .i64 0, .slice none 0 0, .string ⟨#[]⟩]] 8 rfl (World.shaped_of_RefB (by kernel_rfl) (by kernel_rfl)) (by kernel_rfl) (by kernel_rfl) (by kernel_rfl) (zoY os _)) ?_
 intro W base args ds gs before hval0 hW _ _ hL _
 have hval : ∀ (j : Nat) t v, Tryz.f7.params[j]? = some t → args[j]? = some v → Value.okWide Tryz.prog W .any base t v := hval0
 have hW' := hW
 obtain ⟨p, q, hA0, hV, rfl, hfz, hnd⟩ := hW
 have hA : DataW.TrodAll enc Tryz.prog W 0 (fun _ => true) true Tryz.f7.params.toList args.toList ds p := hA0
 rw [Tryz.params7] at hA hval
 obtain ⟨v0, v1, v2, d0, d1, d2, p0, p1, p2, rfl, rfl, rfl, h0, h1, h2⟩ := trodAll_three hA
 obtain ⟨rfl, rfl⟩ := trodVars_none hV
 clear hA0 hval0
 simp only [List.append_nil] at hW'
 have hlt : ∀ x ∈ p0 ++ p1 ++ p2, x.block < W.heap.size := fun x hx => by simpa using hW'.lt x hx
 obtain ⟨cs0, rfl, _⟩ := okWide_struct Tryz.underlying30 (hval 0 30 v0 rfl rfl)
 obtain ⟨c, k, u, s, ec, hs⟩ : ∃ c k u s, cs0.toList = [c, k, u] ∧ Wk.yO W c k u s := by
  obtain ⟨fuel, h⟩ := h0
  exact zon h (by rw [Array.toArray_toList]; exact hval 0 30 _ rfl rfl)
 obtain rfl : cs0 = #[c, k, u] := by rw [← Array.toArray_toList (xs := cs0), ec]
 obtain ⟨a1, n1, m1, rfl⟩ := okWide_slice Tryz.underlying47 (hval 1 47 v1 rfl rfl)
 obtain ⟨v, al, ev, hl⟩ : ∃ v al, [Value.slice a1 n1 m1] = [v] ∧ Wk.zde W v al := by
  obtain ⟨fuel, h⟩ := h1
  exact znM h
 obtain rfl : v = .slice a1 n1 m1 := by simpa using ev.symm
 obtain ⟨cs2, rfl⟩ : ∃ cs2, v2 = .agg cs2 := by
  have h := hval 2 80 v2 rfl rfl
  simp only [Value.okWide, Tryz.underlying80] at h
  obtain ⟨cs, h1, _⟩ := h
  exact ⟨cs, h1⟩
 obtain ⟨y, z, ex, ⟨a, hy⟩, b, hz⟩ : ∃ y z : Wk.zbW, cs2.toList = y.cs ++ z.cs ∧ (∃ a, Wk.zbg W y a) ∧ ∃ a, Wk.zbg W z a := by
  obtain ⟨fuel, h⟩ := h2
  exact zpL h
 obtain rfl : cs2 = (y.cs ++ z.cs).toArray := by rw [← ex, Array.toArray_toList]
 refine Calls.mono (Wk.ziv c k u s _ al y z a b W (zlu hL) hs hl hy hz) fun e W' hh => ?_
 obtain ⟨r, he, hr, hc⟩ := hh
 subst he
 subst hr
 have hb : Below W.heap.size W W' := hc.below
 refine ⟨_, rfl, _, _, _, [], p0 ++ p1 ++ p2, [], hW', trodAll_mk1 (shut_bool Tryz.underlying4 _), ?_, rfl, hb.frame _, fun h => by cases h⟩
 have e : p0 ++ p1 ++ p2 = p0 ++ (p1 ++ p2) := by simp
 rw [e]
 exact trodAll_mk3 (Below.trod zhX (by kernel_rfl) (of_decide_eq_true (by kernel_rfl)) h0 hb (fun x hx => hlt x (by simp [hx]))) (Below.trod zhX (by kernel_rfl) (of_decide_eq_true (by kernel_rfl)) h1 hb (fun x hx => hlt x (by simp [hx]))) (Below.trod zhX (by kernel_rfl) (of_decide_eq_true (by kernel_rfl)) h2 hb (fun x hx => hlt x (by simp [hx])))
theorem ziu : (Rows.tableCopiesRow.inPlace == Tryz.prog.inPlace 7) = true := by kernel_rfl
theorem ziB : (Rows.tableCopiesRow.unfollowed == Tryz.prog.unfollowed 7) = true := by kernel_rfl
theorem zit : (Rows.tableCopiesRow.recurses == Tryz.prog.recurses 7) = true := by kernel_rfl
theorem zis : (Rows.tableCopiesRow.named == Tryz.prog.varsNamed 7) = true := by kernel_rfl
theorem zfS : joinedFacts Tryz.prog 7 Tryz.f7 Rows.tableCopiesSpec Rows.tableCopiesRow = true := by
 unfold joinedFacts
 rw [ziu, ziB, zit, zis]
 kernel_rfl
theorem zeJ : Rows.TableCopiesSaid :=
 OpenClaim.holds_of_wide 7 Tryz.f7 rfl rfl rfl rfl rfl rfl rfl ⟨rfl, rfl, rfl, rfl, rfl⟩ rfl rfl rfl rfl rfl (by kernel_rfl) Tryz.func7 zfS
  (of_decide_eq_true (by kernel_rfl)) (by unfold Func.isWrapper; first | (rw [if_pos (by decide +kernel)]; kernel_rfl) | (rw [if_neg (by decide +kernel)]; exact ⟨rfl, rfl⟩))
  (fun os started H enc _ => zfE os started H enc)
theorem tableCopies_holds : Rows.TableCopiesCardSaid :=
 Claim7.holds_tied_plain_at .later [] [.data, .data, .data, .handle] true (true, "6f9801c9f4e626fc7470ec2fe8adc9d318d76d73760030916c961e75bbcbc5c1") true
  zeJ (fun _ h => by cases h) (by kernel_rfl) (fun _ h => by cases h) tableCopies_row_tie rfl ⟨rfl, rfl⟩ (by kernel_rfl) rfl
  (fun f fn hf hfn => by
   obtain rfl : f = 7 := Option.some.inj ((show Tryz.prog.funcNamed "swingbridge/swingbridgelaw12.TableCopies" = some 7 by kernel_rfl).symm.trans hf) |>.symm
   obtain rfl : fn = Tryz.f7 := (Option.some.inj (Tryz.func7.symm.trans hfn)).symm
   exact ⟨by kernel_rfl, fun j t ht => by
    rw [Tryz.params7] at ht
    have hm : t ∈ [30, 47, 80] := by simpa using Array.mem_of_getElem? ht
    have hall : ([30, 47, 80].all fun u => !Tryz.prog.wantsStandIn u) = true := by kernel_rfl
    exact (show Tryz.prog.wantsStandIn t = false by simpa using List.all_eq_true.1 hall t hm)⟩)
  (by kernel_rfl)
end Go.Proofs.YtcnkdoecfljnlaaGreatDoor
