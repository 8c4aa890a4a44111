/- joined texts -/
import Derived.Test.YtcnkdoecfljnlaaGreatDoorQ14
import Derived.Test.YtcnkdoecfljnlaaGreatDoorTie
import Derived.Test.YtcnkdoecfljnlaaGreatDoorCards
import Derived.SevenTiedAt
set_option linter.all false
namespace Go.Proofs.YtcnkdoecfljnlaaGreatDoor
open Go.ChangeShapes Go.WideShapes Go.ChangeAt Go.RowKit Go.Deep
set_option maxRecDepth 100000 in
theorem zgz (os : Os) (started : os.Started) (H : Type) (enc : TypeId × Value → H) :
 ReturnsInHanded {} Tryz.checked os 4 .any (fun w args => (Rows.tableRowsSpec.pre enc Tryz.prog Tryz.f4 [] false w args ∧ laidMetH Tryz.prog ziQ w) ∧ sizedMet enc Tryz.prog Tryz.f4 (OpenSpec.ofChange Rows.tableRowsSpec) false w args)
  (Rows.tableRowsSpec.post enc Tryz.prog Tryz.f4 false true false false) := by
 refine returnsInHanded_of_change_and (C := Tryz.checked) (X := fun w _ => laidMetH Tryz.prog ziQ w) (fun _ _ _ hh h => h.of_heap hh) zxi started (by kernel_rfl) Tryz.func4
  (ChangeSpec.witness_shaped (enc := enc) (C := Tryz.checked) (os := os) (X := fun w _ => laidMetH Tryz.prog ziQ w) false (World.doorLaid Tryz.prog 31 os) #[.agg #[.slice none 0 0, .slice none 0 0, .slice none 0 0], .slice none 0 0, .agg #[.int .i64 0, .int .i64 0, .slice none 0 0, .string ⟨#[]⟩], .int .i64 0] 8 rfl (World.shaped_of_RefB (by kernel_rfl) (by kernel_rfl)) (by kernel_rfl) (by kernel_rfl) (by kernel_rfl) (zpT os _)) ?_
 intro W base args ds gs before hval0 hW _ _ hL _
 have hval : ∀ (j : Nat) t v, Tryz.f4.params[j]? = some t → args[j]? = some v → Value.okWide Tryz.prog W .any base t v := hval0
 have hW' := hW
 obtain ⟨p, q, hA0, hV, rfl, hfz, hnd⟩ := hW
 have hA : DataW.TrodAll enc Tryz.prog W 0 (fun _ => true) true Tryz.f4.params.toList args.toList ds p := hA0
 rw [Tryz.params4] at hA hval
 obtain ⟨v0, v1, v2, v3, d0, d1, d2, d3, p0, p1, p2, p3, rfl, rfl, rfl, h0, h1, h2, h3⟩ := trodAll_four hA
 obtain ⟨rfl, rfl⟩ := trodVars_none hV
 clear hA0 hval0
 simp only [List.append_nil] at hW'
 have hlt : ∀ x ∈ p0 ++ p1 ++ p2 ++ p3, x.block < W.heap.size := fun x hx => by simpa using hW'.lt x hx
 obtain ⟨cs0, rfl, _⟩ := okWide_struct Tryz.underlying30 (hval 0 30 v0 rfl rfl)
 obtain ⟨c, k, u, s, ec, hs⟩ : ∃ c k u s, cs0.toList = [c, k, u] ∧ Wk.yV W c k u s := by
  obtain ⟨fuel, h⟩ := h0
  exact zoD h (by rw [Array.toArray_toList]; exact hval 0 30 _ rfl rfl)
 obtain rfl : cs0 = #[c, k, u] := by rw [← Array.toArray_toList (xs := cs0), ec]
 obtain ⟨a1, n1, m1, rfl⟩ := okWide_slice Tryz.underlying47 (hval 1 47 v1 rfl rfl)
 obtain ⟨v, al, ev, hl⟩ : ∃ v al, [Value.slice a1 n1 m1] = [v] ∧ Wk.zc6 W v al := by
  obtain ⟨fuel, h⟩ := h1
  exact znm h
 obtain rfl : v = .slice a1 n1 m1 := by simpa using ev.symm
 obtain ⟨cs2, rfl, _⟩ := okWide_struct Tryz.underlying50 (hval 2 50 v2 rfl rfl)
 obtain ⟨x, ex, a, hx⟩ : ∃ y : Wk.zb2, cs2.toList = y.cs ∧ ∃ a, Wk.zbJ W y a := by
  obtain ⟨fuel, h⟩ := h2
  exact zk5 h
 obtain rfl : cs2 = x.cs.toArray := by rw [← ex, Array.toArray_toList]
 obtain ⟨many, rfl⟩ := okWide_int Tryz.underlying3 (hval 3 3 v3 rfl rfl)
 refine Calls.mono (Wk.zkY c k u s _ al x a many W (zjQ hL) hs hl hx) fun e W' hh => ?_
 obtain ⟨r, he, hr, hc⟩ := hh
 subst he
 subst hr
 have hb : Below W.heap.size W W' := hc.below
 refine ⟨_, rfl, _, _, _, [], p0 ++ p1 ++ p2 ++ p3, [], hW', trodAll_mk1 (shut_bool Tryz.underlying4 _), ?_, rfl, hb.frame _, fun h => by cases h⟩
 have e : p0 ++ p1 ++ p2 ++ p3 = p0 ++ (p1 ++ (p2 ++ p3)) := by simp
 rw [e]
 exact trodAll_mk4 (Below.trod zf9 (by kernel_rfl) (of_decide_eq_true (by kernel_rfl)) h0 hb (fun x hx => hlt x (by simp [hx]))) (Below.trod zf9 (by kernel_rfl) (of_decide_eq_true (by kernel_rfl)) h1 hb (fun x hx => hlt x (by simp [hx]))) (Below.trod zf9 (by kernel_rfl) (of_decide_eq_true (by kernel_rfl)) h2 hb (fun x hx => hlt x (by simp [hx]))) (Below.trod zf9 (by kernel_rfl) (of_decide_eq_true (by kernel_rfl)) h3 hb (fun x hx => hlt x (by simp [hx])))
theorem zjR : (Rows.tableRowsRow.inPlace == Tryz.prog.inPlace 4) = true := by kernel_rfl
theorem zld : (Rows.tableRowsRow.unfollowed == Tryz.prog.unfollowed 4) = true := by kernel_rfl
theorem zkC : (Rows.tableRowsRow.recurses == Tryz.prog.recurses 4) = true := by kernel_rfl
theorem zjK : (Rows.tableRowsRow.named == Tryz.prog.varsNamed 4) = true := by kernel_rfl
theorem zgF : joinedFacts Tryz.prog 4 Tryz.f4 Rows.tableRowsSpec Rows.tableRowsRow = true := by
 unfold joinedFacts
 rw [zjR, zld, zkC, zjK]
 kernel_rfl
theorem zfe : Rows.TableRowsSaid :=
 OpenClaim.holds_of_wide 4 Tryz.f4 rfl rfl rfl rfl rfl rfl rfl ⟨rfl, rfl, rfl, rfl, rfl⟩ rfl rfl rfl rfl rfl (by kernel_rfl) Tryz.func4 zgF
  (of_decide_eq_true (by kernel_rfl)) (by unfold Func.isWrapper; first | (rw [if_pos (by decide +kernel)]; kernel_rfl) | (rw [if_neg (by decide +kernel)]; exact ⟨rfl, rfl⟩))
  (fun os started H enc _ => zgz os started H enc)
theorem tableRows_holds : Rows.TableRowsCardSaid :=
 Claim7.holds_tied_plain_at .later [] [.data, .data, .data, .handle] true (true, "6f9801c9f4e626fc7470ec2fe8adc9d318d76d73760030916c961e75bbcbc5c1") true
  zfe (fun _ h => by cases h) (by kernel_rfl) (fun _ h => by cases h) tableRows_row_tie rfl ⟨rfl, rfl⟩ (by kernel_rfl) rfl
  (fun f fn hf hfn => by
   obtain rfl : f = 4 := Option.some.inj ((show Tryz.prog.funcNamed "swingbridge/swingbridgelaw12.TableRows" = some 4 by kernel_rfl).symm.trans hf) |>.symm
   obtain rfl : fn = Tryz.f4 := (Option.some.inj (Tryz.func4.symm.trans hfn)).symm
   exact ⟨by kernel_rfl, fun j t ht => by
    rw [Tryz.params4] at ht
    have hm : t ∈ [30, 47, 50, 3] := by simpa using Array.mem_of_getElem? ht
    have hall : ([30, 47, 50, 3].all fun u => !Tryz.prog.wantsStandIn u) = true := by kernel_rfl
    exact (show Tryz.prog.wantsStandIn t = false by simpa using List.all_eq_true.1 hall t hm)⟩)
  (by kernel_rfl)
end Go.Proofs.YtcnkdoecfljnlaaGreatDoor
