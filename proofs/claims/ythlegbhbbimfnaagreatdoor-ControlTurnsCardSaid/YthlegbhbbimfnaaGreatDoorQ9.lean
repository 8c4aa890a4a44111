/- joined texts -/
import Derived.Test.YthlegbhbbimfnaaGreatDoorQ8
import Derived.Test.YthlegbhbbimfnaaGreatDoorRows
import Derived.ProofKit
import Derived.OpenShut
import Derived.Deep.Slices
import Derived.LaidMore
import Derived.ChangeSame
import Derived.LaidHandle
import Derived.Stop.Joined
set_option linter.all false
namespace Go.Wk
open Go.Proofs
set_option maxRecDepth 20000
theorem zeT (t : ByteArray) (A B : List KV) : ∀ s ∈ zK t A B, zdN s := by
 have hg : ∀ k, zdN (za8 t k) := fun k => ⟨by simp [za8], by simp [za8]⟩
 have hp : ∀ b : KV, zdN (zbI t (yR b)) := fun b => ⟨by simp [zbI], by simp [zbI, yR, yU]⟩
 induction A, B using zK.induct with
 | case1 => simp [zK]
 | case2 a A ih => rw [zK]; exact List.forall_mem_cons.2 ⟨hg _, ih⟩
 | case3 b B ih => rw [zK]; exact List.forall_mem_cons.2 ⟨hp _, ih⟩
 | case4 a A b B h ih => rw [zK, if_pos h]; exact List.forall_mem_cons.2 ⟨hg _, ih⟩
 | case5 a A b B h h' ih => rw [zK, if_neg h, if_pos h']; exact List.forall_mem_cons.2 ⟨hp _, ih⟩
 | case6 a A b B h h' ih =>
  rw [zK, if_neg h, if_neg h']
  intro s hs
  rcases List.mem_append.1 hs with hs | hs
  ·split at hs
   ·cases hs
   rw [List.mem_singleton.1 hs]; exact hp _
  exact ih s hs
def zh8 (t : ByteArray) (p q : PrT) : Bool := ym t && yN p && yN q
def zdh (t : ByteArray) (p q : PrT) : List StT := if zh8 t p q then zK t (kvP p) (kvP q) else []
theorem zfc (t : ByteArray) (p q : PrT) : ∀ s ∈ zdh t p q, zdN s := by
 unfold zdh
 split
 ·exact zeT _ _ _
 intro s hs; cases hs
theorem zhb {t : ByteArray} {p q : PrT} {r : Value} {w' : World} (h : if ym t && yN p && yN q then ∃ x, r = .tuple #[x, Ii 0] ∧ zQ w' x (zK t (kvP p) (kvP q)) else r = .tuple #[zH, Ii 2]) : ∃ x, r = .tuple #[x, Ii (if zh8 t p q then 0 else 2)] ∧ zQ w' x (zdh t p q) := by
 unfold zdh zh8
 split at h
 ·rename_i hc
  rw [if_pos hc, if_pos hc]
  exact h
 rename_i hc
 rw [if_neg hc, if_neg hc]
 exact ⟨zH, h, zQ.nil _⟩
theorem zh6 (t : ByteArray) (p q : PrT) (u v : Value) (w : World) (hp : zbv w u p) (hq : zbv w v q) (hE : EOk w) : zO TP 3 #[.string t, .agg (p.cs u).toArray, .agg (q.cs v).toArray] w fun r w' => r = .bool true ∧ zm [] w w' := by
 obtain ⟨pu, cu, rfl, hcu⟩ := Rd.val hp
 obtain ⟨pv, cv, rfl, hcv⟩ := Rd.val hq
 refine A3 Tryz.func3 rfl rfl ?_
 refine Sr ?_
 refine Ob rfl rfl ?_
 intro b4 w4 e4 n4 c4 k4
 refine Ob rfl rfl ?_
 intro b5 w5 e5 n5 c5 k5
 refine Oa rfl (E3 0 4 5 rfl ?_)
 have k4 : zV w5 b4 27 (p.cs (.slice pu p.park.length cu)) := k4.chg0 c5
 have k5 : zV w5 b5 27 (q.cs (.slice pv q.park.length cv)) := k5
 have hc5 := c4.trans c5
 have hp5 : zF w5 (.slice pu p.park.length cu) p.park := Rd.chg0 hp hc5
 have hq5 : zF w5 (.slice pv q.park.length cv) q.park := Rd.chg0 hq hc5
 have hE5 := hE.chg0 hc5
 refine zh (zh ?_)
 have hfp := fun w h => zi1 p (.slice pu p.park.length cu) w h
 have hfq := fun w h => zi1 q (.slice pv q.park.length cv) w h
 by_cases h1 : t.size > 40
 ·refine zd (Om rfl ?_)
  refine Og (zT st9 rfl) rfl ?_
  refine Og (vt (z1 rfl rfl) (by simp; omega)) rfl ?_
  refine Om rfl (Oz rfl rfl (Oz rfl rfl (Oz rfl rfl (Ot rfl (Om rfl (Oz rfl rfl (Oz rfl rfl (Oz rfl rfl (Ot rfl (Om rfl (Oz rfl rfl (Oz rfl rfl (Oz rfl rfl ?_)))))))))))))
  refine Oz rfl rfl (Ot rfl (Om rfl (Oz rfl rfl (Oz rfl rfl (Oz rfl rfl (Oz rfl rfl (Ot rfl (E4 0 4 5 36 rfl (zg rfl (Sr ?_))))))))))
  refine Oc bd5 rfl rfl rfl (zca _ (hE5.chg0 (zm.refl [] w5))) ?_
  rintro v37 w37 ⟨rfl, c37⟩
  refine Oa rfl (E1 6 rfl (zj ?_))
  repeat first | refine tr ?_ | refine br ?_
  refine zx rfl rfl ?_
  exact ⟨rfl, (hc5.trans (zm.refl [] w5)).trans c37⟩
 by_cases h2 : zd9 p
 case neg =>
  rw [decide_eq_false h2] at hfp
  refine zd (Om rfl ?_)
  refine Og (zT st9 rfl) rfl ?_
  refine Og (vf (z1 rfl rfl) (by simp; omega)) rfl ?_
  refine Om rfl ?_
  refine Oy rfl rfl (zi zac y7 rfl rfl (zu.of_blk0 k4)) ?_
  refine Ow rfl rfl bd4 rfl rfl rfl (hfp _ hp5) ?_
  rintro v17 w17 ⟨rfl, c17⟩
  refine Oy rfl rfl (zL rfl) ?_
  refine Of rfl (Om rfl (Oz rfl rfl (Oz rfl rfl (Oz rfl rfl (Ot rfl (Om rfl (Oz rfl rfl (Oz rfl rfl (Oz rfl rfl (Oz rfl rfl (Ot rfl (Om rfl (Oz rfl rfl ?_)))))))))))))
  refine Oz rfl rfl (Oz rfl rfl (Oz rfl rfl (Ot rfl (E4 0 4 5 36 rfl (zg rfl (Sr ?_))))))
  refine Oc bd5 rfl rfl rfl (zca _ (hE5.chg0 c17)) ?_
  rintro v37 w37 ⟨rfl, c37⟩
  refine Oa rfl (E1 6 rfl (zj ?_))
  repeat first | refine tr ?_ | refine br ?_
  refine zx rfl rfl ?_
  exact ⟨rfl, (hc5.trans c17).trans c37⟩
 rw [decide_eq_true h2] at hfp
 by_cases h3 : zd9 q
 case neg =>
  rw [decide_eq_false h3] at hfq
  refine zd (Om rfl ?_)
  refine Og (zT st9 rfl) rfl ?_
  refine Og (vf (z1 rfl rfl) (by simp; omega)) rfl ?_
  refine Om rfl ?_
  refine Oy rfl rfl (zi zac y7 rfl rfl (zu.of_blk0 k4)) ?_
  refine Ow rfl rfl bd4 rfl rfl rfl (hfp _ hp5) ?_
  rintro v17 w17 ⟨rfl, c17⟩
  refine Oy rfl rfl (zL rfl) ?_
  refine Of rfl (Om rfl ?_)
  refine Oy rfl rfl (zi zac y7 rfl rfl (zu.of_blk0 (k5.chg0 c17))) ?_
  refine Ow rfl rfl bd4 rfl rfl rfl (hfq _ (Rd.chg0 hq5 c17)) ?_
  rintro v22 w22 ⟨rfl, c22⟩
  refine Oy rfl rfl (zL rfl) ?_
  refine Of rfl (Om rfl (Oz rfl rfl (Oz rfl rfl (Oz rfl rfl (Oz rfl rfl (Ot rfl (Om rfl (Oz rfl rfl (Oz rfl rfl (Oz rfl rfl (Oz rfl rfl (Ot rfl (E4 0 4 5 36 rfl ?_)))))))))))))
  refine zg rfl (Sr ?_)
  refine Oc bd5 rfl rfl rfl (zca _ (hE5.chg0 (c17.trans c22))) ?_
  rintro v37 w37 ⟨rfl, c37⟩
  refine Oa rfl (E1 6 rfl (zj ?_))
  repeat first | refine tr ?_ | refine br ?_
  refine zx rfl rfl ?_
  exact ⟨rfl, (hc5.trans (c17.trans c22)).trans c37⟩
 rw [decide_eq_true h3] at hfq
 have hlp := h2.2.1
 have hlq := h3.2.1
 by_cases h4 : p.park.length > 40
 ·refine zd (Om rfl ?_)
  refine Og (zT st9 rfl) rfl ?_
  refine Og (vf (z1 rfl rfl) (by simp; omega)) rfl ?_
  refine Om rfl ?_
  refine Oy rfl rfl (zi zac y7 rfl rfl (zu.of_blk0 k4)) ?_
  refine Ow rfl rfl bd4 rfl rfl rfl (hfp _ hp5) ?_
  rintro v17 w17 ⟨rfl, c17⟩
  refine Oy rfl rfl (zL rfl) ?_
  refine Of rfl (Om rfl ?_)
  refine Oy rfl rfl (zi zac y7 rfl rfl (zu.of_blk0 (k5.chg0 c17))) ?_
  refine Ow rfl rfl bd4 rfl rfl rfl (hfq _ (Rd.chg0 hq5 c17)) ?_
  rintro v22 w22 ⟨rfl, c22⟩
  refine Oy rfl rfl (zL rfl) ?_
  refine Of rfl (Om rfl ?_)
  refine Oy rfl rfl (za zN rfl) ?_
  refine Oy rfl rfl (zb yy rfl (((k4.chg0 c17).chg0 c22).cell' (i := 6) rfl)) ?_
  refine Oy rfl rfl (z4 z6 rfl) ?_
  refine Oy rfl rfl (vt (z1 rfl rfl) (by simp; omega)) ?_
  refine Of rfl (Om rfl (Oz rfl rfl (Oz rfl rfl (Oz rfl rfl (Oz rfl rfl (Ot rfl (E4 0 4 5 36 rfl (zg rfl (Sr ?_)))))))))
  refine Oc bd5 rfl rfl rfl (zca _ (hE5.chg0 (c17.trans c22))) ?_
  rintro v37 w37 ⟨rfl, c37⟩
  refine Oa rfl (E1 6 rfl (zj ?_))
  repeat first | refine tr ?_ | refine br ?_
  refine zx rfl rfl ?_
  exact ⟨rfl, (hc5.trans (c17.trans c22)).trans c37⟩
 by_cases h5 : q.park.length > 40
 ·refine zd (Om rfl ?_)
  refine Og (zT st9 rfl) rfl ?_
  refine Og (vf (z1 rfl rfl) (by simp; omega)) rfl ?_
  refine Om rfl ?_
  refine Oy rfl rfl (zi zac y7 rfl rfl (zu.of_blk0 k4)) ?_
  refine Ow rfl rfl bd4 rfl rfl rfl (hfp _ hp5) ?_
  rintro v17 w17 ⟨rfl, c17⟩
  refine Oy rfl rfl (zL rfl) ?_
  refine Of rfl (Om rfl ?_)
  refine Oy rfl rfl (zi zac y7 rfl rfl (zu.of_blk0 (k5.chg0 c17))) ?_
  refine Ow rfl rfl bd4 rfl rfl rfl (hfq _ (Rd.chg0 hq5 c17)) ?_
  rintro v22 w22 ⟨rfl, c22⟩
  refine Oy rfl rfl (zL rfl) ?_
  refine Of rfl (Om rfl ?_)
  refine Oy rfl rfl (za zN rfl) ?_
  refine Oy rfl rfl (zb yy rfl (((k4.chg0 c17).chg0 c22).cell' (i := 6) rfl)) ?_
  refine Oy rfl rfl (z4 z6 rfl) ?_
  refine Oy rfl rfl (vf (z1 rfl rfl) (by simp; omega)) ?_
  refine Of rfl (Om rfl ?_)
  refine Oy rfl rfl (za zN rfl) ?_
  refine Oy rfl rfl (zb yy rfl (((k5.chg0 c17).chg0 c22).cell' (i := 6) rfl)) ?_
  refine Oy rfl rfl (z4 z6 rfl) ?_
  refine Oy rfl rfl (vt (z1 rfl rfl) (by simp; omega)) ?_
  refine Of rfl (E4 0 4 5 36 rfl (zg rfl (Sr ?_)))
  refine Oc bd5 rfl rfl rfl (zca _ (hE5.chg0 (c17.trans c22))) ?_
  rintro v37 w37 ⟨rfl, c37⟩
  refine Oa rfl (E1 6 rfl (zj ?_))
  repeat first | refine tr ?_ | refine br ?_
  refine zx rfl rfl ?_
  exact ⟨rfl, (hc5.trans (c17.trans c22)).trans c37⟩
 refine zd (Om rfl ?_)
 refine Og (zT st9 rfl) rfl ?_
 refine Og (vf (z1 rfl rfl) (by simp; omega)) rfl ?_
 refine Om rfl ?_
 refine Oy rfl rfl (zi zac y7 rfl rfl (zu.of_blk0 k4)) ?_
 refine Ow rfl rfl bd4 rfl rfl rfl (hfp _ hp5) ?_
 rintro v17 w17 ⟨rfl, c17⟩
 refine Oy rfl rfl (zL rfl) ?_
 refine Of rfl (Om rfl ?_)
 refine Oy rfl rfl (zi zac y7 rfl rfl (zu.of_blk0 (k5.chg0 c17))) ?_
 refine Ow rfl rfl bd4 rfl rfl rfl (hfq _ (Rd.chg0 hq5 c17)) ?_
 rintro v22 w22 ⟨rfl, c22⟩
 refine Oy rfl rfl (zL rfl) ?_
 refine Of rfl (Om rfl ?_)
 refine Oy rfl rfl (za zN rfl) ?_
 refine Oy rfl rfl (zb yy rfl (((k4.chg0 c17).chg0 c22).cell' (i := 6) rfl)) ?_
 refine Oy rfl rfl (z4 z6 rfl) ?_
 refine Oy rfl rfl (vf (z1 rfl rfl) (by simp; omega)) ?_
 refine Of rfl (Om rfl ?_)
 refine Oy rfl rfl (za zN rfl) ?_
 refine Oy rfl rfl (zb yy rfl (((k5.chg0 c17).chg0 c22).cell' (i := 6) rfl)) ?_
 refine Oy rfl rfl (z4 z6 rfl) ?_
 refine Oy rfl rfl (vf (z1 rfl rfl) (by simp; omega)) ?_
 refine Of rfl (E4 0 4 5 36 rfl (zf rfl (zq ?_)))
 have hc22 := c17.trans c22
 have hK : ∀ {w'}, zm [] w5 w' → zV w' b4 27 (p.cs (.slice pu p.park.length cu)) ∧ zV w' b5 27 (q.cs (.slice pv q.park.length cv)) ∧ zF w' (.slice pu p.park.length cu) p.park ∧ zF w' (.slice pv q.park.length cv) q.park ∧ EOk w' := fun hc => ⟨k4.chg0 hc, k5.chg0 hc, Rd.chg0 hp5 hc, Rd.chg0 hq5 hc, hE5.chg0 hc⟩
 refine Sr (Om rfl ?_)
 refine Og (zi zac y7 rfl rfl (zu.of_blk0 (hK hc22).1)) rfl ?_
 refine Og (zi zac y7 rfl rfl (zu.of_blk0 (hK hc22).2.1)) rfl ?_
 refine Oc bd6 rfl rfl rfl (zO.mono (zfh t p q _ _ _ (hK hc22).2.2.1 (hK hc22).2.2.2.1 (hK hc22).2.2.2.2) fun r w' h => (⟨zhb h.1, h.2⟩ : (∃ x, r = .tuple #[x, Ii (if zh8 t p q then 0 else 2)] ∧ zQ w' x (zdh t p q)) ∧ zm [] _ w')) ?_
 rintro v42 w42 ⟨⟨x1, rfl, hs1⟩, c42⟩
 refine Om rfl (Oe rfl rfl (Oe rfl rfl (Oa rfl (Oa rfl (E5 0 4 5 7 8 rfl ?_)))))
 have hc42 := hc22.trans c42
 refine Sr (Om rfl ?_)
 refine Og (zi zac y7 rfl rfl (zu.of_blk0 (hK hc42).1)) rfl ?_
 refine Og (zi zac y7 rfl rfl (zu.of_blk0 (hK hc42).2.1)) rfl ?_
 refine Oc bd7 rfl rfl rfl (zO.mono (zia t p q _ _ _ (hK hc42).2.2.1 (hK hc42).2.2.2.1 (by omega)) fun r w' h => (⟨zhb h.1, h.2⟩ : (∃ x, r = .tuple #[x, Ii (if zh8 t p q then 0 else 2)] ∧ zQ w' x (zdh t p q)) ∧ zm [] _ w')) ?_
 rintro v49 w49 ⟨⟨x2, rfl, hs2⟩, c49⟩
 refine Om rfl (Oe rfl rfl (Oe rfl rfl (Oa rfl (Oa rfl (E6 4 5 7 8 9 10 rfl ?_)))))
 have hc49 := hc42.trans c49
 refine Sr ?_
 refine Og (zi zac y7 rfl rfl (zu.of_blk0 (hK hc49).1)) rfl ?_
 refine Og (zi zac y7 rfl rfl (zu.of_blk0 (hK hc49).2.1)) rfl ?_
 refine Oc bd8 rfl rfl rfl (ziL p q _ _ _ (hK hc49).2.2.1 (hK hc49).2.2.2.1 (by omega) (by omega)) ?_
 rintro v54 w54 ⟨rfl, c54⟩
 refine Oa rfl (E7 4 5 7 8 9 10 11 rfl ?_)
 have hc54 := hc49.trans c54
 have hpq : decide (q = p) = decide (p = q) := decide_eq_decide.2 ⟨Eq.symm, Eq.symm⟩
 have hst : ∀ w, zQ w x1 (zdh t p q) → zQ w x2 (zdh t p q) → zO TP 9 #[x1, x2] w fun r w' => r = .bool true ∧ zm [] w w' := fun w h h' => zO.mono (zj7 x1 x2 _ _ w h h' (zfc t p q)) fun r w' q => ⟨by rw [q.1, decide_eq_true rfl], q.2⟩
 refine Sr (Om rfl (Om rfl ?_))
 refine Oc bd9 rfl rfl rfl (hst _ ((hs1.chg0 c49).chg0 c54) (hs2.chg0 c54)) ?_
 rintro v57 w57 ⟨rfl, c57⟩
 refine Om rfl (Oj rfl rfl ?_)
 refine Ow rfl rfl zkQ rfl rfl rfl (zlc _ _) ?_
 rintro v60 w60 ⟨rfl, c60⟩
 refine Oj rfl rfl ?_
 refine Oy rfl rfl (vt (zw rfl rfl) (decide_eq_true rfl)) ?_
 refine Ot rfl (Om rfl ?_)
 refine Oy rfl rfl (zi zac y7 rfl rfl (zu.of_blk0 (hK ((hc54.trans c57).trans c60)).1)) ?_
 refine Oy rfl rfl (zi zac y7 rfl rfl (zu.of_blk0 (hK ((hc54.trans c57).trans c60)).2.1)) ?_
 refine Ow rfl rfl zlj rfl rfl rfl (zdS p q _ _ _ (hK ((hc54.trans c57).trans c60)).2.2.1 (hK ((hc54.trans c57).trans c60)).2.2.2.1 (by omega) (by omega)) ?_
 rintro v67 w67 ⟨rfl, c67⟩
 refine Oj rfl rfl ?_
 refine Oy rfl rfl (vt (zcx bo4 rfl rfl) (by simp)) ?_
 refine Ot rfl (Om rfl ?_)
 refine Oy rfl rfl (zi zac y7 rfl rfl (zu.of_blk0 (hK (((hc54.trans c57).trans c60).trans c67)).2.1)) ?_
 refine Oy rfl rfl (zi zac y7 rfl rfl (zu.of_blk0 (hK (((hc54.trans c57).trans c60).trans c67)).1)) ?_
 refine Ow rfl rfl zlj rfl rfl rfl (zdS q p _ _ _ (hK (((hc54.trans c57).trans c60).trans c67)).2.2.2.1 (hK (((hc54.trans c57).trans c60).trans c67)).2.2.1 (by omega) (by omega)) ?_
 rintro v74 w74 ⟨rfl, c74⟩
 refine Oj rfl rfl ?_
 refine Oy rfl rfl (vt (zcx bo4 rfl rfl) (by rw [hpq]; simp)) ?_
 refine Ot rfl (Om rfl ?_)
 refine Oy rfl rfl (zi zac y7 rfl rfl (zu.of_blk0 (hK ((((hc54.trans c57).trans c60).trans c67).trans c74)).1)) ?_
 refine Oy rfl rfl (zi zac y7 rfl rfl (zu.of_blk0 (hK ((((hc54.trans c57).trans c60).trans c67).trans c74)).1)) ?_
 refine Ow rfl rfl zlj rfl rfl rfl (zO.mono (zdS p p _ _ _ (hK ((((hc54.trans c57).trans c60).trans c67).trans c74)).2.2.1 (hK ((((hc54.trans c57).trans c60).trans c67).trans c74)).2.2.1 (by omega) (by omega)) fun r w' h => (⟨by rw [h.1, decide_eq_true rfl], h.2⟩ : r = .bool true ∧ zm [] _ w')) ?_
 rintro v81 w81 ⟨rfl, c81⟩
 refine Ot rfl (Om rfl ?_)
 refine Ow rfl rfl bd5 rfl rfl rfl (zca _ (hK (((((hc54.trans c57).trans c60).trans c67).trans c74).trans c81)).2.2.2.2) ?_
 rintro v84 w84 ⟨rfl, c84⟩
 refine Ot rfl (Oa rfl (E1 6 rfl (zj ?_)))
 refine zx rfl rfl ?_
 exact ⟨rfl, hc5.trans ((((((hc54.trans c57).trans c60).trans c67).trans c74).trans c81).trans c84)⟩
end Go.Wk
namespace Go.Proofs.YthlegbhbbimfnaaGreatDoor
open Go.ChangeShapes Go.WideShapes Go.ChangeAt Go.RowKit Go.Deep
set_option maxRecDepth 100000
theorem znZ : ownKnob Tryz.prog.godebug = none := by kernel_rfl
theorem znM : laidOutB Tryz.prog = true := by kernel_rfl
abbrev znP : List (String × DataW Unit) := [("math/bits.deBruijn32tab", Rows.laid_math_bits_deBruijn32tab), ("math/bits.deBruijn64tab", Rows.laid_math_bits_deBruijn64tab), ("internal/strconv.uint64pow10", Rows.laid_internal_strconv_uint64pow10), ("errors.errorType", Rows.laid_errors_errorType)]
theorem etT : Tryz.prog.globalNamed "errors.errorType" = some 1 := by kernel_rfl
theorem rtT : (Tryz.prog.cutTypes.find? (·.1 == "internal/reflectlite.rtype")).map (·.2) = some 313 := by kernel_rfl
theorem znX : Tryz.prog.types.size = 357 := by kernel_rfl
theorem znW : ((List.range 357).filter fun t => Tryz.prog.rowNamed t [101, 114, 114, 111, 114]) = [243] := by kernel_rfl
theorem znU (os : Os) (args : Array Value) : laidMetH Tryz.prog znP ((World.doorLaid Tryz.prog 31 os).forCall (fun _ _ => 0) ⟨#[], args, []⟩).memory :=
 laidMetH_of_parts3 (fuel := 8) (laidMet_of_run' 8 (by kernel_rfl) (by kernel_rfl)) (by kernel_rfl) (by kernel_rfl)
theorem znR {W : World} (h : laidMetH Tryz.prog znP W) : Wk.EOk W := by
 have h' : laidMet Tryz.prog (znP.filter fun x => x.2.handleName?.isNone) W ∧ handlesMet Tryz.prog [("errors.errorType", Rows.laid_errors_errorType)] W := h
 obtain ⟨name, u, ty, e1, e2, e3, e4, e5⟩ := h'.2 _ (List.mem_singleton.2 rfl)
 have en : name = [101, 114, 114, 111, 114] := (Option.some.inj e1).symm
 subst en
 obtain rfl := Option.some.inj (rtT.symm.trans e2)
 have hm : ty ∈ (List.range 357).filter fun t => Tryz.prog.rowNamed t [101, 114, 114, 111, 114] := List.mem_filter.2 ⟨List.mem_range.2 (by rw [← znX]; exact e3), e4⟩
 rw [znW] at hm
 obtain rfl := List.mem_singleton.1 hm
 have hh : typeHandle Tryz.prog 243 = Wk.hnd 243 := by kernel_rfl
 rw [hh] at e5
 have h0 := World.var?_cell etT e5 0
 have h1 : W.cell? ⟨1, 0, none⟩ = some (Value.iface 313 (Value.agg #[Wk.hnd 243])) := by simpa using h0
 exact h1
theorem znT {α : Type} {R : Nat → α → Prop} : ∀ n : Nat, (∀ i, i < n → ∃ y, R i y) → ∃ l : List α, l.length = n ∧ ∀ i y, l[i]? = some y → R i y
 | 0, _ => ⟨[], rfl, fun i y h => by simp at h⟩
 | n + 1, h => by
  obtain ⟨l, hl, hr⟩ := znT n fun i hi => h i (by omega)
  obtain ⟨y, hy⟩ := h n (by omega)
  refine ⟨l ++ [y], by simp [hl], fun i z hz => ?_⟩
  rcases Nat.lt_or_ge i l.length with hi | hi
  ·rw [List.getElem?_append_left hi] at hz
   exact hr i z hz
  rw [List.getElem?_append_right hi] at hz
  have : i - l.length = 0 := by
   rcases Nat.eq_zero_or_pos (i - l.length) with h0 | h0
   ·exact h0
   rw [List.getElem?_eq_none (by simp; omega)] at hz; cases hz
  rw [this] at hz
  simp at hz
  subst hz
  have : i = n := by omega
  subst this; exact hy
section
variable {P : Program} {H : Type} {enc : TypeId × Value → H} {W : World} {b : Nat} {sp : Nat → Bool} {hd : Bool}
theorem znV {t e : TypeId} {k : Nat} {α : Type} {f : α → List Value} {Q : α → Prop} (ht : P.underlying t = some (.slice e)) (hk : P.cellsOf e = k) (hk0 : 0 < k) (hf : ∀ x, (f x).length = k) (ho : ∀ x, Q x → ∀ u ∈ f x, u.oneCell' = true)
 (each : ∀ n cs x, DataW.trod enc P W b sp hd n e cs = some x → ∃ y, cs = f y ∧ Q y) {fuel : Nat} {cs : List Value} {x : DataW H × List MemPlace} (h : DataW.trod enc P W b sp hd fuel t cs = some x) :
 ∃ v l, cs = [v] ∧ Wk.yq W e k f v l ∧ ∀ y ∈ l, Q y := by
 rcases open_slice ht h with ⟨rfl, _⟩ | ⟨a, len, cap, m, n, D, Pl, rfl, _, hl, hcm, hm, _, hx⟩
 ·exact ⟨_, [], rfl, Wk.yq.nil _ _ _ _, by simp⟩
 have hlm : len ≤ m := by rw [hm]; split <;> omega
 obtain ⟨l, hll, hR⟩ := znT (R := fun i y => W.cells? b (a.add (i * k)) k = some (f y) ∧ Q y) len fun i hi => by
  obtain ⟨cs', h1, h2⟩ := hx i (by omega)
  rw [hk] at h1
  obtain ⟨y, rfl, hq⟩ := each _ _ _ h2
  exact ⟨y, h1, hq⟩
 have hQ : ∀ y ∈ l, Q y := fun y hy => by
  obtain ⟨i, hi⟩ := List.getElem?_of_mem hy
  exact (hR i y hi).2
 refine ⟨_, l, rfl, ?_, hQ⟩
 subst hll
 refine ⟨some a, cap, rfl, hl, hcm, Wk.zi5 hf l, fun u hu => ?_, fun hp => ?_⟩
 ·obtain ⟨y, hy, hu'⟩ := List.mem_flatMap.1 hu
  exact ho y (hQ y hy) u hu'
 have hspot : a.spot = none := by
  have h0 : l[0]? = some l[0] := by simp [hp]
  obtain ⟨h1, _⟩ := hR 0 _ h0
  obtain ⟨_, hl3, hcell⟩ := World.cells?_some h1
  have h3 := hcell 0 hk0
  have h4 : (f l[0])[0]? = some ((f l[0])[0]'(by rw [hf]; exact hk0)) := by simp [hf, hk0]
  rw [h4] at h3
  simpa [Addr.add] using World.cell?_spot h3
 obtain ⟨bb, oo, ss⟩ := a
 dsimp only at hspot
 subst hspot
 refine ⟨bb, oo, rfl, fun j u hj => ?_⟩
 have hlen := Wk.zi5 (k := k) hf l
 have hjl : j < l.length * k := by have := (List.getElem?_eq_some_iff.1 hj).1; omega
 have hi : j / k < l.length := (Nat.div_lt_iff_lt_mul hk0).2 hjl
 have hr : j % k < k := Nat.mod_lt _ hk0
 have hy : l[j / k]? = some l[j / k] := by simp [hi]
 generalize l[j / k] = y at hy
 obtain ⟨h1, _⟩ := hR _ _ hy
 rw [Addr.add_lit] at h1
 obtain ⟨_, _, hcell⟩ := World.cells?_some h1
 have h3 := hcell (j % k) hr
 rw [Addr.add_lit] at h3
 have hdm : j / k * k + j % k = j := Nat.div_add_mod' j k
 have h5 : (f y)[j % k]? = some u := by
  rw [← Wk.zmP hf hy, List.getElem?_take, if_pos hr, List.getElem?_drop, hdm]
  exact hj
 rw [h5] at h3
 rw [← h3]
 congr 2
 omega
end
section
variable {H : Type} {enc : TypeId × Value → H} {W : World} {b : Nat} {sp : Nat → Bool} {hd : Bool}
theorem cP : Tryz.prog.cellsOf 27 = 7 := by kernel_rfl
theorem cQ : Tryz.prog.cellsOf 24 = 2 := by kernel_rfl
theorem cI : Tryz.prog.cellsOf 3 = 1 := by kernel_rfl
theorem cPh : Tryz.prog.cellsOf 22 = 1 := by kernel_rfl
theorem znY : Tryz.prog.cellsOf 9 = 1 := by kernel_rfl
theorem cBo : Tryz.prog.cellsOf 4 = 1 := by kernel_rfl
theorem cSs : Tryz.prog.cellsOf 25 = 1 := by kernel_rfl
theorem znS {n : Nat} {cs : List Value} {x : DataW H × List MemPlace} (h : DataW.trod enc Tryz.prog W b sp hd n 25 cs = some x) : ∃ v l, cs = [v] ∧ Wk.zF W v l := by
 obtain ⟨v, l, h1, h2, _⟩ := znV (f := Wk.zgt) (Q := fun _ => True) Tryz.underlying25 znY (by decide) Wk.zcI (fun x _ => Wk.zig x) (fun _ cs _ h => by
  obtain ⟨s, e, _, _⟩ := DataW.trod_string (by kernel_rfl) h
  exact ⟨s, e, trivial⟩) h
 exact ⟨v, l, h1, h2⟩
theorem znQ {n : Nat} {cs : List Value} {x : DataW H × List MemPlace} (h : DataW.trod enc Tryz.prog W b sp hd n 27 cs = some x) : ∃ (p : Wk.PrT) (v : Value), cs = p.cs v ∧ Wk.zbv W v p := by
 obtain ⟨xs, m, _, _, hlen, hxl, hf⟩ := DataW.trod_struct Tryz.underlying27 h
 rw [cP] at hlen
 match cs, hlen with
 | [c0, c1, c2, c3, c4, c5, c6], _ =>
  have g0 : DataW.trod enc Tryz.prog W b sp hd m 22 (([c0, c1, c2, c3, c4, c5, c6].drop 0).take (Tryz.prog.cellsOf 22)) = xs[0]? := hf 0 _ rfl
  have g1 : DataW.trod enc Tryz.prog W b sp hd m 9 (([c0, c1, c2, c3, c4, c5, c6].drop 1).take (Tryz.prog.cellsOf 9)) = xs[1]? := hf 1 _ rfl
  have g2 : DataW.trod enc Tryz.prog W b sp hd m 4 (([c0, c1, c2, c3, c4, c5, c6].drop 2).take (Tryz.prog.cellsOf 4)) = xs[2]? := hf 2 _ rfl
  have g3 : DataW.trod enc Tryz.prog W b sp hd m 24 (([c0, c1, c2, c3, c4, c5, c6].drop 3).take (Tryz.prog.cellsOf 24)) = xs[3]? := hf 3 _ rfl
  have g4 : DataW.trod enc Tryz.prog W b sp hd m 3 (([c0, c1, c2, c3, c4, c5, c6].drop 5).take (Tryz.prog.cellsOf 3)) = xs[4]? := hf 4 _ rfl
  have g5 : DataW.trod enc Tryz.prog W b sp hd m 25 (([c0, c1, c2, c3, c4, c5, c6].drop 6).take (Tryz.prog.cellsOf 25)) = xs[5]? := hf 5 _ rfl
  rw [cPh] at g0
  rw [znY] at g1
  rw [cBo] at g2
  rw [cQ] at g3
  rw [cI] at g4
  rw [cSs] at g5
  have hx6 : xs.length = 6 := hxl
  match xs, hx6 with
  | [y0, y1, y2, y3, y4, y5], _ =>
   have g0 : DataW.trod enc Tryz.prog W b sp hd m 22 [c0] = some y0 := g0
   have g1 : DataW.trod enc Tryz.prog W b sp hd m 9 [c1] = some y1 := g1
   have g2 : DataW.trod enc Tryz.prog W b sp hd m 4 [c2] = some y2 := g2
   have g3 : DataW.trod enc Tryz.prog W b sp hd m 24 [c3, c4] = some y3 := g3
   have g4 : DataW.trod enc Tryz.prog W b sp hd m 3 [c5] = some y4 := g4
   have g5 : DataW.trod enc Tryz.prog W b sp hd m 25 [c6] = some y5 := g5
   obtain ⟨zs, m', _, _, hlen', hzl, hf'⟩ := DataW.trod_struct Tryz.underlying24 g3
   have q0 : DataW.trod enc Tryz.prog W b sp hd m' 3 (([c3, c4].drop 0).take (Tryz.prog.cellsOf 3)) = zs[0]? := hf' 0 _ rfl
   have q1 : DataW.trod enc Tryz.prog W b sp hd m' 3 (([c3, c4].drop 1).take (Tryz.prog.cellsOf 3)) = zs[1]? := hf' 1 _ rfl
   rw [cI] at q0 q1
   have hz2 : zs.length = 2 := hzl
   match zs, hz2 with
   | [z0, z1], _ =>
    have q0 : DataW.trod enc Tryz.prog W b sp hd m' 3 [c3] = some z0 := q0
    have q1 : DataW.trod enc Tryz.prog W b sp hd m' 3 [c4] = some z1 := q1
    obtain ⟨i0, e0, _, _⟩ := DataW.trod_int (k := .i64) (by kernel_rfl) g0
    obtain ⟨s1, e1, _, _⟩ := DataW.trod_string (by kernel_rfl) g1
    obtain ⟨z2, e2, _⟩ := DataW.trod_bool (by kernel_rfl) g2
    obtain ⟨i3, e3, _, _⟩ := DataW.trod_int (k := .i64) (by kernel_rfl) q0
    obtain ⟨i4, e4, _, _⟩ := DataW.trod_int (k := .i64) (by kernel_rfl) q1
    obtain ⟨i5, e5, _, _⟩ := DataW.trod_int (k := .i64) (by kernel_rfl) g4
    obtain ⟨v, l, e6, hl⟩ := znS g5
    simp only [List.cons.injEq, and_true] at e0 e1 e2 e3 e4 e5 e6
    subst e0 e1 e2 e3 e4 e5 e6
    exact ⟨⟨i0, s1, z2, i3, i4, i5, l⟩, _, rfl, hl⟩
end
end Go.Proofs.YthlegbhbbimfnaaGreatDoor
