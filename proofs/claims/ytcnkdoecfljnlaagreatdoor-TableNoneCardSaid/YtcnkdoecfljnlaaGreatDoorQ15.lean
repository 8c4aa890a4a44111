/-
  The law: the chapter's rows hold.
  Table full: rows of one number each, in plain words.
  The law: calls; are there few and short ones?
  The law: as many rows as there may be, and one more.
  The law: what is told of none.
  What the rows list of the package's variables, and what it gives the walks.
  What is handed in, opened: rows of values, calls.
-/
import Derived.Test.YtcnkdoecfljnlaaGreatDoorQ14
import Derived.Test.YtcnkdoecfljnlaaGreatDoorRows
import Derived.ProofKit
import Derived.OpenShut
import Derived.Deep.Slices
import Derived.LaidMore
import Derived.ChangeSame
import Derived.LaidHandle
import Derived.Stop.Joined
set_option linter.all false
namespace Go.Wk
open Go.Proofs
set_option maxRecDepth 10000

structure WkS (w0 w : World) (t : Nat) (own : List Nat) (b3 : Nat) (rows : List (List Val)) : Prop where
  e : EOk w
  tab : IsTab w t own sW rows
  nul : Blk w b3 40 Val.null.cs
  chg : Chg [] w0 w
  fr : ∀ p ∈ own, w0.heap.size ≤ p
section
variable {w0 w w' : World} {t : Nat} {own : List Nat} {b3 : Nat} {rows rows' : List (List Val)}
theorem WkS.chg0 (h : WkS w0 w t own b3 rows) (hc : Chg [] w w') : WkS w0 w' t own b3 rows := ⟨h.e.chg0 hc, h.tab.chg0 hc, h.nul.chg0 hc, h.chg.trans hc, h.fr⟩
theorem WkS.step (h : WkS w0 w t own b3 rows) (hc : Chg own w w') (ht : IsTab w' t own sW rows') : WkS w0 w' t own b3 rows' :=
  ⟨h.e.tab h.tab hc, ht, h.nul.tab h.tab rfl hc, h.chg.own hc h.fr, h.fr⟩
theorem WkS.ins (h : WkS w0 w t own b3 rows) {v : Value} {row : List Val} (hl : IsVals w v row) (hg : ∀ x ∈ row, x.Rng) (hn : row.length ≤ 1048576) {e : Int} (he : insE sW rows row = e) (hr : insR sW rows row = rows') :
    Ret Tryz.prog 12 #[.pointer (some ⟨t, 0, none⟩), v] w fun r w' => r = .int .i64 e ∧ WkS w0 w' t own b3 rows' := by
  refine (t_Insert t own sW rows v row w h.e h.tab hl hg hn).mono fun r w' ⟨h1, h2, h3⟩ => ⟨by rw [h1, he], h.step h3 (hr ▸ h2)⟩
theorem WkS.ign (h : WkS w0 w t own b3 rows) {v : Value} {row : List Val} (hl : IsVals w v row) (hg : ∀ x ∈ row, x.Rng) (hn : row.length ≤ 1048576) (he : insE sW rows row = 220) :
    Ret Tryz.prog 38 #[.pointer (some ⟨t, 0, none⟩), v] w fun r w' => r = .tuple #[.bool false, .int .i64 0] ∧ WkS w0 w' t own b3 rows := by
  refine (t_Ignore t own sW rows v row w h.e h.tab hl hg hn).mono fun r w' ⟨h1, h2, h3⟩ => ⟨?_, h.step h3 ?_⟩
  · rw [h1, ignB, ignE, he]; rfl
  · rwa [insR_no (by rw [he]; decide)] at h2
theorem WkS.rep (h : WkS w0 w t own b3 rows) {v : Value} {row : List Val} (hl : IsVals w v row) (hg : ∀ x ∈ row, x.Rng) (hn : row.length ≤ 1048576) {g : List (List Val)} (he : repE sW rows row = 0) (hG : repG sW rows row = g) (hr : repR sW rows row = rows') :
    Ret Tryz.prog 14 #[.pointer (some ⟨t, 0, none⟩), v] w fun r w' => ∃ o, r = .tuple #[o, .int .i64 0] ∧ IsRows w' o g ∧ WkS w0 w' t own b3 rows' := by
  refine (t_Replace t own sW rows v row w h.e h.tab hl hg hn).mono fun r w' ⟨o, h1, h2, _, h3, h4⟩ => ⟨o, by rw [h1, he], hG ▸ h2, h.step h4 (hr ▸ h3)⟩
theorem WkS.find (h : WkS w0 w t own b3 rows) (n : Int) {v : Value} {vals r : List Val} (hl : IsVals w v vals) (hg : ∀ x ∈ vals, x.Rng) (he : findN sW rows n vals = some r) :
    Ret Tryz.prog 31 #[.pointer (some ⟨t, 0, none⟩), .int .i64 n, v] w fun x w' => ∃ o, x = .tuple #[o, .bool true] ∧ IsVals w' o r ∧ WkS w0 w' t own b3 rows ∧ Chg [] w w' := by
  refine (tt_Find h.tab n hl hg).mono fun x w' ⟨o, h1, h2, _, h3⟩ => ⟨o, ?_, ?_, h.chg0 h3, h3⟩
  · rw [h1, he]; rfl
  · rw [he] at h2; exact h2
theorem WkS.key (h : WkS w0 w t own b3 rows) {v : Value} {row : List Val} (hl : IsVals w v row) (hg : ∀ x ∈ row, x.Rng) (hn : row.length ≤ 1048576) (he : rowN sW row = 0) :
    Ret Tryz.prog 20 #[.pointer (some ⟨t, 0, none⟩), v] w fun r w' => r = .tuple #[.string (keyR sW row), .int .i64 0] ∧ WkS w0 w' t own b3 rows ∧ Chg [] w w' := by
  refine (tt_Key h.tab h.e hl hg hn).mono fun r w' ⟨h1, h2⟩ => ⟨?_, h.chg0 h2, h2⟩
  rw [h1, he, if_pos rfl]
theorem WkS.upd (h : WkS w0 w t own b3 rows) {v : Value} {row : List Val} {key : ByteArray} (hl : IsVals w v row) (hg : ∀ x ∈ row, x.Rng) (hn : row.length ≤ 1048576) (he : updE sW rows key row = 220) :
    Ret Tryz.prog 39 #[.pointer (some ⟨t, 0, none⟩), .string key, v] w fun r w' => ∃ o, r = .tuple #[o, .int .i64 220] ∧ WkS w0 w' t own b3 rows ∧ Chg own w w' := by
  refine (t_Update t own sW rows v row key w h.e h.tab hl hg hn).mono fun r w' ⟨o, h1, _, _, h2, h3⟩ => ⟨o, by rw [h1, he], h.step h3 ?_, h3⟩
  rwa [updR_no (by rw [he]; decide)] at h2
end
theorem nul_rng : Val.null.Rng := ⟨by decide, by decide, by decide⟩
def wkG : List (List Val) := [ [vI 1, vI 5], [vI 2, Val.null] ]
theorem two_rng {a : Int} (ha : 0 ≤ a ∧ a ≤ 100) {x : Val} (hx : x.Rng) : ∀ y ∈ [vI a, x], y.Rng := by
  intro y hy
  simp at hy
  rcases hy with rfl | rfl
  · exact vI_rng ⟨by omega, by omega⟩
  · exact hx
theorem sW_is {w : World} {b17 b18 b19 b20 : Nat} (h17 : Blk w b17 25 (fl Col.cs sW.cols)) (h18 : Blk w b18 3 [.int .i64 0]) (h19 : Blk w b19 3 [.int .i64 1]) (h20 : Blk w b20 27 [.slice (some ⟨b19, 0, none⟩) 1 1]) :
    IsSch w (.slice (some ⟨b17, 0, none⟩) 2 2) (.slice (some ⟨b18, 0, none⟩) 1 1) (.slice (some ⟨b20, 0, none⟩) 1 1) sW :=
  ⟨Arr.of_blk (l := sW.cols) ccs_len Col.one h17 (by decide), Arr.of_blk (l := sW.key) ics_len ics_one h18 (by decide),
   ⟨[.slice (some ⟨b19, 0, none⟩) 1 1], (IsSl.of_blk (n := 1) h20 rfl (by simp [maxLen]) (by intro y hy; simp at hy; subst hy; rfl)).toOu, Arr.of_blk (l := [1]) ics_len ics_one h19 (by decide), trivial⟩⟩

theorem l_works (w : World) (hE : EOk w) : Ret Tryz.prog 9 #[] w fun r w' => r = .bool true ∧ Chg [] w w' := by
  refine Ret.of_W (args := []) Tryz.func9 rfl rfl rfl rfl ?_

  refine Sr (Oa rfl rfl (O_end [] (F' := []) rfl (W_seq ?_)))
  have g5 : (vI 5).Rng := vI_rng (by decide)
  have g6 : (vI 6).Rng := vI_rng (by decide)
  have g7 : (vI 7).Rng := vI_rng (by decide)
  refine W_region ?_
  refine Og (vl_build pl25 zr25 rfl (vs := [_, _, _]) rfl (css := [_, _, _]) ⟨rfl, rfl, rfl, trivial⟩ rfl rfl (cs := [_, _, _, _]) rfl) rfl ?_
  refine Og (vl_build pl25 zr25 rfl (vs := [_, _, _, _]) rfl (css := [_, _, _, _]) ⟨rfl, rfl, rfl, rfl, trivial⟩ rfl rfl (cs := [_, _, _, _]) rfl) rfl ?_
  refine O_go (gn rfl) (st_buildSlice ap26 rfl (vs := [_, _]) rfl (css := [_, _]) ⟨rfl, rfl, trivial⟩ rfl rfl (cs := [_, _, _, _, _, _, _, _]) rfl rfl ?_)
  intro b17 w17 e17 n17 c17 k17
  refine O_go (gn rfl) (st_buildSlice ap27 rfl (vs := [_]) rfl (css := [_]) ⟨rfl, trivial⟩ rfl rfl (cs := [_]) rfl rfl ?_)
  intro b18 w18 e18 n18 c18 k18
  refine O_go (gn rfl) (st_buildSlice ap27 rfl (vs := [_]) rfl (css := [_]) ⟨rfl, trivial⟩ rfl rfl (cs := [_]) rfl rfl ?_)
  intro b19 w19 e19 n19 c19 k19
  refine O_go (gn rfl) (st_buildSlice ap28 rfl (vs := [_]) rfl (css := [_]) ⟨rfl, trivial⟩ rfl rfl (cs := [_]) rfl rfl ?_)
  intro b20 w20 e20 n20 c20 k20
  refine Og (vl_build pl30 zr30 rfl (vs := [_, _, _]) rfl (css := [_, _, _]) ⟨rfl, rfl, rfl, trivial⟩ rfl rfl (cs := [_, _, _]) rfl) rfl ?_
  refine O_go (gn rfl) (st_call bd10 rfl rfl rfl rfl (t_New _ _ _ sW _ (sW_is (((k17.chg0 c18).chg0 c19).chg0 c20) ((k18.chg0 c19).chg0 c20) (k19.chg0 c20) k20) wk_s) ?_)
  rintro v22 w22 ⟨t, own, rfl, hT22, tF22, oF22, c22⟩
  refine Om rfl rfl (Oe rfl rfl rfl (Oe rfl rfl rfl (Oa rfl rfl (Oa rfl rfl (O_end [1, 2] (F' := [(1, _), (2, _)]) rfl ?_)))))
  have hc22 : Chg [] w w22 := (((c17.trans c18).trans c19).trans c20).trans c22
  refine Sr ?_
  refine O_go (gn rfl) (st_alloc zr40 rfl rfl ?_)
  intro b3 w3 e3 n3 c3 k3
  refine O_end [1, 2, 3] (F' := [(1, _), (2, _), (3, _)]) rfl ?_
  have k3 : Blk w3 b3 40 Val.null.cs := k3
  have hS3 : WkS w w3 t own b3 [] := ⟨(hE.chg0 hc22).chg0 c3, hT22.chg0 c3, k3, hc22.trans c3, fun p hp => by have := oF22 p hp; have := (((c17.trans c18).trans c19).trans c20).size; omega⟩
  refine W_seq (Sr (Om rfl rfl ?_))
  refine O_go (gn rfl) (st_call bd11 rfl rfl rfl rfl (l_num _ _) ?_)
  rintro v26 w26 ⟨rfl, rfl⟩
  refine Og (vl_is (b' := false) (vl_ine rfl rfl) (ine_f (by omega))) rfl ?_
  refine Om rfl rfl ?_
  refine Oy rfl rfl (vl_move rfl) rfl ?_
  refine O_go (gy rfl rfl rfl) (st_call bd13 rfl rfl rfl rfl (l_of _ _) ?_)
  rintro v30 w30 ⟨rfl, c30⟩
  refine O_go (gy rfl rfl rfl) (st_call bd41 rfl rfl rfl rfl (l_row _ (vI 5) _) ?_)
  rintro v31 w31 ⟨i31, f31, c31⟩
  refine O_go (gy rfl rfl rfl) (st_call bd12 rfl rfl rfl rfl (((hS3.chg0 c30).chg0 c31).ins i31 (two_rng (by decide) g5) (by decide) wk_1 (rows' := wk1) rfl) ?_)
  rintro v32 w32 ⟨rfl, hS32⟩
  refine O_go (gy rfl rfl rfl) (st_call bd11 rfl rfl rfl rfl (l_num _ _) ?_)
  rintro v33 w33 ⟨rfl, rfl⟩
  refine Oy rfl rfl (vl_is (b' := false) (vl_ine rfl rfl) (ine_f (by omega))) rfl ?_
  refine Of rfl rfl rfl (Om rfl rfl ?_)
  refine Oy rfl rfl (vl_move rfl) rfl ?_
  refine Oy rfl rfl (vl_loadAgg ag40 sz40 rfl rfl (Cells.of_blk0 hS32.nul)) rfl ?_
  refine O_go (gy rfl rfl rfl) (st_call bd41 rfl rfl rfl rfl (l_row _ Val.null _) ?_)
  rintro v39 w39 ⟨i39, f39, c39⟩
  refine O_go (gy rfl rfl rfl) (st_call bd12 rfl rfl rfl rfl ((hS32.chg0 c39).ins i39 (two_rng (by decide) nul_rng) (by decide) wk_2 (rows' := wk2) rfl) ?_)
  rintro v40 w40 ⟨rfl, hS40⟩
  refine O_go (gy rfl rfl rfl) (st_call bd11 rfl rfl rfl rfl (l_num _ _) ?_)
  rintro v41 w41 ⟨rfl, rfl⟩
  refine Oy rfl rfl (vl_is (b' := false) (vl_ine rfl rfl) (ine_f (by omega))) rfl ?_
  refine Of rfl rfl rfl (Om rfl rfl ?_)
  refine Oy rfl rfl (vl_move rfl) rfl ?_
  refine Oy rfl rfl (vl_loadAgg ag40 sz40 rfl rfl (Cells.of_blk0 hS40.nul)) rfl ?_
  refine O_go (gy rfl rfl rfl) (st_call bd41 rfl rfl rfl rfl (l_row _ Val.null _) ?_)
  rintro v47 w47 ⟨i47, f47, c47⟩
  refine O_go (gy rfl rfl rfl) (st_call bd12 rfl rfl rfl rfl ((hS40.chg0 c47).ins i47 (two_rng (by decide) nul_rng) (by decide) wk_3 (rows' := wk3) rfl) ?_)
  rintro v48 w48 ⟨rfl, hS48⟩
  refine O_go (gy rfl rfl rfl) (st_call bd11 rfl rfl rfl rfl (l_num _ _) ?_)
  rintro v49 w49 ⟨rfl, rfl⟩
  refine Oy rfl rfl (vl_is (b' := false) (vl_ine rfl rfl) (ine_f (by omega))) rfl ?_
  refine Of rfl rfl rfl (Om rfl rfl ?_)
  refine Oy rfl rfl (vl_move rfl) rfl ?_
  refine O_go (gy rfl rfl rfl) (st_call bd13 rfl rfl rfl rfl (l_of _ _) ?_)
  rintro v54 w54 ⟨rfl, c54⟩
  refine O_go (gy rfl rfl rfl) (st_call bd41 rfl rfl rfl rfl (l_row _ (vI 6) _) ?_)
  rintro v55 w55 ⟨i55, f55, c55⟩
  refine O_go (gy rfl rfl rfl) (st_call bd12 rfl rfl rfl rfl (((hS48.chg0 c54).chg0 c55).ins i55 (two_rng (by decide) g6) (by decide) wk_4 (rows' := wk3) (insR_no (by rw [wk_4]; decide))) ?_)
  rintro v56 w56 ⟨rfl, hS56⟩
  refine O_go (gy rfl rfl rfl) (st_call bd11 rfl rfl rfl rfl (l_num _ _) ?_)
  rintro v57 w57 ⟨rfl, rfl⟩
  refine Oy rfl rfl (vl_is (b' := false) (vl_ine rfl rfl) (ine_f (by omega))) rfl ?_
  refine Of rfl rfl rfl (Om rfl rfl ?_)
  refine Oy rfl rfl (vl_move rfl) rfl ?_
  refine O_go (gy rfl rfl rfl) (st_call bd13 rfl rfl rfl rfl (l_of _ _) ?_)
  rintro v62 w62 ⟨rfl, c62⟩
  refine O_go (gy rfl rfl rfl) (st_call bd41 rfl rfl rfl rfl (l_row _ (vI 5) _) ?_)
  rintro v63 w63 ⟨i63, f63, c63⟩
  refine O_go (gy rfl rfl rfl) (st_call bd12 rfl rfl rfl rfl (((hS56.chg0 c62).chg0 c63).ins i63 (two_rng (by decide) g5) (by decide) wk_5 (rows' := wk3) (insR_no (by rw [wk_5]; decide))) ?_)
  rintro v64 w64 ⟨rfl, hS64⟩
  refine O_go (gy rfl rfl rfl) (st_call bd11 rfl rfl rfl rfl (l_num _ _) ?_)
  rintro v65 w65 ⟨rfl, rfl⟩
  refine Oy rfl rfl (vl_is (b' := false) (vl_ine rfl rfl) (ine_f (by omega))) rfl ?_
  refine Of rfl rfl rfl (O_end [1, 3, 67] (F' := [(1, _), (3, _), (67, _)]) rfl (W_cond_false rfl (W_skipE (Sr (Om rfl rfl ?_)))))
  refine O_go (gn rfl) (st_call bd13 rfl rfl rfl rfl (l_of _ _) ?_)
  rintro v70 w70 ⟨rfl, c70⟩
  refine O_go (gn rfl) (st_call bd41 rfl rfl rfl rfl (l_row _ (vI 5) _) ?_)
  rintro v71 w71 ⟨i71, f71, c71⟩
  refine O_go (gn rfl) (st_call bd38 rfl rfl rfl rfl (((hS64.chg0 c70).chg0 c71).ign i71 (two_rng (by decide) g5) (by decide) wk_5) ?_)
  rintro v72 w72 ⟨rfl, hS72⟩
  refine Om rfl rfl (Oe rfl rfl rfl (Oe rfl rfl rfl (Oa rfl rfl (Oa rfl rfl (O_end [1, 3, 4, 5] (F' := [(1, _), (3, _), (4, _), (5, _)]) rfl (Sr (Om rfl rfl ?_)))))))
  refine O_go (gn rfl) (st_call bd13 rfl rfl rfl rfl (l_of _ _) ?_)
  rintro v77 w77 ⟨rfl, c77⟩
  refine O_go (gn rfl) (st_call bd41 rfl rfl rfl rfl (l_row _ (vI 5) _) ?_)
  rintro v78 w78 ⟨i78, f78, c78⟩
  refine O_go (gn rfl) (st_call bd14 rfl rfl rfl rfl (((hS72.chg0 c77).chg0 c78).rep i78 (two_rng (by decide) g5) (by decide) wk_6 wk_7 (rows' := wk4) rfl) ?_)
  rintro v79 w79 ⟨o79, rfl, i79, hS79⟩
  refine Om rfl rfl (Oe rfl rfl rfl (Oe rfl rfl rfl (Oa rfl rfl (Oa rfl rfl (O_end [1, 3, 4, 5, 6, 7] (F' := [(1, _), (3, _), (4, _), (5, _), (6, _), (7, _)]) rfl (Sr (Om rfl rfl ?_)))))))
  refine O_go (gn rfl) (st_call bd13 rfl rfl rfl rfl (l_of _ _) ?_)
  rintro v84 w84 ⟨rfl, c84⟩
  refine O_go (gn rfl) (st_buildSlice ap48 rfl (vs := [_]) rfl (css := [_]) ⟨rfl, trivial⟩ rfl rfl (cs := [_, _, _, _]) rfl rfl ?_)
  intro b85 w85 e85 n85 c85 k85
  refine O_go (gn rfl) (st_call bd31 rfl rfl rfl rfl (((hS79.chg0 c84).chg0 c85).find 1 (vals_of (l := [vI 5]) k85 (by decide) rfl) (by intro y hy; simp at hy; subst hy; exact g5) wk_8) ?_)
  rintro v86 w86 ⟨o86, rfl, i86, hS86, c86⟩
  refine Om rfl rfl (Oe rfl rfl rfl (Oe rfl rfl rfl (Oa rfl rfl (Oa rfl rfl (O_end [1, 3, 4, 5, 6, 7, 8, 9] (F' := [(1, _), (3, _), (4, _), (5, _), (6, _), (7, _), (8, _), (9, _)]) rfl ?_)))))
  have i79 : IsRows w86 o79 _ := ((i79.chg0 c84).chg0 c85).chg0 c86
  refine Sr (Om rfl rfl ?_)
  refine Og (vl_loadAgg ag40 sz40 rfl rfl (Cells.of_blk0 hS86.nul)) rfl ?_
  refine O_go (gn rfl) (st_call bd41 rfl rfl rfl rfl (l_row _ Val.null _) ?_)
  rintro v92 w92 ⟨i92, f92, c92⟩
  refine O_go (gn rfl) (st_call bd20 rfl rfl rfl rfl ((hS86.chg0 c92).key i92 (two_rng (by decide) nul_rng) (by decide) wk_9) ?_)
  rintro v93 w93 ⟨rfl, hS93, c93⟩
  refine Om rfl rfl (Oe rfl rfl rfl (Oe rfl rfl rfl (Oa rfl rfl (Oa rfl rfl (O_end [1, 3, 4, 5, 6, 7, 8, 9, 10, 11] (F' := [(1, _), (3, _), (4, _), (5, _), (6, _), (7, _), (8, _), (9, _), (10, _), (11, _)]) rfl (Sr (Om rfl rfl (Om rfl rfl ?_))))))))
  refine O_go (gn rfl) (st_call bd13 rfl rfl rfl rfl (l_of _ _) ?_)
  rintro v99 w99 ⟨rfl, c99⟩
  refine O_go (gn rfl) (st_call bd41 rfl rfl rfl rfl (l_row _ (vI 7) _) ?_)
  rintro v100 w100 ⟨i100, f100, c100⟩
  refine O_go (gn rfl) (st_call bd39 rfl rfl rfl rfl (((hS93.chg0 c99).chg0 c100).upd i100 (two_rng (by decide) g7) (by decide) wk_10) ?_)
  rintro v101 w101 ⟨o101, rfl, hS101, c101⟩
  refine Om rfl rfl (Oe rfl rfl rfl (Oe rfl rfl rfl (Oa rfl rfl (Oa rfl rfl (O_end [1, 3, 4, 5, 6, 7, 8, 9, 11, 13] (F' := [(1, _), (3, _), (4, _), (5, _), (6, _), (7, _), (8, _), (9, _), (11, _), (13, _)]) rfl ?_)))))
  have hT100 := ((hS93.chg0 c99).chg0 c100).tab
  have i79 : IsRows w101 o79 _ := IsRows.tab hT100 ((((i79.chg0 c92).chg0 c93).chg0 c99).chg0 c100) c101
  have i86 : IsVals w101 o86 _ := IsVals.tab hT100 ((((Arr.chg0 i86 c92).chg0 c93).chg0 c99).chg0 c100) c101
  refine W_seq ?_
  have hd : Chg [] w101 w101.drew := Chg.drew [] _
  refine W_draw (fun wz => Chg [] w101 wz) mix (tOk_of (by kernel_rfl)) hd ?_
  refine Tm rfl rfl ?_
  refine t_pure rfl (gn rfl) (fun _ => vl_not rfl) rfl rfl ?_
  refine Tm rfl rfl (Tq rfl rfl rfl rfl ?_)
  refine t_st rfl (gy rfl rfl rfl) (st_call bd11 rfl rfl rfl rfl (l_num _ _) ?_)
  rintro v108 w108 ⟨rfl, rfl⟩
  refine ⟨.inl hd, ?_⟩
  refine Tq rfl rfl rfl rfl ?_
  refine t_st rfl (gy rfl rfl rfl) (st_call bd11 rfl rfl rfl rfl (l_num _ _) ?_)
  rintro v110 w110 ⟨rfl, rfl⟩
  refine ⟨.inl hd, ?_⟩
  refine t_pure rfl (gy rfl rfl rfl) (fun _ => vl_add rfl rfl (by omega)) rfl rfl ?_
  refine Tq rfl rfl rfl rfl ?_
  refine t_st rfl (gy rfl rfl rfl) (st_call bd11 rfl rfl rfl rfl (l_num _ _) ?_)
  rintro v113 w113 ⟨rfl, rfl⟩
  refine ⟨.inl hd, ?_⟩
  refine t_pure rfl (gy rfl rfl rfl) (fun _ => vl_add rfl rfl (by omega)) rfl rfl ?_
  refine t_pure rfl (gy rfl rfl rfl) (fun _ => vl_is (b' := true) (vl_ieq rfl rfl) (decide_eq_true (by omega))) rfl rfl ?_
  refine t_pure rfl (gn rfl) (fun _ => vl_pick_t rfl rfl) rfl rfl ?_
  refine Tm rfl rfl (Tq rfl rfl rfl rfl ?_)
  refine t_st rfl (gy rfl rfl rfl) (st_call bd13 rfl rfl rfl rfl (l_of _ _) ?_)
  rintro v119 w119 ⟨rfl, c119⟩
  refine ⟨.inl (hd.trans c119), ?_⟩
  refine t_st rfl (gy rfl rfl rfl) (st_call bd41 rfl rfl rfl rfl (l_row _ (vI 5) _) ?_)
  rintro v120 w120 ⟨i120, f120, c120⟩
  obtain ⟨p120, q120, rfl, -⟩ := id (Arr.val i120)
  refine ⟨.inl ((hd.trans c119).trans c120), ?_⟩
  refine t_read rfl (gy rfl rfl rfl) (fun wz hz => vl_loadAgg ag40 sz40 rfl rfl (Cells.of_blk0 (hS101.nul.chg0 hz))) rfl rfl ?_
  refine t_st rfl (gy rfl rfl rfl) (st_call bd41 rfl rfl rfl rfl (l_row _ Val.null _) ?_)
  rintro v122 w122 ⟨i122, f122, c122⟩
  obtain ⟨p122, q122, rfl, -⟩ := id (Arr.val i122)
  refine ⟨.inl (((hd.trans c119).trans c120).trans c122), ?_⟩
  refine t_st rfl (gy rfl rfl rfl) (st_buildSlice ap42 rfl (vs := [_, _]) rfl (css := [_, _]) ⟨rfl, rfl, trivial⟩ rfl rfl (cs := [_, _]) rfl rfl ?_)
  intro b123 w123 e123 n123 c123 k123
  refine ⟨.inl ((((hd.trans c119).trans c120).trans c122).trans c123), ?_⟩
  refine t_st rfl (gy rfl rfl rfl) (st_call bd42 rfl rfl rfl rfl (r_SameRows _ _ wkG wkG _ (((((i79.chg0 hd).chg0 c119).chg0 c120).chg0 c122).chg0 c123) ⟨[_, _], (IsSl.of_blk (n := 2) k123 rfl (by simp [maxLen]) (by intro y hy; simp at hy; rcases hy with rfl | rfl; exact Arr.one1 i120; exact Arr.one1 i122)).toOu, Arr.chg0 (Arr.chg0 i120 c122) c123, Arr.chg0 i122 c123, trivial⟩ (by decide) (by decide)) ?_)
  rintro v124 w124 ⟨h124, c124⟩
  rw [decide_eq_true rfl] at h124
  subst h124
  refine ⟨.inl (((((hd.trans c119).trans c120).trans c122).trans c123).trans c124), ?_⟩
  refine t_pure rfl (gn rfl) (fun _ => vl_pick_t rfl rfl) rfl rfl ?_
  refine Tm rfl rfl (Tq rfl rfl rfl rfl ?_)
  refine t_pure rfl (gn rfl) (fun _ => vl_pick_t rfl rfl) rfl rfl ?_
  refine Tm rfl rfl (Tq rfl rfl rfl rfl ?_)
  refine t_st rfl (gy rfl rfl rfl) (st_call bd13 rfl rfl rfl rfl (l_of _ _) ?_)
  rintro v131 w131 ⟨rfl, c131⟩
  refine ⟨.inl ((((((hd.trans c119).trans c120).trans c122).trans c123).trans c124).trans c131), ?_⟩
  refine t_st rfl (gy rfl rfl rfl) (st_call bd41 rfl rfl rfl rfl (l_row _ (vI 5) _) ?_)
  rintro v132 w132 ⟨i132, f132, c132⟩
  refine ⟨.inl (((((((hd.trans c119).trans c120).trans c122).trans c123).trans c124).trans c131).trans c132), ?_⟩
  refine t_st rfl (gy rfl rfl rfl) (st_call bd29 rfl rfl rfl rfl (r_Same _ _ [vI 2, vI 5] [vI 2, vI 5] _ (Arr.chg0 i86 (((((((hd.trans c119).trans c120).trans c122).trans c123).trans c124).trans c131).trans c132)) i132 (by decide)) ?_)
  rintro v133 w133 ⟨h133, c133⟩
  rw [decide_eq_true rfl] at h133
  subst h133
  refine ⟨.inl ((((((((hd.trans c119).trans c120).trans c122).trans c123).trans c124).trans c131).trans c132).trans c133), ?_⟩
  refine t_pure rfl (gn rfl) (fun _ => vl_pick_t rfl rfl) rfl rfl ?_
  refine Tm rfl rfl (Tq rfl rfl rfl rfl ?_)
  refine t_st rfl (gy rfl rfl rfl) (st_call bd11 rfl rfl rfl rfl (l_num _ _) ?_)
  rintro v137 w137 ⟨rfl, rfl⟩
  refine ⟨.inl ((((((((hd.trans c119).trans c120).trans c122).trans c123).trans c124).trans c131).trans c132).trans c133), ?_⟩
  refine t_pure rfl (gy rfl rfl rfl) (fun _ => vl_is (b' := true) (vl_ieq rfl rfl) (decide_eq_true (by omega))) rfl rfl ?_
  refine t_pure rfl (gn rfl) (fun _ => vl_pick_t rfl rfl) rfl rfl ?_
  refine Tm rfl rfl (Tq rfl rfl rfl rfl ?_)
  refine t_st rfl (gy rfl rfl rfl) (st_call bd15 rfl rfl rfl rfl (tt_Len (hS101.tab.chg0 ((((((((hd.trans c119).trans c120).trans c122).trans c123).trans c124).trans c131).trans c132).trans c133))) ?_)
  rintro v142 w142 ⟨h142, rfl⟩
  rw [wk_11] at h142
  subst h142
  refine ⟨.inl ((((((((hd.trans c119).trans c120).trans c122).trans c123).trans c124).trans c131).trans c132).trans c133), ?_⟩
  refine t_pure rfl (gy rfl rfl rfl) (fun _ => vl_is (b' := true) (vl_ieq rfl rfl) (decide_eq_true (by omega))) rfl rfl ?_
  refine t_pure rfl (gn rfl) (fun _ => vl_pick_t rfl rfl) rfl rfl ?_
  refine Ta rfl rfl ?_
  refine T_end [0] (F' := [(0, _)]) rfl ?_
  refine W_ret ?_
  refine ret1 rfl rfl ?_
  exact ⟨rfl, hS101.chg.trans ((((((((hd.trans c119).trans c120).trans c122).trans c123).trans c124).trans c131).trans c132).trans c133)⟩
end Go.Wk

namespace Go.Wk
open Go.Proofs
set_option maxRecDepth 10000

theorem tw_all {α : Type} (p : α → Bool) : ∀ l : List α, (∀ x ∈ l, p x = true) → l.takeWhile p = l ∧ l.dropWhile p = []
  | [], _ => ⟨rfl, rfl⟩
  | x :: l, h => by
    have hx := h x (by simp)
    have ih := tw_all p l (fun y hy => h y (by simp [hy]))
    simp [hx, ih.1, ih.2]
def sF : Sch := ⟨[⟨⟨#[97]⟩, 1, 4, false⟩], [0], []⟩
def rF (i : Nat) : List Val := [vI i]
def rowsF (n : Nat) : List (List Val) := (List.range n).map rF
theorem rowsF_len (n : Nat) : (rowsF n).length = n := by simp [rowsF]
theorem fu_s : rightS sF = true := by decide +kernel
theorem fu_row : ∀ i < 406, rowN sF (rF i) = 0 := by decide +kernel
theorem fu_lt1 : ∀ i < 406, blt (keyR sF (rF i)) (keyR sF (rF (i + 1))) = true := by decide +kernel
theorem fu_rng {i : Nat} (h : i < 406) : ∀ x ∈ rF i, x.Rng := by
  intro x hx
  simp [rF] at hx
  subst hx
  exact vI_rng (by omega)
theorem fu_lt {i : Nat} : ∀ {j : Nat}, j ≤ 406 → i < j → blt (keyR sF (rF i)) (keyR sF (rF j)) = true
  | 0, _, h => absurd h (by omega)
  | j + 1, hj, h => by
    have h1 := fu_lt1 j (by omega)
    rcases Nat.lt_or_ge i j with hl | hl
    · exact blt_trans (fu_lt (by omega) hl) h1
    · have : i = j := by omega
      subst this; exact h1
theorem fu_clash (i j : Nat) : clashR sF (rF i) (rF j) = decide (i = j) := by
  have h : clashR sF (rF i) (rF j) = true ↔ i = j := by
    rw [clashR_iff]
    constructor
    · rintro ⟨st, hs, _, h2⟩
      simp [setsN, sF] at hs
      subst hs
      simp [pickN, rF, vI] at h2
      omega
    · rintro rfl
      exact ⟨[0], by simp [setsN, sF], by simp [nnS, pickN, rF, vI], rfl⟩
  by_cases e : i = j
  · rw [decide_eq_true e]; exact h.2 e
  · rw [decide_eq_false e]
    cases hc : clashR sF (rF i) (rF j) with
    | false => rfl
    | true => exact absurd (h.1 hc) e
theorem fu_taken {n i : Nat} (h : n ≤ i) : takenR sF (rowsF n) (rF i) e0 = false := by
  unfold takenR rowsF
  rw [List.any_eq_false]
  intro r hr
  obtain ⟨j, hj, rfl⟩ := List.mem_map.1 hr
  have := List.mem_range.1 hj
  rw [fu_clash, decide_eq_false (by omega : ¬ j = i)]
  simp
theorem fu_with {n : Nat} (hn : n ≤ 406) : withR sF (rowsF n) (rF n) = rowsF (n + 1) := by
  have ha : ∀ r ∈ rowsF n, blt (keyR sF r) (keyR sF (rF n)) = true := by
    intro r hr
    obtain ⟨j, hj, rfl⟩ := List.mem_map.1 hr
    exact fu_lt hn (List.mem_range.1 hj)
  unfold withR
  obtain ⟨h1, h2⟩ := tw_all _ _ ha
  rw [h1, h2]
  simp [rowsF, List.range_succ]
theorem fu_E {n : Nat} (hn : n < 400) : insE sF (rowsF n) (rF n) = 0 := by
  unfold insE
  rw [fu_row n (by omega), if_neg (by simp), fu_taken (Nat.le_refl n), if_neg (by simp), rowsF_len, if_neg (by omega)]
theorem fu_R {n : Nat} (hn : n < 400) : insR sF (rowsF n) (rF n) = rowsF (n + 1) := by
  unfold insR
  rw [if_pos (fu_E hn), fu_with (by omega)]
theorem fu_E3 {i : Nat} (h : 400 ≤ i) (hi : i < 406) : insE sF (rowsF 400) (rF i) = 3 := by
  unfold insE
  rw [fu_row i hi, if_neg (by simp), fu_taken h, if_neg (by simp), rowsF_len, if_pos (by omega)]
theorem fu_R3 {i : Nat} (h : 400 ≤ i) (hi : i < 406) : insR sF (rowsF 400) (rF i) = rowsF 400 := by
  unfold insR
  rw [if_neg (by rw [fu_E3 h hi]; decide)]
theorem fu_gone (n a : Nat) : (goneR sF (rowsF n) (rF a)).length = if a < n then 1 else 0 := by
  have h : goneR sF (rowsF n) (rF a) = ((List.range n).filter (fun i => decide (i = a))).map rF := by
    unfold goneR rowsF
    rw [List.filter_map]
    congr 1
    apply List.filter_congr
    intro x _
    exact fu_clash x a
  rw [h, List.length_map]
  clear h
  induction n with
  | zero => rfl
  | succ n ih =>
    rw [List.range_succ, List.filter_append, List.length_append, ih]
    by_cases h1 : n = a
    · subst h1; simp
    · have e : List.filter (fun i => decide (i = a)) [n] = [] := by simp [h1]
      rw [e]
      split <;> split <;> simp <;> omega
theorem fu_rest (n a : Nat) : (restR sF (rowsF n) (rF a)).length = if a < n then n - 1 else n := by
  have h := gone_rest_len sF (rF a) (rowsF n)
  have g := fu_gone n a
  rw [rowsF_len, g] at h
  split at h <;> rename_i hh
  · rw [if_pos hh]; omega
  · rw [if_neg hh]; omega
theorem with_len (s : Sch) (rows : List (List Val)) (row : List Val) : (withR s rows row).length = rows.length + 1 := by
  unfold withR
  have := congrArg List.length (List.takeWhile_append_dropWhile (p := fun r => blt (keyR s r) (keyR s row)) (l := rows))
  simp only [List.length_append, List.length_cons] at this ⊢
  omega
theorem fu_rep {n a : Nat} (hn : n ≤ 400) (ha : a < 406) :
    (a < n → repE sF (rowsF n) (rF a) = 0 ∧ (repG sF (rowsF n) (rF a)).length = 1 ∧ (repR sF (rowsF n) (rF a)).length = n) ∧
    (¬ a < n → n < 400 → repE sF (rowsF n) (rF a) = 0 ∧ (repG sF (rowsF n) (rF a)).length = 0 ∧ (repR sF (rowsF n) (rF a)).length = n + 1) ∧
    (¬ a < n → ¬ n < 400 → repE sF (rowsF n) (rF a) = 3 ∧ (repG sF (rowsF n) (rF a)).length = 0 ∧ (repR sF (rowsF n) (rF a)).length = n) := by
  have g := fu_gone n a
  have r := fu_rest n a
  have hE : repE sF (rowsF n) (rF a) = if 400 ≤ (restR sF (rowsF n) (rF a)).length then 3 else 0 := by
    unfold repE
    rw [fu_row a ha, if_neg (by simp)]
  refine ⟨fun h => ?_, fun h h4 => ?_, fun h h4 => ?_⟩
  · rw [if_pos h] at g r
    have e : repE sF (rowsF n) (rF a) = 0 := by rw [hE, r, if_neg (by omega)]
    refine ⟨e, ?_, ?_⟩
    · unfold repG; rw [if_pos e]; exact g
    · unfold repR; rw [if_pos e, with_len, r]; omega
  · rw [if_neg h] at g r
    have e : repE sF (rowsF n) (rF a) = 0 := by rw [hE, r, if_neg (by omega)]
    refine ⟨e, ?_, ?_⟩
    · unfold repG; rw [if_pos e]; exact g
    · unfold repR; rw [if_pos e, with_len, r]
  · rw [if_neg h] at g r
    have e : repE sF (rowsF n) (rF a) = 3 := by rw [hE, r, if_pos (by omega)]
    refine ⟨e, ?_, ?_⟩
    · unfold repG; rw [if_neg (by rw [e]; decide)]; rfl
    · unfold repR; rw [if_neg (by rw [e]; decide), rowsF_len]
end Go.Wk

namespace Go.Wk
open Go.Proofs
set_option maxRecDepth 10000

/-- A call: what, at, a row, a key. -/
structure ActT where
  what : Int
  at' : Int
  row : List Val
  key : ByteArray
/-- .. in memory: its row's slice in the place of the row. -/
structure ActV where
  what : Int
  at' : Int
  row : Value
  key : ByteArray
def ActV.cs (a : ActV) : List Value := [.int .i64 a.what, .int .i64 a.at', a.row, .string a.key]
theorem acs_len (a : ActV) : a.cs.length = 4 := rfl
def IsAct (w : World) (x : ActV) (a : ActT) : Prop := x.what = a.what ∧ x.at' = a.at' ∧ x.key = a.key ∧ IsVals w x.row a.row ∧ (∀ y ∈ a.row, y.Rng) ∧ (-9223372036854775808 ≤ a.at' ∧ a.at' ≤ 9223372036854775807)
theorem IsAct.chg0 {w w' : World} {x : ActV} {a : ActT} (h : IsAct w x a) (hc : Chg [] w w') : IsAct w' x a := ⟨h.1, h.2.1, h.2.2.1, Arr.chg0 h.2.2.2.1 hc, h.2.2.2.2⟩
theorem ActV.one {w : World} {x : ActV} {a : ActT} (h : IsAct w x a) : ∀ u ∈ x.cs, u.oneCell' = true := by
  intro u hu
  simp [ActV.cs] at hu
  rcases hu with rfl | rfl | rfl | rfl
  · rfl
  · rfl
  · exact Arr.one1 h.2.2.2.1
  · rfl
def ActsL (w : World) : List ActV → List ActT → Prop
  | [], [] => True
  | x :: xs, a :: al => IsAct w x a ∧ ActsL w xs al
  | _, _ => False
theorem ActsL.chg0 {w w' : World} (hc : Chg [] w w') : ∀ {xs : List ActV} {al : List ActT}, ActsL w xs al → ActsL w' xs al
  | [], [], _ => trivial
  | _ :: _, _ :: _, h => ⟨h.1.chg0 hc, ActsL.chg0 hc h.2⟩
theorem ActsL.length {w : World} : ∀ {xs : List ActV} {al : List ActT}, ActsL w xs al → xs.length = al.length
  | [], [], _ => rfl
  | _ :: _, _ :: _, h => by simp [ActsL.length h.2]
theorem ActsL.at {w : World} : ∀ {xs : List ActV} {al : List ActT} {i : Nat} {a : ActT}, ActsL w xs al → al[i]? = some a → ∃ x, xs[i]? = some x ∧ IsAct w x a
  | [], [], _, _, _, h => by simp at h
  | x :: _, _ :: _, 0, _, h, hi => by simp at hi; subst hi; exact ⟨x, rfl, h.1⟩
  | _ :: _, _ :: _, i + 1, _, h, hi => by simpa using h.2.at (by simpa using hi)
def IsActs (w : World) (v : Value) (al : List ActT) : Prop := ∃ xs, Arr w 50 4 ActV.cs v xs ∧ ActsL w xs al
theorem IsActs.chg0 {w w' : World} {v : Value} {al : List ActT} (h : IsActs w v al) (hc : Chg [] w w') : IsActs w' v al := let ⟨xs, h1, h2⟩ := h; ⟨xs, Arr.chg0 h1 hc, h2.chg0 hc⟩
theorem IsActs.at {w : World} {v : Value} {al : List ActT} (h : IsActs w v al) {i : Nat} {a : ActT} (hi : al[i]? = some a) : ∃ x b off cap, v = .slice (some ⟨b, off, none⟩) al.length cap ∧ Cells w b (off + i * 4) x.cs ∧ IsAct w x a := by
  obtain ⟨xs, h1, h2⟩ := h
  obtain ⟨x, hx, hxa⟩ := h2.at hi
  obtain ⟨b, off, cap, hv, hc⟩ := Arr.at acs_len h1 hx
  exact ⟨x, b, off, cap, by rw [hv, h2.length], hc, hxa⟩
theorem IsActs.val {w : World} {v : Value} {al : List ActT} (h : IsActs w v al) : ∃ p c, v = .slice p al.length c ∧ al.length ≤ c := by
  obtain ⟨xs, h1, h2⟩ := h
  have := Arr.val h1
  rwa [h2.length] at this
def ShortA (a : ActT) : Prop := a.row.length ≤ 10 ∧ a.key.size ≤ 300 ∧ ∀ x ∈ a.row, x.b.size ≤ 300

theorem l_short (v : Value) (al : List ActT) (many : Nat) (w : World) (h : IsActs w v al) (hm : many ≤ 1000) : Ret Tryz.prog 18 #[v, .int .i64 many] w fun r w' => (∃ b, r = .bool b ∧ (b = true → al.length ≤ many ∧ ∀ a ∈ al, ShortA a)) ∧ w' = w := by
  obtain ⟨pv, cv, rfl, hcv⟩ := h.val
  refine Ret.of_W (args := [_, _]) Tryz.func18 rfl rfl rfl rfl ?_

  refine Sr (Oa rfl rfl (O_end [0, 1] (F' := [(0, _), (1, _)]) rfl ?_))
  refine W_seq_cut (fun F wx => ∃ (j : Nat) (f15 : Value), F = [(0, .slice pv al.length cv), (1, .int .i64 many), (5, .int .i64 j), (15, f15)] ∧ (al.length ≤ j ∨ many < j) ∧ wx = w ∧ (∀ a ∈ al.take j, ShortA a)) ?_ ?_
  · refine Sr (Oa rfl rfl (O_end [0, 1, 5] (F' := [(0, _), (1, _), (5, _)]) rfl (W_block ?_)))
    refine W_loop [0, 1, 5] (fun m F wx => ∃ j : Nat, m = al.length - j ∧ j ≤ al.length ∧ j ≤ many + 1 ∧ F = [(0, .slice pv al.length cv), (1, .int .i64 many), (5, .int .i64 j)] ∧ wx = w ∧ (∀ a ∈ al.take j, ShortA a)) (m := al.length - 0) ⟨0, rfl, Nat.zero_le _, Nat.zero_le _, rfl, rfl, by simp⟩ ?_
    rintro m F wx ⟨j, rfl, hj, hjm, rfl, rfl, hpre⟩
    refine W_seq (W_seq ?_)
    by_cases h1 : j < al.length
    · by_cases h2 : j ≤ many
      · refine W_region (Om rfl rfl (Om rfl rfl (Og (vl_len sl47 rfl) rfl ?_)))
        refine Og (vl_is (b' := true) (vl_lss rfl rfl) (by simp; omega)) rfl ?_
        refine Om rfl rfl ?_
        refine Oy rfl rfl (vl_move rfl) rfl ?_
        refine Oy rfl rfl (vl_move rfl) rfl ?_
        refine Oy rfl rfl (vl_is (b' := true) (vl_leq rfl rfl) (by simp; omega)) rfl ?_
        refine Ot rfl rfl rfl (O_end [0, 1, 5, 15] (F' := [(0, _), (1, _), (5, _), (15, _)]) rfl (W_cond_true rfl (W_skipE ?_)))
        have ha : al[j]? = some al[j] := by simp [h1]
        generalize al[j] = a at ha
        have hmem : a ∈ al := List.mem_of_getElem? ha
        obtain ⟨x, b, off, cap, hv, hcell, hxa⟩ := h.at ha
        cases hv
        obtain ⟨xw, xa, xr, xk⟩ := x
        obtain ⟨e1, e2, e3, hrow, hrng, hat⟩ := hxa
        obtain ⟨pr, cr, e4, hcr⟩ := id (Arr.val hrow)
        simp only at e1 e2 e3 e4
        subst e4
        refine W_seq (W_block (W_seq (W_seq ?_)))
        by_cases h3 : 10 < a.row.length
        · refine W_region (Om rfl rfl (Om rfl rfl ?_))
          refine Og (vl_indexAddr sl47 sz50 rfl rfl _ rfl h1) rfl ?_
          refine Og (vl_fieldAddr fo50_2 rfl) rfl ?_
          refine Og (vl_load ag48 rfl (hcell 2 _ rfl)) rfl ?_
          refine Og (vl_len sl48 rfl) rfl ?_
          refine Og (vl_is (b' := true) (vl_gtr rfl rfl) (by simp; omega)) rfl ?_
          refine Om rfl rfl (Oz rfl rfl rfl rfl (Oz rfl rfl rfl rfl (Oz rfl rfl rfl rfl (Oz rfl rfl rfl rfl (Oz rfl rfl rfl rfl (Oz rfl rfl rfl rfl (Oz rfl rfl rfl rfl (Ot rfl rfl rfl (O_end [0, 1, 5, 33] (F' := [(0, _), (1, _), (5, _), (33, _)]) rfl (W_cond_true rfl (Sr (Oa rfl rfl ?_))))))))))))
          refine O_end [4] (F' := [(4, _)]) rfl (W_ret ?_)
          repeat (first | refine then_ret ?_ | refine block_ret ?_)
          refine ret1 rfl rfl ?_
          exact ⟨⟨false, rfl, fun h => by cases h⟩, rfl⟩
        · by_cases h4 : 300 < xk.size
          · refine W_region (Om rfl rfl (Om rfl rfl ?_))
            refine Og (vl_indexAddr sl47 sz50 rfl rfl _ rfl h1) rfl ?_
            refine Og (vl_fieldAddr fo50_2 rfl) rfl ?_
            refine Og (vl_load ag48 rfl (hcell 2 _ rfl)) rfl ?_
            refine Og (vl_len sl48 rfl) rfl ?_
            refine Og (vl_is (b' := false) (vl_gtr rfl rfl) (by simp; omega)) rfl ?_
            refine Om rfl rfl ?_
            refine Oy rfl rfl (vl_move rfl) rfl ?_
            refine Oy rfl rfl (vl_move rfl) rfl ?_
            refine Oy rfl rfl (vl_indexAddr sl47 sz50 rfl rfl _ rfl h1) rfl ?_
            refine Oy rfl rfl (vl_fieldAddr fo50_3 rfl) rfl ?_
            refine Oy rfl rfl (vl_load ag9 rfl (hcell 3 _ rfl)) rfl ?_
            refine Oy rfl rfl (vl_slen st9 rfl) rfl ?_
            refine Oy rfl rfl (vl_is (b' := true) (vl_gtr rfl rfl) (by simp; omega)) rfl ?_
            refine Of rfl rfl rfl (O_end [0, 1, 5, 33] (F' := [(0, _), (1, _), (5, _), (33, _)]) rfl (W_cond_true rfl (Sr (Oa rfl rfl (O_end [4] (F' := [(4, _)]) rfl (W_ret ?_))))))
            repeat (first | refine then_ret ?_ | refine block_ret ?_)
            refine ret1 rfl rfl ?_
            exact ⟨⟨false, rfl, fun h => by cases h⟩, rfl⟩
          · refine W_region (Om rfl rfl (Om rfl rfl ?_))
            refine Og (vl_indexAddr sl47 sz50 rfl rfl _ rfl h1) rfl ?_
            refine Og (vl_fieldAddr fo50_2 rfl) rfl ?_
            refine Og (vl_load ag48 rfl (hcell 2 _ rfl)) rfl ?_
            refine Og (vl_len sl48 rfl) rfl ?_
            refine Og (vl_is (b' := false) (vl_gtr rfl rfl) (by simp; omega)) rfl ?_
            refine Om rfl rfl ?_
            refine Oy rfl rfl (vl_move rfl) rfl ?_
            refine Oy rfl rfl (vl_move rfl) rfl ?_
            refine Oy rfl rfl (vl_indexAddr sl47 sz50 rfl rfl _ rfl h1) rfl ?_
            refine Oy rfl rfl (vl_fieldAddr fo50_3 rfl) rfl ?_
            refine Oy rfl rfl (vl_load ag9 rfl (hcell 3 _ rfl)) rfl ?_
            refine Oy rfl rfl (vl_slen st9 rfl) rfl ?_
            refine Oy rfl rfl (vl_is (b' := false) (vl_gtr rfl rfl) (by simp; omega)) rfl ?_
            refine Of rfl rfl rfl (O_end [0, 1, 5, 33] (F' := [(0, _), (1, _), (5, _), (33, _)]) rfl (W_cond_false rfl (W_skipE (Sr (Oa rfl rfl (O_end [0, 1, 5, 6] (F' := [(0, _), (1, _), (5, _), (6, _)]) rfl (W_block ?_)))))))
            refine W_loop [0, 1, 5, 6] (fun m F wy => ∃ i : Nat, m = a.row.length - i ∧ i ≤ a.row.length ∧ F = [(0, .slice (some ⟨b, off, none⟩) al.length cv), (1, .int .i64 many), (5, .int .i64 j), (6, .int .i64 i)] ∧ wy = wx ∧ ∀ y ∈ a.row.take i, y.b.size ≤ 300) (m := a.row.length - 0) ⟨0, rfl, Nat.zero_le _, rfl, rfl, by simp⟩ ?_
            rintro m F wy ⟨i, rfl, hi, rfl, rfl, hpi⟩
            refine W_seq (W_seq ?_)
            by_cases hli : i < a.row.length
            · refine W_region (Om rfl rfl (Om rfl rfl (Om rfl rfl ?_)))
              refine Og (vl_indexAddr sl47 sz50 rfl rfl _ rfl h1) rfl ?_
              refine Og (vl_fieldAddr fo50_2 rfl) rfl ?_
              refine Og (vl_load ag48 rfl (hcell 2 _ rfl)) rfl ?_
              refine Og (vl_len sl48 rfl) rfl ?_
              refine Og (vl_is (b' := true) (vl_lss rfl rfl) (by simp; omega)) rfl ?_
              refine O_end [0, 1, 5, 6, 41] (F' := [(0, _), (1, _), (5, _), (6, _), (41, _)]) rfl (W_cond_true rfl (W_skipE ?_))
              have hy : a.row[i]? = some a.row[i] := by simp [hli]
              generalize a.row[i] = y at hy
              obtain ⟨bb, oy, cy, hvy, hcy⟩ := Arr.at cs_len hrow hy
              cases hvy
              refine W_seq (W_block (W_seq ?_))
              by_cases h5 : 300 < y.b.size
              · refine W_region (Om rfl rfl (Om rfl rfl ?_))
                refine Og (vl_indexAddr sl47 sz50 rfl rfl _ rfl h1) rfl ?_
                refine Og (vl_fieldAddr fo50_2 rfl) rfl ?_
                refine Og (vl_load ag48 rfl (hcell 2 _ rfl)) rfl ?_
                refine Om rfl rfl ?_
                refine Og (vl_indexAddr sl48 sz40 rfl rfl _ rfl hli) rfl ?_
                refine Og (vl_fieldAddr fo40_3 rfl) rfl ?_
                refine Og (vl_load ag9 rfl (hcy 3 _ rfl)) rfl ?_
                refine Og (vl_slen st9 rfl) rfl ?_
                refine Og (vl_is (b' := true) (vl_gtr rfl rfl) (by simp; omega)) rfl ?_
                refine O_end [0, 1, 5, 6, 54] (F' := [(0, _), (1, _), (5, _), (6, _), (54, _)]) rfl (W_cond_true rfl (Sr (Oa rfl rfl (O_end [4] (F' := [(4, _)]) rfl (W_ret ?_)))))
                repeat (first | refine then_ret ?_ | refine block_ret ?_)
                refine ret1 rfl rfl ?_
                exact ⟨⟨false, rfl, fun h => by cases h⟩, rfl⟩
              · refine W_region (Om rfl rfl (Om rfl rfl ?_))
                refine Og (vl_indexAddr sl47 sz50 rfl rfl _ rfl h1) rfl ?_
                refine Og (vl_fieldAddr fo50_2 rfl) rfl ?_
                refine Og (vl_load ag48 rfl (hcell 2 _ rfl)) rfl ?_
                refine Om rfl rfl ?_
                refine Og (vl_indexAddr sl48 sz40 rfl rfl _ rfl hli) rfl ?_
                refine Og (vl_fieldAddr fo40_3 rfl) rfl ?_
                refine Og (vl_load ag9 rfl (hcy 3 _ rfl)) rfl ?_
                refine Og (vl_slen st9 rfl) rfl ?_
                refine Og (vl_is (b' := false) (vl_gtr rfl rfl) (by simp; omega)) rfl ?_
                refine O_end [0, 1, 5, 6, 54] (F' := [(0, _), (1, _), (5, _), (6, _), (54, _)]) rfl (W_cond_false rfl (W_skip (block_normal (W_region (Om rfl rfl ?_)))))
                refine Og (vl_add rfl rfl (by omega)) rfl ?_
                refine Oa rfl rfl ?_
                refine O_endN [0, 1, 5, 6] (F' := [(0, _), (1, _), (5, _), (6, _)]) rfl ?_
                refine ⟨a.row.length - (i + 1), by omega, i + 1, rfl, by omega, rfl, rfl, fun z hz => ?_⟩
                rw [take_snoc hy] at hz
                rcases List.mem_append.1 hz with hz | hz
                · exact hpi z hz
                · simp at hz; subst hz; omega
            · refine W_region (Om rfl rfl (Om rfl rfl (Om rfl rfl ?_)))
              refine Og (vl_indexAddr sl47 sz50 rfl rfl _ rfl h1) rfl ?_
              refine Og (vl_fieldAddr fo50_2 rfl) rfl ?_
              refine Og (vl_load ag48 rfl (hcell 2 _ rfl)) rfl ?_
              refine Og (vl_len sl48 rfl) rfl ?_
              refine Og (vl_is (b' := false) (vl_lss rfl rfl) (by simp; omega)) rfl ?_
              refine O_end [0, 1, 5, 6, 41] (F' := [(0, _), (1, _), (5, _), (6, _), (41, _)]) rfl (W_cond_false rfl ?_)
              refine W_exit ?_
              repeat (first | refine then_exit ?_ | refine blockF_other rfl ?_)
              refine blockF_exit _ ?_
              refine block_normal (W_region (Om rfl rfl ?_))
              refine Og (vl_add rfl rfl (by omega)) rfl ?_
              refine Oa rfl rfl ?_
              refine O_endN [0, 1, 5] (F' := [(0, _), (1, _), (5, _)]) rfl ?_
              refine ⟨al.length - (j + 1), by omega, j + 1, rfl, by omega, by omega, rfl, rfl, fun z hz => ?_⟩
              rw [take_snoc ha] at hz
              rcases List.mem_append.1 hz with hz | hz
              · exact hpre z hz
              · simp at hz
                subst hz
                refine ⟨by omega, by rw [← e3]; omega, fun y hy => hpi y ?_⟩
                rwa [List.take_of_length_le (by omega)]
      · refine W_region (Om rfl rfl (Om rfl rfl (Og (vl_len sl47 rfl) rfl ?_)))
        refine Og (vl_is (b' := true) (vl_lss rfl rfl) (by simp; omega)) rfl ?_
        refine Om rfl rfl ?_
        refine Oy rfl rfl (vl_move rfl) rfl ?_
        refine Oy rfl rfl (vl_move rfl) rfl ?_
        refine Oy rfl rfl (vl_is (b' := false) (vl_leq rfl rfl) (by simp; omega)) rfl ?_
        refine Ot rfl rfl rfl (O_end [0, 1, 5, 15] (F' := [(0, _), (1, _), (5, _), (15, _)]) rfl (W_cond_false rfl ?_))
        refine W_exit ?_
        repeat (first | refine then_exit ?_ | refine blockF_other rfl ?_)
        refine blockF_exit _ ?_
        exact ⟨j, _, rfl, .inr (by omega), rfl, hpre⟩
    · refine W_region (Om rfl rfl (Om rfl rfl (Og (vl_len sl47 rfl) rfl ?_)))
      refine Og (vl_is (b' := false) (vl_lss rfl rfl) (by simp; omega)) rfl ?_
      refine Om rfl rfl (Oz rfl rfl rfl rfl (Oz rfl rfl rfl rfl (Oz rfl rfl rfl rfl (Of rfl rfl rfl (O_end [0, 1, 5, 15] (F' := [(0, _), (1, _), (5, _), (15, _)]) rfl (W_cond_false rfl ?_))))))
      refine W_exit ?_
      repeat (first | refine then_exit ?_ | refine blockF_other rfl ?_)
      refine blockF_exit _ ?_
      exact ⟨j, _, rfl, .inl (by omega), rfl, hpre⟩
  rintro F wx ⟨j, f15, rfl, hend, rfl, hpre⟩
  refine Sr (Om rfl rfl (Og (vl_len sl47 rfl) rfl (Om rfl rfl ?_)))
  refine Og (vl_leq rfl rfl) rfl ?_
  refine Oa rfl rfl (O_end [4] (F' := [(4, _)]) rfl (W_ret ?_))
  refine ret1 rfl rfl ?_
  refine ⟨⟨_, rfl, fun hb => ?_⟩, rfl⟩
  have hb : al.length ≤ many := by have := of_decide_eq_true hb; omega
  refine ⟨hb, fun a ha => hpre a ?_⟩
  rcases hend with he | he
  · rwa [List.take_of_length_le he]
  · rwa [List.take_of_length_le (by omega)]
end Go.Wk

namespace Go.Wk
open Go.Proofs
set_option maxRecDepth 10000

structure FuS (w0 w : World) (t : Nat) (own : List Nat) (rows : List (List Val)) : Prop where
  e : EOk w
  tab : IsTab w t own sF rows
  chg : Chg [] w0 w
  fr : ∀ p ∈ own, w0.heap.size ≤ p
section
variable {w0 w w' : World} {t : Nat} {own : List Nat} {rows rows' : List (List Val)}
theorem FuS.chg0 (h : FuS w0 w t own rows) (hc : Chg [] w w') : FuS w0 w' t own rows := ⟨h.e.chg0 hc, h.tab.chg0 hc, h.chg.trans hc, h.fr⟩
theorem FuS.step (h : FuS w0 w t own rows) (hc : Chg own w w') (ht : IsTab w' t own sF rows') : FuS w0 w' t own rows' :=
  ⟨h.e.tab h.tab hc, ht, h.chg.own hc h.fr, h.fr⟩
theorem FuS.ins {i : Nat} (h : FuS w0 w t own (rowsF (min i 400))) {b : Nat} (hb : Blk w b 40 (fl Val.cs (rF i))) (hi : i < 406) :
    Ret Tryz.prog 12 #[.pointer (some ⟨t, 0, none⟩), .slice (some ⟨b, 0, none⟩) 1 1] w fun r w' => r = .int .i64 (if i < 400 then 0 else 3) ∧ FuS w0 w' t own (rowsF (min (i + 1) 400)) := by
  refine (t_Insert t own sF _ _ (rF i) w h.e h.tab (vals_of (l := rF i) hb (by simp [rF, maxLen]) rfl) (fu_rng hi) (by simp [rF])).mono fun r w' ⟨h1, h2, h3⟩ => ?_
  by_cases hlt : i < 400
  · have e : min i 400 = i := by omega
    have e' : min (i + 1) 400 = i + 1 := by omega
    rw [e] at h1 h2
    rw [e', if_pos hlt]
    rw [fu_E hlt] at h1
    rw [fu_R hlt] at h2
    exact ⟨h1, h.step h3 h2⟩
  · have e : min i 400 = 400 := by omega
    have e' : min (i + 1) 400 = 400 := by omega
    rw [e] at h1 h2
    rw [e', if_neg hlt]
    rw [fu_E3 (by omega) hi] at h1
    rw [fu_R3 (by omega) hi] at h2
    exact ⟨h1, h.step h3 h2⟩
theorem FuS.rep {n a : Nat} (h : FuS w0 w t own (rowsF n)) {b : Nat} (hb : Blk w b 40 (fl Val.cs (rF a))) (ha : a < 406) {e : Int} {g m : Nat} (hr : repE sF (rowsF n) (rF a) = e ∧ (repG sF (rowsF n) (rF a)).length = g ∧ (repR sF (rowsF n) (rF a)).length = m) :
    Ret Tryz.prog 14 #[.pointer (some ⟨t, 0, none⟩), .slice (some ⟨b, 0, none⟩) 1 1] w fun r w' => ∃ p c rows', r = .tuple #[.slice p g c, .int .i64 e] ∧ rows'.length = m ∧ FuS w0 w' t own rows' := by
  refine (t_Replace t own sF _ _ (rF a) w h.e h.tab (vals_of (l := rF a) hb (by simp [rF, maxLen]) rfl) (fu_rng ha) (by simp [rF])).mono fun r w' ⟨o, h1, h2, _, h3, h4⟩ => ?_
  obtain ⟨p, c, ho, _⟩ := h2.val
  exact ⟨p, c, _, by rw [h1, ho, hr.1, hr.2.1], hr.2.2, h.step h4 h3⟩
end
theorem sF_is {w : World} {b29 b30 : Nat} (h29 : Blk w b29 25 (fl Col.cs sF.cols)) (h30 : Blk w b30 3 [.int .i64 0]) :
    IsSch w (.slice (some ⟨b29, 0, none⟩) 1 1) (.slice (some ⟨b30, 0, none⟩) 1 1) (.slice none 0 0) sF :=
  ⟨Arr.of_blk (l := sF.cols) ccs_len Col.one h29 (by decide), Arr.of_blk (l := sF.key) ics_len ics_one h30 (by decide), ⟨[], Ou.nil _ _, trivial⟩⟩

theorem l_Full (many a : Int) (w : World) (hE : EOk w) : Ret Tryz.prog 3 #[.int .i64 many, .int .i64 a] w fun r w' => r = .bool true ∧ Chg [] w w' := by
  refine Ret.of_W (args := [_, _]) Tryz.func3 rfl rfl rfl rfl ?_

  refine Sr (Oa rfl rfl (O_end [0, 1] (F' := [(0, _), (1, _)]) rfl (W_seq (W_seq ?_))))
  by_cases h1 : many < 0
  · refine W_region (Om rfl rfl ?_)
    refine Og (vl_is (b' := true) (vl_lss rfl rfl) (by simp; omega)) rfl ?_
    refine Om rfl rfl (Oz rfl rfl rfl rfl (Oz rfl rfl rfl rfl (Ot rfl rfl rfl (Om rfl rfl (Oz rfl rfl rfl rfl (Oz rfl rfl rfl rfl (Ot rfl rfl rfl (Om rfl rfl (Oz rfl rfl rfl rfl (Oz rfl rfl rfl rfl (Ot rfl rfl rfl (O_end [0, 1, 26] (F' := [(0, _), (1, _), (26, _)]) rfl (W_cond_true rfl ?_)))))))))))))
    refine Sr ?_
    refine O_go (gn rfl) (st_call bd9 rfl rfl rfl rfl (l_works _ hE) ?_)
    rintro v27 w27 ⟨rfl, c27⟩
    refine Oa rfl rfl (O_end [4] (F' := [(4, _)]) rfl (W_ret ?_))
    repeat (first | refine then_ret ?_ | refine block_ret ?_)
    refine ret1 rfl rfl ?_
    exact ⟨rfl, c27⟩
  by_cases h2 : 405 < many
  · refine W_region (Om rfl rfl ?_)
    refine Og (vl_is (b' := false) (vl_lss rfl rfl) (by simp; omega)) rfl ?_
    refine Om rfl rfl ?_
    refine Oy rfl rfl (vl_move rfl) rfl ?_
    refine Oy rfl rfl (vl_is (b' := true) (vl_gtr rfl rfl) (by simp; omega)) rfl ?_
    refine Of rfl rfl rfl (Om rfl rfl (Oz rfl rfl rfl rfl (Oz rfl rfl rfl rfl (Ot rfl rfl rfl (Om rfl rfl (Oz rfl rfl rfl rfl (Oz rfl rfl rfl rfl (Ot rfl rfl rfl (O_end [0, 1, 26] (F' := [(0, _), (1, _), (26, _)]) rfl (W_cond_true rfl (Sr ?_)))))))))))
    refine O_go (gn rfl) (st_call bd9 rfl rfl rfl rfl (l_works _ hE) ?_)
    rintro v27 w27 ⟨rfl, c27⟩
    refine Oa rfl rfl (O_end [4] (F' := [(4, _)]) rfl (W_ret ?_))
    repeat (first | refine then_ret ?_ | refine block_ret ?_)
    refine ret1 rfl rfl ?_
    exact ⟨rfl, c27⟩
  by_cases h3 : a < 0
  · refine W_region (Om rfl rfl ?_)
    refine Og (vl_is (b' := false) (vl_lss rfl rfl) (by simp; omega)) rfl ?_
    refine Om rfl rfl ?_
    refine Oy rfl rfl (vl_move rfl) rfl ?_
    refine Oy rfl rfl (vl_is (b' := false) (vl_gtr rfl rfl) (by simp; omega)) rfl ?_
    refine Of rfl rfl rfl (Om rfl rfl ?_)
    refine Oy rfl rfl (vl_move rfl) rfl ?_
    refine Oy rfl rfl (vl_is (b' := true) (vl_lss rfl rfl) (by simp; omega)) rfl ?_
    refine Of rfl rfl rfl (Om rfl rfl (Oz rfl rfl rfl rfl (Oz rfl rfl rfl rfl (Ot rfl rfl rfl (O_end [0, 1, 26] (F' := [(0, _), (1, _), (26, _)]) rfl (W_cond_true rfl (Sr ?_)))))))
    refine O_go (gn rfl) (st_call bd9 rfl rfl rfl rfl (l_works _ hE) ?_)
    rintro v27 w27 ⟨rfl, c27⟩
    refine Oa rfl rfl (O_end [4] (F' := [(4, _)]) rfl (W_ret ?_))
    repeat (first | refine then_ret ?_ | refine block_ret ?_)
    refine ret1 rfl rfl ?_
    exact ⟨rfl, c27⟩
  by_cases h4 : 405 < a
  · refine W_region (Om rfl rfl ?_)
    refine Og (vl_is (b' := false) (vl_lss rfl rfl) (by simp; omega)) rfl ?_
    refine Om rfl rfl ?_
    refine Oy rfl rfl (vl_move rfl) rfl ?_
    refine Oy rfl rfl (vl_is (b' := false) (vl_gtr rfl rfl) (by simp; omega)) rfl ?_
    refine Of rfl rfl rfl (Om rfl rfl ?_)
    refine Oy rfl rfl (vl_move rfl) rfl ?_
    refine Oy rfl rfl (vl_is (b' := false) (vl_lss rfl rfl) (by simp; omega)) rfl ?_
    refine Of rfl rfl rfl (Om rfl rfl ?_)
    refine Oy rfl rfl (vl_move rfl) rfl ?_
    refine Oy rfl rfl (vl_is (b' := true) (vl_gtr rfl rfl) (by simp; omega)) rfl ?_
    refine Of rfl rfl rfl (O_end [0, 1, 26] (F' := [(0, _), (1, _), (26, _)]) rfl (W_cond_true rfl (Sr ?_)))
    refine O_go (gn rfl) (st_call bd9 rfl rfl rfl rfl (l_works _ hE) ?_)
    rintro v27 w27 ⟨rfl, c27⟩
    refine Oa rfl rfl (O_end [4] (F' := [(4, _)]) rfl (W_ret ?_))
    repeat (first | refine then_ret ?_ | refine block_ret ?_)
    refine ret1 rfl rfl ?_
    exact ⟨rfl, c27⟩
  refine W_region (Om rfl rfl ?_)
  refine Og (vl_is (b' := false) (vl_lss rfl rfl) (by simp; omega)) rfl ?_
  refine Om rfl rfl ?_
  refine Oy rfl rfl (vl_move rfl) rfl ?_
  refine Oy rfl rfl (vl_is (b' := false) (vl_gtr rfl rfl) (by simp; omega)) rfl ?_
  refine Of rfl rfl rfl (Om rfl rfl ?_)
  refine Oy rfl rfl (vl_move rfl) rfl ?_
  refine Oy rfl rfl (vl_is (b' := false) (vl_lss rfl rfl) (by simp; omega)) rfl ?_
  refine Of rfl rfl rfl (Om rfl rfl ?_)
  refine Oy rfl rfl (vl_move rfl) rfl ?_
  refine Oy rfl rfl (vl_is (b' := false) (vl_gtr rfl rfl) (by simp; omega)) rfl ?_
  refine Of rfl rfl rfl (O_end [0, 1, 26] (F' := [(0, _), (1, _), (26, _)]) rfl (W_cond_false rfl (W_skipE ?_)))
  obtain ⟨M, rfl⟩ := Int.eq_ofNat_of_zero_le (by omega : 0 ≤ many)
  obtain ⟨A, rfl⟩ := Int.eq_ofNat_of_zero_le (by omega : 0 ≤ a)
  have hM : M ≤ 405 := by omega
  have hA : A ≤ 405 := by omega
  refine Sr ?_
  refine Og (vl_build pl25 zr25 rfl (vs := [_, _, _]) rfl (css := [_, _, _]) ⟨rfl, rfl, rfl, trivial⟩ rfl rfl (cs := [_, _, _, _]) rfl) rfl ?_
  refine O_go (gn rfl) (st_buildSlice ap26 rfl (vs := [_]) rfl (css := [_]) ⟨rfl, trivial⟩ rfl rfl (cs := [_, _, _, _]) rfl rfl ?_)
  intro b29 w29 e29 n29 c29 k29
  refine O_go (gn rfl) (st_buildSlice ap27 rfl (vs := [_]) rfl (css := [_]) ⟨rfl, trivial⟩ rfl rfl (cs := [_]) rfl rfl ?_)
  intro b30 w30 e30 n30 c30 k30
  refine Og (vl_build pl30 zr30 rfl (vs := [_, _]) rfl (css := [_, _]) ⟨rfl, rfl, trivial⟩ rfl rfl (cs := [_, _, _]) rfl) rfl ?_
  refine O_go (gn rfl) (st_alloc zr30 rfl rfl ?_)
  intro b5 w5 e5 n5 c5 k5
  refine O_go (gn rfl) (st_store sz30 rfl rfl rfl rfl k5 (by simp) (by simp [Value.oneCell']) ?_)
  intro wA nA cA kA
  refine O_end [0, 1, 5] (F' := [(0, _), (1, _), (5, _)]) rfl ?_
  have hcA : Chg [] w wA := ((c29.trans c30).trans c5).own cA (by intro y hy; have := (c29.trans c30).size; simp at hy; omega)
  have h29 := ((k29.chg0 c30).chg0 c5).chg cA (by have := (k29.chg0 c30).lt; simp; omega)
  have h30 := (k30.chg0 c5).chg cA (by have := k30.lt; simp; omega)
  refine Sr ?_
  refine Og (vl_loadAgg ag30 sz30 rfl rfl (Cells.of_blk0 kA)) rfl ?_
  refine O_go (gn rfl) (st_call bd10 rfl rfl rfl rfl (t_New _ _ _ sF _ (sF_is h29 h30) fu_s) ?_)
  rintro v34 w34 ⟨t, own, rfl, hT34, tF34, oF34, c34⟩
  refine Om rfl rfl (Oe rfl rfl rfl (Oe rfl rfl rfl (Oa rfl rfl (Oa rfl rfl (O_end [0, 1, 6, 7] (F' := [(0, _), (1, _), (6, _), (7, _)]) rfl ?_)))))
  have hS34 : FuS w w34 t own (rowsF (min 0 400)) := ⟨hE.chg0 (hcA.trans c34), hT34, hcA.trans c34, fun p hp => by have := oF34 p hp; have := hcA.size; omega⟩
  refine W_seq (Sr (Om rfl rfl ?_))
  refine O_go (gn rfl) (st_call bd11 rfl rfl rfl rfl (l_num _ _) ?_)
  rintro v38 w38 ⟨rfl, rfl⟩
  refine Og (vl_is (b' := false) (vl_ine rfl rfl) (ine_f (by omega))) rfl ?_
  refine O_end [0, 1, 6, 39] (F' := [(0, _), (1, _), (6, _), (39, _)]) rfl (W_cond_false rfl (W_skipE ?_))
  refine W_seq_cut (fun F wx => ∃ f8 f42 : Value, F = [(0, .int .i64 M), (1, .int .i64 A), (6, .pointer (some ⟨t, 0, none⟩)), (8, f8), (42, f42)] ∧ FuS w wx t own (rowsF (min M 400))) ?_ ?_
  · refine Sr (Oa rfl rfl (O_end [0, 1, 6, 8] (F' := [(0, _), (1, _), (6, _), (8, _)]) rfl (W_block ?_)))
    refine W_loop [0, 1, 6, 8] (fun m F wx => ∃ j : Nat, m = M - j ∧ j ≤ M ∧ F = [(0, .int .i64 M), (1, .int .i64 A), (6, .pointer (some ⟨t, 0, none⟩)), (8, .int .i64 j)] ∧ FuS w wx t own (rowsF (min j 400))) (m := M - 0) ⟨0, rfl, Nat.zero_le _, rfl, hS34⟩ ?_
    rintro m F wx ⟨j, rfl, hj, rfl, hSx⟩
    refine W_seq (W_seq ?_)
    by_cases hlt : j < M
    · refine W_region (Om rfl rfl (Om rfl rfl ?_))
      refine Og (vl_is (b' := true) (vl_lss rfl rfl) (by simp; omega)) rfl ?_
      refine O_end [0, 1, 6, 8, 42] (F' := [(0, _), (1, _), (6, _), (8, _), (42, _)]) rfl (W_cond_true rfl (W_skipE (W_seq (W_block (W_seq ?_)))))
      by_cases h4 : j < 400
      · refine W_region (Om rfl rfl (Om rfl rfl ?_))
        refine O_go (gn rfl) (st_call bd13 rfl rfl rfl rfl (l_of _ _) ?_)
        rintro v47 w47 ⟨rfl, c47⟩
        refine O_go (gn rfl) (st_buildSlice ap48 rfl (vs := [_]) rfl (css := [_]) ⟨rfl, trivial⟩ rfl rfl (cs := [_, _, _, _]) rfl rfl ?_)
        intro b48 w48 e48 n48 c48 k48
        refine O_go (gn rfl) (st_call bd12 rfl rfl rfl rfl (((hSx.chg0 c47).chg0 c48).ins k48 (by omega)) ?_)
        rintro v49 w49 ⟨h49, hS49⟩
        rw [if_pos h4] at h49
        subst h49
        refine Oa rfl rfl (O_end [0, 1, 6, 8, 9] (F' := [(0, _), (1, _), (6, _), (8, _), (9, _)]) rfl (Sr (Om rfl rfl ?_)))
        refine O_go (gn rfl) (st_call bd11 rfl rfl rfl rfl (l_num _ _) ?_)
        rintro v51 w51 ⟨rfl, rfl⟩
        refine Og (vl_is (b' := true) (vl_ieq rfl rfl) (decide_eq_true (by omega))) rfl ?_
        refine Om rfl rfl ?_
        refine Og (vl_is (b' := true) (vl_lss rfl rfl) (by simp; omega)) rfl ?_
        refine Og (vl_bne bo4 rfl rfl) rfl ?_
        refine Om rfl rfl ?_
        refine Oy rfl rfl (vl_move rfl) rfl ?_
        refine Oy rfl rfl (vl_is (b' := false) (vl_geq rfl rfl) (by simp; omega)) rfl ?_
        refine Oy rfl rfl (vl_move rfl) rfl ?_
        refine Oz rfl rfl rfl rfl (Oz rfl rfl rfl rfl (Oz rfl rfl rfl rfl ?_))
        refine Oy rfl rfl (vl_pick_f rfl rfl) rfl ?_
        refine Of rfl rfl rfl (O_end [0, 1, 6, 8, 64] (F' := [(0, _), (1, _), (6, _), (8, _), (64, _)]) rfl (W_cond_false rfl (W_skip (block_normal (W_region (Om rfl rfl ?_))))))
        refine Og (vl_add rfl rfl (by omega)) rfl ?_
        refine Oa rfl rfl ?_
        refine O_endN [0, 1, 6, 8] (F' := [(0, _), (1, _), (6, _), (8, _)]) rfl ?_
        exact ⟨M - (j + 1), by omega, j + 1, rfl, by omega, rfl, hS49⟩
      · refine W_region (Om rfl rfl (Om rfl rfl ?_))
        refine O_go (gn rfl) (st_call bd13 rfl rfl rfl rfl (l_of _ _) ?_)
        rintro v47 w47 ⟨rfl, c47⟩
        refine O_go (gn rfl) (st_buildSlice ap48 rfl (vs := [_]) rfl (css := [_]) ⟨rfl, trivial⟩ rfl rfl (cs := [_, _, _, _]) rfl rfl ?_)
        intro b48 w48 e48 n48 c48 k48
        refine O_go (gn rfl) (st_call bd12 rfl rfl rfl rfl (((hSx.chg0 c47).chg0 c48).ins k48 (by omega)) ?_)
        rintro v49 w49 ⟨h49, hS49⟩
        rw [if_neg h4] at h49
        subst h49
        refine Oa rfl rfl (O_end [0, 1, 6, 8, 9] (F' := [(0, _), (1, _), (6, _), (8, _), (9, _)]) rfl (Sr (Om rfl rfl ?_)))
        refine O_go (gn rfl) (st_call bd11 rfl rfl rfl rfl (l_num _ _) ?_)
        rintro v51 w51 ⟨rfl, rfl⟩
        refine Og (vl_is (b' := false) (vl_ieq rfl rfl) (decide_eq_false (by omega))) rfl ?_
        refine Om rfl rfl ?_
        refine Og (vl_is (b' := false) (vl_lss rfl rfl) (by simp; omega)) rfl ?_
        refine Og (vl_bne bo4 rfl rfl) rfl ?_
        refine Om rfl rfl ?_
        refine Oy rfl rfl (vl_move rfl) rfl ?_
        refine Oy rfl rfl (vl_is (b' := true) (vl_geq rfl rfl) (by simp; omega)) rfl ?_
        refine Oy rfl rfl (vl_move rfl) rfl ?_
        refine Oy rfl rfl (vl_move rfl) rfl ?_
        refine O_go (gy rfl rfl rfl) (st_call bd11 rfl rfl rfl rfl (l_num _ _) ?_)
        rintro v61 w61 ⟨rfl, rfl⟩
        refine Oy rfl rfl (vl_is (b' := false) (vl_ine rfl rfl) (ine_f (by omega))) rfl ?_
        refine Oy rfl rfl (vl_pick_t rfl rfl) rfl ?_
        refine Of rfl rfl rfl (O_end [0, 1, 6, 8, 64] (F' := [(0, _), (1, _), (6, _), (8, _), (64, _)]) rfl (W_cond_false rfl (W_skip (block_normal (W_region (Om rfl rfl ?_))))))
        refine Og (vl_add rfl rfl (by omega)) rfl ?_
        refine Oa rfl rfl ?_
        refine O_endN [0, 1, 6, 8] (F' := [(0, _), (1, _), (6, _), (8, _)]) rfl ?_
        exact ⟨M - (j + 1), by omega, j + 1, rfl, by omega, rfl, hS49⟩
    · refine W_region (Om rfl rfl (Om rfl rfl ?_))
      refine Og (vl_is (b' := false) (vl_lss rfl rfl) (by simp; omega)) rfl ?_
      refine O_end [0, 1, 6, 8, 42] (F' := [(0, _), (1, _), (6, _), (8, _), (42, _)]) rfl (W_cond_false rfl ?_)
      refine W_exit ?_
      repeat (first | refine then_exit ?_ | refine blockF_other rfl ?_)
      refine blockF_exit _ ?_
      have : j = M := by omega
      subst this
      exact ⟨_, _, rfl, hSx⟩
  rintro F wx ⟨f8, f42, rfl, hSx⟩
  obtain ⟨q1, q2, q3⟩ := fu_rep (n := min M 400) (a := A) (by omega) (by omega)
  refine W_seq ?_
  by_cases hlt : A < min M 400
  · refine W_region (Om rfl rfl (Om rfl rfl ?_))
    refine O_go (gn rfl) (st_call bd13 rfl rfl rfl rfl (l_of _ _) ?_)
    rintro v68 w68 ⟨rfl, c68⟩
    refine O_go (gn rfl) (st_buildSlice ap48 rfl (vs := [_]) rfl (css := [_]) ⟨rfl, trivial⟩ rfl rfl (cs := [_, _, _, _]) rfl rfl ?_)
    intro b69 w69 e69 n69 c69 k69
    refine O_go (gn rfl) (st_call bd14 rfl rfl rfl rfl (((hSx.chg0 c68).chg0 c69).rep k69 (by omega) (q1 hlt)) ?_)
    rintro v70 w70 ⟨p70, z70, rows', rfl, hl70, hS70⟩
    refine Om rfl rfl (Oe rfl rfl rfl (Oe rfl rfl rfl (Oa rfl rfl (Oa rfl rfl (O_end [0, 1, 6, 10, 11] (F' := [(0, _), (1, _), (6, _), (10, _), (11, _)]) rfl (Sr (Om rfl rfl ?_)))))))
    refine Og (vl_min rfl rfl) rfl ?_
    refine Oa rfl rfl (O_end [1, 6, 10, 11, 12] (F' := [(1, _), (6, _), (10, _), (11, _), (12, _)]) rfl (W_seq (Sr (Om rfl rfl (Om rfl rfl ?_)))))
    refine Og (vl_is (b' := true) (vl_lss rfl rfl) (by simp; omega)) rfl ?_
    refine O_end [6, 10, 11, 12, 77] (F' := [(6, _), (10, _), (11, _), (12, _), (77, _)]) rfl (W_cond_true rfl (Sr (Om rfl rfl ?_)))
    refine O_go (gn rfl) (st_call bd11 rfl rfl rfl rfl (l_num _ _) ?_)
    rintro v79 w79 ⟨rfl, rfl⟩
    refine Og (vl_is (b' := true) (vl_ieq rfl rfl) (decide_eq_true (by omega))) rfl ?_
    refine Om rfl rfl ?_
    refine Oy rfl rfl (vl_move rfl) rfl ?_
    refine Oy rfl rfl (vl_len sl42 rfl) rfl ?_
    refine Oy rfl rfl (vl_is (b' := true) (vl_ieq rfl rfl) (decide_eq_true (by omega))) rfl ?_
    refine Ot rfl rfl rfl (Om rfl rfl ?_)
    refine Oy rfl rfl (vl_move rfl) rfl ?_
    refine O_go (gy rfl rfl rfl) (st_call bd15 rfl rfl rfl rfl (tt_Len hS70.tab) ?_)
    rintro v88 w88 ⟨h88, rfl⟩
    rw [hl70] at h88
    subst h88
    refine Oy rfl rfl (vl_move rfl) rfl ?_
    refine Oy rfl rfl (vl_is (b' := true) (vl_ieq rfl rfl) (by simp; omega)) rfl ?_
    refine Ot rfl rfl rfl (Om rfl rfl ?_)
    refine O_go (gy rfl rfl rfl) (st_call bd9 rfl rfl rfl rfl (l_works _ hS70.e) ?_)
    rintro v93 w93 ⟨rfl, c93⟩
    refine Ot rfl rfl rfl (Oa rfl rfl (O_end [4] (F' := [(4, _)]) rfl (W_ret ?_)))
    repeat (first | refine then_ret ?_ | refine block_ret ?_)
    refine ret1 rfl rfl ?_
    exact ⟨rfl, hS70.chg.trans c93⟩
  · by_cases h4 : min M 400 < 400
    · refine W_region (Om rfl rfl (Om rfl rfl ?_))
      refine O_go (gn rfl) (st_call bd13 rfl rfl rfl rfl (l_of _ _) ?_)
      rintro v68 w68 ⟨rfl, c68⟩
      refine O_go (gn rfl) (st_buildSlice ap48 rfl (vs := [_]) rfl (css := [_]) ⟨rfl, trivial⟩ rfl rfl (cs := [_, _, _, _]) rfl rfl ?_)
      intro b69 w69 e69 n69 c69 k69
      refine O_go (gn rfl) (st_call bd14 rfl rfl rfl rfl (((hSx.chg0 c68).chg0 c69).rep k69 (by omega) (q2 hlt h4)) ?_)
      rintro v70 w70 ⟨p70, z70, rows', rfl, hl70, hS70⟩
      refine Om rfl rfl (Oe rfl rfl rfl (Oe rfl rfl rfl (Oa rfl rfl (Oa rfl rfl (O_end [0, 1, 6, 10, 11] (F' := [(0, _), (1, _), (6, _), (10, _), (11, _)]) rfl (Sr (Om rfl rfl ?_)))))))
      refine Og (vl_min rfl rfl) rfl ?_
      refine Oa rfl rfl (O_end [1, 6, 10, 11, 12] (F' := [(1, _), (6, _), (10, _), (11, _), (12, _)]) rfl (W_seq (Sr (Om rfl rfl (Om rfl rfl ?_)))))
      refine Og (vl_is (b' := false) (vl_lss rfl rfl) (by simp; omega)) rfl ?_
      refine O_end [6, 10, 11, 12, 77] (F' := [(6, _), (10, _), (11, _), (12, _), (77, _)]) rfl (W_cond_false rfl (W_skipE (Sr (Om rfl rfl ?_))))
      refine O_go (gn rfl) (st_call bd11 rfl rfl rfl rfl (l_num _ _) ?_)
      rintro v96 w96 ⟨rfl, rfl⟩
      refine Og (vl_is (b' := true) (vl_ieq rfl rfl) (decide_eq_true (by omega))) rfl ?_
      refine Om rfl rfl ?_
      refine Og (vl_is (b' := true) (vl_lss rfl rfl) (by simp; omega)) rfl ?_
      refine Og (vl_is (b' := true) (vl_beq bo4 rfl rfl) rfl) rfl ?_
      refine Om rfl rfl ?_
      refine Oy rfl rfl (vl_move rfl) rfl ?_
      refine Oy rfl rfl (vl_is (b' := true) (vl_lss rfl rfl) (by simp; omega)) rfl ?_
      refine Oy rfl rfl (vl_move rfl) rfl ?_
      refine Oz rfl rfl rfl rfl (Oz rfl rfl rfl rfl (Oz rfl rfl rfl rfl ?_))
      refine Oy rfl rfl (vl_pick_t rfl rfl) rfl ?_
      refine Ot rfl rfl rfl (Om rfl rfl ?_)
      refine Oy rfl rfl (vl_move rfl) rfl ?_
      refine Oy rfl rfl (vl_len sl42 rfl) rfl ?_
      refine Oy rfl rfl (vl_is (b' := true) (vl_ieq rfl rfl) (decide_eq_true (by omega))) rfl ?_
      refine Ot rfl rfl rfl (Om rfl rfl ?_)
      refine Oy rfl rfl (vl_move rfl) rfl ?_
      refine O_go (gy rfl rfl rfl) (st_call bd15 rfl rfl rfl rfl (tt_Len hS70.tab) ?_)
      rintro v117 w117 ⟨h117, rfl⟩
      rw [hl70] at h117
      subst h117
      refine Oy rfl rfl (vl_move rfl) rfl ?_
      refine Oy rfl rfl (vl_add rfl rfl (by omega)) rfl ?_
      refine Oy rfl rfl (vl_min rfl rfl) rfl ?_
      refine Oy rfl rfl (vl_is (b' := true) (vl_ieq rfl rfl) (by simp; omega)) rfl ?_
      refine Ot rfl rfl rfl (Om rfl rfl ?_)
      refine O_go (gy rfl rfl rfl) (st_call bd9 rfl rfl rfl rfl (l_works _ hS70.e) ?_)
      rintro v124 w124 ⟨rfl, c124⟩
      refine Ot rfl rfl rfl (Oa rfl rfl (O_end [4] (F' := [(4, _)]) rfl (W_ret ?_)))
      refine ret1 rfl rfl ?_
      exact ⟨rfl, hS70.chg.trans c124⟩
    · refine W_region (Om rfl rfl (Om rfl rfl ?_))
      refine O_go (gn rfl) (st_call bd13 rfl rfl rfl rfl (l_of _ _) ?_)
      rintro v68 w68 ⟨rfl, c68⟩
      refine O_go (gn rfl) (st_buildSlice ap48 rfl (vs := [_]) rfl (css := [_]) ⟨rfl, trivial⟩ rfl rfl (cs := [_, _, _, _]) rfl rfl ?_)
      intro b69 w69 e69 n69 c69 k69
      refine O_go (gn rfl) (st_call bd14 rfl rfl rfl rfl (((hSx.chg0 c68).chg0 c69).rep k69 (by omega) (q3 hlt h4)) ?_)
      rintro v70 w70 ⟨p70, z70, rows', rfl, hl70, hS70⟩
      refine Om rfl rfl (Oe rfl rfl rfl (Oe rfl rfl rfl (Oa rfl rfl (Oa rfl rfl (O_end [0, 1, 6, 10, 11] (F' := [(0, _), (1, _), (6, _), (10, _), (11, _)]) rfl (Sr (Om rfl rfl ?_)))))))
      refine Og (vl_min rfl rfl) rfl ?_
      refine Oa rfl rfl (O_end [1, 6, 10, 11, 12] (F' := [(1, _), (6, _), (10, _), (11, _), (12, _)]) rfl (W_seq (Sr (Om rfl rfl (Om rfl rfl ?_)))))
      refine Og (vl_is (b' := false) (vl_lss rfl rfl) (by simp; omega)) rfl ?_
      refine O_end [6, 10, 11, 12, 77] (F' := [(6, _), (10, _), (11, _), (12, _), (77, _)]) rfl (W_cond_false rfl (W_skipE (Sr (Om rfl rfl ?_))))
      refine O_go (gn rfl) (st_call bd11 rfl rfl rfl rfl (l_num _ _) ?_)
      rintro v96 w96 ⟨rfl, rfl⟩
      refine Og (vl_is (b' := false) (vl_ieq rfl rfl) (decide_eq_false (by omega))) rfl ?_
      refine Om rfl rfl ?_
      refine Og (vl_is (b' := false) (vl_lss rfl rfl) (by simp; omega)) rfl ?_
      refine Og (vl_is (b' := true) (vl_beq bo4 rfl rfl) rfl) rfl ?_
      refine Om rfl rfl ?_
      refine Oy rfl rfl (vl_move rfl) rfl ?_
      refine Oy rfl rfl (vl_is (b' := false) (vl_lss rfl rfl) (by simp; omega)) rfl ?_
      refine Oy rfl rfl (vl_move rfl) rfl ?_
      refine Oy rfl rfl (vl_move rfl) rfl ?_
      refine O_go (gy rfl rfl rfl) (st_call bd11 rfl rfl rfl rfl (l_num _ _) ?_)
      rintro v106 w106 ⟨rfl, rfl⟩
      refine Oy rfl rfl (vl_is (b' := true) (vl_ieq rfl rfl) (decide_eq_true (by omega))) rfl ?_
      refine Oy rfl rfl (vl_pick_f rfl rfl) rfl ?_
      refine Ot rfl rfl rfl (Om rfl rfl ?_)
      refine Oy rfl rfl (vl_move rfl) rfl ?_
      refine Oy rfl rfl (vl_len sl42 rfl) rfl ?_
      refine Oy rfl rfl (vl_is (b' := true) (vl_ieq rfl rfl) (decide_eq_true (by omega))) rfl ?_
      refine Ot rfl rfl rfl (Om rfl rfl ?_)
      refine Oy rfl rfl (vl_move rfl) rfl ?_
      refine O_go (gy rfl rfl rfl) (st_call bd15 rfl rfl rfl rfl (tt_Len hS70.tab) ?_)
      rintro v117 w117 ⟨h117, rfl⟩
      rw [hl70] at h117
      subst h117
      refine Oy rfl rfl (vl_move rfl) rfl ?_
      refine Oy rfl rfl (vl_add rfl rfl (by omega)) rfl ?_
      refine Oy rfl rfl (vl_min rfl rfl) rfl ?_
      refine Oy rfl rfl (vl_is (b' := true) (vl_ieq rfl rfl) (by simp; omega)) rfl ?_
      refine Ot rfl rfl rfl (Om rfl rfl ?_)
      refine O_go (gy rfl rfl rfl) (st_call bd9 rfl rfl rfl rfl (l_works _ hS70.e) ?_)
      rintro v124 w124 ⟨rfl, c124⟩
      refine Ot rfl rfl rfl (Oa rfl rfl (O_end [4] (F' := [(4, _)]) rfl (W_ret ?_)))
      refine ret1 rfl rfl ?_
      exact ⟨rfl, hS70.chg.trans c124⟩
end Go.Wk

namespace Go.Wk
open Go.Proofs
set_option maxRecDepth 10000

theorem fnSeq : fnOf Tryz.prog 68 = true := by kernel_rfl
theorem l_None (x : ActV) (a : ActT) (w : World) (hE : EOk w) (hx : IsAct w x a) : Ret Tryz.prog 8 #[.agg x.cs.toArray] w fun r w' => r = .bool true ∧ Chg [] w w' := by
  refine Ret.of_WM (args := [_]) Tryz.func8 rfl rfl rfl rfl ?_

  refine Sr ?_
  refine O_go (gn rfl) (st_box rfl rfl rfl ?_)
  intro b1 w1 e1 n1 c1 k1
  refine O_go (gn rfl) (st_alloc zr4 rfl rfl ?_)
  intro b2 w2 e2 n2 c2 k2
  refine O_end [1, 2] (F' := [(1, _), (2, _)]) rfl ?_
  have k1 : Blk w2 b1 50 x.cs := k1.chg0 c2
  have hc2 : Chg [] w w2 := c1.trans c2
  have hx2 := hx.chg0 hc2
  have hne : b1 ≠ b2 := by have := k1.lt; have := k2.lt; omega
  refine W_seq (Sr ?_)
  refine Og (vl_loadAgg ag50 sz50 rfl rfl (Cells.of_blk0 k1)) rfl ?_
  refine O_go (gn rfl) (st_buildSlice ap47 rfl (vs := [_]) rfl (css := [_]) ⟨rfl, trivial⟩ rfl rfl (cs := [_, _, _, _]) rfl rfl ?_)
  intro b20 w20 e20 n20 c20 k20
  refine O_go (gn rfl) (st_call bd18 rfl rfl rfl rfl (l_short _ [a] 1 _ ⟨[x], IsSl.toRd (IsSl.of_blk (n := 1) k20 rfl (by simp [maxLen]) (by intro u hu; exact ActV.one hx u (by simpa [fl] using hu))), hx2.chg0 c20, trivial⟩ (by decide)) ?_)
  rintro v21 w21 ⟨⟨bb, rfl, hb⟩, rfl⟩
  refine Og (vl_not rfl) rfl (O_end [1, 2, 22] (F' := [(1, _), (2, _), (22, _)]) rfl ?_)
  have hc20 : Chg [] w w21 := hc2.trans c20
  refine W_cond rfl (fun hT => ?_) (fun hF => ?_)
  · refine Sr ?_
    refine O_go (gn rfl) (st_call bd9 rfl rfl rfl rfl (l_works _ (hE.chg0 hc20)) ?_)
    rintro v23 w23 ⟨rfl, c23⟩
    refine O_go (gn rfl) (st_store sz4 rfl rfl rfl rfl ((k2.chg0 c20).chg0 c23) (by simp) (by intro u hu; simp at hu; subst hu; rfl) ?_)
    intro wF nF cF kF
    refine O_end [2] (F' := [(2, _)]) rfl (W_ret ?_)
    refine then_ret ?_
    refine retM0 rfl ag4 rfl (kF.cell' rfl) ?_
    exact ⟨rfl, (hc20.trans c23).own cF (by intro y hy; have := c1.size; simp at hy; omega)⟩
  refine W_skipE ?_
  have hx20 := hx2.chg0 c20
  obtain ⟨xw, xa, xr, xk⟩ := x
  have hE20 := hE.chg0 hc20
  have k1 := k1.chg0 c20
  have k2 := k2.chg0 c20
  refine Sr (Oa rfl rfl (O_end [1, 2, 3] (F' := [(1, _), (2, _), (3, _)]) rfl (Sr (Om rfl rfl (Og (vl_fieldAddr fo50_2 rfl) rfl ?_)))))
  refine Og (vl_load ag48 rfl (k1.cell' (i := 2) rfl)) rfl ?_
  refine O_go (gn rfl) (st_call bd38 rfl rfl rfl rfl (t_Ignore0 _ _ hE20) ?_)
  rintro v28 w28 ⟨rfl, c28⟩
  refine Om rfl rfl (Oe rfl rfl rfl (Oe rfl rfl rfl (Oa rfl rfl (Oa rfl rfl (O_end [1, 2, 3, 5] (F' := [(1, _), (2, _), (3, _), (5, _)]) rfl (Sr (Om rfl rfl (Og (vl_fieldAddr fo50_2 rfl) rfl ?_))))))))
  refine Og (vl_load ag48 rfl ((k1.chg0 c28).cell' (i := 2) rfl)) rfl ?_
  refine O_go (gn rfl) (st_call bd14 rfl rfl rfl rfl (t_Replace0 _ _ (hE20.chg0 c28)) ?_)
  rintro v35 w35 ⟨rfl, c35⟩
  refine Om rfl rfl (Oe rfl rfl rfl (Oe rfl rfl rfl (Oa rfl rfl (Oa rfl rfl (O_end [1, 2, 3, 5, 7] (F' := [(1, _), (2, _), (3, _), (5, _), (7, _)]) rfl ?_)))))
  have c35 := c28.trans c35
  refine Sr (Om rfl rfl (Og (vl_fieldAddr fo50_3 rfl) rfl ?_))
  refine Og (vl_load ag9 rfl ((k1.chg0 c35).cell' (i := 3) rfl)) rfl ?_
  refine Og (vl_fieldAddr fo50_2 rfl) rfl ?_
  refine Og (vl_load ag48 rfl ((k1.chg0 c35).cell' (i := 2) rfl)) rfl ?_
  refine O_go (gn rfl) (st_call bd39 rfl rfl rfl rfl (t_Update0 _ _ _ (hE20.chg0 c35)) ?_)
  rintro v44 w44 ⟨rfl, c44⟩
  refine Om rfl rfl (Oe rfl rfl rfl (Oe rfl rfl rfl (Oa rfl rfl (Oa rfl rfl (O_end [1, 2, 3, 5, 7, 9] (F' := [(1, _), (2, _), (3, _), (5, _), (7, _), (9, _)]) rfl ?_)))))
  have c44 := c35.trans c44
  refine Sr (Om rfl rfl (Og (vl_fieldAddr fo50_3 rfl) rfl ?_))
  refine Og (vl_load ag9 rfl ((k1.chg0 c44).cell' (i := 3) rfl)) rfl ?_
  refine O_go (gn rfl) (st_call bd40 rfl rfl rfl rfl (t_Delete0 _ _) ?_)
  rintro v51 w51 ⟨rfl, rfl⟩
  refine Om rfl rfl (Oe rfl rfl rfl (Oe rfl rfl rfl (Oa rfl rfl (Oa rfl rfl (O_end [1, 2, 3, 5, 7, 9, 11] (F' := [(1, _), (2, _), (3, _), (5, _), (7, _), (9, _), (11, _)]) rfl (Sr (Om rfl rfl (Og (vl_fieldAddr fo50_2 rfl) rfl ?_))))))))
  refine Og (vl_load ag48 rfl ((k1.chg0 c44).cell' (i := 2) rfl)) rfl ?_
  refine O_go (gn rfl) (st_call bd20 rfl rfl rfl rfl (t_Key0 _ _ (hE20.chg0 c44)) ?_)
  rintro v58 w58 ⟨rfl, c58⟩
  refine Om rfl rfl (Oe rfl rfl rfl (Oe rfl rfl rfl (Oa rfl rfl (Oa rfl rfl (O_end [1, 2, 3, 5, 7, 9, 11, 13] (F' := [(1, _), (2, _), (3, _), (5, _), (7, _), (9, _), (11, _), (13, _)]) rfl ?_)))))
  have c58 := c44.trans c58
  refine Sr (Om rfl rfl (Og (vl_fieldAddr fo50_3 rfl) rfl ?_))
  refine Og (vl_load ag9 rfl ((k1.chg0 c58).cell' (i := 3) rfl)) rfl ?_
  refine O_go (gn rfl) (st_call bd23 rfl rfl rfl rfl (t_Get0 _ _) ?_)
  rintro v65 w65 ⟨rfl, rfl⟩
  refine Om rfl rfl (Oe rfl rfl rfl (Oe rfl rfl rfl (Oa rfl rfl (Oa rfl rfl (O_end [1, 2, 3, 5, 7, 9, 11, 13, 15] (F' := [(1, _), (2, _), (3, _), (5, _), (7, _), (9, _), (11, _), (13, _), (15, _)]) rfl (Sr (Om rfl rfl (Og (vl_fieldAddr fo50_1 rfl) rfl ?_))))))))
  refine Og (vl_load ag3 rfl ((k1.chg0 c58).cell' (i := 1) rfl)) rfl ?_
  refine Og (vl_fieldAddr fo50_2 rfl) rfl ?_
  refine Og (vl_load ag48 rfl ((k1.chg0 c58).cell' (i := 2) rfl)) rfl ?_
  refine O_go (gn rfl) (st_call bd31 rfl rfl rfl rfl (t_Find0 _ _ _) ?_)
  rintro v74 w74 ⟨rfl, rfl⟩
  refine Om rfl rfl (Oe rfl rfl rfl (Oe rfl rfl rfl (Oa rfl rfl (Oa rfl rfl (O_end [1, 2, 3, 5, 7, 9, 11, 13, 15, 17] (F' := [(1, _), (2, _), (3, _), (5, _), (7, _), (9, _), (11, _), (13, _), (15, _), (17, _)]) rfl (Sr (Om rfl rfl (Og (vl_fieldAddr fo50_3 rfl) rfl ?_))))))))
  refine Og (vl_load ag9 rfl ((k1.chg0 c58).cell' (i := 3) rfl)) rfl ?_
  refine O_go (gn rfl) (st_call bd27 rfl rfl rfl rfl (t_Rows0 _ _) ?_)
  rintro v80 w80 ⟨q5, q3, rfl, kq5, c80⟩
  refine Oa rfl rfl (O_end [1, 2, 3, 5, 7, 9, 11, 13, 15, 17, 18] (F' := [(1, _), (2, _), (3, _), (5, _), (7, _), (9, _), (11, _), (13, _), (15, _), (17, _), (18, _)]) rfl ?_)
  have c80 := c58.trans c80
  refine W_seq (Sr (Om rfl rfl ?_))
  refine Og (vl_fnil fnSeq rfl rfl) rfl ?_
  refine O_end [1, 2, 3, 5, 7, 9, 11, 13, 15, 17, 18, 82] (F' := [(1, _), (2, _), (3, _), (5, _), (7, _), (9, _), (11, _), (13, _), (15, _), (17, _), (18, _), (82, _)]) rfl (W_cond_false rfl (W_skipE (W_seq (Sr (Om rfl rfl (O_end [1, 2, 3, 5, 7, 9, 11, 13, 15, 17, 83] (F' := [(1, _), (2, _), (3, _), (5, _), (7, _), (9, _), (11, _), (13, _), (15, _), (17, _), (83, _)]) rfl ?_))))))
  refine W_block ?_
  refine W_range_none (gf := 67) (lb := [.pointer (some ⟨q5, 0, none⟩), .pointer (some ⟨q3, 0, none⟩)]) rfl bd67 (fun l wy hy => t_seq0 l q5 q3 wy (kq5.chg0 hy)) ?_
  intro D wD hD cD hK
  refine block_normal ?_
  have cD := c80.trans cD
  have hED := hE20.chg0 cD
  have k2D := k2.chg0 cD
  refine Sr (Om rfl rfl (Og (vl_fieldAddr fo50_2 rfl) rfl ?_))
  refine Og (vl_load ag48 rfl ((k1.chg0 cD).cell' (i := 2) rfl)) rfl ?_
  refine O_go (gn rfl) (st_call bd12 rfl rfl rfl rfl (t_Insert0 _ _ hED) ?_)
  rintro v89 w89 ⟨rfl, c89⟩
  refine O_go (gn rfl) (st_call bd11 rfl rfl rfl rfl (l_num _ _) ?_)
  rintro v90 w90 ⟨rfl, rfl⟩
  refine Og (vl_is (b' := true) (vl_ieq rfl rfl) (decide_eq_true (by omega))) rfl ?_
  refine Om rfl rfl ?_
  refine Oy rfl rfl (vl_move rfl) rfl ?_
  refine O_go (gy rfl rfl rfl) (st_call bd11 rfl rfl rfl rfl (l_num _ _) ?_)
  rintro v94 w94 ⟨rfl, rfl⟩
  refine Oy rfl rfl (vl_is (b' := true) (vl_ieq rfl rfl) (decide_eq_true (by omega))) rfl ?_
  refine Ot rfl rfl rfl (Om rfl rfl ?_)
  refine Oy rfl rfl (vl_move rfl) rfl ?_
  refine O_go (gy rfl rfl rfl) (st_call bd11 rfl rfl rfl rfl (l_num _ _) ?_)
  rintro v99 w99 ⟨rfl, rfl⟩
  refine Oy rfl rfl (vl_is (b' := true) (vl_ieq rfl rfl) (decide_eq_true (by omega))) rfl ?_
  refine Ot rfl rfl rfl (Om rfl rfl ?_)
  refine Oy rfl rfl (vl_move rfl) rfl ?_
  refine O_go (gy rfl rfl rfl) (st_call bd11 rfl rfl rfl rfl (l_num _ _) ?_)
  rintro v104 w104 ⟨rfl, rfl⟩
  refine Oy rfl rfl (vl_is (b' := true) (vl_ieq rfl rfl) (decide_eq_true (by omega))) rfl ?_
  refine Ot rfl rfl rfl (Om rfl rfl ?_)
  refine Oy rfl rfl (vl_move rfl) rfl ?_
  refine O_go (gy rfl rfl rfl) (st_call bd11 rfl rfl rfl rfl (l_num _ _) ?_)
  rintro v109 w109 ⟨rfl, rfl⟩
  refine Oy rfl rfl (vl_is (b' := true) (vl_ieq rfl rfl) (decide_eq_true (by omega))) rfl ?_
  refine Ot rfl rfl rfl (Om rfl rfl ?_)
  refine Oy rfl rfl (vl_move rfl) rfl ?_
  refine O_go (gy rfl rfl rfl) (st_call bd11 rfl rfl rfl rfl (l_num _ _) ?_)
  rintro v114 w114 ⟨rfl, rfl⟩
  refine Oy rfl rfl (vl_is (b' := true) (vl_ieq rfl rfl) (decide_eq_true (by omega))) rfl ?_
  refine Ot rfl rfl rfl (Om rfl rfl ?_)
  refine Oy rfl rfl (vl_move rfl) rfl ?_
  refine Oy rfl rfl (vl_not rfl) rfl ?_
  refine Ot rfl rfl rfl (Om rfl rfl ?_)
  refine Oy rfl rfl (vl_move rfl) rfl ?_
  refine Oy rfl rfl (vl_not rfl) rfl ?_
  refine Ot rfl rfl rfl (Om rfl rfl ?_)
  refine Oy rfl rfl (vl_move rfl) rfl ?_
  refine O_go (gy rfl rfl rfl) (st_call bd15 rfl rfl rfl rfl (t_Len0 _) ?_)
  rintro v127 w127 ⟨rfl, rfl⟩
  refine Oy rfl rfl (vl_is (b' := true) (vl_ieq rfl rfl) (decide_eq_true (by omega))) rfl ?_
  refine Ot rfl rfl rfl (Om rfl rfl ?_)
  refine Oy rfl rfl (vl_move rfl) rfl ?_
  refine O_go (gy rfl rfl rfl) (st_call bd34 rfl rfl rfl rfl (t_Schema0 _) ?_)
  rintro v132 w132 ⟨rfl, c132⟩
  refine Oy rfl rfl (vl_field1 fp30_0 rfl rfl) rfl ?_
  refine Oy rfl rfl (vl_len sl26 rfl) rfl ?_
  refine Oy rfl rfl (vl_is (b' := true) (vl_ieq rfl rfl) (decide_eq_true (by omega))) rfl ?_
  refine Ot rfl rfl rfl (Om rfl rfl ?_)
  refine Oy rfl rfl (vl_move rfl) rfl ?_
  refine O_go (gy rfl rfl rfl) (st_call bd35 rfl rfl rfl rfl (t_Copy0 _) ?_)
  rintro v139 w139 ⟨rfl, rfl⟩
  refine Oy rfl rfl (vl_pnil pt31 rfl rfl) rfl ?_
  refine Ot rfl rfl rfl (Om rfl rfl ?_)
  refine Oy rfl rfl (vl_move rfl) rfl ?_
  refine O_go (gy rfl rfl rfl) (st_call bd37 rfl rfl rfl rfl (t_Same00 _) ?_)
  rintro v144 w144 ⟨rfl, c144⟩
  refine Ot rfl rfl rfl (Om rfl rfl ?_)
  refine O_go (gy rfl rfl rfl) (st_call bd9 rfl rfl rfl rfl (l_works _ (((hED.chg0 c89).chg0 c132).chg0 c144)) ?_)
  rintro v147 w147 ⟨rfl, c147⟩
  refine Ot rfl rfl rfl ?_
  refine O_go (gn rfl) (st_store sz4 rfl rfl rfl rfl ((((k2D.chg0 c89).chg0 c132).chg0 c144).chg0 c147) (by simp) (by intro u hu; simp at hu; subst hu; rfl) ?_)
  intro wF nF cF kF
  refine O_end [2] (F' := [(2, _), (1000000, _)]) rfl (W_ret ?_)
  have hD2 : b2 < D := by have := k2.lt; have := c80.size; omega
  have hDl : D < wD.heap.size := (Array.getElem?_eq_some_iff.1 hK).1
  have hc147 := ((c89.trans c132).trans c144).trans c147
  have hs147 := hc147.block D hDl (by simp)
  refine retM1 (v := .bool true) rfl ag4 rfl rfl (D := D) ?_ ?_
  · have := cF.block D (by have := hc147.size; omega) (by simp; omega)
    rw [this, hs147]; exact hK
  · intro wE cE
    refine ⟨(kF.chg cE (by simp; omega)).cell' rfl, rfl, ?_⟩
    have h1 : Chg [] w wF := ((hc20.trans cD).trans hc147).own cF (by intro y hy; have := c1.size; simp at hy; omega)
    exact h1.own cE (by intro y hy; have := hc20.size; have := c80.size; simp at hy; omega)
end Go.Wk

namespace Go.Proofs.YtcnkdoecfljnlaaGreatDoor
open Go.ChangeShapes Go.WideShapes Go.ChangeAt Go.RowKit Go.Deep

set_option maxRecDepth 100000

theorem ownT : ownKnob Tryz.prog.godebug = none := by kernel_rfl
theorem laidOutT : laidOutB Tryz.prog = true := by kernel_rfl
abbrev laid4 : List (String × DataW Unit) := [("math/bits.deBruijn32tab", Rows.laid_math_bits_deBruijn32tab), ("math/bits.deBruijn64tab", Rows.laid_math_bits_deBruijn64tab), ("internal/strconv.uint64pow10", Rows.laid_internal_strconv_uint64pow10), ("errors.errorType", Rows.laid_errors_errorType)]
theorem etT : Tryz.prog.globalNamed "errors.errorType" = some 0 := by kernel_rfl
theorem rtT : (Tryz.prog.cutTypes.find? (·.1 == "internal/reflectlite.rtype")).map (·.2) = some 247 := by kernel_rfl
theorem sizeT : Tryz.prog.types.size = 403 := by kernel_rfl
theorem oneRowT : ((List.range 403).filter fun t => Tryz.prog.rowNamed t [101, 114, 114, 111, 114]) = [106] := by kernel_rfl
theorem door_met (os : Os) (args : Array Value) : laidMetH Tryz.prog laid4 ((World.doorLaid Tryz.prog 31 os).forCall (fun _ _ => 0) ⟨#[], args, []⟩).memory :=
  laidMetH_of_parts3 (fuel := 8) (laidMet_of_run' 8 (by kernel_rfl) (by kernel_rfl)) (by kernel_rfl) (by kernel_rfl)
theorem eok_of_laid {W : World} (h : laidMetH Tryz.prog laid4 W) : Wk.EOk W := by
  have h' : laidMet Tryz.prog (laid4.filter fun x => x.2.handleName?.isNone) W ∧ handlesMet Tryz.prog [("errors.errorType", Rows.laid_errors_errorType)] W := h
  obtain ⟨name, u, ty, e1, e2, e3, e4, e5⟩ := h'.2 _ (List.mem_singleton.2 rfl)
  have en : name = [101, 114, 114, 111, 114] := (Option.some.inj e1).symm
  subst en
  obtain rfl := Option.some.inj (rtT.symm.trans e2)
  have hm : ty ∈ (List.range 403).filter fun t => Tryz.prog.rowNamed t [101, 114, 114, 111, 114] := List.mem_filter.2 ⟨List.mem_range.2 (by rw [← sizeT]; exact e3), e4⟩
  rw [oneRowT] at hm
  obtain rfl := List.mem_singleton.1 hm
  have hh : typeHandle Tryz.prog 106 = Wk.hnd 106 := by kernel_rfl
  rw [hh] at e5
  have h0 := World.var?_cell etT e5 0
  have h1 : W.cell? ⟨0, 0, none⟩ = some (Value.iface 247 (Value.agg #[Wk.hnd 106])) := by simpa using h0
  exact h1
end Go.Proofs.YtcnkdoecfljnlaaGreatDoor

namespace Go.Proofs.YtcnkdoecfljnlaaGreatDoor
open Go.ChangeShapes Go.WideShapes Go.ChangeAt Go.RowKit Go.Deep

set_option maxRecDepth 100000

theorem list_of {α : Type} {R : Nat → α → Prop} : ∀ n : Nat, (∀ i, i < n → ∃ y, R i y) → ∃ l : List α, l.length = n ∧ ∀ i y, l[i]? = some y → R i y
  | 0, _ => ⟨[], rfl, fun i y h => by simp at h⟩
  | n + 1, h => by
    obtain ⟨l, hl, hr⟩ := list_of n fun i hi => h i (by omega)
    obtain ⟨y, hy⟩ := h n (by omega)
    refine ⟨l ++ [y], by simp [hl], fun i z hz => ?_⟩
    rcases Nat.lt_or_ge i l.length with hi | hi
    · rw [List.getElem?_append_left hi] at hz
      exact hr i z hz
    · rw [List.getElem?_append_right hi] at hz
      have : i - l.length = 0 := by
        rcases Nat.eq_zero_or_pos (i - l.length) with h0 | h0
        · exact h0
        · rw [List.getElem?_eq_none (by simp; omega)] at hz; cases hz
      rw [this] at hz
      simp at hz
      subst hz
      have : i = n := by omega
      subst this; exact hy

section
variable {P : Program} {H : Type} {enc : TypeId × Value → H} {W : World} {b : Nat} {sp : Nat → Bool} {hd : Bool}

theorem open_rd {t e : TypeId} {k : Nat} {α : Type} {f : α → List Value} {Q : α → Prop} (ht : P.underlying t = some (.slice e)) (hk : P.cellsOf e = k) (hk0 : 0 < k) (hf : ∀ x, (f x).length = k) (ho : ∀ x, Q x → ∀ u ∈ f x, u.oneCell' = true)
    (each : ∀ n cs x, DataW.trod enc P W b sp hd n e cs = some x → ∃ y, cs = f y ∧ Q y) {fuel : Nat} {cs : List Value} {x : DataW H × List MemPlace} (h : DataW.trod enc P W b sp hd fuel t cs = some x) :
    ∃ v l, cs = [v] ∧ Wk.Arr W e k f v l ∧ ∀ y ∈ l, Q y := by
  rcases open_slice ht h with ⟨rfl, _⟩ | ⟨a, len, cap, m, n, D, Pl, rfl, _, hl, hcm, hm, _, hx⟩
  · exact ⟨_, [], rfl, Wk.Arr.nil _ _ _ _, by simp⟩
  have hlm : len ≤ m := by rw [hm]; split <;> omega
  obtain ⟨l, hll, hR⟩ := list_of (R := fun i y => W.cells? b (a.add (i * k)) k = some (f y) ∧ Q y) len fun i hi => by
    obtain ⟨cs', h1, h2⟩ := hx i (by omega)
    rw [hk] at h1
    obtain ⟨y, rfl, hq⟩ := each _ _ _ h2
    exact ⟨y, h1, hq⟩
  have hQ : ∀ y ∈ l, Q y := fun y hy => by
    obtain ⟨i, hi⟩ := List.getElem?_of_mem hy
    exact (hR i y hi).2
  refine ⟨_, l, rfl, ?_, hQ⟩
  subst hll
  refine ⟨some a, cap, rfl, hl, hcm, Wk.fl_len hf l, fun u hu => ?_, fun hp => ?_⟩
  · obtain ⟨y, hy, hu'⟩ := List.mem_flatMap.1 hu
    exact ho y (hQ y hy) u hu'
  · have hspot : a.spot = none := by
      have h0 : l[0]? = some l[0] := by simp [hp]
      obtain ⟨h1, _⟩ := hR 0 _ h0
      obtain ⟨_, hl3, hcell⟩ := World.cells?_some h1
      have h3 := hcell 0 hk0
      have h4 : (f l[0])[0]? = some ((f l[0])[0]'(by rw [hf]; exact hk0)) := by simp [hf, hk0]
      rw [h4] at h3
      simpa [Addr.add] using World.cell?_spot h3
    obtain ⟨bb, oo, ss⟩ := a
    dsimp only at hspot
    subst hspot
    refine ⟨bb, oo, rfl, fun j u hj => ?_⟩
    have hlen := Wk.fl_len (k := k) hf l
    have hjl : j < l.length * k := by have := (List.getElem?_eq_some_iff.1 hj).1; omega
    have hi : j / k < l.length := (Nat.div_lt_iff_lt_mul hk0).2 hjl
    have hr : j % k < k := Nat.mod_lt _ hk0
    have hy : l[j / k]? = some l[j / k] := by simp [hi]
    generalize l[j / k] = y at hy
    obtain ⟨h1, _⟩ := hR _ _ hy
    rw [Addr.add_lit] at h1
    obtain ⟨_, _, hcell⟩ := World.cells?_some h1
    have h3 := hcell (j % k) hr
    rw [Addr.add_lit] at h3
    have hdm : j / k * k + j % k = j := Nat.div_add_mod' j k
    have h5 : (f y)[j % k]? = some u := by
      rw [← Wk.fl_at hf hy, List.getElem?_take, if_pos hr, List.getElem?_drop, hdm]
      exact hj
    rw [h5] at h3
    rw [← h3]
    congr 2
    omega
end

section
variable {H : Type} {enc : TypeId × Value → H} {W : World} {b : Nat} {sp : Nat → Bool} {hd : Bool}
theorem cV : Tryz.prog.cellsOf 40 = 4 := by kernel_rfl
theorem cA : Tryz.prog.cellsOf 50 = 4 := by kernel_rfl
theorem c1a : Tryz.prog.cellsOf 3 = 1 := by kernel_rfl
theorem c1b : Tryz.prog.cellsOf 2 = 1 := by kernel_rfl
theorem c1c : Tryz.prog.cellsOf 38 = 1 := by kernel_rfl
theorem c1d : Tryz.prog.cellsOf 9 = 1 := by kernel_rfl
theorem c1e : Tryz.prog.cellsOf 37 = 1 := by kernel_rfl
theorem c1f : Tryz.prog.cellsOf 48 = 1 := by kernel_rfl
theorem wf64 {n : Int} (h : (Lit.int .i64 n).wf = true) : -9223372036854775808 ≤ n ∧ n ≤ 9223372036854775807 := by
  simp only [Lit.wf, Bool.and_eq_true, decide_eq_true_eq] at h
  have e1 : IntKind.i64.min = -9223372036854775808 := by decide
  have e2 : IntKind.i64.max = 9223372036854775807 := by decide
  rw [e1, e2] at h
  exact h
theorem wfu64 {n : Int} (h : (Lit.int .u64 n).wf = true) : 0 ≤ n ∧ n < 18446744073709551616 := by
  simp only [Lit.wf, Bool.and_eq_true, decide_eq_true_eq] at h
  have e1 : IntKind.u64.min = 0 := by decide
  have e2 : IntKind.u64.max = 18446744073709551615 := by decide
  rw [e1, e2] at h
  omega
theorem open_val {n : Nat} {cs : List Value} {x : DataW H × List MemPlace} (h : DataW.trod enc Tryz.prog W b sp hd n 40 cs = some x) : ∃ y : Wk.Val, cs = y.cs ∧ y.Rng := by
  obtain ⟨xs, m, _, _, hlen, hxl, hf⟩ := DataW.trod_struct Tryz.underlying40 h
  rw [cV] at hlen
  match cs, hlen with
  | [c0, c1, c2, c3], _ =>
    have g0 : DataW.trod enc Tryz.prog W b sp hd m 37 (([c0, c1, c2, c3].drop 0).take (Tryz.prog.cellsOf 37)) = xs[0]? := hf 0 _ rfl
    have g1 : DataW.trod enc Tryz.prog W b sp hd m 2 (([c0, c1, c2, c3].drop 1).take (Tryz.prog.cellsOf 2)) = xs[1]? := hf 1 _ rfl
    have g2 : DataW.trod enc Tryz.prog W b sp hd m 38 (([c0, c1, c2, c3].drop 2).take (Tryz.prog.cellsOf 38)) = xs[2]? := hf 2 _ rfl
    have g3 : DataW.trod enc Tryz.prog W b sp hd m 9 (([c0, c1, c2, c3].drop 3).take (Tryz.prog.cellsOf 9)) = xs[3]? := hf 3 _ rfl
    rw [c1e] at g0
    rw [c1b] at g1
    rw [c1c] at g2
    rw [c1d] at g3
    have hx4 : xs.length = 4 := hxl
    match xs, hx4 with
    | [y0, y1, y2, y3], _ =>
      have g0 : DataW.trod enc Tryz.prog W b sp hd m 37 [c0] = some y0 := g0
      have g1 : DataW.trod enc Tryz.prog W b sp hd m 2 [c1] = some y1 := g1
      have g2 : DataW.trod enc Tryz.prog W b sp hd m 38 [c2] = some y2 := g2
      have g3 : DataW.trod enc Tryz.prog W b sp hd m 9 [c3] = some y3 := g3
      obtain ⟨i0, e0, _, w0⟩ := DataW.trod_int (k := .i64) (by kernel_rfl) g0
      obtain ⟨i1, e1, _, w1⟩ := DataW.trod_int (k := .i64) (by kernel_rfl) g1
      obtain ⟨i2, e2, _, w2⟩ := DataW.trod_int (k := .u64) (by kernel_rfl) g2
      obtain ⟨s, e3, _, _⟩ := DataW.trod_string (by kernel_rfl) g3
      simp only [List.cons.injEq, and_true] at e0 e1 e2 e3
      subst e0 e1 e2 e3
      have h2 := wfu64 w2
      obtain ⟨u, rfl⟩ := Int.eq_ofNat_of_zero_le h2.1
      exact ⟨⟨i0, i1, u, s⟩, rfl, wf64 w0, wf64 w1, by have := h2.2; simp only at this ⊢; omega⟩
theorem open_vals {n : Nat} {cs : List Value} {x : DataW H × List MemPlace} (h : DataW.trod enc Tryz.prog W b sp hd n 48 cs = some x) : ∃ v l, cs = [v] ∧ Wk.IsVals W v l ∧ ∀ y ∈ l, y.Rng :=
  open_rd (f := Wk.Val.cs) (Q := Wk.Val.Rng) Tryz.underlying48 cV (by decide) Wk.cs_len (fun x _ => Wk.Val.one x) (fun _ _ _ h => open_val h) h
theorem open_act {n : Nat} {cs : List Value} {x : DataW H × List MemPlace} (h : DataW.trod enc Tryz.prog W b sp hd n 50 cs = some x) : ∃ y : Wk.ActV, cs = y.cs ∧ ∃ a, Wk.IsAct W y a := by
  obtain ⟨xs, m, _, _, hlen, hxl, hf⟩ := DataW.trod_struct Tryz.underlying50 h
  rw [cA] at hlen
  match cs, hlen with
  | [c0, c1, c2, c3], _ =>
    have g0 : DataW.trod enc Tryz.prog W b sp hd m 3 (([c0, c1, c2, c3].drop 0).take (Tryz.prog.cellsOf 3)) = xs[0]? := hf 0 _ rfl
    have g1 : DataW.trod enc Tryz.prog W b sp hd m 3 (([c0, c1, c2, c3].drop 1).take (Tryz.prog.cellsOf 3)) = xs[1]? := hf 1 _ rfl
    have g2 : DataW.trod enc Tryz.prog W b sp hd m 48 (([c0, c1, c2, c3].drop 2).take (Tryz.prog.cellsOf 48)) = xs[2]? := hf 2 _ rfl
    have g3 : DataW.trod enc Tryz.prog W b sp hd m 9 (([c0, c1, c2, c3].drop 3).take (Tryz.prog.cellsOf 9)) = xs[3]? := hf 3 _ rfl
    rw [c1a] at g0 g1
    rw [c1f] at g2
    rw [c1d] at g3
    have hx4 : xs.length = 4 := hxl
    match xs, hx4 with
    | [y0, y1, y2, y3], _ =>
      have g0 : DataW.trod enc Tryz.prog W b sp hd m 3 [c0] = some y0 := g0
      have g1 : DataW.trod enc Tryz.prog W b sp hd m 3 [c1] = some y1 := g1
      have g2 : DataW.trod enc Tryz.prog W b sp hd m 48 [c2] = some y2 := g2
      have g3 : DataW.trod enc Tryz.prog W b sp hd m 9 [c3] = some y3 := g3
      obtain ⟨i0, e0, _, w0⟩ := DataW.trod_int (k := .i64) (by kernel_rfl) g0
      obtain ⟨i1, e1, _, w1⟩ := DataW.trod_int (k := .i64) (by kernel_rfl) g1
      obtain ⟨v, l, e2, hv, hr⟩ := open_vals g2
      obtain ⟨s, e3, _, _⟩ := DataW.trod_string (by kernel_rfl) g3
      simp only [List.cons.injEq, and_true] at e0 e1 e2 e3
      subst e0 e1 e2 e3
      exact ⟨⟨i0, i1, c2, s⟩, rfl, ⟨i0, i1, l, s⟩, rfl, rfl, rfl, hv, hr, wf64 w1⟩
end
end Go.Proofs.YtcnkdoecfljnlaaGreatDoor
