/-
  The law: calls; are there few and short ones?
  The law: as many rows as there may be, and one more.
  The law: what is told of none.
  What the rows list of the package's variables, and what it gives the walks.
-/
import Derived.Test.YtcnkdoecfljnlaaGreatDoorQ14
import Derived.Test.YtcnkdoecfljnlaaGreatDoorRows
import Derived.ProofKit
import Derived.OpenShut
import Derived.Deep.Slices
import Derived.LaidMore
import Derived.ChangeSame
import Derived.LaidHandle
import Derived.Stop.Joined
set_option linter.all false
namespace Go.Wk
open Go.Proofs
set_option maxRecDepth 10000

/-- A call: what, at, a row, a key. -/
structure ActT where
  what : Int
  at' : Int
  row : List Val
  key : ByteArray
/-- .. in memory: its row's slice in the place of the row. -/
structure ActV where
  what : Int
  at' : Int
  row : Value
  key : ByteArray
def ActV.cs (a : ActV) : List Value := [.int .i64 a.what, .int .i64 a.at', a.row, .string a.key]
theorem acs_len (a : ActV) : a.cs.length = 4 := rfl
def IsAct (w : World) (x : ActV) (a : ActT) : Prop := x.what = a.what ∧ x.at' = a.at' ∧ x.key = a.key ∧ IsVals w x.row a.row ∧ (∀ y ∈ a.row, y.Rng) ∧ (-9223372036854775808 ≤ a.at' ∧ a.at' ≤ 9223372036854775807)
theorem IsAct.chg0 {w w' : World} {x : ActV} {a : ActT} (h : IsAct w x a) (hc : Chg [] w w') : IsAct w' x a := ⟨h.1, h.2.1, h.2.2.1, Arr.chg0 h.2.2.2.1 hc, h.2.2.2.2⟩
theorem ActV.one {w : World} {x : ActV} {a : ActT} (h : IsAct w x a) : ∀ u ∈ x.cs, u.oneCell' = true := by
  intro u hu
  simp [ActV.cs] at hu
  rcases hu with rfl | rfl | rfl | rfl
  · rfl
  · rfl
  · exact IsSl.one1 h.2.2.2.1
  · rfl
def ActsL (w : World) : List ActV → List ActT → Prop
  | [], [] => True
  | x :: xs, a :: al => IsAct w x a ∧ ActsL w xs al
  | _, _ => False
theorem ActsL.chg0 {w w' : World} (hc : Chg [] w w') : ∀ {xs : List ActV} {al : List ActT}, ActsL w xs al → ActsL w' xs al
  | [], [], _ => trivial
  | _ :: _, _ :: _, h => ⟨h.1.chg0 hc, ActsL.chg0 hc h.2⟩
theorem ActsL.length {w : World} : ∀ {xs : List ActV} {al : List ActT}, ActsL w xs al → xs.length = al.length
  | [], [], _ => rfl
  | _ :: _, _ :: _, h => by simp [ActsL.length h.2]
theorem ActsL.at {w : World} : ∀ {xs : List ActV} {al : List ActT} {i : Nat} {a : ActT}, ActsL w xs al → al[i]? = some a → ∃ x, xs[i]? = some x ∧ IsAct w x a
  | [], [], _, _, _, h => by simp at h
  | x :: _, _ :: _, 0, _, h, hi => by simp at hi; subst hi; exact ⟨x, rfl, h.1⟩
  | _ :: _, _ :: _, i + 1, _, h, hi => by simpa using h.2.at (by simpa using hi)
def IsActs (w : World) (v : Value) (al : List ActT) : Prop := ∃ xs, Arr w 50 4 ActV.cs v xs ∧ ActsL w xs al
theorem IsActs.chg0 {w w' : World} {v : Value} {al : List ActT} (h : IsActs w v al) (hc : Chg [] w w') : IsActs w' v al := let ⟨xs, h1, h2⟩ := h; ⟨xs, Arr.chg0 h1 hc, h2.chg0 hc⟩
theorem IsActs.at {w : World} {v : Value} {al : List ActT} (h : IsActs w v al) {i : Nat} {a : ActT} (hi : al[i]? = some a) : ∃ x b off cap, v = .slice (some ⟨b, off, none⟩) al.length cap ∧ Cells w b (off + i * 4) x.cs ∧ IsAct w x a := by
  obtain ⟨xs, h1, h2⟩ := h
  obtain ⟨x, hx, hxa⟩ := h2.at hi
  obtain ⟨b, off, cap, hv, hc⟩ := Arr.at acs_len h1 hx
  exact ⟨x, b, off, cap, by rw [hv, h2.length], hc, hxa⟩
theorem IsActs.val {w : World} {v : Value} {al : List ActT} (h : IsActs w v al) : ∃ p c, v = .slice p al.length c ∧ al.length ≤ c := by
  obtain ⟨xs, h1, h2⟩ := h
  have := Arr.val h1
  rwa [h2.length] at this
def ShortA (a : ActT) : Prop := a.row.length ≤ 10 ∧ a.key.size ≤ 300 ∧ ∀ x ∈ a.row, x.b.size ≤ 300

theorem l_short (v : Value) (al : List ActT) (many : Nat) (w : World) (h : IsActs w v al) (hm : many ≤ 1000) : Ret Tryz.prog 18 #[v, .int .i64 many] w fun r w' => (∃ b, r = .bool b ∧ (b = true → al.length ≤ many ∧ ∀ a ∈ al, ShortA a)) ∧ w' = w := by
  obtain ⟨pv, cv, rfl, hcv⟩ := h.val
  refine Ret.of_W (args := [_, _]) Tryz.func18 rfl rfl rfl rfl ?_

  refine Sr (Oa rfl rfl (O_end [0, 1] (F' := [(0, _), (1, _)]) rfl ?_))
  refine W_seq_cut (fun F wx => ∃ (j : Nat) (f15 : Value), F = [(0, .slice pv al.length cv), (1, .int .i64 many), (5, .int .i64 j), (15, f15)] ∧ (al.length ≤ j ∨ many < j) ∧ wx = w ∧ (∀ a ∈ al.take j, ShortA a)) ?_ ?_
  · refine Sr (Oa rfl rfl (O_end [0, 1, 5] (F' := [(0, _), (1, _), (5, _)]) rfl (W_block ?_)))
    refine W_loop [0, 1, 5] (fun m F wx => ∃ j : Nat, m = al.length - j ∧ j ≤ al.length ∧ j ≤ many + 1 ∧ F = [(0, .slice pv al.length cv), (1, .int .i64 many), (5, .int .i64 j)] ∧ wx = w ∧ (∀ a ∈ al.take j, ShortA a)) (m := al.length - 0) ⟨0, rfl, Nat.zero_le _, Nat.zero_le _, rfl, rfl, by simp⟩ ?_
    rintro m F wx ⟨j, rfl, hj, hjm, rfl, rfl, hpre⟩
    refine W_seq (W_seq ?_)
    by_cases h1 : j < al.length
    · by_cases h2 : j ≤ many
      · refine W_region (Om rfl rfl (Om rfl rfl (Og (vl_len sl47 rfl) rfl ?_)))
        refine Og (vl_is (b' := true) (vl_lss rfl rfl) (by simp; omega)) rfl ?_
        refine Om rfl rfl ?_
        refine Oy rfl rfl (vl_move rfl) rfl ?_
        refine Oy rfl rfl (vl_move rfl) rfl ?_
        refine Oy rfl rfl (vl_is (b' := true) (vl_leq rfl rfl) (by simp; omega)) rfl ?_
        refine Ot rfl rfl rfl (O_end [0, 1, 5, 15] (F' := [(0, _), (1, _), (5, _), (15, _)]) rfl (W_cond_true rfl (W_skipE ?_)))
        have ha : al[j]? = some al[j] := by simp [h1]
        generalize al[j] = a at ha
        have hmem : a ∈ al := List.mem_of_getElem? ha
        obtain ⟨x, b, off, cap, hv, hcell, hxa⟩ := h.at ha
        cases hv
        obtain ⟨xw, xa, xr, xk⟩ := x
        obtain ⟨e1, e2, e3, hrow, hrng, hat⟩ := hxa
        obtain ⟨pr, cr, e4, hcr⟩ := id (Arr.val hrow)
        simp only at e1 e2 e3 e4
        subst e4
        refine W_seq (W_block (W_seq (W_seq ?_)))
        by_cases h3 : 10 < a.row.length
        · refine W_region (Om rfl rfl (Om rfl rfl ?_))
          refine Og (vl_indexAddr sl47 sz50 rfl rfl _ rfl h1) rfl ?_
          refine Og (vl_fieldAddr fo50_2 rfl) rfl ?_
          refine Og (vl_load ag48 rfl (hcell 2 _ rfl)) rfl ?_
          refine Og (vl_len sl48 rfl) rfl ?_
          refine Og (vl_is (b' := true) (vl_gtr rfl rfl) (by simp; omega)) rfl ?_
          refine Om rfl rfl (Oz rfl rfl rfl rfl (Oz rfl rfl rfl rfl (Oz rfl rfl rfl rfl (Oz rfl rfl rfl rfl (Oz rfl rfl rfl rfl (Oz rfl rfl rfl rfl (Oz rfl rfl rfl rfl (Ot rfl rfl rfl (O_end [0, 1, 5, 33] (F' := [(0, _), (1, _), (5, _), (33, _)]) rfl (W_cond_true rfl (Sr (Oa rfl rfl ?_))))))))))))
          refine O_end [4] (F' := [(4, _)]) rfl (W_ret ?_)
          repeat (first | refine then_ret ?_ | refine block_ret ?_)
          refine ret1 rfl rfl ?_
          exact ⟨⟨false, rfl, fun h => by cases h⟩, rfl⟩
        · by_cases h4 : 300 < xk.size
          · refine W_region (Om rfl rfl (Om rfl rfl ?_))
            refine Og (vl_indexAddr sl47 sz50 rfl rfl _ rfl h1) rfl ?_
            refine Og (vl_fieldAddr fo50_2 rfl) rfl ?_
            refine Og (vl_load ag48 rfl (hcell 2 _ rfl)) rfl ?_
            refine Og (vl_len sl48 rfl) rfl ?_
            refine Og (vl_is (b' := false) (vl_gtr rfl rfl) (by simp; omega)) rfl ?_
            refine Om rfl rfl ?_
            refine Oy rfl rfl (vl_move rfl) rfl ?_
            refine Oy rfl rfl (vl_move rfl) rfl ?_
            refine Oy rfl rfl (vl_indexAddr sl47 sz50 rfl rfl _ rfl h1) rfl ?_
            refine Oy rfl rfl (vl_fieldAddr fo50_3 rfl) rfl ?_
            refine Oy rfl rfl (vl_load ag9 rfl (hcell 3 _ rfl)) rfl ?_
            refine Oy rfl rfl (vl_slen st9 rfl) rfl ?_
            refine Oy rfl rfl (vl_is (b' := true) (vl_gtr rfl rfl) (by simp; omega)) rfl ?_
            refine Of rfl rfl rfl (O_end [0, 1, 5, 33] (F' := [(0, _), (1, _), (5, _), (33, _)]) rfl (W_cond_true rfl (Sr (Oa rfl rfl (O_end [4] (F' := [(4, _)]) rfl (W_ret ?_))))))
            repeat (first | refine then_ret ?_ | refine block_ret ?_)
            refine ret1 rfl rfl ?_
            exact ⟨⟨false, rfl, fun h => by cases h⟩, rfl⟩
          · refine W_region (Om rfl rfl (Om rfl rfl ?_))
            refine Og (vl_indexAddr sl47 sz50 rfl rfl _ rfl h1) rfl ?_
            refine Og (vl_fieldAddr fo50_2 rfl) rfl ?_
            refine Og (vl_load ag48 rfl (hcell 2 _ rfl)) rfl ?_
            refine Og (vl_len sl48 rfl) rfl ?_
            refine Og (vl_is (b' := false) (vl_gtr rfl rfl) (by simp; omega)) rfl ?_
            refine Om rfl rfl ?_
            refine Oy rfl rfl (vl_move rfl) rfl ?_
            refine Oy rfl rfl (vl_move rfl) rfl ?_
            refine Oy rfl rfl (vl_indexAddr sl47 sz50 rfl rfl _ rfl h1) rfl ?_
            refine Oy rfl rfl (vl_fieldAddr fo50_3 rfl) rfl ?_
            refine Oy rfl rfl (vl_load ag9 rfl (hcell 3 _ rfl)) rfl ?_
            refine Oy rfl rfl (vl_slen st9 rfl) rfl ?_
            refine Oy rfl rfl (vl_is (b' := false) (vl_gtr rfl rfl) (by simp; omega)) rfl ?_
            refine Of rfl rfl rfl (O_end [0, 1, 5, 33] (F' := [(0, _), (1, _), (5, _), (33, _)]) rfl (W_cond_false rfl (W_skipE (Sr (Oa rfl rfl (O_end [0, 1, 5, 6] (F' := [(0, _), (1, _), (5, _), (6, _)]) rfl (W_block ?_)))))))
            refine W_loop [0, 1, 5, 6] (fun m F wy => ∃ i : Nat, m = a.row.length - i ∧ i ≤ a.row.length ∧ F = [(0, .slice (some ⟨b, off, none⟩) al.length cv), (1, .int .i64 many), (5, .int .i64 j), (6, .int .i64 i)] ∧ wy = wx ∧ ∀ y ∈ a.row.take i, y.b.size ≤ 300) (m := a.row.length - 0) ⟨0, rfl, Nat.zero_le _, rfl, rfl, by simp⟩ ?_
            rintro m F wy ⟨i, rfl, hi, rfl, rfl, hpi⟩
            refine W_seq (W_seq ?_)
            by_cases hli : i < a.row.length
            · refine W_region (Om rfl rfl (Om rfl rfl (Om rfl rfl ?_)))
              refine Og (vl_indexAddr sl47 sz50 rfl rfl _ rfl h1) rfl ?_
              refine Og (vl_fieldAddr fo50_2 rfl) rfl ?_
              refine Og (vl_load ag48 rfl (hcell 2 _ rfl)) rfl ?_
              refine Og (vl_len sl48 rfl) rfl ?_
              refine Og (vl_is (b' := true) (vl_lss rfl rfl) (by simp; omega)) rfl ?_
              refine O_end [0, 1, 5, 6, 41] (F' := [(0, _), (1, _), (5, _), (6, _), (41, _)]) rfl (W_cond_true rfl (W_skipE ?_))
              have hy : a.row[i]? = some a.row[i] := by simp [hli]
              generalize a.row[i] = y at hy
              obtain ⟨bb, oy, cy, hvy, hcy⟩ := Arr.at cs_len hrow hy
              cases hvy
              refine W_seq (W_block (W_seq ?_))
              by_cases h5 : 300 < y.b.size
              · refine W_region (Om rfl rfl (Om rfl rfl ?_))
                refine Og (vl_indexAddr sl47 sz50 rfl rfl _ rfl h1) rfl ?_
                refine Og (vl_fieldAddr fo50_2 rfl) rfl ?_
                refine Og (vl_load ag48 rfl (hcell 2 _ rfl)) rfl ?_
                refine Om rfl rfl ?_
                refine Og (vl_indexAddr sl48 sz40 rfl rfl _ rfl hli) rfl ?_
                refine Og (vl_fieldAddr fo40_3 rfl) rfl ?_
                refine Og (vl_load ag9 rfl (hcy 3 _ rfl)) rfl ?_
                refine Og (vl_slen st9 rfl) rfl ?_
                refine Og (vl_is (b' := true) (vl_gtr rfl rfl) (by simp; omega)) rfl ?_
                refine O_end [0, 1, 5, 6, 54] (F' := [(0, _), (1, _), (5, _), (6, _), (54, _)]) rfl (W_cond_true rfl (Sr (Oa rfl rfl (O_end [4] (F' := [(4, _)]) rfl (W_ret ?_)))))
                repeat (first | refine then_ret ?_ | refine block_ret ?_)
                refine ret1 rfl rfl ?_
                exact ⟨⟨false, rfl, fun h => by cases h⟩, rfl⟩
              · refine W_region (Om rfl rfl (Om rfl rfl ?_))
                refine Og (vl_indexAddr sl47 sz50 rfl rfl _ rfl h1) rfl ?_
                refine Og (vl_fieldAddr fo50_2 rfl) rfl ?_
                refine Og (vl_load ag48 rfl (hcell 2 _ rfl)) rfl ?_
                refine Om rfl rfl ?_
                refine Og (vl_indexAddr sl48 sz40 rfl rfl _ rfl hli) rfl ?_
                refine Og (vl_fieldAddr fo40_3 rfl) rfl ?_
                refine Og (vl_load ag9 rfl (hcy 3 _ rfl)) rfl ?_
                refine Og (vl_slen st9 rfl) rfl ?_
                refine Og (vl_is (b' := false) (vl_gtr rfl rfl) (by simp; omega)) rfl ?_
                refine O_end [0, 1, 5, 6, 54] (F' := [(0, _), (1, _), (5, _), (6, _), (54, _)]) rfl (W_cond_false rfl (W_skip (block_normal (W_region (Om rfl rfl ?_)))))
                refine Og (vl_add rfl rfl (by omega)) rfl ?_
                refine Oa rfl rfl ?_
                refine O_endN [0, 1, 5, 6] (F' := [(0, _), (1, _), (5, _), (6, _)]) rfl ?_
                refine ⟨a.row.length - (i + 1), by omega, i + 1, rfl, by omega, rfl, rfl, fun z hz => ?_⟩
                rw [take_snoc hy] at hz
                rcases List.mem_append.1 hz with hz | hz
                · exact hpi z hz
                · simp at hz; subst hz; omega
            · refine W_region (Om rfl rfl (Om rfl rfl (Om rfl rfl ?_)))
              refine Og (vl_indexAddr sl47 sz50 rfl rfl _ rfl h1) rfl ?_
              refine Og (vl_fieldAddr fo50_2 rfl) rfl ?_
              refine Og (vl_load ag48 rfl (hcell 2 _ rfl)) rfl ?_
              refine Og (vl_len sl48 rfl) rfl ?_
              refine Og (vl_is (b' := false) (vl_lss rfl rfl) (by simp; omega)) rfl ?_
              refine O_end [0, 1, 5, 6, 41] (F' := [(0, _), (1, _), (5, _), (6, _), (41, _)]) rfl (W_cond_false rfl ?_)
              refine W_exit ?_
              repeat (first | refine then_exit ?_ | refine blockF_other rfl ?_)
              refine blockF_exit _ ?_
              refine block_normal (W_region (Om rfl rfl ?_))
              refine Og (vl_add rfl rfl (by omega)) rfl ?_
              refine Oa rfl rfl ?_
              refine O_endN [0, 1, 5] (F' := [(0, _), (1, _), (5, _)]) rfl ?_
              refine ⟨al.length - (j + 1), by omega, j + 1, rfl, by omega, by omega, rfl, rfl, fun z hz => ?_⟩
              rw [take_snoc ha] at hz
              rcases List.mem_append.1 hz with hz | hz
              · exact hpre z hz
              · simp at hz
                subst hz
                refine ⟨by omega, by rw [← e3]; omega, fun y hy => hpi y ?_⟩
                rwa [List.take_of_length_le (by omega)]
      · refine W_region (Om rfl rfl (Om rfl rfl (Og (vl_len sl47 rfl) rfl ?_)))
        refine Og (vl_is (b' := true) (vl_lss rfl rfl) (by simp; omega)) rfl ?_
        refine Om rfl rfl ?_
        refine Oy rfl rfl (vl_move rfl) rfl ?_
        refine Oy rfl rfl (vl_move rfl) rfl ?_
        refine Oy rfl rfl (vl_is (b' := false) (vl_leq rfl rfl) (by simp; omega)) rfl ?_
        refine Ot rfl rfl rfl (O_end [0, 1, 5, 15] (F' := [(0, _), (1, _), (5, _), (15, _)]) rfl (W_cond_false rfl ?_))
        refine W_exit ?_
        repeat (first | refine then_exit ?_ | refine blockF_other rfl ?_)
        refine blockF_exit _ ?_
        exact ⟨j, _, rfl, .inr (by omega), rfl, hpre⟩
    · refine W_region (Om rfl rfl (Om rfl rfl (Og (vl_len sl47 rfl) rfl ?_)))
      refine Og (vl_is (b' := false) (vl_lss rfl rfl) (by simp; omega)) rfl ?_
      refine Om rfl rfl (Oz rfl rfl rfl rfl (Oz rfl rfl rfl rfl (Oz rfl rfl rfl rfl (Of rfl rfl rfl (O_end [0, 1, 5, 15] (F' := [(0, _), (1, _), (5, _), (15, _)]) rfl (W_cond_false rfl ?_))))))
      refine W_exit ?_
      repeat (first | refine then_exit ?_ | refine blockF_other rfl ?_)
      refine blockF_exit _ ?_
      exact ⟨j, _, rfl, .inl (by omega), rfl, hpre⟩
  rintro F wx ⟨j, f15, rfl, hend, rfl, hpre⟩
  refine Sr (Om rfl rfl (Og (vl_len sl47 rfl) rfl (Om rfl rfl ?_)))
  refine Og (vl_leq rfl rfl) rfl ?_
  refine Oa rfl rfl (O_end [4] (F' := [(4, _)]) rfl (W_ret ?_))
  refine ret1 rfl rfl ?_
  refine ⟨⟨_, rfl, fun hb => ?_⟩, rfl⟩
  have hb : al.length ≤ many := by have := of_decide_eq_true hb; omega
  refine ⟨hb, fun a ha => hpre a ?_⟩
  rcases hend with he | he
  · rwa [List.take_of_length_le he]
  · rwa [List.take_of_length_le (by omega)]
end Go.Wk

namespace Go.Wk
open Go.Proofs
set_option maxRecDepth 10000

structure FuS (w0 w : World) (t : Nat) (own : List Nat) (rows : List (List Val)) : Prop where
  e : EOk w
  tab : IsTab w t own sF rows
  chg : Chg [] w0 w
  fr : ∀ p ∈ own, w0.heap.size ≤ p
section
variable {w0 w w' : World} {t : Nat} {own : List Nat} {rows rows' : List (List Val)}
theorem FuS.chg0 (h : FuS w0 w t own rows) (hc : Chg [] w w') : FuS w0 w' t own rows := ⟨h.e.chg0 hc, h.tab.chg0 hc, h.chg.trans hc, h.fr⟩
theorem FuS.step (h : FuS w0 w t own rows) (hc : Chg own w w') (ht : IsTab w' t own sF rows') : FuS w0 w' t own rows' :=
  ⟨h.e.tab h.tab hc, ht, h.chg.own hc h.fr, h.fr⟩
theorem FuS.ins {i : Nat} (h : FuS w0 w t own (rowsF (min i 400))) {b : Nat} (hb : Blk w b 40 (fl Val.cs (rF i))) (hi : i < 406) :
    Ret Tryz.prog 12 #[.pointer (some ⟨t, 0, none⟩), .slice (some ⟨b, 0, none⟩) 1 1] w fun r w' => r = .int .i64 (if i < 400 then 0 else 3) ∧ FuS w0 w' t own (rowsF (min (i + 1) 400)) := by
  refine (t_Insert t own sF _ _ (rF i) w h.e h.tab (vals_of (l := rF i) hb (by simp [rF, maxLen]) rfl) (fu_rng hi) (by simp [rF])).mono fun r w' ⟨h1, h2, h3⟩ => ?_
  by_cases hlt : i < 400
  · have e : min i 400 = i := by omega
    have e' : min (i + 1) 400 = i + 1 := by omega
    rw [e] at h1 h2
    rw [e', if_pos hlt]
    rw [fu_E hlt] at h1
    rw [fu_R hlt] at h2
    exact ⟨h1, h.step h3 h2⟩
  · have e : min i 400 = 400 := by omega
    have e' : min (i + 1) 400 = 400 := by omega
    rw [e] at h1 h2
    rw [e', if_neg hlt]
    rw [fu_E3 (by omega) hi] at h1
    rw [fu_R3 (by omega) hi] at h2
    exact ⟨h1, h.step h3 h2⟩
theorem FuS.rep {n a : Nat} (h : FuS w0 w t own (rowsF n)) {b : Nat} (hb : Blk w b 40 (fl Val.cs (rF a))) (ha : a < 406) {e : Int} {g m : Nat} (hr : repE sF (rowsF n) (rF a) = e ∧ (repG sF (rowsF n) (rF a)).length = g ∧ (repR sF (rowsF n) (rF a)).length = m) :
    Ret Tryz.prog 14 #[.pointer (some ⟨t, 0, none⟩), .slice (some ⟨b, 0, none⟩) 1 1] w fun r w' => ∃ p c rows', r = .tuple #[.slice p g c, .int .i64 e] ∧ rows'.length = m ∧ FuS w0 w' t own rows' := by
  refine (t_Replace t own sF _ _ (rF a) w h.e h.tab (vals_of (l := rF a) hb (by simp [rF, maxLen]) rfl) (fu_rng ha) (by simp [rF])).mono fun r w' ⟨o, h1, h2, _, h3, h4⟩ => ?_
  obtain ⟨p, c, ho, _⟩ := h2.val
  exact ⟨p, c, _, by rw [h1, ho, hr.1, hr.2.1], hr.2.2, h.step h4 h3⟩
end
theorem sF_is {w : World} {b29 b30 : Nat} (h29 : Blk w b29 25 (fl Col.cs sF.cols)) (h30 : Blk w b30 3 [.int .i64 0]) :
    IsSch w (.slice (some ⟨b29, 0, none⟩) 1 1) (.slice (some ⟨b30, 0, none⟩) 1 1) (.slice none 0 0) sF :=
  ⟨Arr.of_blk (l := sF.cols) ccs_len Col.one h29 (by decide), Arr.of_blk (l := sF.key) ics_len ics_one h30 (by decide), ⟨[], IsSl.nil _ _ _, trivial⟩⟩

theorem l_Full (many a : Int) (w : World) (hE : EOk w) : Ret Tryz.prog 3 #[.int .i64 many, .int .i64 a] w fun r w' => r = .bool true ∧ Chg [] w w' := by
  refine Ret.of_W (args := [_, _]) Tryz.func3 rfl rfl rfl rfl ?_

  refine Sr (Oa rfl rfl (O_end [0, 1] (F' := [(0, _), (1, _)]) rfl (W_seq (W_seq ?_))))
  by_cases h1 : many < 0
  · refine W_region (Om rfl rfl ?_)
    refine Og (vl_is (b' := true) (vl_lss rfl rfl) (by simp; omega)) rfl ?_
    refine Om rfl rfl (Oz rfl rfl rfl rfl (Oz rfl rfl rfl rfl (Ot rfl rfl rfl (Om rfl rfl (Oz rfl rfl rfl rfl (Oz rfl rfl rfl rfl (Ot rfl rfl rfl (Om rfl rfl (Oz rfl rfl rfl rfl (Oz rfl rfl rfl rfl (Ot rfl rfl rfl (O_end [0, 1, 26] (F' := [(0, _), (1, _), (26, _)]) rfl (W_cond_true rfl ?_)))))))))))))
    refine Sr ?_
    refine O_go (gn rfl) (st_call bd9 rfl rfl rfl rfl (l_works _ hE) ?_)
    rintro v27 w27 ⟨rfl, c27⟩
    refine Oa rfl rfl (O_end [4] (F' := [(4, _)]) rfl (W_ret ?_))
    repeat (first | refine then_ret ?_ | refine block_ret ?_)
    refine ret1 rfl rfl ?_
    exact ⟨rfl, c27⟩
  by_cases h2 : 405 < many
  · refine W_region (Om rfl rfl ?_)
    refine Og (vl_is (b' := false) (vl_lss rfl rfl) (by simp; omega)) rfl ?_
    refine Om rfl rfl ?_
    refine Oy rfl rfl (vl_move rfl) rfl ?_
    refine Oy rfl rfl (vl_is (b' := true) (vl_gtr rfl rfl) (by simp; omega)) rfl ?_
    refine Of rfl rfl rfl (Om rfl rfl (Oz rfl rfl rfl rfl (Oz rfl rfl rfl rfl (Ot rfl rfl rfl (Om rfl rfl (Oz rfl rfl rfl rfl (Oz rfl rfl rfl rfl (Ot rfl rfl rfl (O_end [0, 1, 26] (F' := [(0, _), (1, _), (26, _)]) rfl (W_cond_true rfl (Sr ?_)))))))))))
    refine O_go (gn rfl) (st_call bd9 rfl rfl rfl rfl (l_works _ hE) ?_)
    rintro v27 w27 ⟨rfl, c27⟩
    refine Oa rfl rfl (O_end [4] (F' := [(4, _)]) rfl (W_ret ?_))
    repeat (first | refine then_ret ?_ | refine block_ret ?_)
    refine ret1 rfl rfl ?_
    exact ⟨rfl, c27⟩
  by_cases h3 : a < 0
  · refine W_region (Om rfl rfl ?_)
    refine Og (vl_is (b' := false) (vl_lss rfl rfl) (by simp; omega)) rfl ?_
    refine Om rfl rfl ?_
    refine Oy rfl rfl (vl_move rfl) rfl ?_
    refine Oy rfl rfl (vl_is (b' := false) (vl_gtr rfl rfl) (by simp; omega)) rfl ?_
    refine Of rfl rfl rfl (Om rfl rfl ?_)
    refine Oy rfl rfl (vl_move rfl) rfl ?_
    refine Oy rfl rfl (vl_is (b' := true) (vl_lss rfl rfl) (by simp; omega)) rfl ?_
    refine Of rfl rfl rfl (Om rfl rfl (Oz rfl rfl rfl rfl (Oz rfl rfl rfl rfl (Ot rfl rfl rfl (O_end [0, 1, 26] (F' := [(0, _), (1, _), (26, _)]) rfl (W_cond_true rfl (Sr ?_)))))))
    refine O_go (gn rfl) (st_call bd9 rfl rfl rfl rfl (l_works _ hE) ?_)
    rintro v27 w27 ⟨rfl, c27⟩
    refine Oa rfl rfl (O_end [4] (F' := [(4, _)]) rfl (W_ret ?_))
    repeat (first | refine then_ret ?_ | refine block_ret ?_)
    refine ret1 rfl rfl ?_
    exact ⟨rfl, c27⟩
  by_cases h4 : 405 < a
  · refine W_region (Om rfl rfl ?_)
    refine Og (vl_is (b' := false) (vl_lss rfl rfl) (by simp; omega)) rfl ?_
    refine Om rfl rfl ?_
    refine Oy rfl rfl (vl_move rfl) rfl ?_
    refine Oy rfl rfl (vl_is (b' := false) (vl_gtr rfl rfl) (by simp; omega)) rfl ?_
    refine Of rfl rfl rfl (Om rfl rfl ?_)
    refine Oy rfl rfl (vl_move rfl) rfl ?_
    refine Oy rfl rfl (vl_is (b' := false) (vl_lss rfl rfl) (by simp; omega)) rfl ?_
    refine Of rfl rfl rfl (Om rfl rfl ?_)
    refine Oy rfl rfl (vl_move rfl) rfl ?_
    refine Oy rfl rfl (vl_is (b' := true) (vl_gtr rfl rfl) (by simp; omega)) rfl ?_
    refine Of rfl rfl rfl (O_end [0, 1, 26] (F' := [(0, _), (1, _), (26, _)]) rfl (W_cond_true rfl (Sr ?_)))
    refine O_go (gn rfl) (st_call bd9 rfl rfl rfl rfl (l_works _ hE) ?_)
    rintro v27 w27 ⟨rfl, c27⟩
    refine Oa rfl rfl (O_end [4] (F' := [(4, _)]) rfl (W_ret ?_))
    repeat (first | refine then_ret ?_ | refine block_ret ?_)
    refine ret1 rfl rfl ?_
    exact ⟨rfl, c27⟩
  refine W_region (Om rfl rfl ?_)
  refine Og (vl_is (b' := false) (vl_lss rfl rfl) (by simp; omega)) rfl ?_
  refine Om rfl rfl ?_
  refine Oy rfl rfl (vl_move rfl) rfl ?_
  refine Oy rfl rfl (vl_is (b' := false) (vl_gtr rfl rfl) (by simp; omega)) rfl ?_
  refine Of rfl rfl rfl (Om rfl rfl ?_)
  refine Oy rfl rfl (vl_move rfl) rfl ?_
  refine Oy rfl rfl (vl_is (b' := false) (vl_lss rfl rfl) (by simp; omega)) rfl ?_
  refine Of rfl rfl rfl (Om rfl rfl ?_)
  refine Oy rfl rfl (vl_move rfl) rfl ?_
  refine Oy rfl rfl (vl_is (b' := false) (vl_gtr rfl rfl) (by simp; omega)) rfl ?_
  refine Of rfl rfl rfl (O_end [0, 1, 26] (F' := [(0, _), (1, _), (26, _)]) rfl (W_cond_false rfl (W_skipE ?_)))
  obtain ⟨M, rfl⟩ := Int.eq_ofNat_of_zero_le (by omega : 0 ≤ many)
  obtain ⟨A, rfl⟩ := Int.eq_ofNat_of_zero_le (by omega : 0 ≤ a)
  have hM : M ≤ 405 := by omega
  have hA : A ≤ 405 := by omega
  refine Sr ?_
  refine Og (vl_build pl25 zr25 rfl (vs := [_, _, _]) rfl (css := [_, _, _]) ⟨rfl, rfl, rfl, trivial⟩ rfl rfl (cs := [_, _, _, _]) rfl) rfl ?_
  refine O_go (gn rfl) (st_buildSlice ap26 rfl (vs := [_]) rfl (css := [_]) ⟨rfl, trivial⟩ rfl rfl (cs := [_, _, _, _]) rfl rfl ?_)
  intro b29 w29 e29 n29 c29 k29
  refine O_go (gn rfl) (st_buildSlice ap27 rfl (vs := [_]) rfl (css := [_]) ⟨rfl, trivial⟩ rfl rfl (cs := [_]) rfl rfl ?_)
  intro b30 w30 e30 n30 c30 k30
  refine Og (vl_build pl30 zr30 rfl (vs := [_, _]) rfl (css := [_, _]) ⟨rfl, rfl, trivial⟩ rfl rfl (cs := [_, _, _]) rfl) rfl ?_
  refine O_go (gn rfl) (st_alloc zr30 rfl rfl ?_)
  intro b5 w5 e5 n5 c5 k5
  refine O_go (gn rfl) (st_store sz30 rfl rfl rfl rfl k5 (by simp) (by simp [Value.oneCell']) ?_)
  intro wA nA cA kA
  refine O_end [0, 1, 5] (F' := [(0, _), (1, _), (5, _)]) rfl ?_
  have hcA : Chg [] w wA := ((c29.trans c30).trans c5).own cA (by intro y hy; have := (c29.trans c30).size; simp at hy; omega)
  have h29 := ((k29.chg0 c30).chg0 c5).chg cA (by have := (k29.chg0 c30).lt; simp; omega)
  have h30 := (k30.chg0 c5).chg cA (by have := k30.lt; simp; omega)
  refine Sr ?_
  refine Og (vl_loadAgg ag30 sz30 rfl rfl (Cells.of_blk0 kA)) rfl ?_
  refine O_go (gn rfl) (st_call bd10 rfl rfl rfl rfl (t_New _ _ _ sF _ (sF_is h29 h30) fu_s) ?_)
  rintro v34 w34 ⟨t, own, rfl, hT34, tF34, oF34, c34⟩
  refine Om rfl rfl (Oe rfl rfl rfl (Oe rfl rfl rfl (Oa rfl rfl (Oa rfl rfl (O_end [0, 1, 6, 7] (F' := [(0, _), (1, _), (6, _), (7, _)]) rfl ?_)))))
  have hS34 : FuS w w34 t own (rowsF (min 0 400)) := ⟨hE.chg0 (hcA.trans c34), hT34, hcA.trans c34, fun p hp => by have := oF34 p hp; have := hcA.size; omega⟩
  refine W_seq (Sr (Om rfl rfl ?_))
  refine O_go (gn rfl) (st_call bd11 rfl rfl rfl rfl (l_num _ _) ?_)
  rintro v38 w38 ⟨rfl, rfl⟩
  refine Og (vl_is (b' := false) (vl_ine rfl rfl) (ine_f (by omega))) rfl ?_
  refine O_end [0, 1, 6, 39] (F' := [(0, _), (1, _), (6, _), (39, _)]) rfl (W_cond_false rfl (W_skipE ?_))
  refine W_seq_cut (fun F wx => ∃ f8 f42 : Value, F = [(0, .int .i64 M), (1, .int .i64 A), (6, .pointer (some ⟨t, 0, none⟩)), (8, f8), (42, f42)] ∧ FuS w wx t own (rowsF (min M 400))) ?_ ?_
  · refine Sr (Oa rfl rfl (O_end [0, 1, 6, 8] (F' := [(0, _), (1, _), (6, _), (8, _)]) rfl (W_block ?_)))
    refine W_loop [0, 1, 6, 8] (fun m F wx => ∃ j : Nat, m = M - j ∧ j ≤ M ∧ F = [(0, .int .i64 M), (1, .int .i64 A), (6, .pointer (some ⟨t, 0, none⟩)), (8, .int .i64 j)] ∧ FuS w wx t own (rowsF (min j 400))) (m := M - 0) ⟨0, rfl, Nat.zero_le _, rfl, hS34⟩ ?_
    rintro m F wx ⟨j, rfl, hj, rfl, hSx⟩
    refine W_seq (W_seq ?_)
    by_cases hlt : j < M
    · refine W_region (Om rfl rfl (Om rfl rfl ?_))
      refine Og (vl_is (b' := true) (vl_lss rfl rfl) (by simp; omega)) rfl ?_
      refine O_end [0, 1, 6, 8, 42] (F' := [(0, _), (1, _), (6, _), (8, _), (42, _)]) rfl (W_cond_true rfl (W_skipE (W_seq (W_block (W_seq ?_)))))
      by_cases h4 : j < 400
      · refine W_region (Om rfl rfl (Om rfl rfl ?_))
        refine O_go (gn rfl) (st_call bd13 rfl rfl rfl rfl (l_of _ _) ?_)
        rintro v47 w47 ⟨rfl, c47⟩
        refine O_go (gn rfl) (st_buildSlice ap48 rfl (vs := [_]) rfl (css := [_]) ⟨rfl, trivial⟩ rfl rfl (cs := [_, _, _, _]) rfl rfl ?_)
        intro b48 w48 e48 n48 c48 k48
        refine O_go (gn rfl) (st_call bd12 rfl rfl rfl rfl (((hSx.chg0 c47).chg0 c48).ins k48 (by omega)) ?_)
        rintro v49 w49 ⟨h49, hS49⟩
        rw [if_pos h4] at h49
        subst h49
        refine Oa rfl rfl (O_end [0, 1, 6, 8, 9] (F' := [(0, _), (1, _), (6, _), (8, _), (9, _)]) rfl (Sr (Om rfl rfl ?_)))
        refine O_go (gn rfl) (st_call bd11 rfl rfl rfl rfl (l_num _ _) ?_)
        rintro v51 w51 ⟨rfl, rfl⟩
        refine Og (vl_is (b' := true) (vl_ieq rfl rfl) (decide_eq_true (by omega))) rfl ?_
        refine Om rfl rfl ?_
        refine Og (vl_is (b' := true) (vl_lss rfl rfl) (by simp; omega)) rfl ?_
        refine Og (vl_bne bo4 rfl rfl) rfl ?_
        refine Om rfl rfl ?_
        refine Oy rfl rfl (vl_move rfl) rfl ?_
        refine Oy rfl rfl (vl_is (b' := false) (vl_geq rfl rfl) (by simp; omega)) rfl ?_
        refine Oy rfl rfl (vl_move rfl) rfl ?_
        refine Oz rfl rfl rfl rfl (Oz rfl rfl rfl rfl (Oz rfl rfl rfl rfl ?_))
        refine Oy rfl rfl (vl_pick_f rfl rfl) rfl ?_
        refine Of rfl rfl rfl (O_end [0, 1, 6, 8, 64] (F' := [(0, _), (1, _), (6, _), (8, _), (64, _)]) rfl (W_cond_false rfl (W_skip (block_normal (W_region (Om rfl rfl ?_))))))
        refine Og (vl_add rfl rfl (by omega)) rfl ?_
        refine Oa rfl rfl ?_
        refine O_endN [0, 1, 6, 8] (F' := [(0, _), (1, _), (6, _), (8, _)]) rfl ?_
        exact ⟨M - (j + 1), by omega, j + 1, rfl, by omega, rfl, hS49⟩
      · refine W_region (Om rfl rfl (Om rfl rfl ?_))
        refine O_go (gn rfl) (st_call bd13 rfl rfl rfl rfl (l_of _ _) ?_)
        rintro v47 w47 ⟨rfl, c47⟩
        refine O_go (gn rfl) (st_buildSlice ap48 rfl (vs := [_]) rfl (css := [_]) ⟨rfl, trivial⟩ rfl rfl (cs := [_, _, _, _]) rfl rfl ?_)
        intro b48 w48 e48 n48 c48 k48
        refine O_go (gn rfl) (st_call bd12 rfl rfl rfl rfl (((hSx.chg0 c47).chg0 c48).ins k48 (by omega)) ?_)
        rintro v49 w49 ⟨h49, hS49⟩
        rw [if_neg h4] at h49
        subst h49
        refine Oa rfl rfl (O_end [0, 1, 6, 8, 9] (F' := [(0, _), (1, _), (6, _), (8, _), (9, _)]) rfl (Sr (Om rfl rfl ?_)))
        refine O_go (gn rfl) (st_call bd11 rfl rfl rfl rfl (l_num _ _) ?_)
        rintro v51 w51 ⟨rfl, rfl⟩
        refine Og (vl_is (b' := false) (vl_ieq rfl rfl) (decide_eq_false (by omega))) rfl ?_
        refine Om rfl rfl ?_
        refine Og (vl_is (b' := false) (vl_lss rfl rfl) (by simp; omega)) rfl ?_
        refine Og (vl_bne bo4 rfl rfl) rfl ?_
        refine Om rfl rfl ?_
        refine Oy rfl rfl (vl_move rfl) rfl ?_
        refine Oy rfl rfl (vl_is (b' := true) (vl_geq rfl rfl) (by simp; omega)) rfl ?_
        refine Oy rfl rfl (vl_move rfl) rfl ?_
        refine Oy rfl rfl (vl_move rfl) rfl ?_
        refine O_go (gy rfl rfl rfl) (st_call bd11 rfl rfl rfl rfl (l_num _ _) ?_)
        rintro v61 w61 ⟨rfl, rfl⟩
        refine Oy rfl rfl (vl_is (b' := false) (vl_ine rfl rfl) (ine_f (by omega))) rfl ?_
        refine Oy rfl rfl (vl_pick_t rfl rfl) rfl ?_
        refine Of rfl rfl rfl (O_end [0, 1, 6, 8, 64] (F' := [(0, _), (1, _), (6, _), (8, _), (64, _)]) rfl (W_cond_false rfl (W_skip (block_normal (W_region (Om rfl rfl ?_))))))
        refine Og (vl_add rfl rfl (by omega)) rfl ?_
        refine Oa rfl rfl ?_
        refine O_endN [0, 1, 6, 8] (F' := [(0, _), (1, _), (6, _), (8, _)]) rfl ?_
        exact ⟨M - (j + 1), by omega, j + 1, rfl, by omega, rfl, hS49⟩
    · refine W_region (Om rfl rfl (Om rfl rfl ?_))
      refine Og (vl_is (b' := false) (vl_lss rfl rfl) (by simp; omega)) rfl ?_
      refine O_end [0, 1, 6, 8, 42] (F' := [(0, _), (1, _), (6, _), (8, _), (42, _)]) rfl (W_cond_false rfl ?_)
      refine W_exit ?_
      repeat (first | refine then_exit ?_ | refine blockF_other rfl ?_)
      refine blockF_exit _ ?_
      have : j = M := by omega
      subst this
      exact ⟨_, _, rfl, hSx⟩
  rintro F wx ⟨f8, f42, rfl, hSx⟩
  obtain ⟨q1, q2, q3⟩ := fu_rep (n := min M 400) (a := A) (by omega) (by omega)
  refine W_seq ?_
  by_cases hlt : A < min M 400
  · refine W_region (Om rfl rfl (Om rfl rfl ?_))
    refine O_go (gn rfl) (st_call bd13 rfl rfl rfl rfl (l_of _ _) ?_)
    rintro v68 w68 ⟨rfl, c68⟩
    refine O_go (gn rfl) (st_buildSlice ap48 rfl (vs := [_]) rfl (css := [_]) ⟨rfl, trivial⟩ rfl rfl (cs := [_, _, _, _]) rfl rfl ?_)
    intro b69 w69 e69 n69 c69 k69
    refine O_go (gn rfl) (st_call bd14 rfl rfl rfl rfl (((hSx.chg0 c68).chg0 c69).rep k69 (by omega) (q1 hlt)) ?_)
    rintro v70 w70 ⟨p70, z70, rows', rfl, hl70, hS70⟩
    refine Om rfl rfl (Oe rfl rfl rfl (Oe rfl rfl rfl (Oa rfl rfl (Oa rfl rfl (O_end [0, 1, 6, 10, 11] (F' := [(0, _), (1, _), (6, _), (10, _), (11, _)]) rfl (Sr (Om rfl rfl ?_)))))))
    refine Og (vl_min rfl rfl) rfl ?_
    refine Oa rfl rfl (O_end [1, 6, 10, 11, 12] (F' := [(1, _), (6, _), (10, _), (11, _), (12, _)]) rfl (W_seq (Sr (Om rfl rfl (Om rfl rfl ?_)))))
    refine Og (vl_is (b' := true) (vl_lss rfl rfl) (by simp; omega)) rfl ?_
    refine O_end [6, 10, 11, 12, 77] (F' := [(6, _), (10, _), (11, _), (12, _), (77, _)]) rfl (W_cond_true rfl (Sr (Om rfl rfl ?_)))
    refine O_go (gn rfl) (st_call bd11 rfl rfl rfl rfl (l_num _ _) ?_)
    rintro v79 w79 ⟨rfl, rfl⟩
    refine Og (vl_is (b' := true) (vl_ieq rfl rfl) (decide_eq_true (by omega))) rfl ?_
    refine Om rfl rfl ?_
    refine Oy rfl rfl (vl_move rfl) rfl ?_
    refine Oy rfl rfl (vl_len sl42 rfl) rfl ?_
    refine Oy rfl rfl (vl_is (b' := true) (vl_ieq rfl rfl) (decide_eq_true (by omega))) rfl ?_
    refine Ot rfl rfl rfl (Om rfl rfl ?_)
    refine Oy rfl rfl (vl_move rfl) rfl ?_
    refine O_go (gy rfl rfl rfl) (st_call bd15 rfl rfl rfl rfl (tt_Len hS70.tab) ?_)
    rintro v88 w88 ⟨h88, rfl⟩
    rw [hl70] at h88
    subst h88
    refine Oy rfl rfl (vl_move rfl) rfl ?_
    refine Oy rfl rfl (vl_is (b' := true) (vl_ieq rfl rfl) (by simp; omega)) rfl ?_
    refine Ot rfl rfl rfl (Om rfl rfl ?_)
    refine O_go (gy rfl rfl rfl) (st_call bd9 rfl rfl rfl rfl (l_works _ hS70.e) ?_)
    rintro v93 w93 ⟨rfl, c93⟩
    refine Ot rfl rfl rfl (Oa rfl rfl (O_end [4] (F' := [(4, _)]) rfl (W_ret ?_)))
    repeat (first | refine then_ret ?_ | refine block_ret ?_)
    refine ret1 rfl rfl ?_
    exact ⟨rfl, hS70.chg.trans c93⟩
  · by_cases h4 : min M 400 < 400
    · refine W_region (Om rfl rfl (Om rfl rfl ?_))
      refine O_go (gn rfl) (st_call bd13 rfl rfl rfl rfl (l_of _ _) ?_)
      rintro v68 w68 ⟨rfl, c68⟩
      refine O_go (gn rfl) (st_buildSlice ap48 rfl (vs := [_]) rfl (css := [_]) ⟨rfl, trivial⟩ rfl rfl (cs := [_, _, _, _]) rfl rfl ?_)
      intro b69 w69 e69 n69 c69 k69
      refine O_go (gn rfl) (st_call bd14 rfl rfl rfl rfl (((hSx.chg0 c68).chg0 c69).rep k69 (by omega) (q2 hlt h4)) ?_)
      rintro v70 w70 ⟨p70, z70, rows', rfl, hl70, hS70⟩
      refine Om rfl rfl (Oe rfl rfl rfl (Oe rfl rfl rfl (Oa rfl rfl (Oa rfl rfl (O_end [0, 1, 6, 10, 11] (F' := [(0, _), (1, _), (6, _), (10, _), (11, _)]) rfl (Sr (Om rfl rfl ?_)))))))
      refine Og (vl_min rfl rfl) rfl ?_
      refine Oa rfl rfl (O_end [1, 6, 10, 11, 12] (F' := [(1, _), (6, _), (10, _), (11, _), (12, _)]) rfl (W_seq (Sr (Om rfl rfl (Om rfl rfl ?_)))))
      refine Og (vl_is (b' := false) (vl_lss rfl rfl) (by simp; omega)) rfl ?_
      refine O_end [6, 10, 11, 12, 77] (F' := [(6, _), (10, _), (11, _), (12, _), (77, _)]) rfl (W_cond_false rfl (W_skipE (Sr (Om rfl rfl ?_))))
      refine O_go (gn rfl) (st_call bd11 rfl rfl rfl rfl (l_num _ _) ?_)
      rintro v96 w96 ⟨rfl, rfl⟩
      refine Og (vl_is (b' := true) (vl_ieq rfl rfl) (decide_eq_true (by omega))) rfl ?_
      refine Om rfl rfl ?_
      refine Og (vl_is (b' := true) (vl_lss rfl rfl) (by simp; omega)) rfl ?_
      refine Og (vl_is (b' := true) (vl_beq bo4 rfl rfl) rfl) rfl ?_
      refine Om rfl rfl ?_
      refine Oy rfl rfl (vl_move rfl) rfl ?_
      refine Oy rfl rfl (vl_is (b' := true) (vl_lss rfl rfl) (by simp; omega)) rfl ?_
      refine Oy rfl rfl (vl_move rfl) rfl ?_
      refine Oz rfl rfl rfl rfl (Oz rfl rfl rfl rfl (Oz rfl rfl rfl rfl ?_))
      refine Oy rfl rfl (vl_pick_t rfl rfl) rfl ?_
      refine Ot rfl rfl rfl (Om rfl rfl ?_)
      refine Oy rfl rfl (vl_move rfl) rfl ?_
      refine Oy rfl rfl (vl_len sl42 rfl) rfl ?_
      refine Oy rfl rfl (vl_is (b' := true) (vl_ieq rfl rfl) (decide_eq_true (by omega))) rfl ?_
      refine Ot rfl rfl rfl (Om rfl rfl ?_)
      refine Oy rfl rfl (vl_move rfl) rfl ?_
      refine O_go (gy rfl rfl rfl) (st_call bd15 rfl rfl rfl rfl (tt_Len hS70.tab) ?_)
      rintro v117 w117 ⟨h117, rfl⟩
      rw [hl70] at h117
      subst h117
      refine Oy rfl rfl (vl_move rfl) rfl ?_
      refine Oy rfl rfl (vl_add rfl rfl (by omega)) rfl ?_
      refine Oy rfl rfl (vl_min rfl rfl) rfl ?_
      refine Oy rfl rfl (vl_is (b' := true) (vl_ieq rfl rfl) (by simp; omega)) rfl ?_
      refine Ot rfl rfl rfl (Om rfl rfl ?_)
      refine O_go (gy rfl rfl rfl) (st_call bd9 rfl rfl rfl rfl (l_works _ hS70.e) ?_)
      rintro v124 w124 ⟨rfl, c124⟩
      refine Ot rfl rfl rfl (Oa rfl rfl (O_end [4] (F' := [(4, _)]) rfl (W_ret ?_)))
      refine ret1 rfl rfl ?_
      exact ⟨rfl, hS70.chg.trans c124⟩
    · refine W_region (Om rfl rfl (Om rfl rfl ?_))
      refine O_go (gn rfl) (st_call bd13 rfl rfl rfl rfl (l_of _ _) ?_)
      rintro v68 w68 ⟨rfl, c68⟩
      refine O_go (gn rfl) (st_buildSlice ap48 rfl (vs := [_]) rfl (css := [_]) ⟨rfl, trivial⟩ rfl rfl (cs := [_, _, _, _]) rfl rfl ?_)
      intro b69 w69 e69 n69 c69 k69
      refine O_go (gn rfl) (st_call bd14 rfl rfl rfl rfl (((hSx.chg0 c68).chg0 c69).rep k69 (by omega) (q3 hlt h4)) ?_)
      rintro v70 w70 ⟨p70, z70, rows', rfl, hl70, hS70⟩
      refine Om rfl rfl (Oe rfl rfl rfl (Oe rfl rfl rfl (Oa rfl rfl (Oa rfl rfl (O_end [0, 1, 6, 10, 11] (F' := [(0, _), (1, _), (6, _), (10, _), (11, _)]) rfl (Sr (Om rfl rfl ?_)))))))
      refine Og (vl_min rfl rfl) rfl ?_
      refine Oa rfl rfl (O_end [1, 6, 10, 11, 12] (F' := [(1, _), (6, _), (10, _), (11, _), (12, _)]) rfl (W_seq (Sr (Om rfl rfl (Om rfl rfl ?_)))))
      refine Og (vl_is (b' := false) (vl_lss rfl rfl) (by simp; omega)) rfl ?_
      refine O_end [6, 10, 11, 12, 77] (F' := [(6, _), (10, _), (11, _), (12, _), (77, _)]) rfl (W_cond_false rfl (W_skipE (Sr (Om rfl rfl ?_))))
      refine O_go (gn rfl) (st_call bd11 rfl rfl rfl rfl (l_num _ _) ?_)
      rintro v96 w96 ⟨rfl, rfl⟩
      refine Og (vl_is (b' := false) (vl_ieq rfl rfl) (decide_eq_false (by omega))) rfl ?_
      refine Om rfl rfl ?_
      refine Og (vl_is (b' := false) (vl_lss rfl rfl) (by simp; omega)) rfl ?_
      refine Og (vl_is (b' := true) (vl_beq bo4 rfl rfl) rfl) rfl ?_
      refine Om rfl rfl ?_
      refine Oy rfl rfl (vl_move rfl) rfl ?_
      refine Oy rfl rfl (vl_is (b' := false) (vl_lss rfl rfl) (by simp; omega)) rfl ?_
      refine Oy rfl rfl (vl_move rfl) rfl ?_
      refine Oy rfl rfl (vl_move rfl) rfl ?_
      refine O_go (gy rfl rfl rfl) (st_call bd11 rfl rfl rfl rfl (l_num _ _) ?_)
      rintro v106 w106 ⟨rfl, rfl⟩
      refine Oy rfl rfl (vl_is (b' := true) (vl_ieq rfl rfl) (decide_eq_true (by omega))) rfl ?_
      refine Oy rfl rfl (vl_pick_f rfl rfl) rfl ?_
      refine Ot rfl rfl rfl (Om rfl rfl ?_)
      refine Oy rfl rfl (vl_move rfl) rfl ?_
      refine Oy rfl rfl (vl_len sl42 rfl) rfl ?_
      refine Oy rfl rfl (vl_is (b' := true) (vl_ieq rfl rfl) (decide_eq_true (by omega))) rfl ?_
      refine Ot rfl rfl rfl (Om rfl rfl ?_)
      refine Oy rfl rfl (vl_move rfl) rfl ?_
      refine O_go (gy rfl rfl rfl) (st_call bd15 rfl rfl rfl rfl (tt_Len hS70.tab) ?_)
      rintro v117 w117 ⟨h117, rfl⟩
      rw [hl70] at h117
      subst h117
      refine Oy rfl rfl (vl_move rfl) rfl ?_
      refine Oy rfl rfl (vl_add rfl rfl (by omega)) rfl ?_
      refine Oy rfl rfl (vl_min rfl rfl) rfl ?_
      refine Oy rfl rfl (vl_is (b' := true) (vl_ieq rfl rfl) (by simp; omega)) rfl ?_
      refine Ot rfl rfl rfl (Om rfl rfl ?_)
      refine O_go (gy rfl rfl rfl) (st_call bd9 rfl rfl rfl rfl (l_works _ hS70.e) ?_)
      rintro v124 w124 ⟨rfl, c124⟩
      refine Ot rfl rfl rfl (Oa rfl rfl (O_end [4] (F' := [(4, _)]) rfl (W_ret ?_)))
      refine ret1 rfl rfl ?_
      exact ⟨rfl, hS70.chg.trans c124⟩
end Go.Wk

namespace Go.Wk
open Go.Proofs
set_option maxRecDepth 10000

theorem fnSeq : fnOf Tryz.prog 68 = true := by kernel_rfl
theorem l_None (x : ActV) (a : ActT) (w : World) (hE : EOk w) (hx : IsAct w x a) : Ret Tryz.prog 8 #[.agg x.cs.toArray] w fun r w' => r = .bool true ∧ Chg [] w w' := by
  refine Ret.of_WM (args := [_]) Tryz.func8 rfl rfl rfl rfl ?_

  refine Sr ?_
  refine O_go (gn rfl) (st_box rfl rfl rfl ?_)
  intro b1 w1 e1 n1 c1 k1
  refine O_go (gn rfl) (st_alloc zr4 rfl rfl ?_)
  intro b2 w2 e2 n2 c2 k2
  refine O_end [1, 2] (F' := [(1, _), (2, _)]) rfl ?_
  have k1 : Blk w2 b1 50 x.cs := k1.chg0 c2
  have hc2 : Chg [] w w2 := c1.trans c2
  have hx2 := hx.chg0 hc2
  have hne : b1 ≠ b2 := by have := k1.lt; have := k2.lt; omega
  refine W_seq (Sr ?_)
  refine Og (vl_loadAgg ag50 sz50 rfl rfl (Cells.of_blk0 k1)) rfl ?_
  refine O_go (gn rfl) (st_buildSlice ap47 rfl (vs := [_]) rfl (css := [_]) ⟨rfl, trivial⟩ rfl rfl (cs := [_, _, _, _]) rfl rfl ?_)
  intro b20 w20 e20 n20 c20 k20
  refine O_go (gn rfl) (st_call bd18 rfl rfl rfl rfl (l_short _ [a] 1 _ ⟨[x], IsSl.of_blk (n := 1) k20 rfl (by simp [maxLen]) (by intro u hu; exact ActV.one hx u (by simpa [fl] using hu)), hx2.chg0 c20, trivial⟩ (by decide)) ?_)
  rintro v21 w21 ⟨⟨bb, rfl, hb⟩, rfl⟩
  refine Og (vl_not rfl) rfl (O_end [1, 2, 22] (F' := [(1, _), (2, _), (22, _)]) rfl ?_)
  have hc20 : Chg [] w w21 := hc2.trans c20
  refine W_cond rfl (fun hT => ?_) (fun hF => ?_)
  · refine Sr ?_
    refine O_go (gn rfl) (st_call bd9 rfl rfl rfl rfl (l_works _ (hE.chg0 hc20)) ?_)
    rintro v23 w23 ⟨rfl, c23⟩
    refine O_go (gn rfl) (st_store sz4 rfl rfl rfl rfl ((k2.chg0 c20).chg0 c23) (by simp) (by intro u hu; simp at hu; subst hu; rfl) ?_)
    intro wF nF cF kF
    refine O_end [2] (F' := [(2, _)]) rfl (W_ret ?_)
    refine then_ret ?_
    refine retM0 rfl ag4 rfl (kF.cell' rfl) ?_
    exact ⟨rfl, (hc20.trans c23).own cF (by intro y hy; have := c1.size; simp at hy; omega)⟩
  refine W_skipE ?_
  have hx20 := hx2.chg0 c20
  obtain ⟨xw, xa, xr, xk⟩ := x
  have hE20 := hE.chg0 hc20
  have k1 := k1.chg0 c20
  have k2 := k2.chg0 c20
  refine Sr (Oa rfl rfl (O_end [1, 2, 3] (F' := [(1, _), (2, _), (3, _)]) rfl (Sr (Om rfl rfl (Og (vl_fieldAddr fo50_2 rfl) rfl ?_)))))
  refine Og (vl_load ag48 rfl (k1.cell' (i := 2) rfl)) rfl ?_
  refine O_go (gn rfl) (st_call bd38 rfl rfl rfl rfl (t_Ignore0 _ _ hE20) ?_)
  rintro v28 w28 ⟨rfl, c28⟩
  refine Om rfl rfl (Oe rfl rfl rfl (Oe rfl rfl rfl (Oa rfl rfl (Oa rfl rfl (O_end [1, 2, 3, 5] (F' := [(1, _), (2, _), (3, _), (5, _)]) rfl (Sr (Om rfl rfl (Og (vl_fieldAddr fo50_2 rfl) rfl ?_))))))))
  refine Og (vl_load ag48 rfl ((k1.chg0 c28).cell' (i := 2) rfl)) rfl ?_
  refine O_go (gn rfl) (st_call bd14 rfl rfl rfl rfl (t_Replace0 _ _ (hE20.chg0 c28)) ?_)
  rintro v35 w35 ⟨rfl, c35⟩
  refine Om rfl rfl (Oe rfl rfl rfl (Oe rfl rfl rfl (Oa rfl rfl (Oa rfl rfl (O_end [1, 2, 3, 5, 7] (F' := [(1, _), (2, _), (3, _), (5, _), (7, _)]) rfl ?_)))))
  have c35 := c28.trans c35
  refine Sr (Om rfl rfl (Og (vl_fieldAddr fo50_3 rfl) rfl ?_))
  refine Og (vl_load ag9 rfl ((k1.chg0 c35).cell' (i := 3) rfl)) rfl ?_
  refine Og (vl_fieldAddr fo50_2 rfl) rfl ?_
  refine Og (vl_load ag48 rfl ((k1.chg0 c35).cell' (i := 2) rfl)) rfl ?_
  refine O_go (gn rfl) (st_call bd39 rfl rfl rfl rfl (t_Update0 _ _ _ (hE20.chg0 c35)) ?_)
  rintro v44 w44 ⟨rfl, c44⟩
  refine Om rfl rfl (Oe rfl rfl rfl (Oe rfl rfl rfl (Oa rfl rfl (Oa rfl rfl (O_end [1, 2, 3, 5, 7, 9] (F' := [(1, _), (2, _), (3, _), (5, _), (7, _), (9, _)]) rfl ?_)))))
  have c44 := c35.trans c44
  refine Sr (Om rfl rfl (Og (vl_fieldAddr fo50_3 rfl) rfl ?_))
  refine Og (vl_load ag9 rfl ((k1.chg0 c44).cell' (i := 3) rfl)) rfl ?_
  refine O_go (gn rfl) (st_call bd40 rfl rfl rfl rfl (t_Delete0 _ _) ?_)
  rintro v51 w51 ⟨rfl, rfl⟩
  refine Om rfl rfl (Oe rfl rfl rfl (Oe rfl rfl rfl (Oa rfl rfl (Oa rfl rfl (O_end [1, 2, 3, 5, 7, 9, 11] (F' := [(1, _), (2, _), (3, _), (5, _), (7, _), (9, _), (11, _)]) rfl (Sr (Om rfl rfl (Og (vl_fieldAddr fo50_2 rfl) rfl ?_))))))))
  refine Og (vl_load ag48 rfl ((k1.chg0 c44).cell' (i := 2) rfl)) rfl ?_
  refine O_go (gn rfl) (st_call bd20 rfl rfl rfl rfl (t_Key0 _ _ (hE20.chg0 c44)) ?_)
  rintro v58 w58 ⟨rfl, c58⟩
  refine Om rfl rfl (Oe rfl rfl rfl (Oe rfl rfl rfl (Oa rfl rfl (Oa rfl rfl (O_end [1, 2, 3, 5, 7, 9, 11, 13] (F' := [(1, _), (2, _), (3, _), (5, _), (7, _), (9, _), (11, _), (13, _)]) rfl ?_)))))
  have c58 := c44.trans c58
  refine Sr (Om rfl rfl (Og (vl_fieldAddr fo50_3 rfl) rfl ?_))
  refine Og (vl_load ag9 rfl ((k1.chg0 c58).cell' (i := 3) rfl)) rfl ?_
  refine O_go (gn rfl) (st_call bd23 rfl rfl rfl rfl (t_Get0 _ _) ?_)
  rintro v65 w65 ⟨rfl, rfl⟩
  refine Om rfl rfl (Oe rfl rfl rfl (Oe rfl rfl rfl (Oa rfl rfl (Oa rfl rfl (O_end [1, 2, 3, 5, 7, 9, 11, 13, 15] (F' := [(1, _), (2, _), (3, _), (5, _), (7, _), (9, _), (11, _), (13, _), (15, _)]) rfl (Sr (Om rfl rfl (Og (vl_fieldAddr fo50_1 rfl) rfl ?_))))))))
  refine Og (vl_load ag3 rfl ((k1.chg0 c58).cell' (i := 1) rfl)) rfl ?_
  refine Og (vl_fieldAddr fo50_2 rfl) rfl ?_
  refine Og (vl_load ag48 rfl ((k1.chg0 c58).cell' (i := 2) rfl)) rfl ?_
  refine O_go (gn rfl) (st_call bd31 rfl rfl rfl rfl (t_Find0 _ _ _) ?_)
  rintro v74 w74 ⟨rfl, rfl⟩
  refine Om rfl rfl (Oe rfl rfl rfl (Oe rfl rfl rfl (Oa rfl rfl (Oa rfl rfl (O_end [1, 2, 3, 5, 7, 9, 11, 13, 15, 17] (F' := [(1, _), (2, _), (3, _), (5, _), (7, _), (9, _), (11, _), (13, _), (15, _), (17, _)]) rfl (Sr (Om rfl rfl (Og (vl_fieldAddr fo50_3 rfl) rfl ?_))))))))
  refine Og (vl_load ag9 rfl ((k1.chg0 c58).cell' (i := 3) rfl)) rfl ?_
  refine O_go (gn rfl) (st_call bd27 rfl rfl rfl rfl (t_Rows0 _ _) ?_)
  rintro v80 w80 ⟨q5, q3, rfl, kq5, c80⟩
  refine Oa rfl rfl (O_end [1, 2, 3, 5, 7, 9, 11, 13, 15, 17, 18] (F' := [(1, _), (2, _), (3, _), (5, _), (7, _), (9, _), (11, _), (13, _), (15, _), (17, _), (18, _)]) rfl ?_)
  have c80 := c58.trans c80
  refine W_seq (Sr (Om rfl rfl ?_))
  refine Og (vl_fnil fnSeq rfl rfl) rfl ?_
  refine O_end [1, 2, 3, 5, 7, 9, 11, 13, 15, 17, 18, 82] (F' := [(1, _), (2, _), (3, _), (5, _), (7, _), (9, _), (11, _), (13, _), (15, _), (17, _), (18, _), (82, _)]) rfl (W_cond_false rfl (W_skipE (W_seq (Sr (Om rfl rfl (O_end [1, 2, 3, 5, 7, 9, 11, 13, 15, 17, 83] (F' := [(1, _), (2, _), (3, _), (5, _), (7, _), (9, _), (11, _), (13, _), (15, _), (17, _), (83, _)]) rfl ?_))))))
  refine W_block ?_
  refine W_range_none (gf := 67) (lb := [.pointer (some ⟨q5, 0, none⟩), .pointer (some ⟨q3, 0, none⟩)]) rfl bd67 (fun l wy hy => t_seq0 l q5 q3 wy (kq5.chg0 hy)) ?_
  intro D wD hD cD hK
  refine block_normal ?_
  have cD := c80.trans cD
  have hED := hE20.chg0 cD
  have k2D := k2.chg0 cD
  refine Sr (Om rfl rfl (Og (vl_fieldAddr fo50_2 rfl) rfl ?_))
  refine Og (vl_load ag48 rfl ((k1.chg0 cD).cell' (i := 2) rfl)) rfl ?_
  refine O_go (gn rfl) (st_call bd12 rfl rfl rfl rfl (t_Insert0 _ _ hED) ?_)
  rintro v89 w89 ⟨rfl, c89⟩
  refine O_go (gn rfl) (st_call bd11 rfl rfl rfl rfl (l_num _ _) ?_)
  rintro v90 w90 ⟨rfl, rfl⟩
  refine Og (vl_is (b' := true) (vl_ieq rfl rfl) (decide_eq_true (by omega))) rfl ?_
  refine Om rfl rfl ?_
  refine Oy rfl rfl (vl_move rfl) rfl ?_
  refine O_go (gy rfl rfl rfl) (st_call bd11 rfl rfl rfl rfl (l_num _ _) ?_)
  rintro v94 w94 ⟨rfl, rfl⟩
  refine Oy rfl rfl (vl_is (b' := true) (vl_ieq rfl rfl) (decide_eq_true (by omega))) rfl ?_
  refine Ot rfl rfl rfl (Om rfl rfl ?_)
  refine Oy rfl rfl (vl_move rfl) rfl ?_
  refine O_go (gy rfl rfl rfl) (st_call bd11 rfl rfl rfl rfl (l_num _ _) ?_)
  rintro v99 w99 ⟨rfl, rfl⟩
  refine Oy rfl rfl (vl_is (b' := true) (vl_ieq rfl rfl) (decide_eq_true (by omega))) rfl ?_
  refine Ot rfl rfl rfl (Om rfl rfl ?_)
  refine Oy rfl rfl (vl_move rfl) rfl ?_
  refine O_go (gy rfl rfl rfl) (st_call bd11 rfl rfl rfl rfl (l_num _ _) ?_)
  rintro v104 w104 ⟨rfl, rfl⟩
  refine Oy rfl rfl (vl_is (b' := true) (vl_ieq rfl rfl) (decide_eq_true (by omega))) rfl ?_
  refine Ot rfl rfl rfl (Om rfl rfl ?_)
  refine Oy rfl rfl (vl_move rfl) rfl ?_
  refine O_go (gy rfl rfl rfl) (st_call bd11 rfl rfl rfl rfl (l_num _ _) ?_)
  rintro v109 w109 ⟨rfl, rfl⟩
  refine Oy rfl rfl (vl_is (b' := true) (vl_ieq rfl rfl) (decide_eq_true (by omega))) rfl ?_
  refine Ot rfl rfl rfl (Om rfl rfl ?_)
  refine Oy rfl rfl (vl_move rfl) rfl ?_
  refine O_go (gy rfl rfl rfl) (st_call bd11 rfl rfl rfl rfl (l_num _ _) ?_)
  rintro v114 w114 ⟨rfl, rfl⟩
  refine Oy rfl rfl (vl_is (b' := true) (vl_ieq rfl rfl) (decide_eq_true (by omega))) rfl ?_
  refine Ot rfl rfl rfl (Om rfl rfl ?_)
  refine Oy rfl rfl (vl_move rfl) rfl ?_
  refine Oy rfl rfl (vl_not rfl) rfl ?_
  refine Ot rfl rfl rfl (Om rfl rfl ?_)
  refine Oy rfl rfl (vl_move rfl) rfl ?_
  refine Oy rfl rfl (vl_not rfl) rfl ?_
  refine Ot rfl rfl rfl (Om rfl rfl ?_)
  refine Oy rfl rfl (vl_move rfl) rfl ?_
  refine O_go (gy rfl rfl rfl) (st_call bd15 rfl rfl rfl rfl (t_Len0 _) ?_)
  rintro v127 w127 ⟨rfl, rfl⟩
  refine Oy rfl rfl (vl_is (b' := true) (vl_ieq rfl rfl) (decide_eq_true (by omega))) rfl ?_
  refine Ot rfl rfl rfl (Om rfl rfl ?_)
  refine Oy rfl rfl (vl_move rfl) rfl ?_
  refine O_go (gy rfl rfl rfl) (st_call bd34 rfl rfl rfl rfl (t_Schema0 _) ?_)
  rintro v132 w132 ⟨rfl, c132⟩
  refine Oy rfl rfl (vl_field1 fp30_0 rfl rfl) rfl ?_
  refine Oy rfl rfl (vl_len sl26 rfl) rfl ?_
  refine Oy rfl rfl (vl_is (b' := true) (vl_ieq rfl rfl) (decide_eq_true (by omega))) rfl ?_
  refine Ot rfl rfl rfl (Om rfl rfl ?_)
  refine Oy rfl rfl (vl_move rfl) rfl ?_
  refine O_go (gy rfl rfl rfl) (st_call bd35 rfl rfl rfl rfl (t_Copy0 _) ?_)
  rintro v139 w139 ⟨rfl, rfl⟩
  refine Oy rfl rfl (vl_pnil pt31 rfl rfl) rfl ?_
  refine Ot rfl rfl rfl (Om rfl rfl ?_)
  refine Oy rfl rfl (vl_move rfl) rfl ?_
  refine O_go (gy rfl rfl rfl) (st_call bd37 rfl rfl rfl rfl (t_Same00 _) ?_)
  rintro v144 w144 ⟨rfl, c144⟩
  refine Ot rfl rfl rfl (Om rfl rfl ?_)
  refine O_go (gy rfl rfl rfl) (st_call bd9 rfl rfl rfl rfl (l_works _ (((hED.chg0 c89).chg0 c132).chg0 c144)) ?_)
  rintro v147 w147 ⟨rfl, c147⟩
  refine Ot rfl rfl rfl ?_
  refine O_go (gn rfl) (st_store sz4 rfl rfl rfl rfl ((((k2D.chg0 c89).chg0 c132).chg0 c144).chg0 c147) (by simp) (by intro u hu; simp at hu; subst hu; rfl) ?_)
  intro wF nF cF kF
  refine O_end [2] (F' := [(2, _), (1000000, _)]) rfl (W_ret ?_)
  have hD2 : b2 < D := by have := k2.lt; have := c80.size; omega
  have hDl : D < wD.heap.size := (Array.getElem?_eq_some_iff.1 hK).1
  have hc147 := ((c89.trans c132).trans c144).trans c147
  have hs147 := hc147.block D hDl (by simp)
  refine retM1 (v := .bool true) rfl ag4 rfl rfl (D := D) ?_ ?_
  · have := cF.block D (by have := hc147.size; omega) (by simp; omega)
    rw [this, hs147]; exact hK
  · intro wE cE
    refine ⟨(kF.chg cE (by simp; omega)).cell' rfl, rfl, ?_⟩
    have h1 : Chg [] w wF := ((hc20.trans cD).trans hc147).own cF (by intro y hy; have := c1.size; simp at hy; omega)
    exact h1.own cE (by intro y hy; have := hc20.size; have := c80.size; simp at hy; omega)
end Go.Wk

namespace Go.Proofs.YtcnkdoecfljnlaaGreatDoor
open Go.ChangeShapes Go.WideShapes Go.ChangeAt Go.RowKit Go.Deep

set_option maxRecDepth 100000

theorem ownT : ownKnob Tryz.prog.godebug = none := by kernel_rfl
theorem laidOutT : laidOutB Tryz.prog = true := by kernel_rfl
abbrev laid4 : List (String × DataW Unit) := [("math/bits.deBruijn32tab", Rows.laid_math_bits_deBruijn32tab), ("math/bits.deBruijn64tab", Rows.laid_math_bits_deBruijn64tab), ("internal/strconv.uint64pow10", Rows.laid_internal_strconv_uint64pow10), ("errors.errorType", Rows.laid_errors_errorType)]
theorem etT : Tryz.prog.globalNamed "errors.errorType" = some 0 := by kernel_rfl
theorem rtT : (Tryz.prog.cutTypes.find? (·.1 == "internal/reflectlite.rtype")).map (·.2) = some 247 := by kernel_rfl
theorem sizeT : Tryz.prog.types.size = 403 := by kernel_rfl
theorem oneRowT : ((List.range 403).filter fun t => Tryz.prog.rowNamed t [101, 114, 114, 111, 114]) = [106] := by kernel_rfl
theorem door_met (os : Os) (args : Array Value) : laidMetH Tryz.prog laid4 ((World.doorLaid Tryz.prog 31 os).forCall (fun _ _ => 0) ⟨#[], args, []⟩).memory :=
  laidMetH_of_parts3 (fuel := 8) (laidMet_of_run' 8 (by kernel_rfl) (by kernel_rfl)) (by kernel_rfl) (by kernel_rfl)
theorem eok_of_laid {W : World} (h : laidMetH Tryz.prog laid4 W) : Wk.EOk W := by
  have h' : laidMet Tryz.prog (laid4.filter fun x => x.2.handleName?.isNone) W ∧ handlesMet Tryz.prog [("errors.errorType", Rows.laid_errors_errorType)] W := h
  obtain ⟨name, u, ty, e1, e2, e3, e4, e5⟩ := h'.2 _ (List.mem_singleton.2 rfl)
  have en : name = [101, 114, 114, 111, 114] := (Option.some.inj e1).symm
  subst en
  obtain rfl := Option.some.inj (rtT.symm.trans e2)
  have hm : ty ∈ (List.range 403).filter fun t => Tryz.prog.rowNamed t [101, 114, 114, 111, 114] := List.mem_filter.2 ⟨List.mem_range.2 (by rw [← sizeT]; exact e3), e4⟩
  rw [oneRowT] at hm
  obtain rfl := List.mem_singleton.1 hm
  have hh : typeHandle Tryz.prog 106 = Wk.hnd 106 := by kernel_rfl
  rw [hh] at e5
  have h0 := World.var?_cell etT e5 0
  have h1 : W.cell? ⟨0, 0, none⟩ = some (Value.iface 247 (Value.agg #[Wk.hnd 106])) := by simpa using h0
  exact h1
end Go.Proofs.YtcnkdoecfljnlaaGreatDoor
