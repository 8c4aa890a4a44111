/-
  Rows' bytes tell the row.
  Layer table: Same.
  Layer table: Same, walked.
  Layer table: what is told of none.
  The document's answers, layer 1: are values the same?
  Calls that only read, told of a table; what a turn that keeps the cells keeps of a table.
  The law's own small functions; the chapter's rows, reckoned.
  The law: the chapter's rows hold.
  Table full: rows of one number each, in plain words.
-/
import Derived.Test.YtcnkdoecfljnlaaGreatDoorQ13
set_option linter.all false
namespace Go.Wk
set_option maxRecDepth 10000

theorem append_same {α : Type} {a b c d : List α} (h : a ++ c = b ++ d) (hl : a.length = b.length) : a = b ∧ c = d := List.append_inj h hl
theorem be_same {n m k : Nat} (h : be n k = be m k) : n % 256 ^ k = m % 256 ^ k := by rw [← rd_be, h, rd_be]
theorem numB_inj {n m : Nat} {a b : List UInt8} (hn : n < 18446744073709551616) (hm : m < 18446744073709551616) (h : numB n ++ a = numB m ++ b) : n = m ∧ a = b := by
  have h1 := needN_le n
  have h2 := needN_le m
  simp only [numB, List.cons_append, List.cons.injEq] at h
  have e : needN n = needN m := by
    have := congrArg UInt8.toNat h.1
    simp only [UInt8.toNat_ofNat'] at this
    omega
  rw [e] at h
  obtain ⟨h3, h4⟩ := append_same h.2 (by rw [be_len, be_len])
  refine ⟨?_, h4⟩
  have h5 := congrArg rdN h3
  rw [rd_be_need hm] at h5
  rw [← h5, ← e, rd_be_need hn]
theorem textB_inj {s u : ByteArray} {a b : List UInt8} (hs : s.size ≤ 200) (hu : u.size ≤ 200) (h : textB s ++ a = textB u ++ b) : s = u ∧ a = b := by
  simp only [textB, List.append_assoc] at h
  obtain ⟨h1, h2⟩ := numB_inj (by omega) (by omega) h
  obtain ⟨h3, h4⟩ := append_same h2 (by simp [h1])
  exact ⟨by cases s; cases u; simp at h3; rw [h3], h4⟩
theorem encV_inj {c : Col} {x y : Val} {a b : List UInt8} (hx : fitsN c x = 0) (hy : fitsN c y = 0) (gx : x.Rng) (gy : y.Rng) (h : encV c x ++ a = encV c y ++ b) : x = y ∧ a = b := by
  obtain ⟨hr, hcx, _, hx2⟩ := fits_parts hx
  obtain ⟨_, hcy, _, hy2⟩ := fits_parts hy
  obtain ⟨fx, bx⟩ := chk_ok hcx
  obtain ⟨fy, by'⟩ := chk_ok hcy
  obtain ⟨kx, ex, mx⟩ := fine_parts fx
  obtain ⟨ky, ey, my⟩ := fine_parts fy
  obtain ⟨s1, s2, s3, s4⟩ := right_size hr
  have hux := gx.u
  have huy := gy.u
  obtain ⟨xk, xi, xu, xb⟩ := x
  obtain ⟨yk, yi, yu, yb⟩ := y
  simp only [bareN, Val.mk.injEq, true_and] at ex ey
  simp only at *
  unfold encV at h
  by_cases h1 : xk = 0
  · by_cases h2 : yk = 0
    · subst h1 h2
      simp at h ex ey
      obtain ⟨rfl, rfl, rfl⟩ := ex
      obtain ⟨rfl, rfl, rfl⟩ := ey
      exact ⟨rfl, h⟩
    · subst h1
      simp [h2] at h
  · by_cases h2 : yk = 0
    · subst h2
      simp [h1] at h
    · rw [if_neg h1, if_neg h2] at h
      simp only [List.cons_append, List.cons.injEq, true_and] at h
      obtain ⟨tx, wx⟩ := hx2 h1
      obtain ⟨ty, wy⟩ := hy2 h2
      subst tx
      have ty := ty.symm
      subst ty
      unfold layV at h
      simp only [wideN] at wx wy
      rcases s4 with e | e | e | e <;> simp only [e, ↓reduceIte, Int.reduceEq, decide_eq_false_iff_not, true_or, or_true, or_self, or_false, false_or] at h wx wy ex ey
      · obtain ⟨-, rfl, rfl⟩ := ex
        obtain ⟨-, rfl, rfl⟩ := ey
        obtain ⟨h3, h4⟩ := append_same h (by rw [be_len, be_len])
        have hz := s1 (.inl e)
        obtain ⟨z, hz1, hz2⟩ : ∃ z : Nat, c.s = z ∧ (z = 1 ∨ z = 2 ∨ z = 4 ∨ z = 8) := ⟨c.s.toNat, by omega, by omega⟩
        rw [hz1] at h3 wx wy
        have e1 := int_back (i := xi) hz2 (by simp only [leastN, Int.toNat_natCast] at wx; omega)
        have e2 := int_back (i := yi) hz2 (by simp only [leastN, Int.toNat_natCast] at wy; omega)
        have e3 := be_same h3
        rw [Int.toNat_natCast] at e3
        rw [e3, e2] at e1
        subst e1
        exact ⟨rfl, h4⟩
      · obtain ⟨rfl, -, rfl⟩ := ex
        obtain ⟨rfl, -, rfl⟩ := ey
        obtain ⟨h3, h4⟩ := append_same h (by rw [be_len, be_len])
        have hz := s1 (.inr e)
        obtain ⟨z, hz1, hz2⟩ : ∃ z : Nat, c.s = z ∧ (z = 1 ∨ z = 2 ∨ z = 4 ∨ z = 8) := ⟨c.s.toNat, by omega, by omega⟩
        rw [hz1] at h3 wx wy
        have e3 := be_same h3
        have e4 : xu = yu := by
          rcases hz2 with rfl | rfl | rfl | rfl <;> simp only [Int.toNat_natCast, Nat.reduceMul, Nat.reducePow, Int.reducePow, Int.not_le] at wx wy e3 <;> omega
        subst e4
        exact ⟨rfl, h4⟩
      · obtain ⟨-, rfl, rfl⟩ := ex
        obtain ⟨-, rfl, rfl⟩ := ey
        have m1 := mx e
        have m2 := my e
        simp only [List.cons_append, List.nil_append, List.cons.injEq] at h
        have : xi = yi := by
          rcases m1 with rfl | rfl <;> rcases m2 with rfl | rfl
          · rfl
          · exact absurd h.1 (by decide)
          · exact absurd h.1 (by decide)
          · rfl
        subst this
        exact ⟨rfl, h.2⟩
      · obtain ⟨rfl, rfl, -⟩ := ex
        obtain ⟨rfl, rfl, -⟩ := ey
        obtain ⟨h3, h4⟩ := textB_inj bx by' h
        subst h3
        exact ⟨rfl, h4⟩
theorem encR_inj : ∀ {cs : List Col} {xs ys : List Val}, fitsL cs xs = 0 → fitsL cs ys = 0 → xs.length = cs.length → ys.length = cs.length → (∀ x ∈ xs, x.Rng) → (∀ y ∈ ys, y.Rng) → encR cs xs = encR cs ys → xs = ys
  | [], [], [], _, _, _, _, _, _, _ => rfl
  | [], _ :: _, _, _, _, h, _, _, _, _ => by simp at h
  | [], [], _ :: _, _, _, _, h, _, _, _ => by simp at h
  | _ :: _, [], _, _, _, h, _, _, _, _ => by simp at h
  | _ :: _, _ :: _, [], _, _, _, h, _, _, _ => by simp at h
  | c :: cs, x :: xs, y :: ys, hx, hy, lx, ly, gx, gy, h => by
    unfold fitsL at hx hy
    by_cases h1 : fitsN c x = 0
    · by_cases h2 : fitsN c y = 0
      · rw [if_neg (by simp [h1])] at hx
        rw [if_neg (by simp [h2])] at hy
        obtain ⟨e1, e2⟩ := encV_inj h1 h2 (gx x (by simp)) (gy y (by simp)) h
        rw [e1, encR_inj hx hy (by simpa using lx) (by simpa using ly) (fun z hz => gx z (by simp [hz])) (fun z hz => gy z (by simp [hz])) e2]
      · rw [if_pos h2] at hy; exact absurd hy h2
    · rw [if_pos h1] at hx; exact absurd hx h1
theorem encS_inj {s : Sch} {a b : List Val} (ha : rowN s a = 0) (hb : rowN s b = 0) (ga : ∀ x ∈ a, x.Rng) (gb : ∀ x ∈ b, x.Rng) (h : encS s a = encS s b) : a = b := by
  obtain ⟨_, l1, f1⟩ := rowN_ok ha
  obtain ⟨_, l2, f2⟩ := rowN_ok hb
  refine encR_inj f1 f2 l1 l2 ga gb ?_
  have := congrArg (fun b : ByteArray => b.data.toList) h
  simpa [encS] using this
end Go.Wk

namespace Go.Wk
open Go.Proofs
set_option maxRecDepth 10000

/-- What two tables' pages tell of their rows. -/
theorem same_rows {s : Sch} {r1 r2 : List (List Val)} {m1 m2 : List (List Ent)} {s1 s2 : List (List (List Ent))} (h1 : Tells s r1 m1 s1) (h2 : Tells s r2 m2 s2) : r1 = r2 ↔ r1.length = r2.length ∧ ∀ x ∈ m1.flatten, getP m2 x.1 = some x.2 := by
  constructor
  · rintro rfl
    refine ⟨rfl, fun x hx => ?_⟩
    rw [h1.flat, ← h2.flat] at hx
    exact (getP_iff h2.wf).2 hx
  · rintro ⟨hl, h⟩
    have hsub : ∀ x ∈ r1, x ∈ r2 := fun r hr => by
      have h3 := h (keyR s r, encS s r) (by rw [h1.flat]; exact List.mem_map.2 ⟨r, hr, rfl⟩)
      have h4 := (getP_iff h2.wf).1 h3
      rw [h2.flat, List.mem_map] at h4
      obtain ⟨r', hr', he⟩ := h4
      simp only [Prod.mk.injEq] at he
      have := encS_inj (h2.ok.fit r' hr') (h1.ok.fit r hr) (h2.ok.rng r' hr') (h1.ok.rng r hr) he.2
      rw [← this]; exact hr'
    have hn1 : r1.Nodup := h1.ok.srt.imp fun {a b} hb e => by rw [e] at hb; rw [blt_irrefl] at hb; cases hb
    have hsup : ∀ x ∈ r2, x ∈ r1 := fun x hx => by
      by_cases hm : x ∈ r1
      · exact hm
      · have := nodup_le (l := x :: r1) (m := r2) (List.nodup_cons.2 ⟨hm, hn1⟩) fun y hy => by
          rcases List.mem_cons.1 hy with rfl | hy
          · exact hx
          · exact hsub y hy
        simp only [List.length_cons] at this
        omega
    have hk : r1.map (keyR s) = r2.map (keyR s) := by
      refine srtB_ext (List.pairwise_map.2 h1.ok.srt) (List.pairwise_map.2 h2.ok.srt) fun x => ⟨fun hx => ?_, fun hx => ?_⟩
      · obtain ⟨r, hr, rfl⟩ := List.mem_map.1 hx
        exact List.mem_map.2 ⟨r, hsub r hr, rfl⟩
      · obtain ⟨r, hr, rfl⟩ := List.mem_map.1 hx
        exact List.mem_map.2 ⟨r, hsup r hr, rfl⟩
    apply List.ext_getElem hl
    intro i i1 i2
    have e := congrArg (fun l : List ByteArray => l[i]?) hk
    simp only [List.getElem?_map, List.getElem?_eq_getElem i1, List.getElem?_eq_getElem i2, Option.map_some, Option.some.injEq] at e
    exact h2.ok.uniq (hsub _ (List.getElem_mem i1)) (List.getElem_mem i2) e
end Go.Wk

namespace Go.Wk
open Go.Proofs
set_option maxRecDepth 10000

theorem blt_e0 (s : ByteArray) : blt s e0 = false := by
  cases h : blt s e0 with
  | false => rfl
  | true =>
    have := (blt_iff s e0).1 h
    simp [e0] at this
theorem t_Same00 (w : World) : Ret Tryz.prog 37 #[.pointer none, .pointer none] w fun r w' => r = .bool true ∧ Chg [] w w' := by
  refine Ret.of_WM (args := [_, _]) Tryz.func37 rfl rfl rfl rfl ?_

  refine Sr ?_
  refine O_go (gn rfl) (st_box rfl rfl rfl ?_)
  intro b3 w3 e3 n3 c3 k3
  refine O_go (gn rfl) (st_alloc zr4 rfl rfl ?_)
  intro b4 w4 e4 n4 c4 k4
  refine O_end [0, 3, 4] (F' := [(0, _), (3, _), (4, _)]) rfl (W_seq (Sr (Om rfl rfl ?_)))
  refine Og (vl_pnil pt31 rfl rfl) rfl ?_
  refine Om rfl rfl (Oz rfl rfl rfl rfl (Oz rfl rfl rfl rfl (Ot rfl rfl rfl (O_end [0, 3, 4, 14] (F' := [(0, _), (3, _), (4, _), (14, _)]) rfl (W_cond_true rfl (Sr (Om rfl rfl ?_)))))))
  refine Og (vl_pnil pt31 rfl rfl) rfl ?_
  refine Om rfl rfl ?_
  refine Oy rfl rfl (vl_load ag31 rfl ((k3.chg0 c4).cell' rfl)) rfl ?_
  refine Oy rfl rfl (vl_pnil pt31 rfl rfl) rfl ?_
  refine Ot rfl rfl rfl ?_
  refine O_go (gn rfl) (st_store sz4 rfl rfl rfl rfl k4 (by simp) (by simp [Value.oneCell']) ?_)
  intro wA nA cA kA
  refine O_end [4] (F' := [(4, _)]) rfl (W_ret ?_)
  repeat (first | refine then_ret ?_ | refine block_ret ?_)
  refine retM0 rfl ag4 rfl (kA.cell' rfl) ?_
  exact ⟨rfl, (c3.trans c4).own cA (by intro y hy; simp at hy; omega)⟩
theorem t_SameN (t : Nat) (w : World) : Ret Tryz.prog 37 #[.pointer (some ⟨t, 0, none⟩), .pointer none] w fun r w' => r = .bool false ∧ Chg [] w w' := by
  refine Ret.of_WM (args := [_, _]) Tryz.func37 rfl rfl rfl rfl ?_

  refine Sr ?_
  refine O_go (gn rfl) (st_box rfl rfl rfl ?_)
  intro b3 w3 e3 n3 c3 k3
  refine O_go (gn rfl) (st_alloc zr4 rfl rfl ?_)
  intro b4 w4 e4 n4 c4 k4
  refine O_end [0, 3, 4] (F' := [(0, _), (3, _), (4, _)]) rfl (W_seq (Sr (Om rfl rfl ?_)))
  refine Og (vl_pnil pt31 rfl rfl) rfl ?_
  refine Om rfl rfl ?_
  refine Oy rfl rfl (vl_load ag31 rfl ((k3.chg0 c4).cell' rfl)) rfl ?_
  refine Oy rfl rfl (vl_pnil pt31 rfl rfl) rfl ?_
  refine Of rfl rfl rfl (O_end [0, 3, 4, 14] (F' := [(0, _), (3, _), (4, _), (14, _)]) rfl (W_cond_true rfl (Sr (Om rfl rfl ?_))))
  refine Og (vl_pnil pt31 rfl rfl) rfl ?_
  refine Om rfl rfl (Oz rfl rfl rfl rfl (Oz rfl rfl rfl rfl (Of rfl rfl rfl ?_)))
  refine O_go (gn rfl) (st_store sz4 rfl rfl rfl rfl k4 (by simp) (by simp [Value.oneCell']) ?_)
  intro wA nA cA kA
  refine O_end [4] (F' := [(4, _)]) rfl (W_ret ?_)
  repeat (first | refine then_ret ?_ | refine block_ret ?_)
  refine retM0 rfl ag4 rfl (kA.cell' rfl) ?_
  exact ⟨rfl, (c3.trans c4).own cA (by intro y hy; simp at hy; omega)⟩
set_option maxHeartbeats 1000000 in
theorem t_Same (t t' : Nat) (own own' : List Nat) (s s' : Sch) (rows rows' : List (List Val)) (w : World) (h : IsTab w t own s rows) (h' : IsTab w t' own' s' rows') :
    Ret Tryz.prog 37 #[.pointer (some ⟨t, 0, none⟩), .pointer (some ⟨t', 0, none⟩)] w fun r w' => r = .bool (decide (s = s') && decide (rows = rows')) ∧ Chg [] w w' := by
  obtain ⟨pm, c, k, u, sv, xs, main, subs, rfl, hm, ht⟩ := h
  obtain ⟨pm', c', k', u', sv', xs', main', subs', rfl, hm', ht'⟩ := h'
  refine Ret.of_WM (args := [_, _]) Tryz.func37 rfl rfl rfl rfl ?_

  refine Sr ?_
  refine O_go (gn rfl) (st_box rfl rfl rfl ?_)
  intro b3 w3 e3 n3 c3 k3
  refine O_go (gn rfl) (st_alloc zr4 rfl rfl ?_)
  intro b4 w4 e4 n4 c4 k4
  refine O_end [0, 3, 4] (F' := [(0, _), (3, _), (4, _)]) rfl ?_
  have k3 : Blk w4 b3 31 [.pointer (some ⟨t', 0, none⟩)] := k3.chg0 c4
  have hcA := c3.trans c4
  refine W_seq (Sr (Om rfl rfl ?_))
  refine Og (vl_pnil pt31 rfl rfl) rfl ?_
  refine Om rfl rfl ?_
  refine Oy rfl rfl (vl_load ag31 rfl (k3.cell' rfl)) rfl ?_
  refine Oy rfl rfl (vl_pnil pt31 rfl rfl) rfl ?_
  refine Of rfl rfl rfl (O_end [0, 3, 4, 14] (F' := [(0, _), (3, _), (4, _), (14, _)]) rfl (W_cond_false rfl (W_skipE (W_seq (W_seq ?_)))))
  have hd : Chg [] w4 w4.drew := Chg.drew [] _
  have hmA := hm.chg0 hcA
  have hmA' := hm'.chg0 hcA
  by_cases hse : s = s'
  · subst hse
    by_cases hl : rows.length = rows'.length
    · refine W_draw (fun wz => Chg [] w4 wz) mix (by kernel_rfl) hd ?_
      refine Tm rfl rfl ?_
      refine t_pure rfl (gn rfl) (fun _ => vl_nilCheck rfl) rfl rfl ?_
      refine t_pure rfl (gn rfl) (fun _ => vl_fieldAddr fo98_1 rfl) rfl rfl ?_
      refine t_read rfl (gn rfl) (fun wz hz => vl_loadAgg ag30 sz30 rfl rfl (hmA.chg0 hz).scells) rfl rfl ?_
      refine t_read rfl (gn rfl) (fun wz hz => vl_load ag31 rfl ((k3.chg0 hz).cell' rfl)) rfl rfl ?_
      refine t_pure rfl (gn rfl) (fun _ => vl_nilCheck rfl) rfl rfl ?_
      refine t_pure rfl (gn rfl) (fun _ => vl_fieldAddr fo98_1 rfl) rfl rfl ?_
      refine t_read rfl (gn rfl) (fun wz hz => vl_loadAgg ag30 sz30 rfl rfl (hmA'.chg0 hz).scells) rfl rfl ?_
      refine t_st rfl (gn rfl) (st_call bd73 rfl rfl rfl rfl (s_Same c k u c' k' u' s s _ ((hmA.chg0 hd).sch) ((hmA'.chg0 hd).sch) (right_sm ht.ok.right) (right_sm ht'.ok.right)) ?_)
      rintro v29 w29 ⟨e29, c29⟩
      rw [decide_eq_true rfl] at e29
      subst e29
      refine ⟨.inl (hd.trans c29), ?_⟩
      refine t_pure rfl (gn rfl) (fun _ => vl_not rfl) rfl rfl ?_
      refine Tm rfl rfl (Tq rfl rfl rfl rfl ?_)
      refine t_st rfl (gy rfl rfl rfl) (st_call bd15 rfl rfl rfl rfl (t_Len _ ((hmA.chg0 hd).chg0 c29) ht) ?_)
      rintro v33 w33 ⟨rfl, rfl⟩
      refine ⟨.inl (hd.trans c29), ?_⟩
      refine t_read rfl (gy rfl rfl rfl) (fun wz hz => vl_load ag31 rfl ((k3.chg0 hz).cell' rfl)) rfl rfl ?_
      refine t_st rfl (gy rfl rfl rfl) (st_call bd15 rfl rfl rfl rfl (t_Len _ ((hmA'.chg0 hd).chg0 c29) ht') ?_)
      rintro v35 w35 ⟨rfl, rfl⟩
      refine ⟨.inl (hd.trans c29), ?_⟩
      refine t_pure rfl (gy rfl rfl rfl) (fun _ => vl_is (b' := false) (vl_ine rfl rfl) (by simp [hl])) rfl rfl ?_
      refine t_pure rfl (gn rfl) (fun _ => vl_pick_f rfl rfl) rfl rfl ?_
      refine T_end [0, 3, 4, 37] (F' := [(0, _), (3, _), (4, _), (37, _)]) rfl ?_
      refine W_cond_false rfl (W_skipE ?_)
      have hcB := (hcA.trans hd).trans c29
      have hmB := hm.chg0 hcB
      have hmB' := hm'.chg0 hcB
      have k3 := (k3.chg0 hd).chg0 c29
      have k4 : Blk w35 b4 4 [.bool false] := (k4.chg0 hd).chg0 c29
      refine W_seq_cut (fun F wx => ∃ (D : Nat) (f42 : Value), F = [(1000000, .int .i64 D), (3, .pointer (some ⟨b3, 0, none⟩)), (4, .pointer (some ⟨b4, 0, none⟩)), (42, f42)] ∧ w.heap.size ≤ D ∧ wx.heap[D]? = some (.deferred (some [])) ∧ Blk wx b4 4 [.bool false] ∧ (∀ x ∈ main.flatten, getP main' x.1 = some x.2) ∧ Chg [] w wx) ?_ ?_
      · refine Sr (Om rfl rfl (Og (vl_nilCheck rfl) rfl (Og (vl_fieldAddr fo98_0 rfl) rfl ?_)))
        refine Og (vl_load ag94 rfl (hmB.blk.cell' rfl)) rfl ?_
        refine O_go (gn rfl) (st_call bd68 rfl rfl rfl rfl (f14 pm main e0 _ hmB.pg (by have := ht.le; omega)) ?_)
        rintro v42 w42 ⟨q5, q3, vv, rfl, kq5, ip, kq3, hq3, hq5, c42⟩
        refine O_end [3, 4, 42] (F' := [(3, _), (4, _), (42, _)]) rfl ?_
        have hcC := hcB.trans c42
        have hsB := hcB.size
        have hsC := hcC.size
        have hb4lt := k4.lt
        have k3 := k3.chg0 c42
        have k4 := k4.chg0 c42
        have hall : fromP main.flatten e0 = main.flatten := List.filter_eq_self.2 fun x _ => by simp [blt_e0]
        have hm4 := k4.lt
        refine W_block ?_
        refine W_range (α := Ent) (gf := 100) (lb := [.pointer (some ⟨q5, 0, none⟩), .pointer (some ⟨q3, 0, none⟩)]) (encs := fun x : Ent => #[.string x.1, .string x.2]) (N := main.flatten.length) [b4]
          (fun pre W => (∀ x ∈ pre, getP main' x.1 = some x.2) ∧ Chg [] w42 W)
          (fun c pre W => c = .ret ∧ (∃ x ∈ pre, getP main' x.1 ≠ some x.2) ∧ Blk W b4 4 [.bool false] ∧ Chg [b4] w42 W)
          (fun x => [(44, .string x.2), (43, .string x.1), (3, .pointer (some ⟨b3, 0, none⟩)), (4, .pointer (some ⟨b4, 0, none⟩)), (42, .func (.func 100) #[] #[.pointer (some ⟨q5, 0, none⟩), .pointer (some ⟨q3, 0, none⟩)])])
          (fun x => [(3, .pointer (some ⟨b3, 0, none⟩)), (4, .pointer (some ⟨b4, 0, none⟩)), (5, .string x.1), (6, .string x.2), (43, .string x.1), (44, .string x.2)])
          rfl bd100 ?_
          (f32_seq w42 q5 q3 vv main e0 [b4] kq5 ip kq3 (by have := ht.le; omega) ht.wf.le ?_ ?_ hall) (fun _ => rfl) ?_ ?_ ?_ (fun pre W hI => hI.2.size) ?_ ?_ ?_ ?_ ?_
        · intro b hb
          simp at hb
          subst hb
          exact hm4
        · simp
          omega
        · intro b hb
          simp at hb
          subst hb
          exact ⟨_, _, k4, rfl, rfl⟩
        · rintro pre W W' T hT hc ⟨g1, g2⟩
          exact ⟨g1, g2.own hc hT⟩
        · rintro c pre W W' T hT hc ⟨rfl, g1, g2, g3⟩
          exact ⟨rfl, g1, g2.chg hc (fun hm => by have := hT _ hm; omega), g3.trans' hc (fun y hy => .inr (hT y hy))⟩
        · exact ⟨by simp, Chg.refl _ _⟩
        · intro x a ha
          exact ha.vars2 rfl rfl rfl
        · intro l x W
          refine X_seq ?_
          refine X_region ?_
          refine X_go (gn rfl) rfl (St.vl (vl_assign rfl) rfl rfl ?_)
          refine X_end [3, 4, 5, 43, 44] (F' := [(3, _), (4, _), (5, _), (43, _), (44, _)]) rfl ?_
          refine X_region ?_
          refine X_go (gn rfl) rfl (St.vl (vl_assign rfl) rfl rfl ?_)
          refine X_endN [3, 4, 5, 6, 43, 44] (F' := [(3, _), (4, _), (5, _), (6, _), (43, _), (44, _)]) rfl ?_
          exact ⟨rfl, rfl, rfl⟩
        · rintro l pre x W ⟨g1, g2⟩ hlen
          have hmW' := hm'.chg0 (hcC.trans g2)
          have k3W := k3.chg0 g2
          have k4W := k4.chg0 g2
          refine X_block ?_
          refine X_seq ?_
          refine X_region ?_
          refine X_go (gn rfl) rfl (St.vl (vl_load ag31 rfl (k3W.cell' rfl)) rfl rfl ?_)
          refine X_go (gn rfl) rfl (St.vl (vl_nilCheck rfl) rfl rfl ?_)
          refine X_go (gn rfl) rfl (St.vl (vl_fieldAddr fo98_0 rfl) rfl rfl ?_)
          refine X_go (gn rfl) rfl (St.vl (vl_load ag94 rfl (hmW'.blk.cell' rfl)) rfl rfl ?_)
          refine Xm rfl rfl ?_
          refine X_go (gn rfl) rfl (st_call bd65 rfl rfl rfl rfl (f15 pm' main' x.1 _ hmW'.pg ht'.wf (by have := ht'.le; omega)) ?_)
          rintro v51 w51 ⟨rfl, c51⟩
          refine Xm rfl rfl ?_
          refine X_go (gn rfl) rfl (St.vl (vl_extract rfl rfl) rfl rfl ?_)
          refine X_go (gn rfl) rfl (St.vl (vl_extract rfl rfl) rfl rfl ?_)
          refine X_go (gn rfl) rfl (St.vl (vl_assign rfl) rfl rfl ?_)
          refine X_go (gn rfl) rfl (St.vl (vl_assign rfl) rfl rfl ?_)
          refine X_end [3, 4, 6, 7, 8, 43, 44] (F' := [(3, _), (4, _), (6, _), (7, _), (8, _), (43, _), (44, _)]) rfl ?_
          refine X_seq ?_
          have hfail : getP main' x.1 ≠ some x.2 → ∀ {wC : World}, Chg [b4] w51 wC → Blk wC b4 4 [.bool false] → Chg [b4] W wC ∧ (Code.ret = .ret ∧ (∃ y ∈ pre ++ [x], getP main' y.1 ≠ some y.2) ∧ Blk wC b4 4 [.bool false] ∧ Chg [b4] w42 wC) := fun hne {wC} hc hb =>
            ⟨(c51.any (S := [b4])).transS hc, rfl, ⟨x, by simp, hne⟩, hb, ((g2.trans c51).any (S := [b4])).transS hc⟩
          cases hg : getP main' x.1 with
          | none =>
            refine X_region ?_
            refine Xm rfl rfl ?_
            refine X_go (gn rfl) rfl (St.vl (vl_not rfl) rfl rfl ?_)
            refine Xm rfl rfl ?_
            refine X_no rfl rfl rfl rfl rfl rfl ?_
            refine X_no rfl rfl rfl rfl rfl rfl ?_
            refine X_no rfl rfl rfl rfl rfl rfl ?_
            refine X_go (gn rfl) rfl (St.vl (vl_pick_t rfl rfl) rfl rfl ?_)
            refine X_end [3, 4, 43, 44, 60] (F' := [(3, _), (4, _), (43, _), (44, _), (60, _)]) rfl ?_
            refine X_cond_true rfl ?_
            refine X_seq ?_
            refine X_region ?_
            refine X_go (gn rfl) rfl (st_store sz4 rfl rfl rfl rfl (k4W.chg0 c51) (by simp) (by simp [Value.oneCell']) ?_)
            intro wC nC cC kC
            refine X_end [4] (F' := [(4, _)]) rfl ?_
            refine X_ret ?_
            repeat (first | refine then_ret ?_ | refine block_ret ?_)
            exact hfail (by rw [hg]; simp) cC kC
          | some y =>
            by_cases hxy : x.2 = y
            · refine X_region ?_
              refine Xm rfl rfl ?_
              refine X_go (gn rfl) rfl (St.vl (vl_not rfl) rfl rfl ?_)
              refine Xm rfl rfl ?_
              refine X_go (gy rfl rfl rfl) rfl (St.vl (vl_move rfl) rfl rfl ?_)
              refine X_go (gy rfl rfl rfl) rfl (St.vl (vl_move rfl) rfl rfl ?_)
              refine X_go (gy rfl rfl rfl) rfl (St.vl (vl_is (b' := false) (vl_sne rfl rfl) (by simp [hxy])) rfl rfl ?_)
              refine X_go (gn rfl) rfl (St.vl (vl_pick_f rfl rfl) rfl rfl ?_)
              refine X_end [3, 4, 43, 44, 60] (F' := [(3, _), (4, _), (43, _), (44, _), (60, _)]) rfl ?_
              refine X_cond_false rfl ?_
              refine X_skip ?_
              refine block_normal ?_
              refine ⟨c51.any, fun z hz => ?_, g2.trans c51⟩
              rcases List.mem_append.1 hz with hz | hz
              · exact g1 z hz
              · simp at hz; subst hz; rw [hg, hxy]
            · refine X_region ?_
              refine Xm rfl rfl ?_
              refine X_go (gn rfl) rfl (St.vl (vl_not rfl) rfl rfl ?_)
              refine Xm rfl rfl ?_
              refine X_go (gy rfl rfl rfl) rfl (St.vl (vl_move rfl) rfl rfl ?_)
              refine X_go (gy rfl rfl rfl) rfl (St.vl (vl_move rfl) rfl rfl ?_)
              refine X_go (gy rfl rfl rfl) rfl (St.vl (vl_is (b' := true) (vl_sne rfl rfl) (by simp [hxy])) rfl rfl ?_)
              refine X_go (gn rfl) rfl (St.vl (vl_pick_f rfl rfl) rfl rfl ?_)
              refine X_end [3, 4, 43, 44, 60] (F' := [(3, _), (4, _), (43, _), (44, _), (60, _)]) rfl ?_
              refine X_cond_true rfl ?_
              refine X_seq ?_
              refine X_region ?_
              refine X_go (gn rfl) rfl (st_store sz4 rfl rfl rfl rfl (k4W.chg0 c51) (by simp) (by simp [Value.oneCell']) ?_)
              intro wC nC cC kC
              refine X_end [4] (F' := [(4, _)]) rfl ?_
              refine X_ret ?_
              repeat (first | refine then_ret ?_ | refine block_ret ?_)
              exact hfail (by rw [hg]; simp; exact fun e => hxy e.symm) cC kC
        · rintro D xs W hD rfl ⟨g1, g2⟩ hdf
          refine block_normal ?_
          exact ⟨D, _, rfl, by omega, hdf, k4.chg0 g2, g1, hcC.trans g2⟩
        · rintro D c pre W' hD ⟨-, hpre⟩ ⟨rfl, ⟨x, hx, hne⟩, g2, g3⟩ hdf
          refine W_ret ?_
          repeat (first | refine then_ret ?_ | refine block_ret ?_)
          have hDb : D ≠ b4 := by omega
          refine retM1 (v := .bool false) (D := D) rfl ag4 rfl rfl hdf fun w' hc' => ?_
          have hnr : rows ≠ rows' := fun e => by
            exact hne (((same_rows ht ht').1 e).2 x (hpre.subset hx))
          refine ⟨(g2.chg hc' (by simpa using hDb.symm)).cell' rfl, by simp [hnr], ?_⟩
          exact (hcC.own g3 (by intro y hy; simp at hy; have := c3.size; omega)).own hc' (by intro y hy; simp at hy; omega)
      rintro F wx ⟨D, f42, rfl, hD, hdf, hb4, hall, hcx⟩
      refine Sr ?_
      refine O_go (gn rfl) (st_store sz4 rfl rfl rfl rfl hb4 (by simp) (by simp [Value.oneCell']) ?_)
      intro wA nA cA kA
      refine O_end [4] (F' := [(4, _), (1000000, _)]) rfl (W_ret ?_)
      have kA : Blk wA b4 4 [.bool true] := kA
      have hDb : D ≠ b4 := by rintro rfl; rw [show wx.heap[D]? = _ from hb4] at hdf; cases hdf
      refine retM1 (v := .bool true) (D := D) rfl ag4 rfl rfl ((cA.block D (Array.getElem?_eq_some_iff.1 hdf).1 (by simpa using hDb)).trans hdf) fun w' hc' => ?_
      have hr : rows = rows' := (same_rows ht ht').2 ⟨hl, hall⟩
      refine ⟨(kA.chg hc' (by simpa using hDb.symm)).cell' rfl, ?_, ?_⟩
      · simp [hr]
      · have h4 : w.heap.size ≤ b4 := by have := c3.size; omega
        exact (hcx.own cA (by intro y hy; simp at hy; omega)).own hc' (by intro y hy; simp at hy; omega)
    · refine W_draw (fun wz => Chg [] w4 wz) mix (by kernel_rfl) hd ?_
      refine Tm rfl rfl ?_
      refine t_pure rfl (gn rfl) (fun _ => vl_nilCheck rfl) rfl rfl ?_
      refine t_pure rfl (gn rfl) (fun _ => vl_fieldAddr fo98_1 rfl) rfl rfl ?_
      refine t_read rfl (gn rfl) (fun wz hz => vl_loadAgg ag30 sz30 rfl rfl (hmA.chg0 hz).scells) rfl rfl ?_
      refine t_read rfl (gn rfl) (fun wz hz => vl_load ag31 rfl ((k3.chg0 hz).cell' rfl)) rfl rfl ?_
      refine t_pure rfl (gn rfl) (fun _ => vl_nilCheck rfl) rfl rfl ?_
      refine t_pure rfl (gn rfl) (fun _ => vl_fieldAddr fo98_1 rfl) rfl rfl ?_
      refine t_read rfl (gn rfl) (fun wz hz => vl_loadAgg ag30 sz30 rfl rfl (hmA'.chg0 hz).scells) rfl rfl ?_
      refine t_st rfl (gn rfl) (st_call bd73 rfl rfl rfl rfl (s_Same c k u c' k' u' s s _ ((hmA.chg0 hd).sch) ((hmA'.chg0 hd).sch) (right_sm ht.ok.right) (right_sm ht'.ok.right)) ?_)
      rintro v29 w29 ⟨e29, c29⟩
      rw [decide_eq_true rfl] at e29
      subst e29
      refine ⟨.inl (hd.trans c29), ?_⟩
      refine t_pure rfl (gn rfl) (fun _ => vl_not rfl) rfl rfl ?_
      refine Tm rfl rfl (Tq rfl rfl rfl rfl ?_)
      refine t_st rfl (gy rfl rfl rfl) (st_call bd15 rfl rfl rfl rfl (t_Len _ ((hmA.chg0 hd).chg0 c29) ht) ?_)
      rintro v33 w33 ⟨rfl, rfl⟩
      refine ⟨.inl (hd.trans c29), ?_⟩
      refine t_read rfl (gy rfl rfl rfl) (fun wz hz => vl_load ag31 rfl ((k3.chg0 hz).cell' rfl)) rfl rfl ?_
      refine t_st rfl (gy rfl rfl rfl) (st_call bd15 rfl rfl rfl rfl (t_Len _ ((hmA'.chg0 hd).chg0 c29) ht') ?_)
      rintro v35 w35 ⟨rfl, rfl⟩
      refine ⟨.inl (hd.trans c29), ?_⟩
      refine t_pure rfl (gy rfl rfl rfl) (fun _ => vl_is (b' := true) (vl_ine rfl rfl) (by simp; omega)) rfl rfl ?_
      refine t_pure rfl (gn rfl) (fun _ => vl_pick_f rfl rfl) rfl rfl ?_
      refine T_end [0, 3, 4, 37] (F' := [(0, _), (3, _), (4, _), (37, _)]) rfl ?_
      refine W_cond_true rfl (Sr ?_)
      refine O_go (gn rfl) (st_store sz4 rfl rfl rfl rfl ((k4.chg0 hd).chg0 c29) (by simp) (by simp [Value.oneCell']) ?_)
      intro wA nA cA kA
      refine O_end [4] (F' := [(4, _)]) rfl (W_ret ?_)
      repeat (first | refine then_ret ?_ | refine block_ret ?_)
      refine retM0 rfl ag4 rfl (kA.cell' rfl) ?_
      have hne : rows ≠ rows' := fun e => hl (by rw [e])
      refine ⟨by simp [hne], ?_⟩
      exact ((hcA.trans hd).trans c29).own cA (by intro y hy; simp at hy; have := c3.size; omega)
  · refine W_draw (fun wz => Chg [] w4 wz) mix (by kernel_rfl) hd ?_
    refine Tm rfl rfl ?_
    refine t_pure rfl (gn rfl) (fun _ => vl_nilCheck rfl) rfl rfl ?_
    refine t_pure rfl (gn rfl) (fun _ => vl_fieldAddr fo98_1 rfl) rfl rfl ?_
    refine t_read rfl (gn rfl) (fun wz hz => vl_loadAgg ag30 sz30 rfl rfl (hmA.chg0 hz).scells) rfl rfl ?_
    refine t_read rfl (gn rfl) (fun wz hz => vl_load ag31 rfl ((k3.chg0 hz).cell' rfl)) rfl rfl ?_
    refine t_pure rfl (gn rfl) (fun _ => vl_nilCheck rfl) rfl rfl ?_
    refine t_pure rfl (gn rfl) (fun _ => vl_fieldAddr fo98_1 rfl) rfl rfl ?_
    refine t_read rfl (gn rfl) (fun wz hz => vl_loadAgg ag30 sz30 rfl rfl (hmA'.chg0 hz).scells) rfl rfl ?_
    refine t_st rfl (gn rfl) (st_call bd73 rfl rfl rfl rfl (s_Same c k u c' k' u' s s' _ ((hmA.chg0 hd).sch) ((hmA'.chg0 hd).sch) (right_sm ht.ok.right) (right_sm ht'.ok.right)) ?_)
    rintro v29 w29 ⟨e29, c29⟩
    rw [decide_eq_false hse] at e29
    subst e29
    refine ⟨.inl (hd.trans c29), ?_⟩
    refine t_pure rfl (gn rfl) (fun _ => vl_not rfl) rfl rfl ?_
    refine Tm rfl rfl (Tz rfl rfl rfl rfl (Tz rfl rfl rfl rfl (Tz rfl rfl rfl rfl (Tz rfl rfl rfl rfl (Tz rfl rfl rfl rfl ?_)))))
    refine t_pure rfl (gn rfl) (fun _ => vl_pick_t rfl rfl) rfl rfl ?_
    refine T_end [0, 3, 4, 37] (F' := [(0, _), (3, _), (4, _), (37, _)]) rfl ?_
    refine W_cond_true rfl (Sr ?_)
    refine O_go (gn rfl) (st_store sz4 rfl rfl rfl rfl ((k4.chg0 hd).chg0 c29) (by simp) (by simp [Value.oneCell']) ?_)
    intro wA nA cA kA
    refine O_end [4] (F' := [(4, _)]) rfl (W_ret ?_)
    repeat (first | refine then_ret ?_ | refine block_ret ?_)
    refine retM0 rfl ag4 rfl (kA.cell' rfl) ?_
    refine ⟨by simp [hse], ?_⟩
    exact ((hcA.trans hd).trans c29).own cA (by intro y hy; simp at hy; have := c3.size; omega)
end Go.Wk

namespace Go.Wk
open Go.Proofs
set_option maxRecDepth 10000

theorem t_insert0 (v : Value) (w : World) : Ret Tryz.prog 47 #[.pointer none, v] w fun r w' => IsErr w' r 1 ∧ Chg [] w w' := by
  refine Ret.of_W (args := [_, _]) Tryz.func47 rfl rfl rfl rfl ?_

  refine Sr (Oa rfl rfl (O_end [0, 1] (F' := [(0, _), (1, _)]) rfl (W_seq (Sr (Om rfl rfl (Om rfl rfl ?_))))))
  refine O_go (gn rfl) (st_call bd48 rfl rfl rfl rfl (t_fits0 v w) ?_)
  rintro v9 w9 ⟨i9, c9⟩
  obtain ⟨-, h0⟩ | ⟨i9, -⟩ := i9
  · exact absurd h0 (by decide)
  refine Oa rfl rfl (O_end [0, 1, 5] (F' := [(0, _), (1, _), (5, _)]) rfl (Sr (Om rfl rfl ?_)))
  refine Og (vl_innil in106 rfl i9.notNil) rfl ?_
  refine O_end [0, 1, 5, 11] (F' := [(0, _), (1, _), (5, _), (11, _)]) rfl (W_cond_true rfl (Sr (Om rfl rfl (Oa rfl rfl (O_end [4] (F' := [(4, _)]) rfl (W_ret ?_))))))
  repeat (first | refine then_ret ?_ | refine block_ret ?_)
  refine ret1 rfl rfl ?_
  exact ⟨i9, c9⟩
theorem t_Insert0 (v : Value) (w : World) (hE : EOk w) : Ret Tryz.prog 12 #[.pointer none, v] w fun r w' => r = .int .i64 1 ∧ Chg [] w w' := by
  refine Ret.of_W (args := [_, _]) Tryz.func12 rfl rfl rfl rfl ?_

  refine Sr (Oa rfl rfl (O_end [0, 1] (F' := [(0, _), (1, _)]) rfl (Sr (Om rfl rfl (Om rfl rfl ?_)))))
  refine O_go (gn rfl) (st_call bd47 rfl rfl rfl rfl (t_insert0 v w) ?_)
  rintro v7 w7 ⟨i7, c7⟩
  refine O_go (gn rfl) (st_call bd46 rfl rfl rfl rfl (e_numT _ _ _ (hE.chg0 c7) (.inr i7)) ?_)
  rintro v8 w8 ⟨rfl, c8⟩
  refine Oa rfl rfl (O_end [4] (F' := [(4, _)]) rfl (W_ret ?_))
  refine ret1 rfl rfl ?_
  exact ⟨rfl, c7.trans c8⟩
theorem t_Ignore0 (v : Value) (w : World) (hE : EOk w) : Ret Tryz.prog 38 #[.pointer none, v] w fun r w' => r = .tuple #[.bool false, .int .i64 1] ∧ Chg [] w w' := by
  refine Ret.of_W (args := [_, _]) Tryz.func38 rfl rfl rfl rfl ?_

  refine Sr (Oa rfl rfl (Oa rfl rfl (O_end [0, 1] (F' := [(0, _), (1, _)]) rfl (Sr (Om rfl rfl (Om rfl rfl ?_))))))
  refine O_go (gn rfl) (st_call bd47 rfl rfl rfl rfl (t_insert0 v w) ?_)
  rintro v9 w9 ⟨i9, c9⟩
  refine Oa rfl rfl (O_end [6] (F' := [(6, _)]) rfl (W_seq (Sr (Om rfl rfl ?_))))
  refine Og (vl_mkif ni32 rfl) rfl ?_
  refine O_go (gn rfl) (st_call bd74 rfl rfl rfl rfl (e_Is _ _ 220 _ i9) ?_)
  rintro v12 w12 ⟨rfl, c12⟩
  refine O_end [6, 12] (F' := [(6, _), (12, _)]) rfl (W_cond_false rfl (W_skipE (W_seq ?_)))
  refine W_draw (fun wz => Chg [] w12 wz) mix (by kernel_rfl) (Chg.drew _ _) ?_
  refine Tm rfl rfl ?_
  refine t_pure rfl (gn rfl) (fun _ => vl_inil in106 rfl i9.notNil) rfl rfl ?_
  refine Tm rfl rfl ?_
  refine t_st rfl (gn rfl) (st_call bd46 rfl rfl rfl rfl (e_numT _ _ _ (((hE.chg0 c9).chg0 c12).chg0 (Chg.drew _ _)) (.inr ((i9.chg0 c12).chg0 (Chg.drew _ _)))) ?_)
  rintro v16 w16 ⟨rfl, c16⟩
  refine ⟨.inl ((Chg.drew _ _).trans c16), ?_⟩
  refine Ta rfl rfl (Ta rfl rfl ?_)
  refine T_end [4, 5] (F' := [(4, _), (5, _)]) rfl ?_
  refine W_ret ?_
  refine ret2 rfl rfl rfl ?_
  exact ⟨rfl, ((c9.trans c12).trans (Chg.drew _ _)).trans c16⟩
theorem t_Key0 (v : Value) (w : World) (hE : EOk w) : Ret Tryz.prog 20 #[.pointer none, v] w fun r w' => r = .tuple #[.string e0, .int .i64 1] ∧ Chg [] w w' := by
  refine Ret.of_W (args := [_, _]) Tryz.func20 rfl rfl rfl rfl ?_

  refine Sr (Oa rfl rfl (Oa rfl rfl (O_end [0, 1] (F' := [(0, _), (1, _)]) rfl (W_seq (Sr (Om rfl rfl (Om rfl rfl ?_)))))))
  refine O_go (gn rfl) (st_call bd48 rfl rfl rfl rfl (t_fits0 v w) ?_)
  rintro v11 w11 ⟨i11, c11⟩
  obtain ⟨-, h0⟩ | ⟨i11, -⟩ := i11
  · exact absurd h0 (by decide)
  refine Oa rfl rfl (O_end [0, 1, 6] (F' := [(0, _), (1, _), (6, _)]) rfl (Sr (Om rfl rfl ?_)))
  refine Og (vl_innil in106 rfl i11.notNil) rfl ?_
  refine O_end [0, 1, 6, 13] (F' := [(0, _), (1, _), (6, _), (13, _)]) rfl (W_cond_true rfl (Sr (Om rfl rfl ?_)))
  refine O_go (gn rfl) (st_call bd46 rfl rfl rfl rfl (e_numT _ _ _ (hE.chg0 c11) (.inr i11)) ?_)
  rintro v15 w15 ⟨rfl, c15⟩
  refine Oa rfl rfl (Oa rfl rfl (O_end [4, 5] (F' := [(4, _), (5, _)]) rfl (W_ret ?_)))
  repeat (first | refine then_ret ?_ | refine block_ret ?_)
  refine ret2 rfl rfl rfl ?_
  exact ⟨rfl, c11.trans c15⟩
theorem t_Len0 (w : World) : Ret Tryz.prog 15 #[.pointer none] w fun r w' => r = .int .i64 0 ∧ w' = w := by
  refine Ret.of_W (args := [_]) Tryz.func15 rfl rfl rfl rfl ?_

  refine Sr (Oa rfl rfl (O_end [0] (F' := [(0, _)]) rfl (W_seq (Sr (Om rfl rfl ?_)))))
  refine Og (vl_pnil pt31 rfl rfl) rfl ?_
  refine O_end [0, 4] (F' := [(0, _), (4, _)]) rfl (W_cond_true rfl (Sr (Oa rfl rfl (O_end [2] (F' := [(2, _)]) rfl (W_ret ?_)))))
  repeat (first | refine then_ret ?_ | refine block_ret ?_)
  refine ret1 rfl rfl ?_
  exact ⟨rfl, rfl⟩
theorem t_Rows0 (key : ByteArray) (w : World) : Ret Tryz.prog 27 #[.pointer none, .string key] w fun r w' => ∃ q5 q3, r = .func (.func 67) #[] #[.pointer (some ⟨q5, 0, none⟩), .pointer (some ⟨q3, 0, none⟩)] ∧ Blk w' q5 31 [.pointer none] ∧ Chg [] w w' := by
  refine Ret.of_W (args := [_, _]) Tryz.func27 rfl rfl rfl rfl ?_

  refine Sr ?_
  refine O_go (gn rfl) (st_box rfl rfl rfl ?_)
  intro b3 w3 e3 n3 c3 k3
  refine Oa rfl rfl (O_end [0, 3] (F' := [(0, _), (3, _)]) rfl (Sr (Om rfl rfl ?_)))
  refine O_go (gn rfl) (st_call bd35 rfl rfl rfl rfl (t_Copy0 _) ?_)
  rintro v7 w7 ⟨rfl, rfl⟩
  refine O_go (gn rfl) (st_alloc zr31 rfl rfl ?_)
  intro b5 w5 e5 n5 c5 k5
  refine O_go (gn rfl) (st_store sz31 rfl rfl rfl rfl k5 (by simp) (by simp [Value.oneCell']) ?_)
  intro wA nA cA kA
  refine O_end [3, 5] (F' := [(3, _), (5, _)]) rfl ?_
  have kA : Blk wA b5 31 [.pointer none] := kA
  refine Sr ?_
  refine Og (vl_func rfl rfl) rfl ?_
  refine Oa rfl rfl (O_end [4] (F' := [(4, _)]) rfl (W_ret ?_))
  refine ret1 rfl rfl ?_
  exact ⟨b5, b3, rfl, kA, (c3.trans c5).own cA (by intro y hy; have := c3.size; simp at hy; omega)⟩
theorem t_seq0 (l q5 q3 : Nat) (w : World) (h5 : Blk w q5 31 [.pointer none]) : Ret Tryz.prog 67 #[.func (.yield l) #[] #[], .pointer (some ⟨q5, 0, none⟩), .pointer (some ⟨q3, 0, none⟩)] w fun _ w' => Chg [] w w' := by
  refine Ret.of_W (args := [_, _, _]) Tryz.func67 rfl rfl rfl rfl ?_

  refine Sr ?_
  refine O_go (gn rfl) (st_box rfl rfl rfl ?_)
  intro b3 w3 e3 n3 c3 k3
  refine O_end [1, 2, 3] (F' := [(1, _), (2, _), (3, _)]) rfl ?_
  refine W_scope ?_
  refine W_seq (Sr ?_)
  refine Og (vl_load ag31 rfl ((h5.chg0 c3).cell' rfl)) rfl ?_
  refine Og (vl_pnil pt31 rfl rfl) rfl ?_
  refine O_end [1, 2, 3, 8] (F' := [(1, _), (2, _), (3, _), (8, _)]) rfl (W_cond_true rfl (W_ret ?_))
  repeat (first | refine then_ret ?_ | refine block_ret ?_)
  refine scopeR ?_
  refine ret0 rfl ?_
  exact c3
end Go.Wk

namespace Go.Wk
open Go.Proofs
set_option maxRecDepth 10000

theorem r_by (b : Bool) (w : World) : Ret Tryz.prog 102 #[.bool b] w fun r w' => ∃ i : Int, r = .int .i64 i ∧ i ≠ 0 ∧ w' = w := by
  refine Ret.of_W (args := [_]) Tryz.func102 rfl rfl rfl rfl ?_

  refine Sr (Oa rfl rfl (O_end [0] (F' := [(0, _)]) rfl (W_seq (Sr (Om rfl rfl (O_end [3] (F' := [(3, _)]) rfl ?_))))))
  cases b with
  | true =>
    refine W_cond_true rfl (Sr (Oa rfl rfl (O_end [2] (F' := [(2, _)]) rfl (W_ret ?_))))
    repeat (first | refine then_ret ?_ | refine block_ret ?_)
    refine ret1 rfl rfl ?_
    exact ⟨_, rfl, by decide, rfl⟩
  | false =>
    refine W_cond_false rfl (W_skipE (Sr (Oa rfl rfl (O_end [2] (F' := [(2, _)]) rfl (W_ret ?_)))))
    refine ret1 rfl rfl ?_
    exact ⟨_, rfl, by decide, rfl⟩
theorem r_Order (x y : Val) (w : World) : Ret Tryz.prog 101 #[x.v, y.v] w fun r w' => ∃ i : Int, r = .int .i64 i ∧ (i = 0 ↔ x = y) ∧ Chg [] w w' := by
  obtain ⟨xk, xi, xu, xb⟩ := x
  obtain ⟨yk, yi, yu, yb⟩ := y
  refine Ret.of_W (args := [_, _]) Tryz.func101 rfl rfl rfl rfl ?_

  refine Sr ?_
  refine O_go (gn rfl) (st_box rfl rfl rfl ?_)
  intro b2 w2 e2 n2 c2 k2
  refine O_go (gn rfl) (st_box rfl rfl rfl ?_)
  intro b3 w3 e3 n3 c3 k3
  refine Oa rfl rfl (O_end [2, 3] (F' := [(2, _), (3, _)]) rfl ?_)
  have k2 := k2.chg0 c3
  have hc := c2.trans c3
  refine W_seq (W_block (W_seq ?_))
  by_cases h1 : xk = yk
  · refine W_region (Og (vl_fieldAddr fo40_0 rfl) rfl ?_)
    refine Og (vl_load ag37 rfl (k2.cell' rfl)) rfl ?_
    refine Og (vl_fieldAddr fo40_0 rfl) rfl ?_
    refine Og (vl_load ag37 rfl (k3.cell' rfl)) rfl ?_
    refine Og (vl_is (b' := false) (vl_ine rfl rfl) (by simp [h1])) rfl ?_
    refine Oa rfl rfl (O_end [2, 3, 5] (F' := [(2, _), (3, _), (5, _)]) rfl (W_cond_false rfl (W_seq ?_)))
    by_cases h2 : xi = yi
    · refine W_region (Og (vl_fieldAddr fo40_1 rfl) rfl ?_)
      refine Og (vl_load ag2 rfl (k2.cell' rfl)) rfl ?_
      refine Og (vl_fieldAddr fo40_1 rfl) rfl ?_
      refine Og (vl_load ag2 rfl (k3.cell' rfl)) rfl ?_
      refine Og (vl_is (b' := false) (vl_ine rfl rfl) (by simp [h2])) rfl ?_
      refine Oa rfl rfl (O_end [2, 3, 17] (F' := [(2, _), (3, _), (17, _)]) rfl (W_cond_false rfl (W_seq ?_)))
      by_cases h3 : xu = yu
      · refine W_region (Og (vl_fieldAddr fo40_2 rfl) rfl ?_)
        refine Og (vl_load ag38 rfl (k2.cell' rfl)) rfl ?_
        refine Og (vl_fieldAddr fo40_2 rfl) rfl ?_
        refine Og (vl_load ag38 rfl (k3.cell' rfl)) rfl ?_
        refine Og (vl_is (b' := false) (vl_ine rfl rfl) (by simp [h3])) rfl ?_
        refine Oa rfl rfl (O_end [2, 3, 29] (F' := [(2, _), (3, _), (29, _)]) rfl (W_cond_false rfl (W_seq ?_)))
        by_cases h4 : xb = yb
        · refine W_region (Og (vl_fieldAddr fo40_3 rfl) rfl ?_)
          refine Og (vl_load ag9 rfl (k2.cell' rfl)) rfl ?_
          refine Og (vl_fieldAddr fo40_3 rfl) rfl ?_
          refine Og (vl_load ag9 rfl (k3.cell' rfl)) rfl ?_
          refine Og (vl_is (b' := false) (vl_sne rfl rfl) (by simp [h4])) rfl ?_
          refine Oa rfl rfl (O_end [2, 3, 41] (F' := [(2, _), (3, _), (41, _)]) rfl (W_cond_false rfl (W_skip (block_normal (Sr (Oa rfl rfl (O_end [4] (F' := [(4, _)]) rfl (W_ret ?_))))))))
          refine ret1 rfl rfl ?_
          exact ⟨0, rfl, by simp [h1, h2, h3, h4], hc⟩
        · refine W_region (Og (vl_fieldAddr fo40_3 rfl) rfl ?_)
          refine Og (vl_load ag9 rfl (k2.cell' rfl)) rfl ?_
          refine Og (vl_fieldAddr fo40_3 rfl) rfl ?_
          refine Og (vl_load ag9 rfl (k3.cell' rfl)) rfl ?_
          refine Og (vl_is (b' := true) (vl_sne rfl rfl) (by simp [h4])) rfl ?_
          refine Oa rfl rfl (O_end [2, 3, 41] (F' := [(2, _), (3, _), (41, _)]) rfl (W_cond_true rfl (Sr (Og (vl_fieldAddr fo40_3 rfl) rfl ?_))))
          refine Og (vl_load ag9 rfl (k2.cell' rfl)) rfl ?_
          refine Og (vl_fieldAddr fo40_3 rfl) rfl ?_
          refine Og (vl_load ag9 rfl (k3.cell' rfl)) rfl ?_
          refine Og (vl_slt rfl rfl) rfl ?_
          refine O_go (gn rfl) (st_call bd102 rfl rfl rfl rfl (r_by _ _) ?_)
          rintro v52 w52 ⟨i, rfl, hi, rfl⟩
          refine Oa rfl rfl (O_end [4] (F' := [(4, _)]) rfl (W_ret ?_))
          repeat (first | refine then_ret ?_ | refine block_ret ?_)
          refine ret1 rfl rfl ?_
          exact ⟨i, rfl, by simp [h4, hi], hc⟩
      · refine W_region (Og (vl_fieldAddr fo40_2 rfl) rfl ?_)
        refine Og (vl_load ag38 rfl (k2.cell' rfl)) rfl ?_
        refine Og (vl_fieldAddr fo40_2 rfl) rfl ?_
        refine Og (vl_load ag38 rfl (k3.cell' rfl)) rfl ?_
        refine Og (vl_is (b' := true) (vl_ine rfl rfl) (by simp; omega)) rfl ?_
        refine Oa rfl rfl (O_end [2, 3, 29] (F' := [(2, _), (3, _), (29, _)]) rfl (W_cond_true rfl (Sr (Og (vl_fieldAddr fo40_2 rfl) rfl ?_))))
        refine Og (vl_load ag38 rfl (k2.cell' rfl)) rfl ?_
        refine Og (vl_fieldAddr fo40_2 rfl) rfl ?_
        refine Og (vl_load ag38 rfl (k3.cell' rfl)) rfl ?_
        refine Og (vl_lss rfl rfl) rfl ?_
        refine O_go (gn rfl) (st_call bd102 rfl rfl rfl rfl (r_by _ _) ?_)
        rintro v40 w40 ⟨i, rfl, hi, rfl⟩
        refine Oa rfl rfl (O_end [4] (F' := [(4, _)]) rfl (W_ret ?_))
        repeat (first | refine then_ret ?_ | refine block_ret ?_)
        refine ret1 rfl rfl ?_
        exact ⟨i, rfl, by simp [h3, hi], hc⟩
    · refine W_region (Og (vl_fieldAddr fo40_1 rfl) rfl ?_)
      refine Og (vl_load ag2 rfl (k2.cell' rfl)) rfl ?_
      refine Og (vl_fieldAddr fo40_1 rfl) rfl ?_
      refine Og (vl_load ag2 rfl (k3.cell' rfl)) rfl ?_
      refine Og (vl_is (b' := true) (vl_ine rfl rfl) (by simp [h2])) rfl ?_
      refine Oa rfl rfl (O_end [2, 3, 17] (F' := [(2, _), (3, _), (17, _)]) rfl (W_cond_true rfl (Sr (Og (vl_fieldAddr fo40_1 rfl) rfl ?_))))
      refine Og (vl_load ag2 rfl (k2.cell' rfl)) rfl ?_
      refine Og (vl_fieldAddr fo40_1 rfl) rfl ?_
      refine Og (vl_load ag2 rfl (k3.cell' rfl)) rfl ?_
      refine Og (vl_lss rfl rfl) rfl ?_
      refine O_go (gn rfl) (st_call bd102 rfl rfl rfl rfl (r_by _ _) ?_)
      rintro v28 w28 ⟨i, rfl, hi, rfl⟩
      refine Oa rfl rfl (O_end [4] (F' := [(4, _)]) rfl (W_ret ?_))
      repeat (first | refine then_ret ?_ | refine block_ret ?_)
      refine ret1 rfl rfl ?_
      exact ⟨i, rfl, by simp [h2, hi], hc⟩
  · refine W_region (Og (vl_fieldAddr fo40_0 rfl) rfl ?_)
    refine Og (vl_load ag37 rfl (k2.cell' rfl)) rfl ?_
    refine Og (vl_fieldAddr fo40_0 rfl) rfl ?_
    refine Og (vl_load ag37 rfl (k3.cell' rfl)) rfl ?_
    refine Og (vl_is (b' := true) (vl_ine rfl rfl) (by simp [h1])) rfl ?_
    refine Oa rfl rfl (O_end [2, 3, 5] (F' := [(2, _), (3, _), (5, _)]) rfl (W_cond_true rfl (Sr (Og (vl_fieldAddr fo40_0 rfl) rfl ?_))))
    refine Og (vl_load ag37 rfl (k2.cell' rfl)) rfl ?_
    refine Og (vl_fieldAddr fo40_0 rfl) rfl ?_
    refine Og (vl_load ag37 rfl (k3.cell' rfl)) rfl ?_
    refine Og (vl_lss rfl rfl) rfl ?_
    refine O_go (gn rfl) (st_call bd102 rfl rfl rfl rfl (r_by _ _) ?_)
    rintro v16 w16 ⟨i, rfl, hi, rfl⟩
    refine Oa rfl rfl (O_end [4] (F' := [(4, _)]) rfl (W_ret ?_))
    repeat (first | refine then_ret ?_ | refine block_ret ?_)
    refine ret1 rfl rfl ?_
    exact ⟨i, rfl, by simp [h1, hi], hc⟩
theorem take_same {α : Type} {l m : List α} {j : Nat} (h : l.take j = m.take j) (hl : l.length ≤ j ∨ m.length ≤ j) (he : l.length = m.length) : l = m := by
  rw [List.take_of_length_le (by omega), List.take_of_length_le (by omega)] at h
  exact h
theorem r_Lists (v u : Value) (l m : List Val) (w : World) (hv : IsVals w v l) (hu : IsVals w u m) (hl : l.length ≤ 1048576) : Ret Tryz.prog 69 #[v, u] w fun r w' => ∃ i : Int, r = .int .i64 i ∧ (i = 0 ↔ l = m) ∧ Chg [] w w' := by
  obtain ⟨pv, cv, rfl, _⟩ := id (Arr.val hv)
  obtain ⟨pu, cu, rfl, _⟩ := id (Arr.val hu)
  refine Ret.of_W (args := [_, _]) Tryz.func69 rfl rfl rfl rfl ?_

  refine Sr (Oa rfl rfl (O_end [0, 1] (F' := [(0, _), (1, _)]) rfl ?_))
  refine W_seq_cut (fun F wx => ∃ (j : Nat) (f16 : Value), F = [(0, .slice pv l.length cv), (1, .slice pu m.length cu), (5, .int .i64 j), (16, f16)] ∧ l.take j = m.take j ∧ (l.length ≤ j ∨ m.length ≤ j) ∧ Chg [] w wx) ?_ ?_
  · refine Sr (Oa rfl rfl (O_end [0, 1, 5] (F' := [(0, _), (1, _), (5, _)]) rfl (W_block ?_)))
    refine W_loop [0, 1, 5] (fun k F wx => ∃ j : Nat, k = l.length - j ∧ j ≤ l.length ∧ j ≤ m.length ∧ F = [(0, .slice pv l.length cv), (1, .slice pu m.length cu), (5, .int .i64 j)] ∧ l.take j = m.take j ∧ Chg [] w wx) (m := l.length - 0) ⟨0, rfl, Nat.zero_le _, Nat.zero_le _, rfl, by simp, Chg.refl _ _⟩ ?_
    rintro k F wx ⟨j, rfl, hj, hj', rfl, htk, hcx⟩
    refine W_seq (W_seq ?_)
    by_cases h1 : j < l.length
    · by_cases h2 : j < m.length
      · refine W_region (Om rfl rfl (Om rfl rfl (Og (vl_len sl48 rfl) rfl ?_)))
        refine Og (vl_is (b' := true) (vl_lss rfl rfl) (decide_eq_true (by omega))) rfl ?_
        refine Om rfl rfl ?_
        refine Oy rfl rfl (vl_move rfl) rfl ?_
        refine Oy rfl rfl (vl_move rfl) rfl ?_
        refine Oy rfl rfl (vl_len sl48 rfl) rfl ?_
        refine Oy rfl rfl (vl_is (b' := true) (vl_lss rfl rfl) (decide_eq_true (by omega))) rfl ?_
        refine Ot rfl rfl rfl (O_end [0, 1, 5, 16] (F' := [(0, _), (1, _), (5, _), (16, _)]) rfl (W_cond_true rfl (W_skipE ?_)))
        have hx : l[j]? = some l[j] := by simp [h1]
        have hy : m[j]? = some m[j] := by simp [h2]
        generalize l[j] = x at hx
        generalize m[j] = y at hy
        refine W_seq (W_block (W_seq ?_))
        have hd : Chg [] wx wx.drew := Chg.drew [] _
        have hcl1 : ∀ {wz : World}, Chg [] wx wz → ∃ b off cap, Value.slice pv l.length cv = .slice (some ⟨b, off, none⟩) l.length cap ∧ Cells wz b (off + j * 4) x.cs := fun hc => Arr.at cs_len (Arr.chg0 hv (hcx.trans hc)) hx
        have hcl2 : ∀ {wz : World}, Chg [] wx wz → ∃ b off cap, Value.slice pu m.length cu = .slice (some ⟨b, off, none⟩) m.length cap ∧ Cells wz b (off + j * 4) y.cs := fun hc => Arr.at cs_len (Arr.chg0 hu (hcx.trans hc)) hy
        obtain ⟨b, off, cap, hve, -⟩ := hcl1 (Chg.refl [] wx)
        obtain ⟨b', off', cap', hue, -⟩ := hcl2 (Chg.refl [] wx)
        cases hve
        cases hue
        have hc1 : ∀ {wz : World}, Chg [] wx wz → Cells wz b (off + j * 4) x.cs := fun hc => by
          obtain ⟨_, _, _, he, h⟩ := hcl1 hc
          cases he; exact h
        have hc2 : ∀ {wz : World}, Chg [] wx wz → Cells wz b' (off' + j * 4) y.cs := fun hc => by
          obtain ⟨_, _, _, he, h⟩ := hcl2 hc
          cases he; exact h
        refine W_draw (fun wz => Chg [] wx wz) mix (by kernel_rfl) hd ?_
        refine Tm rfl rfl (Tm rfl rfl ?_)
        refine t_pure rfl (gn rfl) (fun _ => vl_indexAddr sl48 sz40 rfl rfl _ rfl h1) rfl rfl ?_
        refine t_read rfl (gn rfl) (fun wz hz => vl_loadAgg ag40 sz40 rfl rfl (hc1 hz)) rfl rfl ?_
        refine Tm rfl rfl (Tm rfl rfl ?_)
        refine t_pure rfl (gn rfl) (fun _ => vl_indexAddr sl48 sz40 rfl rfl _ rfl h2) rfl rfl ?_
        refine t_read rfl (gn rfl) (fun wz hz => vl_loadAgg ag40 sz40 rfl rfl (hc2 hz)) rfl rfl ?_
        refine t_st rfl (gn rfl) (st_call bd101 rfl rfl rfl rfl (r_Order x y _) ?_)
        rintro v27 w27 ⟨i, rfl, hi, c27⟩
        refine ⟨.inl (hd.trans c27), ?_⟩
        refine Ta rfl rfl ?_
        refine T_end [0, 1, 5, 6] (F' := [(0, _), (1, _), (5, _), (6, _)]) rfl ?_
        refine W_seq ?_
        by_cases hxy : x = y
        · have hi0 := hi.2 hxy
          subst hi0
          refine W_region (Om rfl rfl ?_)
          refine Og (vl_is (b' := false) (vl_ine rfl rfl) (ine_f (by omega))) rfl ?_
          refine O_end [0, 1, 5, 6, 29] (F' := [(0, _), (1, _), (5, _), (6, _), (29, _)]) rfl (W_cond_false rfl (W_skip (block_normal (W_region (Om rfl rfl ?_)))))
          refine Og (vl_add rfl rfl (by omega)) rfl ?_
          refine Oa rfl rfl ?_
          refine O_endN [0, 1, 5] (F' := [(0, _), (1, _), (5, _)]) rfl ?_
          refine ⟨l.length - (j + 1), by omega, j + 1, rfl, by omega, by omega, rfl, ?_, (hcx.trans hd).trans c27⟩
          rw [take_snoc hx, take_snoc hy, htk, hxy]
        · have hi0 : i ≠ 0 := fun h => hxy (hi.1 h)
          refine W_region (Om rfl rfl ?_)
          refine Og (vl_is (b' := true) (vl_ine rfl rfl) (by simp [hi0])) rfl ?_
          refine O_end [0, 1, 5, 6, 29] (F' := [(0, _), (1, _), (5, _), (6, _), (29, _)]) rfl (W_cond_true rfl (Sr (Om rfl rfl (Oa rfl rfl (O_end [4] (F' := [(4, _)]) rfl (W_ret ?_))))))
          repeat (first | refine then_ret ?_ | refine block_ret ?_)
          refine ret1 rfl rfl ?_
          refine ⟨i, rfl, ⟨fun h => absurd h hi0, fun h => ?_⟩, (hcx.trans hd).trans c27⟩
          rw [h, hy] at hx
          cases hx
          exact absurd rfl hxy
      · refine W_region (Om rfl rfl (Om rfl rfl (Og (vl_len sl48 rfl) rfl ?_)))
        refine Og (vl_is (b' := true) (vl_lss rfl rfl) (decide_eq_true (by omega))) rfl ?_
        refine Om rfl rfl ?_
        refine Oy rfl rfl (vl_move rfl) rfl ?_
        refine Oy rfl rfl (vl_move rfl) rfl ?_
        refine Oy rfl rfl (vl_len sl48 rfl) rfl ?_
        refine Oy rfl rfl (vl_is (b' := false) (vl_lss rfl rfl) (decide_eq_false (by omega))) rfl ?_
        refine Ot rfl rfl rfl (O_end [0, 1, 5, 16] (F' := [(0, _), (1, _), (5, _), (16, _)]) rfl (W_cond_false rfl ?_))
        refine W_exit ?_
        repeat (first | refine then_exit ?_ | refine blockF_other rfl ?_)
        refine blockF_exit _ ?_
        exact ⟨j, _, rfl, htk, .inr (by omega), hcx⟩
    · refine W_region (Om rfl rfl (Om rfl rfl (Og (vl_len sl48 rfl) rfl ?_)))
      refine Og (vl_is (b' := false) (vl_lss rfl rfl) (decide_eq_false (by omega))) rfl ?_
      refine Om rfl rfl (Oz rfl rfl rfl rfl (Oz rfl rfl rfl rfl (Oz rfl rfl rfl rfl (Oz rfl rfl rfl rfl (Of rfl rfl rfl (O_end [0, 1, 5, 16] (F' := [(0, _), (1, _), (5, _), (16, _)]) rfl (W_cond_false rfl ?_)))))))
      refine W_exit ?_
      repeat (first | refine then_exit ?_ | refine blockF_other rfl ?_)
      refine blockF_exit _ ?_
      exact ⟨j, _, rfl, htk, .inl (by omega), hcx⟩
  rintro F wx ⟨j, f16, rfl, htk, hend, hcx⟩
  refine W_seq (W_seq ?_)
  by_cases he : l.length = m.length
  · refine W_region (Om rfl rfl (Og (vl_len sl48 rfl) rfl (Om rfl rfl (Og (vl_len sl48 rfl) rfl ?_))))
    refine Og (vl_is (b' := true) (vl_ieq rfl rfl) (by simp [he])) rfl ?_
    refine O_end [0, 1, 35] (F' := [(0, _), (1, _), (35, _)]) rfl (W_cond_true rfl (Sr (Oa rfl rfl (O_end [4] (F' := [(4, _)]) rfl (W_ret ?_)))))
    repeat (first | refine then_ret ?_ | refine block_ret ?_)
    refine ret1 rfl rfl ?_
    exact ⟨0, rfl, by simp [take_same htk hend he], hcx⟩
  · refine W_region (Om rfl rfl (Og (vl_len sl48 rfl) rfl (Om rfl rfl (Og (vl_len sl48 rfl) rfl ?_))))
    refine Og (vl_is (b' := false) (vl_ieq rfl rfl) (by simp; omega)) rfl ?_
    refine O_end [0, 1, 35] (F' := [(0, _), (1, _), (35, _)]) rfl (W_cond_false rfl (W_skipE (Sr (Om rfl rfl (Og (vl_len sl48 rfl) rfl (Om rfl rfl (Og (vl_len sl48 rfl) rfl (Og (vl_lss rfl rfl) rfl ?_))))))))
    refine O_go (gn rfl) (st_call bd102 rfl rfl rfl rfl (r_by _ _) ?_)
    rintro v41 w41 ⟨i, rfl, hi, rfl⟩
    refine Oa rfl rfl (O_end [4] (F' := [(4, _)]) rfl (W_ret ?_))
    refine ret1 rfl rfl ?_
    exact ⟨i, rfl, ⟨fun h => absurd h hi, fun h => absurd (by rw [h]) he⟩, hcx⟩
theorem r_Same (v u : Value) (l m : List Val) (w : World) (hv : IsVals w v l) (hu : IsVals w u m) (hl : l.length ≤ 1048576) : Ret Tryz.prog 29 #[v, u] w fun r w' => r = .bool (decide (l = m)) ∧ Chg [] w w' := by
  refine Ret.of_W (args := [_, _]) Tryz.func29 rfl rfl rfl rfl ?_

  refine Sr (Oa rfl rfl (O_end [0, 1] (F' := [(0, _), (1, _)]) rfl (Sr (Om rfl rfl (Om rfl rfl ?_)))))
  refine O_go (gn rfl) (st_call bd69 rfl rfl rfl rfl (r_Lists v u l m w hv hu hl) ?_)
  rintro v7 w7 ⟨i, rfl, hi, c7⟩
  refine Og (vl_ieq rfl rfl) rfl (Oa rfl rfl (O_end [4] (F' := [(4, _)]) rfl (W_ret ?_)))
  refine ret1 rfl rfl ?_
  refine ⟨?_, c7⟩
  congr 1
  rw [decide_eq_decide]
  exact hi
theorem r_SameRows (v u : Value) (l m : List (List Val)) (w : World) (hv : IsRows w v l) (hu : IsRows w u m) (hl : ∀ r ∈ l, r.length ≤ 1048576) (hn : l.length ≤ 1048576) : Ret Tryz.prog 42 #[v, u] w fun r w' => r = .bool (decide (l = m)) ∧ Chg [] w w' := by
  obtain ⟨pv, cv, rfl, _⟩ := id (Arr2.val hv)
  obtain ⟨pu, cu, rfl, _⟩ := id (Arr2.val hu)
  refine Ret.of_W (args := [_, _]) Tryz.func42 rfl rfl rfl rfl ?_

  refine Sr (Oa rfl rfl (O_end [0, 1] (F' := [(0, _), (1, _)]) rfl (W_seq (W_seq ?_))))
  by_cases he : l.length = m.length
  · refine W_region (Om rfl rfl (Og (vl_len sl42 rfl) rfl (Om rfl rfl (Og (vl_len sl42 rfl) rfl ?_))))
    refine Og (vl_is (b' := false) (vl_ine rfl rfl) (by simp [he])) rfl ?_
    refine O_end [0, 1, 10] (F' := [(0, _), (1, _), (10, _)]) rfl (W_cond_false rfl (W_skipE (W_seq (Sr (Oa rfl rfl (O_end [0, 1, 5] (F' := [(0, _), (1, _), (5, _)]) rfl (W_block ?_)))))))
    refine W_loop [0, 1, 5] (fun k F wx => ∃ j : Nat, k = l.length - j ∧ j ≤ l.length ∧ F = [(0, .slice pv l.length cv), (1, .slice pu m.length cu), (5, .int .i64 j)] ∧ l.take j = m.take j ∧ Chg [] w wx) (m := l.length - 0) ⟨0, rfl, Nat.zero_le _, rfl, by simp, Chg.refl _ _⟩ ?_
    rintro k F wx ⟨j, rfl, hj, rfl, htk, hcx⟩
    refine W_seq (Sr (Om rfl rfl (Om rfl rfl (Og (vl_len sl42 rfl) rfl (Og (vl_lss rfl rfl) rfl (O_end [0, 1, 5, 14] (F' := [(0, _), (1, _), (5, _), (14, _)]) rfl ?_))))))
    refine W_cond rfl (fun hT => ?_) (fun hF => ?_)
    · refine W_skipE ?_
      have h1 : j < l.length := by have := of_decide_eq_true hT; omega
      have hx : l[j]? = some l[j] := by simp [h1]
      have hy : m[j]? = some (m[j]'(by omega)) := by simp
      generalize l[j] = x at hx
      generalize m[j]'(by omega) = y at hy
      have hxl := hl x (List.mem_of_getElem? hx)
      refine W_seq (W_block (W_seq ?_))
      have hd : Chg [] wx wx.drew := Chg.drew [] _
      obtain ⟨b, off, cap, ux, hve, hc1, hux⟩ := Arr2.at (hv.chg0 hcx) hx
      obtain ⟨b', off', cap', uy, hue, hc2, huy⟩ := Arr2.at (hu.chg0 hcx) hy
      cases hve
      cases hue
      have g1 : ∀ {wz : World}, Chg [] wx wz → wz.cell? ⟨b, off + j * 1, none⟩ = some ux := fun hc => Chg.cell hc hc1
      have g2 : ∀ {wz : World}, Chg [] wx wz → wz.cell? ⟨b', off' + j * 1, none⟩ = some uy := fun hc => Chg.cell hc hc2
      refine W_draw (fun wz => Chg [] wx wz) mix (by kernel_rfl) hd ?_
      refine Tm rfl rfl (Tm rfl rfl ?_)
      refine t_pure rfl (gn rfl) (fun _ => vl_indexAddr sl42 sz48 rfl rfl _ rfl h1) rfl rfl ?_
      refine t_read rfl (gn rfl) (fun wz hz => vl_load ag48 rfl (g1 hz)) rfl rfl ?_
      refine Tm rfl rfl (Tm rfl rfl ?_)
      refine t_pure rfl (gn rfl) (fun _ => vl_indexAddr sl42 sz48 rfl rfl _ rfl (show j < m.length by omega)) rfl rfl ?_
      refine t_read rfl (gn rfl) (fun wz hz => vl_load ag48 rfl (g2 hz)) rfl rfl ?_
      refine t_st rfl (gn rfl) (st_call bd29 rfl rfl rfl rfl (r_Same ux uy x y _ (Arr.chg0 hux hd) (Arr.chg0 huy hd) hxl) ?_)
      rintro v25 w25 ⟨rfl, c25⟩
      refine ⟨.inl (hd.trans c25), ?_⟩
      refine t_pure rfl (gn rfl) (fun _ => vl_not rfl) rfl rfl ?_
      refine T_end [0, 1, 5, 26] (F' := [(0, _), (1, _), (5, _), (26, _)]) rfl ?_
      by_cases hxy : x = y
      · rw [decide_eq_true hxy]
        refine W_cond_false rfl (W_skip (block_normal (W_region (Om rfl rfl ?_))))
        refine Og (vl_add rfl rfl (by omega)) rfl ?_
        refine Oa rfl rfl ?_
        refine O_endN [0, 1, 5] (F' := [(0, _), (1, _), (5, _)]) rfl ?_
        refine ⟨l.length - (j + 1), by omega, j + 1, rfl, by omega, rfl, ?_, (hcx.trans hd).trans c25⟩
        rw [take_snoc hx, take_snoc hy, htk, hxy]
      · rw [decide_eq_false hxy]
        refine W_cond_true rfl (Sr (Oa rfl rfl (O_end [4] (F' := [(4, _)]) rfl (W_ret ?_))))
        repeat (first | refine then_ret ?_ | refine block_ret ?_)
        refine ret1 rfl rfl ?_
        refine ⟨?_, (hcx.trans hd).trans c25⟩
        rw [decide_eq_false fun h => ?_]
        rw [h, hy] at hx
        cases hx
        exact hxy rfl
    · refine W_exit ?_
      repeat (first | refine then_exit ?_ | refine blockF_other rfl ?_)
      refine blockF_exit _ ?_
      have h1 : l.length ≤ j := by have := of_decide_eq_false hF; omega
      refine Sr (Oa rfl rfl (O_end [4] (F' := [(4, _)]) rfl (W_ret ?_)))
      refine ret1 rfl rfl ?_
      rw [decide_eq_true (take_same htk (.inl h1) he)]
      exact ⟨rfl, hcx⟩
  · refine W_region (Om rfl rfl (Og (vl_len sl42 rfl) rfl (Om rfl rfl (Og (vl_len sl42 rfl) rfl ?_))))
    refine Og (vl_is (b' := true) (vl_ine rfl rfl) (by simp; omega)) rfl ?_
    refine O_end [0, 1, 10] (F' := [(0, _), (1, _), (10, _)]) rfl (W_cond_true rfl (Sr (Oa rfl rfl (O_end [4] (F' := [(4, _)]) rfl (W_ret ?_)))))
    repeat (first | refine then_ret ?_ | refine block_ret ?_)
    refine ret1 rfl rfl ?_
    rw [decide_eq_false fun h => he (by rw [h])]
    exact ⟨rfl, Chg.refl _ _⟩
end Go.Wk

namespace Go.Wk
open Go.Proofs
set_option maxRecDepth 10000

theorem vl_bne {P : Program} {n : Nat} {F : Fr} {w : World} {dst : Option Nat} {ty : TypeId} {pos : String} {af : Array Edge} {gd : Option (Nat × Bool)} {x y : Operand} {t u : TypeId} {a b : Bool} (hb : boOf P t = true) (hx : ev F x = some (.bool a)) (hy : ev F y = some (.bool b)) : Vl P n F ⟨dst, .binOp .neq t x y u, ty, pos, af, gd⟩ w (.bool (!(a == b))) w := by
  intro c ha
  have hu : P.underlying t = some .bool := by unfold boOf at hb; split at hb <;> simp_all
  have h1 : (Op.equal t (.bool a) (.bool b)).run P w = .ok (a == b) w := run_equal fun d => by simp [Op.equalIn, run_underlying hu]
  simp [execOp, ha.eval hx, ha.eval hy, eqGuard, binOp, h1]
section
variable {w : World} {t : Nat} {own : List Nat} {s : Sch} {rows : List (List Val)}
theorem tt_Key (h : IsTab w t own s rows) (hE : EOk w) {v : Value} {row : List Val} (hl : IsVals w v row) (hg : ∀ x ∈ row, x.Rng) (hn : row.length ≤ 1048576) :
    Ret Tryz.prog 20 #[.pointer (some ⟨t, 0, none⟩), v] w fun r w' => r = .tuple #[.string (if rowN s row = 0 then keyR s row else e0), .int .i64 (rowN s row)] ∧ Chg [] w w' := by
  obtain ⟨pm, c, k, u, sv, xs, main, subs, rfl, hm, ht⟩ := h
  exact t_Key v row w hE hm ht hl hg hn
theorem tt_Find (h : IsTab w t own s rows) (n : Int) {v : Value} {vals : List Val} (hl : IsVals w v vals) (hg : ∀ x ∈ vals, x.Rng) :
    Ret Tryz.prog 31 #[.pointer (some ⟨t, 0, none⟩), .int .i64 n, v] w fun r w' => ∃ o, r = .tuple #[o, .bool (findN s rows n vals).isSome] ∧ IsVals w' o ((findN s rows n vals).getD []) ∧ (∀ b ∈ blkOf o, w.heap.size ≤ b) ∧ Chg [] w w' := by
  obtain ⟨pm, c, k, u, sv, xs, main, subs, rfl, hm, ht⟩ := h
  exact t_Find n v vals w hm ht hl hg
theorem tt_Get (h : IsTab w t own s rows) (key : ByteArray) :
    Ret Tryz.prog 23 #[.pointer (some ⟨t, 0, none⟩), .string key] w fun r w' => ∃ o, r = .tuple #[o, .bool (getR s rows key).isSome] ∧ IsVals w' o ((getR s rows key).getD []) ∧ (∀ b ∈ blkOf o, w.heap.size ≤ b) ∧ Chg [] w w' := by
  obtain ⟨pm, c, k, u, sv, xs, main, subs, rfl, hm, ht⟩ := h
  exact t_Get key w hm ht
theorem tt_Len (h : IsTab w t own s rows) :
    Ret Tryz.prog 15 #[.pointer (some ⟨t, 0, none⟩)] w fun r w' => r = .int .i64 rows.length ∧ w' = w := by
  obtain ⟨pm, c, k, u, sv, xs, main, subs, rfl, hm, ht⟩ := h
  exact t_Len w hm ht
end
theorem IsVals.tab {w w' : World} {t : Nat} {own : List Nat} {s : Sch} {rows : List (List Val)} (h : IsTab w t own s rows) {v : Value} {l : List Val} (hv : IsVals w v l) (hc : Chg own w w') : IsVals w' v l :=
  (ArrL.tab (vs := [v]) (ls := [l]) h.pg rfl hc ⟨hv, trivial⟩).1
theorem Blk.tab {w w' : World} {t : Nat} {own : List Nat} {s : Sch} {rows : List (List Val)} (h : IsTab w t own s rows) {b : Nat} {e : TypeId} {c : List Value} (hb : Blk w b e c) (hne : Nat.beq e 147 = false) (hc : Chg own w w') : Blk w' b e c := by
  refine hb.chg hc fun hm => ?_
  obtain ⟨c', hp⟩ := h.pg b hm
  have := Option.some.inj ((show w.heap[b]? = _ from hb).symm.trans hp)
  cases this
  simp at hne
theorem insR_no {s : Sch} {rows : List (List Val)} {row : List Val} (h : insE s rows row ≠ 0) : insR s rows row = rows := by unfold insR; rw [if_neg h]
theorem updR_no {s : Sch} {rows : List (List Val)} {row : List Val} {k : ByteArray} (h : updE s rows k row ≠ 0) : updR s rows k row = rows := by unfold updR; rw [if_neg h]
end Go.Wk

namespace Go.Wk
open Go.Proofs
set_option maxRecDepth 10000

def vI (n : Int) : Val := ⟨1, n, 0, e0⟩
theorem vI_rng {n : Int} (h : -9223372036854775808 ≤ n ∧ n ≤ 9223372036854775807) : (vI n).Rng := ⟨⟨by simp [vI], by simp [vI]⟩, h, by simp [vI]⟩
def sW : Sch := ⟨[⟨⟨#[97]⟩, 1, 1, false⟩, ⟨⟨#[98]⟩, 1, 1, true⟩], [0], [[1]]⟩
def wk1 : List (List Val) := insR sW [] [vI 1, vI 5]
def wk2 : List (List Val) := insR sW wk1 [vI 2, Val.null]
def wk3 : List (List Val) := insR sW wk2 [vI 3, Val.null]
def wk4 : List (List Val) := repR sW wk3 [vI 2, vI 5]
theorem wk_s : rightS sW = true := by decide +kernel
theorem wk_1 : insE sW [] [vI 1, vI 5] = 0 := by decide +kernel
theorem wk_2 : insE sW wk1 [vI 2, Val.null] = 0 := by decide +kernel
theorem wk_3 : insE sW wk2 [vI 3, Val.null] = 0 := by decide +kernel
theorem wk_4 : insE sW wk3 [vI 1, vI 6] = 220 := by decide +kernel
theorem wk_5 : insE sW wk3 [vI 4, vI 5] = 220 := by decide +kernel
theorem wk_6 : repE sW wk3 [vI 2, vI 5] = 0 := by decide +kernel
theorem wk_7 : repG sW wk3 [vI 2, vI 5] = [[vI 1, vI 5], [vI 2, Val.null]] := by decide +kernel
theorem wk_8 : findN sW wk4 1 [vI 5] = some [vI 2, vI 5] := by decide +kernel
theorem wk_9 : rowN sW [vI 3, Val.null] = 0 := by decide +kernel
theorem wk_10 : updE sW wk4 (keyR sW [vI 3, Val.null]) [vI 2, vI 7] = 220 := by decide +kernel
theorem wk_11 : wk4.length = 2 := by decide +kernel

theorem l_num (n : Int) (w : World) : Ret Tryz.prog 11 #[.int .i64 n] w fun r w' => r = .int .i64 n ∧ w' = w := by
  refine Ret.of_W (args := [_]) Tryz.func11 rfl rfl rfl rfl ?_

  refine Sr (Oa rfl rfl (O_end [0] (F' := [(0, _)]) rfl (Sr (Om rfl rfl (Oa rfl rfl (O_end [2] (F' := [(2, _)]) rfl (W_ret ?_)))))))
  refine ret1 rfl rfl ?_
  exact ⟨rfl, rfl⟩
theorem l_of (n : Int) (w : World) : Ret Tryz.prog 13 #[.int .i64 n] w fun r w' => r = (vI n).v ∧ Chg [] w w' := by
  refine Ret.of_W (args := [_]) Tryz.func13 rfl rfl rfl rfl ?_

  refine Sr ?_
  refine O_go (gn rfl) (st_alloc zr40 rfl rfl ?_)
  intro b2 w2 e2 n2 c2 k2
  refine O_end [0, 2] (F' := [(0, _), (2, _)]) rfl (Sr (Om rfl rfl ?_))
  refine Og (vl_build pl40 zr40 rfl (vs := [_, _]) rfl (css := [_, _]) ⟨rfl, rfl, trivial⟩ rfl rfl (cs := [_, _, _, _]) rfl) rfl ?_
  refine O_go (gn rfl) (st_store sz40 rfl rfl rfl rfl k2 (by simp) (Val.one (vI n)) ?_)
  intro wA nA cA kA
  refine O_end [2] (F' := [(2, _)]) rfl (W_ret ?_)
  refine retC rfl ag40 sz40 rfl rfl (Cells.of_blk0 kA) ?_
  exact ⟨rfl, c2.own cA (by intro y hy; simp at hy; omega)⟩
theorem vals_of {w : World} {b : Nat} {l : List Val} {n : Nat} (hb : Blk w b 40 (fl Val.cs l)) (hn : l.length ≤ maxLen) (he : l.length = n) : IsVals w (.slice (some ⟨b, 0, none⟩) n n) l := by
  subst he
  exact Arr.of_blk cs_len Val.one hb hn
theorem l_row (n : Int) (x : Val) (w : World) : Ret Tryz.prog 41 #[.int .i64 n, x.v] w fun r w' => IsVals w' r [vI n, x] ∧ (∀ b ∈ blkOf r, w.heap.size ≤ b) ∧ Chg [] w w' := by
  refine Ret.of_W (args := [_, _]) Tryz.func41 rfl rfl rfl rfl ?_

  refine Sr ?_
  refine O_go (gn rfl) (st_box rfl rfl rfl ?_)
  intro b3 w3 e3 n3 c3 k3
  refine Oa rfl rfl (O_end [0, 3] (F' := [(0, _), (3, _)]) rfl ?_)
  have k3 : Blk w3 b3 40 x.cs := k3
  refine W_seq ?_
  have hd : Chg [] w3 w3.drew := Chg.drew [] _
  refine W_draw (fun wz => Chg [] w3 wz) mix (by kernel_rfl) hd ?_
  refine Tm rfl rfl ?_
  refine t_st rfl (gn rfl) (st_call bd13 rfl rfl rfl rfl (l_of n _) ?_)
  rintro v6 w6 ⟨rfl, c6⟩
  refine ⟨.inl (hd.trans c6), ?_⟩
  refine t_read rfl (gn rfl) (fun wz hz => vl_loadAgg ag40 sz40 rfl rfl (Cells.of_blk0 (k3.chg0 hz))) rfl rfl ?_
  refine t_st rfl (gn rfl) (st_buildSlice ap48 rfl (vs := [_, _]) rfl (css := [_, _]) ⟨rfl, rfl, trivial⟩ rfl rfl (cs := [_, _, _, _, _, _, _, _]) rfl rfl ?_)
  intro b8 w8 e8 n8 c8 k8
  refine ⟨.inl ((hd.trans c6).trans c8), ?_⟩
  refine Ta rfl rfl ?_
  refine T_end [4] (F' := [(4, _)]) rfl ?_
  refine W_ret ?_
  refine ret1 rfl rfl ?_
  have hs := ((c3.trans hd).trans c6).size
  refine ⟨vals_of (l := [vI n, x]) k8 (by simp [maxLen]) rfl, by intro b hb; simp [blkOf] at hb; omega, ((c3.trans hd).trans c6).trans c8⟩
end Go.Wk

namespace Go.Wk
open Go.Proofs
set_option maxRecDepth 10000

structure WkS (w0 w : World) (t : Nat) (own : List Nat) (b3 : Nat) (rows : List (List Val)) : Prop where
  e : EOk w
  tab : IsTab w t own sW rows
  nul : Blk w b3 40 Val.null.cs
  chg : Chg [] w0 w
  fr : ∀ p ∈ own, w0.heap.size ≤ p
section
variable {w0 w w' : World} {t : Nat} {own : List Nat} {b3 : Nat} {rows rows' : List (List Val)}
theorem WkS.chg0 (h : WkS w0 w t own b3 rows) (hc : Chg [] w w') : WkS w0 w' t own b3 rows := ⟨h.e.chg0 hc, h.tab.chg0 hc, h.nul.chg0 hc, h.chg.trans hc, h.fr⟩
theorem WkS.step (h : WkS w0 w t own b3 rows) (hc : Chg own w w') (ht : IsTab w' t own sW rows') : WkS w0 w' t own b3 rows' :=
  ⟨h.e.tab h.tab hc, ht, h.nul.tab h.tab rfl hc, h.chg.own hc h.fr, h.fr⟩
theorem WkS.ins (h : WkS w0 w t own b3 rows) {v : Value} {row : List Val} (hl : IsVals w v row) (hg : ∀ x ∈ row, x.Rng) (hn : row.length ≤ 1048576) {e : Int} (he : insE sW rows row = e) (hr : insR sW rows row = rows') :
    Ret Tryz.prog 12 #[.pointer (some ⟨t, 0, none⟩), v] w fun r w' => r = .int .i64 e ∧ WkS w0 w' t own b3 rows' := by
  refine (t_Insert t own sW rows v row w h.e h.tab hl hg hn).mono fun r w' ⟨h1, h2, h3⟩ => ⟨by rw [h1, he], h.step h3 (hr ▸ h2)⟩
theorem WkS.ign (h : WkS w0 w t own b3 rows) {v : Value} {row : List Val} (hl : IsVals w v row) (hg : ∀ x ∈ row, x.Rng) (hn : row.length ≤ 1048576) (he : insE sW rows row = 220) :
    Ret Tryz.prog 38 #[.pointer (some ⟨t, 0, none⟩), v] w fun r w' => r = .tuple #[.bool false, .int .i64 0] ∧ WkS w0 w' t own b3 rows := by
  refine (t_Ignore t own sW rows v row w h.e h.tab hl hg hn).mono fun r w' ⟨h1, h2, h3⟩ => ⟨?_, h.step h3 ?_⟩
  · rw [h1, ignB, ignE, he]; rfl
  · rwa [insR_no (by rw [he]; decide)] at h2
theorem WkS.rep (h : WkS w0 w t own b3 rows) {v : Value} {row : List Val} (hl : IsVals w v row) (hg : ∀ x ∈ row, x.Rng) (hn : row.length ≤ 1048576) {g : List (List Val)} (he : repE sW rows row = 0) (hG : repG sW rows row = g) (hr : repR sW rows row = rows') :
    Ret Tryz.prog 14 #[.pointer (some ⟨t, 0, none⟩), v] w fun r w' => ∃ o, r = .tuple #[o, .int .i64 0] ∧ IsRows w' o g ∧ WkS w0 w' t own b3 rows' := by
  refine (t_Replace t own sW rows v row w h.e h.tab hl hg hn).mono fun r w' ⟨o, h1, h2, _, h3, h4⟩ => ⟨o, by rw [h1, he], hG ▸ h2, h.step h4 (hr ▸ h3)⟩
theorem WkS.find (h : WkS w0 w t own b3 rows) (n : Int) {v : Value} {vals r : List Val} (hl : IsVals w v vals) (hg : ∀ x ∈ vals, x.Rng) (he : findN sW rows n vals = some r) :
    Ret Tryz.prog 31 #[.pointer (some ⟨t, 0, none⟩), .int .i64 n, v] w fun x w' => ∃ o, x = .tuple #[o, .bool true] ∧ IsVals w' o r ∧ WkS w0 w' t own b3 rows ∧ Chg [] w w' := by
  refine (tt_Find h.tab n hl hg).mono fun x w' ⟨o, h1, h2, _, h3⟩ => ⟨o, ?_, ?_, h.chg0 h3, h3⟩
  · rw [h1, he]; rfl
  · rw [he] at h2; exact h2
theorem WkS.key (h : WkS w0 w t own b3 rows) {v : Value} {row : List Val} (hl : IsVals w v row) (hg : ∀ x ∈ row, x.Rng) (hn : row.length ≤ 1048576) (he : rowN sW row = 0) :
    Ret Tryz.prog 20 #[.pointer (some ⟨t, 0, none⟩), v] w fun r w' => r = .tuple #[.string (keyR sW row), .int .i64 0] ∧ WkS w0 w' t own b3 rows ∧ Chg [] w w' := by
  refine (tt_Key h.tab h.e hl hg hn).mono fun r w' ⟨h1, h2⟩ => ⟨?_, h.chg0 h2, h2⟩
  rw [h1, he, if_pos rfl]
theorem WkS.upd (h : WkS w0 w t own b3 rows) {v : Value} {row : List Val} {key : ByteArray} (hl : IsVals w v row) (hg : ∀ x ∈ row, x.Rng) (hn : row.length ≤ 1048576) (he : updE sW rows key row = 220) :
    Ret Tryz.prog 39 #[.pointer (some ⟨t, 0, none⟩), .string key, v] w fun r w' => ∃ o, r = .tuple #[o, .int .i64 220] ∧ WkS w0 w' t own b3 rows ∧ Chg own w w' := by
  refine (t_Update t own sW rows v row key w h.e h.tab hl hg hn).mono fun r w' ⟨o, h1, _, _, h2, h3⟩ => ⟨o, by rw [h1, he], h.step h3 ?_, h3⟩
  rwa [updR_no (by rw [he]; decide)] at h2
end
theorem nul_rng : Val.null.Rng := ⟨by decide, by decide, by decide⟩
def wkG : List (List Val) := [ [vI 1, vI 5], [vI 2, Val.null] ]
theorem two_rng {a : Int} (ha : 0 ≤ a ∧ a ≤ 100) {x : Val} (hx : x.Rng) : ∀ y ∈ [vI a, x], y.Rng := by
  intro y hy
  simp at hy
  rcases hy with rfl | rfl
  · exact vI_rng ⟨by omega, by omega⟩
  · exact hx
theorem sW_is {w : World} {b17 b18 b19 b20 : Nat} (h17 : Blk w b17 25 (fl Col.cs sW.cols)) (h18 : Blk w b18 3 [.int .i64 0]) (h19 : Blk w b19 3 [.int .i64 1]) (h20 : Blk w b20 27 [.slice (some ⟨b19, 0, none⟩) 1 1]) :
    IsSch w (.slice (some ⟨b17, 0, none⟩) 2 2) (.slice (some ⟨b18, 0, none⟩) 1 1) (.slice (some ⟨b20, 0, none⟩) 1 1) sW :=
  ⟨Arr.of_blk (l := sW.cols) ccs_len Col.one h17 (by decide), Arr.of_blk (l := sW.key) ics_len ics_one h18 (by decide),
   ⟨[.slice (some ⟨b19, 0, none⟩) 1 1], IsSl.of_blk (n := 1) h20 rfl (by simp [maxLen]) (by intro y hy; simp at hy; subst hy; rfl), Arr.of_blk (l := [1]) ics_len ics_one h19 (by decide), trivial⟩⟩

theorem l_works (w : World) (hE : EOk w) : Ret Tryz.prog 9 #[] w fun r w' => r = .bool true ∧ Chg [] w w' := by
  refine Ret.of_W (args := []) Tryz.func9 rfl rfl rfl rfl ?_

  refine Sr (Oa rfl rfl (O_end [] (F' := []) rfl (W_seq ?_)))
  have g5 : (vI 5).Rng := vI_rng (by decide)
  have g6 : (vI 6).Rng := vI_rng (by decide)
  have g7 : (vI 7).Rng := vI_rng (by decide)
  refine W_region ?_
  refine Og (vl_build pl25 zr25 rfl (vs := [_, _, _]) rfl (css := [_, _, _]) ⟨rfl, rfl, rfl, trivial⟩ rfl rfl (cs := [_, _, _, _]) rfl) rfl ?_
  refine Og (vl_build pl25 zr25 rfl (vs := [_, _, _, _]) rfl (css := [_, _, _, _]) ⟨rfl, rfl, rfl, rfl, trivial⟩ rfl rfl (cs := [_, _, _, _]) rfl) rfl ?_
  refine O_go (gn rfl) (st_buildSlice ap26 rfl (vs := [_, _]) rfl (css := [_, _]) ⟨rfl, rfl, trivial⟩ rfl rfl (cs := [_, _, _, _, _, _, _, _]) rfl rfl ?_)
  intro b17 w17 e17 n17 c17 k17
  refine O_go (gn rfl) (st_buildSlice ap27 rfl (vs := [_]) rfl (css := [_]) ⟨rfl, trivial⟩ rfl rfl (cs := [_]) rfl rfl ?_)
  intro b18 w18 e18 n18 c18 k18
  refine O_go (gn rfl) (st_buildSlice ap27 rfl (vs := [_]) rfl (css := [_]) ⟨rfl, trivial⟩ rfl rfl (cs := [_]) rfl rfl ?_)
  intro b19 w19 e19 n19 c19 k19
  refine O_go (gn rfl) (st_buildSlice ap28 rfl (vs := [_]) rfl (css := [_]) ⟨rfl, trivial⟩ rfl rfl (cs := [_]) rfl rfl ?_)
  intro b20 w20 e20 n20 c20 k20
  refine Og (vl_build pl30 zr30 rfl (vs := [_, _, _]) rfl (css := [_, _, _]) ⟨rfl, rfl, rfl, trivial⟩ rfl rfl (cs := [_, _, _]) rfl) rfl ?_
  refine O_go (gn rfl) (st_call bd10 rfl rfl rfl rfl (t_New _ _ _ sW _ (sW_is (((k17.chg0 c18).chg0 c19).chg0 c20) ((k18.chg0 c19).chg0 c20) (k19.chg0 c20) k20) wk_s) ?_)
  rintro v22 w22 ⟨t, own, rfl, hT22, tF22, oF22, c22⟩
  refine Om rfl rfl (Oe rfl rfl rfl (Oe rfl rfl rfl (Oa rfl rfl (Oa rfl rfl (O_end [1, 2] (F' := [(1, _), (2, _)]) rfl ?_)))))
  have hc22 : Chg [] w w22 := (((c17.trans c18).trans c19).trans c20).trans c22
  refine Sr ?_
  refine O_go (gn rfl) (st_alloc zr40 rfl rfl ?_)
  intro b3 w3 e3 n3 c3 k3
  refine O_end [1, 2, 3] (F' := [(1, _), (2, _), (3, _)]) rfl ?_
  have k3 : Blk w3 b3 40 Val.null.cs := k3
  have hS3 : WkS w w3 t own b3 [] := ⟨(hE.chg0 hc22).chg0 c3, hT22.chg0 c3, k3, hc22.trans c3, fun p hp => by have := oF22 p hp; have := (((c17.trans c18).trans c19).trans c20).size; omega⟩
  refine W_seq (Sr (Om rfl rfl ?_))
  refine O_go (gn rfl) (st_call bd11 rfl rfl rfl rfl (l_num _ _) ?_)
  rintro v26 w26 ⟨rfl, rfl⟩
  refine Og (vl_is (b' := false) (vl_ine rfl rfl) (ine_f (by omega))) rfl ?_
  refine Om rfl rfl ?_
  refine Oy rfl rfl (vl_move rfl) rfl ?_
  refine O_go (gy rfl rfl rfl) (st_call bd13 rfl rfl rfl rfl (l_of _ _) ?_)
  rintro v30 w30 ⟨rfl, c30⟩
  refine O_go (gy rfl rfl rfl) (st_call bd41 rfl rfl rfl rfl (l_row _ (vI 5) _) ?_)
  rintro v31 w31 ⟨i31, f31, c31⟩
  refine O_go (gy rfl rfl rfl) (st_call bd12 rfl rfl rfl rfl (((hS3.chg0 c30).chg0 c31).ins i31 (two_rng (by decide) g5) (by decide) wk_1 (rows' := wk1) rfl) ?_)
  rintro v32 w32 ⟨rfl, hS32⟩
  refine O_go (gy rfl rfl rfl) (st_call bd11 rfl rfl rfl rfl (l_num _ _) ?_)
  rintro v33 w33 ⟨rfl, rfl⟩
  refine Oy rfl rfl (vl_is (b' := false) (vl_ine rfl rfl) (ine_f (by omega))) rfl ?_
  refine Of rfl rfl rfl (Om rfl rfl ?_)
  refine Oy rfl rfl (vl_move rfl) rfl ?_
  refine Oy rfl rfl (vl_loadAgg ag40 sz40 rfl rfl (Cells.of_blk0 hS32.nul)) rfl ?_
  refine O_go (gy rfl rfl rfl) (st_call bd41 rfl rfl rfl rfl (l_row _ Val.null _) ?_)
  rintro v39 w39 ⟨i39, f39, c39⟩
  refine O_go (gy rfl rfl rfl) (st_call bd12 rfl rfl rfl rfl ((hS32.chg0 c39).ins i39 (two_rng (by decide) nul_rng) (by decide) wk_2 (rows' := wk2) rfl) ?_)
  rintro v40 w40 ⟨rfl, hS40⟩
  refine O_go (gy rfl rfl rfl) (st_call bd11 rfl rfl rfl rfl (l_num _ _) ?_)
  rintro v41 w41 ⟨rfl, rfl⟩
  refine Oy rfl rfl (vl_is (b' := false) (vl_ine rfl rfl) (ine_f (by omega))) rfl ?_
  refine Of rfl rfl rfl (Om rfl rfl ?_)
  refine Oy rfl rfl (vl_move rfl) rfl ?_
  refine Oy rfl rfl (vl_loadAgg ag40 sz40 rfl rfl (Cells.of_blk0 hS40.nul)) rfl ?_
  refine O_go (gy rfl rfl rfl) (st_call bd41 rfl rfl rfl rfl (l_row _ Val.null _) ?_)
  rintro v47 w47 ⟨i47, f47, c47⟩
  refine O_go (gy rfl rfl rfl) (st_call bd12 rfl rfl rfl rfl ((hS40.chg0 c47).ins i47 (two_rng (by decide) nul_rng) (by decide) wk_3 (rows' := wk3) rfl) ?_)
  rintro v48 w48 ⟨rfl, hS48⟩
  refine O_go (gy rfl rfl rfl) (st_call bd11 rfl rfl rfl rfl (l_num _ _) ?_)
  rintro v49 w49 ⟨rfl, rfl⟩
  refine Oy rfl rfl (vl_is (b' := false) (vl_ine rfl rfl) (ine_f (by omega))) rfl ?_
  refine Of rfl rfl rfl (Om rfl rfl ?_)
  refine Oy rfl rfl (vl_move rfl) rfl ?_
  refine O_go (gy rfl rfl rfl) (st_call bd13 rfl rfl rfl rfl (l_of _ _) ?_)
  rintro v54 w54 ⟨rfl, c54⟩
  refine O_go (gy rfl rfl rfl) (st_call bd41 rfl rfl rfl rfl (l_row _ (vI 6) _) ?_)
  rintro v55 w55 ⟨i55, f55, c55⟩
  refine O_go (gy rfl rfl rfl) (st_call bd12 rfl rfl rfl rfl (((hS48.chg0 c54).chg0 c55).ins i55 (two_rng (by decide) g6) (by decide) wk_4 (rows' := wk3) (insR_no (by rw [wk_4]; decide))) ?_)
  rintro v56 w56 ⟨rfl, hS56⟩
  refine O_go (gy rfl rfl rfl) (st_call bd11 rfl rfl rfl rfl (l_num _ _) ?_)
  rintro v57 w57 ⟨rfl, rfl⟩
  refine Oy rfl rfl (vl_is (b' := false) (vl_ine rfl rfl) (ine_f (by omega))) rfl ?_
  refine Of rfl rfl rfl (Om rfl rfl ?_)
  refine Oy rfl rfl (vl_move rfl) rfl ?_
  refine O_go (gy rfl rfl rfl) (st_call bd13 rfl rfl rfl rfl (l_of _ _) ?_)
  rintro v62 w62 ⟨rfl, c62⟩
  refine O_go (gy rfl rfl rfl) (st_call bd41 rfl rfl rfl rfl (l_row _ (vI 5) _) ?_)
  rintro v63 w63 ⟨i63, f63, c63⟩
  refine O_go (gy rfl rfl rfl) (st_call bd12 rfl rfl rfl rfl (((hS56.chg0 c62).chg0 c63).ins i63 (two_rng (by decide) g5) (by decide) wk_5 (rows' := wk3) (insR_no (by rw [wk_5]; decide))) ?_)
  rintro v64 w64 ⟨rfl, hS64⟩
  refine O_go (gy rfl rfl rfl) (st_call bd11 rfl rfl rfl rfl (l_num _ _) ?_)
  rintro v65 w65 ⟨rfl, rfl⟩
  refine Oy rfl rfl (vl_is (b' := false) (vl_ine rfl rfl) (ine_f (by omega))) rfl ?_
  refine Of rfl rfl rfl (O_end [1, 3, 67] (F' := [(1, _), (3, _), (67, _)]) rfl (W_cond_false rfl (W_skipE (Sr (Om rfl rfl ?_)))))
  refine O_go (gn rfl) (st_call bd13 rfl rfl rfl rfl (l_of _ _) ?_)
  rintro v70 w70 ⟨rfl, c70⟩
  refine O_go (gn rfl) (st_call bd41 rfl rfl rfl rfl (l_row _ (vI 5) _) ?_)
  rintro v71 w71 ⟨i71, f71, c71⟩
  refine O_go (gn rfl) (st_call bd38 rfl rfl rfl rfl (((hS64.chg0 c70).chg0 c71).ign i71 (two_rng (by decide) g5) (by decide) wk_5) ?_)
  rintro v72 w72 ⟨rfl, hS72⟩
  refine Om rfl rfl (Oe rfl rfl rfl (Oe rfl rfl rfl (Oa rfl rfl (Oa rfl rfl (O_end [1, 3, 4, 5] (F' := [(1, _), (3, _), (4, _), (5, _)]) rfl (Sr (Om rfl rfl ?_)))))))
  refine O_go (gn rfl) (st_call bd13 rfl rfl rfl rfl (l_of _ _) ?_)
  rintro v77 w77 ⟨rfl, c77⟩
  refine O_go (gn rfl) (st_call bd41 rfl rfl rfl rfl (l_row _ (vI 5) _) ?_)
  rintro v78 w78 ⟨i78, f78, c78⟩
  refine O_go (gn rfl) (st_call bd14 rfl rfl rfl rfl (((hS72.chg0 c77).chg0 c78).rep i78 (two_rng (by decide) g5) (by decide) wk_6 wk_7 (rows' := wk4) rfl) ?_)
  rintro v79 w79 ⟨o79, rfl, i79, hS79⟩
  refine Om rfl rfl (Oe rfl rfl rfl (Oe rfl rfl rfl (Oa rfl rfl (Oa rfl rfl (O_end [1, 3, 4, 5, 6, 7] (F' := [(1, _), (3, _), (4, _), (5, _), (6, _), (7, _)]) rfl (Sr (Om rfl rfl ?_)))))))
  refine O_go (gn rfl) (st_call bd13 rfl rfl rfl rfl (l_of _ _) ?_)
  rintro v84 w84 ⟨rfl, c84⟩
  refine O_go (gn rfl) (st_buildSlice ap48 rfl (vs := [_]) rfl (css := [_]) ⟨rfl, trivial⟩ rfl rfl (cs := [_, _, _, _]) rfl rfl ?_)
  intro b85 w85 e85 n85 c85 k85
  refine O_go (gn rfl) (st_call bd31 rfl rfl rfl rfl (((hS79.chg0 c84).chg0 c85).find 1 (vals_of (l := [vI 5]) k85 (by decide) rfl) (by intro y hy; simp at hy; subst hy; exact g5) wk_8) ?_)
  rintro v86 w86 ⟨o86, rfl, i86, hS86, c86⟩
  refine Om rfl rfl (Oe rfl rfl rfl (Oe rfl rfl rfl (Oa rfl rfl (Oa rfl rfl (O_end [1, 3, 4, 5, 6, 7, 8, 9] (F' := [(1, _), (3, _), (4, _), (5, _), (6, _), (7, _), (8, _), (9, _)]) rfl ?_)))))
  have i79 : IsRows w86 o79 _ := ((i79.chg0 c84).chg0 c85).chg0 c86
  refine Sr (Om rfl rfl ?_)
  refine Og (vl_loadAgg ag40 sz40 rfl rfl (Cells.of_blk0 hS86.nul)) rfl ?_
  refine O_go (gn rfl) (st_call bd41 rfl rfl rfl rfl (l_row _ Val.null _) ?_)
  rintro v92 w92 ⟨i92, f92, c92⟩
  refine O_go (gn rfl) (st_call bd20 rfl rfl rfl rfl ((hS86.chg0 c92).key i92 (two_rng (by decide) nul_rng) (by decide) wk_9) ?_)
  rintro v93 w93 ⟨rfl, hS93, c93⟩
  refine Om rfl rfl (Oe rfl rfl rfl (Oe rfl rfl rfl (Oa rfl rfl (Oa rfl rfl (O_end [1, 3, 4, 5, 6, 7, 8, 9, 10, 11] (F' := [(1, _), (3, _), (4, _), (5, _), (6, _), (7, _), (8, _), (9, _), (10, _), (11, _)]) rfl (Sr (Om rfl rfl (Om rfl rfl ?_))))))))
  refine O_go (gn rfl) (st_call bd13 rfl rfl rfl rfl (l_of _ _) ?_)
  rintro v99 w99 ⟨rfl, c99⟩
  refine O_go (gn rfl) (st_call bd41 rfl rfl rfl rfl (l_row _ (vI 7) _) ?_)
  rintro v100 w100 ⟨i100, f100, c100⟩
  refine O_go (gn rfl) (st_call bd39 rfl rfl rfl rfl (((hS93.chg0 c99).chg0 c100).upd i100 (two_rng (by decide) g7) (by decide) wk_10) ?_)
  rintro v101 w101 ⟨o101, rfl, hS101, c101⟩
  refine Om rfl rfl (Oe rfl rfl rfl (Oe rfl rfl rfl (Oa rfl rfl (Oa rfl rfl (O_end [1, 3, 4, 5, 6, 7, 8, 9, 11, 13] (F' := [(1, _), (3, _), (4, _), (5, _), (6, _), (7, _), (8, _), (9, _), (11, _), (13, _)]) rfl ?_)))))
  have hT100 := ((hS93.chg0 c99).chg0 c100).tab
  have i79 : IsRows w101 o79 _ := IsRows.tab hT100 ((((i79.chg0 c92).chg0 c93).chg0 c99).chg0 c100) c101
  have i86 : IsVals w101 o86 _ := IsVals.tab hT100 ((((Arr.chg0 i86 c92).chg0 c93).chg0 c99).chg0 c100) c101
  refine W_seq ?_
  have hd : Chg [] w101 w101.drew := Chg.drew [] _
  refine W_draw (fun wz => Chg [] w101 wz) mix (tOk_of (by kernel_rfl)) hd ?_
  refine Tm rfl rfl ?_
  refine t_pure rfl (gn rfl) (fun _ => vl_not rfl) rfl rfl ?_
  refine Tm rfl rfl (Tq rfl rfl rfl rfl ?_)
  refine t_st rfl (gy rfl rfl rfl) (st_call bd11 rfl rfl rfl rfl (l_num _ _) ?_)
  rintro v108 w108 ⟨rfl, rfl⟩
  refine ⟨.inl hd, ?_⟩
  refine Tq rfl rfl rfl rfl ?_
  refine t_st rfl (gy rfl rfl rfl) (st_call bd11 rfl rfl rfl rfl (l_num _ _) ?_)
  rintro v110 w110 ⟨rfl, rfl⟩
  refine ⟨.inl hd, ?_⟩
  refine t_pure rfl (gy rfl rfl rfl) (fun _ => vl_add rfl rfl (by omega)) rfl rfl ?_
  refine Tq rfl rfl rfl rfl ?_
  refine t_st rfl (gy rfl rfl rfl) (st_call bd11 rfl rfl rfl rfl (l_num _ _) ?_)
  rintro v113 w113 ⟨rfl, rfl⟩
  refine ⟨.inl hd, ?_⟩
  refine t_pure rfl (gy rfl rfl rfl) (fun _ => vl_add rfl rfl (by omega)) rfl rfl ?_
  refine t_pure rfl (gy rfl rfl rfl) (fun _ => vl_is (b' := true) (vl_ieq rfl rfl) (decide_eq_true (by omega))) rfl rfl ?_
  refine t_pure rfl (gn rfl) (fun _ => vl_pick_t rfl rfl) rfl rfl ?_
  refine Tm rfl rfl (Tq rfl rfl rfl rfl ?_)
  refine t_st rfl (gy rfl rfl rfl) (st_call bd13 rfl rfl rfl rfl (l_of _ _) ?_)
  rintro v119 w119 ⟨rfl, c119⟩
  refine ⟨.inl (hd.trans c119), ?_⟩
  refine t_st rfl (gy rfl rfl rfl) (st_call bd41 rfl rfl rfl rfl (l_row _ (vI 5) _) ?_)
  rintro v120 w120 ⟨i120, f120, c120⟩
  obtain ⟨p120, q120, rfl, -⟩ := id (Arr.val i120)
  refine ⟨.inl ((hd.trans c119).trans c120), ?_⟩
  refine t_read rfl (gy rfl rfl rfl) (fun wz hz => vl_loadAgg ag40 sz40 rfl rfl (Cells.of_blk0 (hS101.nul.chg0 hz))) rfl rfl ?_
  refine t_st rfl (gy rfl rfl rfl) (st_call bd41 rfl rfl rfl rfl (l_row _ Val.null _) ?_)
  rintro v122 w122 ⟨i122, f122, c122⟩
  obtain ⟨p122, q122, rfl, -⟩ := id (Arr.val i122)
  refine ⟨.inl (((hd.trans c119).trans c120).trans c122), ?_⟩
  refine t_st rfl (gy rfl rfl rfl) (st_buildSlice ap42 rfl (vs := [_, _]) rfl (css := [_, _]) ⟨rfl, rfl, trivial⟩ rfl rfl (cs := [_, _]) rfl rfl ?_)
  intro b123 w123 e123 n123 c123 k123
  refine ⟨.inl ((((hd.trans c119).trans c120).trans c122).trans c123), ?_⟩
  refine t_st rfl (gy rfl rfl rfl) (st_call bd42 rfl rfl rfl rfl (r_SameRows _ _ wkG wkG _ (((((i79.chg0 hd).chg0 c119).chg0 c120).chg0 c122).chg0 c123) ⟨[_, _], IsSl.of_blk (n := 2) k123 rfl (by simp [maxLen]) (by intro y hy; simp at hy; rcases hy with rfl | rfl; exact IsSl.one1 i120; exact IsSl.one1 i122), Arr.chg0 (Arr.chg0 i120 c122) c123, Arr.chg0 i122 c123, trivial⟩ (by decide) (by decide)) ?_)
  rintro v124 w124 ⟨h124, c124⟩
  rw [decide_eq_true rfl] at h124
  subst h124
  refine ⟨.inl (((((hd.trans c119).trans c120).trans c122).trans c123).trans c124), ?_⟩
  refine t_pure rfl (gn rfl) (fun _ => vl_pick_t rfl rfl) rfl rfl ?_
  refine Tm rfl rfl (Tq rfl rfl rfl rfl ?_)
  refine t_pure rfl (gn rfl) (fun _ => vl_pick_t rfl rfl) rfl rfl ?_
  refine Tm rfl rfl (Tq rfl rfl rfl rfl ?_)
  refine t_st rfl (gy rfl rfl rfl) (st_call bd13 rfl rfl rfl rfl (l_of _ _) ?_)
  rintro v131 w131 ⟨rfl, c131⟩
  refine ⟨.inl ((((((hd.trans c119).trans c120).trans c122).trans c123).trans c124).trans c131), ?_⟩
  refine t_st rfl (gy rfl rfl rfl) (st_call bd41 rfl rfl rfl rfl (l_row _ (vI 5) _) ?_)
  rintro v132 w132 ⟨i132, f132, c132⟩
  refine ⟨.inl (((((((hd.trans c119).trans c120).trans c122).trans c123).trans c124).trans c131).trans c132), ?_⟩
  refine t_st rfl (gy rfl rfl rfl) (st_call bd29 rfl rfl rfl rfl (r_Same _ _ [vI 2, vI 5] [vI 2, vI 5] _ (Arr.chg0 i86 (((((((hd.trans c119).trans c120).trans c122).trans c123).trans c124).trans c131).trans c132)) i132 (by decide)) ?_)
  rintro v133 w133 ⟨h133, c133⟩
  rw [decide_eq_true rfl] at h133
  subst h133
  refine ⟨.inl ((((((((hd.trans c119).trans c120).trans c122).trans c123).trans c124).trans c131).trans c132).trans c133), ?_⟩
  refine t_pure rfl (gn rfl) (fun _ => vl_pick_t rfl rfl) rfl rfl ?_
  refine Tm rfl rfl (Tq rfl rfl rfl rfl ?_)
  refine t_st rfl (gy rfl rfl rfl) (st_call bd11 rfl rfl rfl rfl (l_num _ _) ?_)
  rintro v137 w137 ⟨rfl, rfl⟩
  refine ⟨.inl ((((((((hd.trans c119).trans c120).trans c122).trans c123).trans c124).trans c131).trans c132).trans c133), ?_⟩
  refine t_pure rfl (gy rfl rfl rfl) (fun _ => vl_is (b' := true) (vl_ieq rfl rfl) (decide_eq_true (by omega))) rfl rfl ?_
  refine t_pure rfl (gn rfl) (fun _ => vl_pick_t rfl rfl) rfl rfl ?_
  refine Tm rfl rfl (Tq rfl rfl rfl rfl ?_)
  refine t_st rfl (gy rfl rfl rfl) (st_call bd15 rfl rfl rfl rfl (tt_Len (hS101.tab.chg0 ((((((((hd.trans c119).trans c120).trans c122).trans c123).trans c124).trans c131).trans c132).trans c133))) ?_)
  rintro v142 w142 ⟨h142, rfl⟩
  rw [wk_11] at h142
  subst h142
  refine ⟨.inl ((((((((hd.trans c119).trans c120).trans c122).trans c123).trans c124).trans c131).trans c132).trans c133), ?_⟩
  refine t_pure rfl (gy rfl rfl rfl) (fun _ => vl_is (b' := true) (vl_ieq rfl rfl) (decide_eq_true (by omega))) rfl rfl ?_
  refine t_pure rfl (gn rfl) (fun _ => vl_pick_t rfl rfl) rfl rfl ?_
  refine Ta rfl rfl ?_
  refine T_end [0] (F' := [(0, _)]) rfl ?_
  refine W_ret ?_
  refine ret1 rfl rfl ?_
  exact ⟨rfl, hS101.chg.trans ((((((((hd.trans c119).trans c120).trans c122).trans c123).trans c124).trans c131).trans c132).trans c133)⟩
end Go.Wk

namespace Go.Wk
open Go.Proofs
set_option maxRecDepth 10000

theorem tw_all {α : Type} (p : α → Bool) : ∀ l : List α, (∀ x ∈ l, p x = true) → l.takeWhile p = l ∧ l.dropWhile p = []
  | [], _ => ⟨rfl, rfl⟩
  | x :: l, h => by
    have hx := h x (by simp)
    have ih := tw_all p l (fun y hy => h y (by simp [hy]))
    simp [hx, ih.1, ih.2]
def sF : Sch := ⟨[⟨⟨#[97]⟩, 1, 4, false⟩], [0], []⟩
def rF (i : Nat) : List Val := [vI i]
def rowsF (n : Nat) : List (List Val) := (List.range n).map rF
theorem rowsF_len (n : Nat) : (rowsF n).length = n := by simp [rowsF]
theorem fu_s : rightS sF = true := by decide +kernel
theorem fu_row : ∀ i < 406, rowN sF (rF i) = 0 := by decide +kernel
theorem fu_lt1 : ∀ i < 406, blt (keyR sF (rF i)) (keyR sF (rF (i + 1))) = true := by decide +kernel
theorem fu_rng {i : Nat} (h : i < 406) : ∀ x ∈ rF i, x.Rng := by
  intro x hx
  simp [rF] at hx
  subst hx
  exact vI_rng (by omega)
theorem fu_lt {i : Nat} : ∀ {j : Nat}, j ≤ 406 → i < j → blt (keyR sF (rF i)) (keyR sF (rF j)) = true
  | 0, _, h => absurd h (by omega)
  | j + 1, hj, h => by
    have h1 := fu_lt1 j (by omega)
    rcases Nat.lt_or_ge i j with hl | hl
    · exact blt_trans (fu_lt (by omega) hl) h1
    · have : i = j := by omega
      subst this; exact h1
theorem fu_clash (i j : Nat) : clashR sF (rF i) (rF j) = decide (i = j) := by
  have h : clashR sF (rF i) (rF j) = true ↔ i = j := by
    rw [clashR_iff]
    constructor
    · rintro ⟨st, hs, _, h2⟩
      simp [setsN, sF] at hs
      subst hs
      simp [pickN, rF, vI] at h2
      omega
    · rintro rfl
      exact ⟨[0], by simp [setsN, sF], by simp [nnS, pickN, rF, vI], rfl⟩
  by_cases e : i = j
  · rw [decide_eq_true e]; exact h.2 e
  · rw [decide_eq_false e]
    cases hc : clashR sF (rF i) (rF j) with
    | false => rfl
    | true => exact absurd (h.1 hc) e
theorem fu_taken {n i : Nat} (h : n ≤ i) : takenR sF (rowsF n) (rF i) e0 = false := by
  unfold takenR rowsF
  rw [List.any_eq_false]
  intro r hr
  obtain ⟨j, hj, rfl⟩ := List.mem_map.1 hr
  have := List.mem_range.1 hj
  rw [fu_clash, decide_eq_false (by omega : ¬ j = i)]
  simp
theorem fu_with {n : Nat} (hn : n ≤ 406) : withR sF (rowsF n) (rF n) = rowsF (n + 1) := by
  have ha : ∀ r ∈ rowsF n, blt (keyR sF r) (keyR sF (rF n)) = true := by
    intro r hr
    obtain ⟨j, hj, rfl⟩ := List.mem_map.1 hr
    exact fu_lt hn (List.mem_range.1 hj)
  unfold withR
  obtain ⟨h1, h2⟩ := tw_all _ _ ha
  rw [h1, h2]
  simp [rowsF, List.range_succ]
theorem fu_E {n : Nat} (hn : n < 400) : insE sF (rowsF n) (rF n) = 0 := by
  unfold insE
  rw [fu_row n (by omega), if_neg (by simp), fu_taken (Nat.le_refl n), if_neg (by simp), rowsF_len, if_neg (by omega)]
theorem fu_R {n : Nat} (hn : n < 400) : insR sF (rowsF n) (rF n) = rowsF (n + 1) := by
  unfold insR
  rw [if_pos (fu_E hn), fu_with (by omega)]
theorem fu_E3 {i : Nat} (h : 400 ≤ i) (hi : i < 406) : insE sF (rowsF 400) (rF i) = 3 := by
  unfold insE
  rw [fu_row i hi, if_neg (by simp), fu_taken h, if_neg (by simp), rowsF_len, if_pos (by omega)]
theorem fu_R3 {i : Nat} (h : 400 ≤ i) (hi : i < 406) : insR sF (rowsF 400) (rF i) = rowsF 400 := by
  unfold insR
  rw [if_neg (by rw [fu_E3 h hi]; decide)]
theorem fu_gone (n a : Nat) : (goneR sF (rowsF n) (rF a)).length = if a < n then 1 else 0 := by
  have h : goneR sF (rowsF n) (rF a) = ((List.range n).filter (fun i => decide (i = a))).map rF := by
    unfold goneR rowsF
    rw [List.filter_map]
    congr 1
    apply List.filter_congr
    intro x _
    exact fu_clash x a
  rw [h, List.length_map]
  clear h
  induction n with
  | zero => rfl
  | succ n ih =>
    rw [List.range_succ, List.filter_append, List.length_append, ih]
    by_cases h1 : n = a
    · subst h1; simp
    · have e : List.filter (fun i => decide (i = a)) [n] = [] := by simp [h1]
      rw [e]
      split <;> split <;> simp <;> omega
theorem fu_rest (n a : Nat) : (restR sF (rowsF n) (rF a)).length = if a < n then n - 1 else n := by
  have h := gone_rest_len sF (rF a) (rowsF n)
  have g := fu_gone n a
  rw [rowsF_len, g] at h
  split at h <;> rename_i hh
  · rw [if_pos hh]; omega
  · rw [if_neg hh]; omega
theorem with_len (s : Sch) (rows : List (List Val)) (row : List Val) : (withR s rows row).length = rows.length + 1 := by
  unfold withR
  have := congrArg List.length (List.takeWhile_append_dropWhile (p := fun r => blt (keyR s r) (keyR s row)) (l := rows))
  simp only [List.length_append, List.length_cons] at this ⊢
  omega
theorem fu_rep {n a : Nat} (hn : n ≤ 400) (ha : a < 406) :
    (a < n → repE sF (rowsF n) (rF a) = 0 ∧ (repG sF (rowsF n) (rF a)).length = 1 ∧ (repR sF (rowsF n) (rF a)).length = n) ∧
    (¬ a < n → n < 400 → repE sF (rowsF n) (rF a) = 0 ∧ (repG sF (rowsF n) (rF a)).length = 0 ∧ (repR sF (rowsF n) (rF a)).length = n + 1) ∧
    (¬ a < n → ¬ n < 400 → repE sF (rowsF n) (rF a) = 3 ∧ (repG sF (rowsF n) (rF a)).length = 0 ∧ (repR sF (rowsF n) (rF a)).length = n) := by
  have g := fu_gone n a
  have r := fu_rest n a
  have hE : repE sF (rowsF n) (rF a) = if 400 ≤ (restR sF (rowsF n) (rF a)).length then 3 else 0 := by
    unfold repE
    rw [fu_row a ha, if_neg (by simp)]
  refine ⟨fun h => ?_, fun h h4 => ?_, fun h h4 => ?_⟩
  · rw [if_pos h] at g r
    have e : repE sF (rowsF n) (rF a) = 0 := by rw [hE, r, if_neg (by omega)]
    refine ⟨e, ?_, ?_⟩
    · unfold repG; rw [if_pos e]; exact g
    · unfold repR; rw [if_pos e, with_len, r]; omega
  · rw [if_neg h] at g r
    have e : repE sF (rowsF n) (rF a) = 0 := by rw [hE, r, if_neg (by omega)]
    refine ⟨e, ?_, ?_⟩
    · unfold repG; rw [if_pos e]; exact g
    · unfold repR; rw [if_pos e, with_len, r]
  · rw [if_neg h] at g r
    have e : repE sF (rowsF n) (rF a) = 3 := by rw [hE, r, if_pos (by omega)]
    refine ⟨e, ?_, ?_⟩
    · unfold repG; rw [if_neg (by rw [e]; decide)]; rfl
    · unfold repR; rw [if_neg (by rw [e]; decide), rowsF_len]
end Go.Wk
