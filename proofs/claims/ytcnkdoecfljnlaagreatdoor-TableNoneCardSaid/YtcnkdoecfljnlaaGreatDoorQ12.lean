/-
  Layer codec: Decode.
  A table in memory.
  The keys of the rows that clash with one.
  Layer table: fits, clashing.
  Layer table: clashing.
  Layer table: a row comes, a row leaves.
  Layer table: Get, Key, Len.
  Layer table: a row leaves.
  Layer table: insert, Insert, Ignore.
  Layer table: Delete, Update.
  Sorting by insertion.
-/
import Derived.Test.YtcnkdoecfljnlaaGreatDoorQ11
set_option linter.all false
namespace Go.Wk
open Go.Proofs
set_option maxRecDepth 10000

theorem c_caught (x y : Value) (w : World) : CallsD Tryz.prog 140 #[x, y] .returning w fun e u' w' => (∃ v, e = .returned v) ∧ u' = .returning ∧ w' = w := by
  have hnn : ∀ w, (Op.equal 20 .nilIface .nilIface).run Tryz.prog w = .ok true w := fun w => by
    obtain ⟨ms, hu⟩ := inOf_und in20
    exact run_equal fun d => by simp [Op.equalIn, run_underlying hu]
  have hrs : Tryz.f140.results = #[] := rfl
  refine callsD_of_wpS Tryz.func140 rfl fun c₀ cs hu => ?_
  apply wpS_seq
  apply wpS_region
  simp [wpOpsS, go_sem, recoverD, hu, Exit.thenS]
  apply wpS_seq
  apply wpS_region
  simp [wpOpsS, go_sem, recoverD, hu, Exit.thenS, binOp, eqGuard, hnn]
  refine wpS_cond (t := false) (by simp [Act.eval, Array.replicate]) ?_
  simp only [Bool.false_eq_true, if_false]
  refine wpS_of_wp (wp_skip ?_)
  cases c₀
  simp_all [bodyPostS, results]
theorem c_read (c k u v : Value) (s : Sch) (l : List Val) (w : World) (hs : IsSch w c k u s) (hr : rowN s l = 0) (hv : RdSl w 5 1 v (encR s.cols l).length (bv (encR s.cols l))) :
    Ret Tryz.prog 98 #[.agg #[c, k, u], v] w fun r w' => ∃ o, r = .tuple #[o, .int .i64 (encR s.cols l).length, .int .i64 0] ∧ IsValsS w' o l ∧ (∀ y ∈ blkOf o, w.heap.size ≤ y) ∧ Chg [] w w' := by
  obtain ⟨pv, cv, rfl, hcv⟩ := hv.val
  obtain ⟨hrs, hlen, hfit⟩ := rowN_ok hr
  have h8 := (right_parts hrs).1
  have hel := encR_len hfit
  refine Ret.of_WD (args := [_, _]) Tryz.func98 rfl rfl rfl rfl ?_

  refine Sr ?_
  refine O_go (gn rfl) (st_box rfl rfl rfl ?_)
  intro b2 w2 e2 n2 c2 k2
  refine O_go (gn rfl) (st_alloc zr48 rfl rfl ?_)
  intro b4 w4 e4 n4 c4 k4
  refine O_go (gn rfl) (st_alloc zr3 rfl rfl ?_)
  intro b5 w5 e5 n5 c5 k5
  refine O_go (gn rfl) (st_alloc zr32 rfl rfl ?_)
  intro b6 w6 e6 n6 c6 k6
  refine O_end [1, 2, 4, 5, 6] (F' := [(1, _), (2, _), (4, _), (5, _), (6, _)]) rfl (Sr ?_)
  refine Og (vl_func rfl rfl) rfl ?_
  refine O_defer rfl rfl ?_
  refine O_end [1, 2, 4, 5, 6] (F' := [(1, _), (2, _), (4, _), (5, _), (6, _), (1000001, _)]) rfl (Sr (Om rfl rfl ?_))
  refine Og (vl_build pl237 zr237 rfl (vs := [_]) rfl (css := [_]) ⟨rfl, trivial⟩ rfl rfl (cs := [_]) rfl) rfl ?_
  refine O_go (gn rfl) (st_box rfl rfl rfl ?_)
  intro b11 w11 e11 n11 c11 k11
  refine Oa rfl rfl (O_end [1, 2, 4, 5, 6, 7] (F' := [(1, _), (2, _), (4, _), (5, _), (6, _), (7, _), (1000001, _)]) rfl ?_)
  have hcA := ((c2.trans c4).trans c5).trans c6
  have hlt : ∀ z ∈ blkOf (.slice pv (encR s.cols l).length cv), z < w.heap.size := hv.lt
  have hs2 := c2.size
  have hs4 := c4.size
  have hs5 := c5.size
  have hs6 := c6.size
  have hc11 : Chg [] w w11 := hcA.trans c11
  have tp : IsTape w11 (.pointer (some ⟨b11, 0, none⟩)) (encR s.cols l) b11 := ⟨rfl, _, k11, hv.chg0 hc11, fun hm => by have := hlt b11 hm; omega⟩
  refine Sr (Om rfl rfl ?_)
  refine Og (vl_loadAgg ag30 sz30 rfl rfl (Cells.of_blk0 ((((k2.chg0 c4).chg0 c5).chg0 c6).chg0 c11))) rfl ?_
  refine O_go (gn rfl) (st_call bd142 rfl rfl rfl rfl (c_row c k u _ s l b11 _ (hs.chg0 hc11) hr tp) ?_)
  rintro v14 w14 ⟨i14, f14, ⟨-, v2, hb14, hv14, -⟩, c14⟩
  obtain ⟨p14, q14, rfl, -⟩ := id (ArrS.val i14)
  obtain ⟨p2, q2, rfl, -⟩ := id hv14.val
  refine O_go (gn rfl) (st_store sz48 rfl rfl rfl rfl ((((k4.chg0 c5).chg0 c6).chg0 c11).chg c14 (by simp; omega)) (by simp) (by intro u hu; simp at hu; subst hu; rfl) ?_)
  intro wA nA cA kA
  refine O_end [1, 4, 5, 6, 7] (F' := [(1, _), (4, _), (5, _), (6, _), (7, _), (1000001, _)]) rfl (W_seq ?_)
  have kA : Blk wA b4 48 [.slice p14 l.length q14] := kA
  have hs11 := c11.size
  have hs14 := c14.size
  have hsA := cA.size
  have hd : Chg [] wA wA.drew := Chg.drew _ _
  have hbA : Blk wA b11 237 [.slice p2 0 q2] := hb14.chg cA (by simp; omega)
  have k5A := ((((k5.chg0 c6).chg0 c11).chg c14 (by simp; omega)).chg cA (by simp; omega)).chg0 hd
  have k6A := (((k6.chg0 c11).chg c14 (by simp; omega)).chg cA (by simp; omega)).chg0 hd
  refine W_draw (fun wz => wz.cell? ⟨b4, 0, none⟩ = some (.slice p14 l.length q14) ∧ wz.cell? ⟨b11, 0, none⟩ = some (.slice p2 0 q2)) mix (by kernel_rfl) ⟨(kA.chg0 hd).cell' rfl, (hbA.chg0 hd).cell' rfl⟩ ?_
  refine t_read rfl (gn rfl) (fun wz hz => vl_load ag48 rfl hz.1) rfl rfl ?_
  refine Tm rfl rfl ?_
  refine t_pure rfl (gn rfl) (fun _ => vl_len sl132 rfl) rfl rfl ?_
  refine Tm rfl rfl ?_
  refine t_pure rfl (gn rfl) (fun _ => vl_nilCheck rfl) rfl rfl ?_
  refine t_pure rfl (gn rfl) (fun _ => vl_fieldAddr fo237_0 rfl) rfl rfl ?_
  refine t_read rfl (gn rfl) (fun wz hz => vl_load ag235 rfl hz.2) rfl rfl ?_
  refine t_pure rfl (gn rfl) (fun _ => vl_len sl235 rfl) rfl rfl ?_
  refine t_pure rfl (gn rfl) (fun _ => vl_eq (v' := .int .i64 (((encR s.cols l).length : Nat) : Int)) (vl_sub rfl rfl (by omega)) (by congr 1 <;> omega)) rfl rfl ?_
  refine t_st rfl (gn rfl) (st_store sz48 rfl rfl rfl rfl (kA.chg0 hd) (by simp) (by intro u hu; simp at hu; subst hu; rfl) ?_)
  intro wB nB cB kB
  refine ⟨.inl ⟨kB.cell' rfl, ((hbA.chg0 hd).chg cB (by simp; omega)).cell' rfl⟩, ?_⟩
  refine t_st rfl (gn rfl) (st_store sz3 rfl rfl rfl rfl (k5A.chg cB (by simp; omega)) (by simp) (by simp [Value.oneCell']) ?_)
  intro wC nC cC kC
  refine ⟨.inr (by kernel_rfl), ?_⟩
  refine t_st rfl (gn rfl) (st_store sz32 rfl rfl rfl rfl ((k6A.chg cB (by simp; omega)).chg cC (by simp; omega)) (by simp) (by simp [Value.oneCell']) ?_)
  intro wD nD cD kD
  refine ⟨.inr (by kernel_rfl), ?_⟩
  refine T_end [4, 5, 6] (F' := [(4, _), (5, _), (6, _), (1000001, _)]) rfl ?_
  refine W_ret ?_
  have kB : Blk wB b4 48 [.slice p14 l.length q14] := kB
  have kC : Blk wC b5 3 [.int .i64 (encR s.cols l).length] := kC
  have kD : Blk wD b6 32 [.int .i64 0] := kD
  have hB := (kB.chg cC (by simp; omega)).chg cD (by simp; omega)
  have hC := kC.chg cD (by simp; omega)
  refine retD (Rd := fun w' => w' = wD) rfl bd140 (c_caught _ _ _) ?_
  rintro w' a ha rfl
  refine ⟨.tuple #[.slice p14 l.length q14, .int .i64 (encR s.cols l).length, .int .i64 0], ?_, ?_⟩
  · have h4 := ha.get 4 (.pointer (some ⟨b4, 0, none⟩)) rfl
    have h5 := ha.get 5 (.pointer (some ⟨b5, 0, none⟩)) rfl
    have h6 := ha.get 6 (.pointer (some ⟨b6, 0, none⟩)) rfl
    have g4 : w'.cell? ⟨b4, 0, none⟩ = _ := hB.cell' rfl
    have g5 : w'.cell? ⟨b5, 0, none⟩ = _ := hC.cell' rfl
    have g6 : w'.cell? ⟨b6, 0, none⟩ = _ := kD.cell' rfl
    simp [results, h4, h5, h6, asAddr, loadVar, run_isAgg ag48, run_isAgg ag3, run_isAgg ag32, g4, g5, g6]
  · refine ⟨_, rfl, ?_, ?_, ?_⟩
    · refine ArrS.chg (ArrS.chg (ArrS.chg (ArrS.chg0 (ArrS.chg i14 cA ?_) hd) cB ?_) cC ?_) cD ?_ <;> (intro y hy hm; have := f14 y hy; simp at hm; omega)
    · intro y hy
      have := f14 y hy
      omega
    · refine ((((((hc11.trans' c14 ?_).trans' cA ?_).trans hd).trans' cB ?_).trans' cC ?_).trans' cD ?_) <;> (intro y hy; simp at hy; subst hy; right; omega)
theorem c_Decode (c k u v : Value) (s : Sch) (l : List Val) (w : World) (hs : IsSch w c k u s) (hm : s.Sm) (hr : rowN s l = 0) (hv : RdSl w 5 1 v (encR s.cols l).length (bv (encR s.cols l))) :
    Ret Tryz.prog 66 #[.agg #[c, k, u], v] w fun r w' => ∃ o, r = .tuple #[o, .int .i64 0] ∧ IsValsS w' o l ∧ (∀ y ∈ blkOf o, w.heap.size ≤ y) ∧ Chg [] w w' := by
  obtain ⟨pv, cv, rfl, hcv⟩ := hv.val
  obtain ⟨hrs, hlen, hfit⟩ := rowN_ok hr
  have h8 := (right_parts hrs).1
  have hel := encR_len hfit
  refine Ret.of_W (args := [_, _]) Tryz.func66 rfl rfl rfl rfl ?_

  refine Sr ?_
  refine O_go (gn rfl) (st_box rfl rfl rfl ?_)
  intro b2 w2 e2 n2 c2 k2
  refine Oa rfl rfl (Oa rfl rfl (O_end [1, 2] (F' := [(1, _), (2, _)]) rfl (W_seq (Sr ?_))))
  refine Og (vl_loadAgg ag30 sz30 rfl rfl (Cells.of_blk0 k2)) rfl ?_
  refine O_go (gn rfl) (st_call bd43 rfl rfl rfl rfl (s_Check c k u s _ (hs.chg0 c2) hm) ?_)
  rintro v11 w11 ⟨h11, c11⟩
  rw [hrs] at h11
  change v11 = .int .i64 0 at h11
  subst h11
  refine Oa rfl rfl (O_end [1, 2, 6] (F' := [(1, _), (2, _), (6, _)]) rfl (Sr (Om rfl rfl ?_)))
  refine Og (vl_is (b' := false) (vl_ine rfl rfl) (ine_f (by omega))) rfl ?_
  refine O_end [1, 2, 6, 13] (F' := [(1, _), (2, _), (6, _), (13, _)]) rfl (W_cond_false rfl (W_skipE (W_seq ?_)))
  have hcA := c2.trans c11
  refine W_region ?_
  refine Og (vl_loadAgg ag30 sz30 rfl rfl (Cells.of_blk0 (k2.chg0 c11))) rfl ?_
  refine Om rfl rfl ?_
  refine O_go (gn rfl) (st_call bd98 rfl rfl rfl rfl (c_read c k u _ s l _ (hs.chg0 hcA) hr (hv.chg0 hcA)) ?_)
  rintro v18 w18 ⟨v18, rfl, i18, f18, c18⟩
  refine Om rfl rfl (Oe rfl rfl rfl (Oe rfl rfl rfl (Oe rfl rfl rfl (Oa rfl rfl (Oa rfl rfl (Oa rfl rfl (O_end [1, 7, 8, 9] (F' := [(1, _), (7, _), (8, _), (9, _)]) rfl (W_seq (Sr (Om rfl rfl ?_))))))))))
  refine Og (vl_is (b' := false) (vl_ine rfl rfl) (ine_f (by omega))) rfl ?_
  refine Om rfl rfl ?_
  refine Oy rfl rfl (vl_move rfl) rfl ?_
  refine Oy rfl rfl (vl_move rfl) rfl ?_
  refine Oy rfl rfl (vl_len sl132 rfl) rfl ?_
  refine Oy rfl rfl (vl_is (b' := false) (vl_ine rfl rfl) (ine_f (by omega))) rfl ?_
  refine Of rfl rfl rfl (O_end [7, 29] (F' := [(7, _), (29, _)]) rfl (W_cond_false rfl (W_skipE (Sr (Om rfl rfl (Oa rfl rfl (Oa rfl rfl (O_end [4, 5] (F' := [(4, _), (5, _)]) rfl (W_ret ?_)))))))))
  refine ret2 rfl rfl rfl ?_
  have hsz := hcA.size
  exact ⟨_, rfl, i18, fun y hy => Nat.le_trans hsz (f18 y hy), hcA.trans c18⟩
end Go.Wk

namespace Go.Wk
open Go.Proofs
set_option maxRecDepth 10000

theorem right_sm {s : Sch} (h : rightS s = true) : s.Sm := by
  obtain ⟨h1, h2, h3, _, _, _, h7⟩ := right_parts h
  have := (set_parts h3).1
  exact ⟨by omega, by omega, by omega, fun l hl => by have := (set_parts (h7 l hl)).1; omega⟩
/-- Pages, one by one. -/
def PgL (w : World) : List Nat → List (List (List Ent)) → Prop
  | [], [] => True
  | p :: ps, m :: ms => Pg w p m ∧ PgL w ps ms
  | _, _ => False
theorem PgL.chg0 {w w' : World} (hc : Chg [] w w') : ∀ {ps : List Nat} {ms : List (List (List Ent))}, PgL w ps ms → PgL w' ps ms
  | [], [], _ => trivial
  | _ :: _, _ :: _, h => ⟨h.1.chg0 hc, PgL.chg0 hc h.2⟩
theorem PgL.length {w : World} : ∀ {ps : List Nat} {ms : List (List (List Ent))}, PgL w ps ms → ps.length = ms.length
  | [], [], _ => rfl
  | _ :: _, _ :: _, h => by simp [PgL.length h.2]
theorem PgL.at {w : World} : ∀ {ps : List Nat} {ms : List (List (List Ent))} {i : Nat} {p : Nat} {m : List (List Ent)}, PgL w ps ms → ps[i]? = some p → ms[i]? = some m → Pg w p m
  | [], [], _, _, _, _, h, _ => by simp at h
  | _ :: _, _ :: _, 0, _, _, h, hp, hm => by simp at hp hm; subst hp hm; exact h.1
  | _ :: _, _ :: _, i + 1, _, _, h, hp, hm => h.2.at (by simpa using hp) (by simpa using hm)
theorem PgL.chgO {w w' : World} {q : Nat} {ms' : List (List Ent)} (hq : Pg w q ms') (hc : Chg [q] w w') : ∀ {ps : List Nat} {ms : List (List (List Ent))}, q ∉ ps → PgL w ps ms → PgL w' ps ms
  | [], [], _, _ => trivial
  | p :: _, _ :: _, hn, h => ⟨h.1.chgO hq (fun e => hn (by simp [e])) hc, PgL.chgO hq hc (fun hm => hn (by simp [hm])) h.2⟩
theorem PgL.put {w w' : World} {q : Nat} {m m' : List (List Ent)} (hq : Pg w q m) (hc : Chg [q] w w') (hq' : Pg w' q m') : ∀ {ps : List Nat} {ms : List (List (List Ent))} {i : Nat}, ps.Nodup → ps[i]? = some q → PgL w ps ms → PgL w' ps (ms.set i m')
  | [], [], _, _, h, _ => by simp at h
  | p :: ps, a :: ms, 0, hn, h, hp => by
    simp at h; subst h
    simp at hn
    exact ⟨hq', PgL.chgO hq hc hn.1 hp.2⟩
  | p :: ps, a :: ms, i + 1, hn, h, hp => by
    simp at h hn
    have hmem : q ∈ ps := List.mem_of_getElem? h
    exact ⟨hp.1.chgO hq (fun e => hn.1 (e ▸ hmem)) hc, PgL.put hq hc hq' hn.2 h hp.2⟩
theorem PgL.snoc {w : World} {q : Nat} {m : List (List Ent)} (hq : Pg w q m) : ∀ {ps : List Nat} {ms : List (List (List Ent))}, PgL w ps ms → PgL w (ps ++ [q]) (ms ++ [m])
  | [], [], _ => ⟨hq, trivial⟩
  | _ :: _, _ :: _, h => ⟨h.1, PgL.snoc hq h.2⟩
theorem Pg.nl {w : World} {p : Nat} {ls : List (List Ent)} (h : Pg w p ls) : Nl w [p] := by
  obtain ⟨v, hb, _, h1, _⟩ := h
  obtain ⟨q, c, rfl, _⟩ := h1.val
  exact Nl.one hb (by intro y hy; simp at hy; subst hy; rfl)
def scs (x : Value × Nat) : List Value := [x.1, .pointer (some ⟨x.2, 0, none⟩)]
theorem scs_len (x : Value × Nat) : (scs x).length = 2 := rfl
structure TabMem (w : World) (t pm : Nat) (c k u sv : Value) (xs : List (Value × Nat)) (s : Sch) (main : List (List Ent)) (subs : List (List (List Ent))) : Prop where
  blk : Blk w t 98 [.pointer (some ⟨pm, 0, none⟩), c, k, u, sv]
  sch : IsSch w c k u s
  pg : Pg w pm main
  sl : ArrS w 103 2 scs sv xs
  ats : ArrLS w 3 1 ics (xs.map (·.1)) (setsN s)
  pgs : PgL w (xs.map (·.2)) subs
  nd : (pm :: xs.map (·.2)).Nodup
section
variable {w w' : World} {t pm : Nat} {c k u sv : Value} {xs : List (Value × Nat)} {s : Sch} {main : List (List Ent)} {subs : List (List (List Ent))}
theorem TabMem.chg0 (h : TabMem w t pm c k u sv xs s main subs) (hc : Chg [] w w') : TabMem w' t pm c k u sv xs s main subs :=
  ⟨h.blk.chg0 hc, h.sch.chg0 hc, h.pg.chg0 hc, ArrS.chg0 h.sl hc, ArrLS.chg0 h.ats hc, h.pgs.chg0 hc, h.nd⟩
theorem TabMem.keep (h : TabMem w t pm c k u sv xs s main subs) {q : Nat} {ms : List (List Ent)} (hq : Pg w q ms) (hc : Chg [q] w w') {main' : List (List Ent)} {subs' : List (List (List Ent))} (h1 : Pg w' pm main') (h2 : PgL w' (xs.map (·.2)) subs') : TabMem w' t pm c k u sv xs s main' subs' := by
  obtain ⟨v, hb, hv⟩ := hq
  have hn : ∀ y ∈ [v], litB y = false := by obtain ⟨_, h1, _⟩ := hv; obtain ⟨p, c, rfl, _⟩ := h1.val; intro y hy; simp at hy; subst hy; rfl
  exact ⟨h.blk.chg hc (by have := h.blk.ne hb rfl; simpa using this), h.sch.chgB hb rfl hn hc, h1, ArrS.chg h.sl hc (IsSl.apart h.sl hb rfl), ArrLS.chg hc (h.ats.apart hb rfl) h.ats, h2, h.nd⟩
/-- .. when pages of others turn. -/
theorem TabMem.other (h : TabMem w t pm c k u sv xs s main subs) {q : Nat} {ms : List (List Ent)} (hq : Pg w q ms) (hn : q ∉ pm :: xs.map (·.2)) (hc : Chg [q] w w') : TabMem w' t pm c k u sv xs s main subs :=
  h.keep hq hc (h.pg.chgO hq (fun e => hn (by simp [e])) hc) (PgL.chgO hq hc (fun hm => hn (List.mem_cons_of_mem _ hm)) h.pgs)
theorem TabMem.putM (h : TabMem w t pm c k u sv xs s main subs) (hc : Chg [pm] w w') {main' : List (List Ent)} (h' : Pg w' pm main') : TabMem w' t pm c k u sv xs s main' subs :=
  h.keep h.pg hc h' (PgL.chgO h.pg hc (by have := h.nd; simp only [List.nodup_cons] at this; exact this.1) h.pgs)
theorem TabMem.putS (h : TabMem w t pm c k u sv xs s main subs) {j q : Nat} {m m' : List (List Ent)} {a : Value} (hj : xs[j]? = some (a, q)) (hm : subs[j]? = some m) (hc : Chg [q] w w') (h' : Pg w' q m') : TabMem w' t pm c k u sv xs s main (subs.set j m') := by
  have hq : (xs.map (·.2))[j]? = some q := by rw [List.getElem?_map, hj]; rfl
  have hp := h.pgs.at hq hm
  have hnd := h.nd
  simp only [List.nodup_cons] at hnd
  exact h.keep hp hc (h.pg.chgO hp (fun e => hnd.1 (e ▸ List.mem_of_getElem? hq)) hc) (PgL.put hp hc h' hnd.2 hq h.pgs)
theorem TabMem.lens (h : TabMem w t pm c k u sv xs s main subs) : xs.length = (setsN s).length ∧ subs.length = (setsN s).length := by
  have h1 := h.ats.length
  have h2 := h.pgs.length
  rw [List.length_map] at h1 h2
  omega
/-- The j-th set. -/
theorem TabMem.at (h : TabMem w t pm c k u sv xs s main subs) {j : Nat} (hj : j < (setsN s).length) : ∃ a q st m b off cap, xs[j]? = some (a, q) ∧ (setsN s)[j]? = some st ∧ subs[j]? = some m ∧ IsInts w a st ∧ Pg w q m ∧ sv = .slice (some ⟨b, off, none⟩) xs.length cap ∧ Cells w b (off + j * 2) [a, .pointer (some ⟨q, 0, none⟩)] ∧ q ∈ xs.map (·.2) := by
  obtain ⟨l1, l2⟩ := h.lens
  have e1 : (setsN s)[j]? = some (setsN s)[j] := by simp [hj]
  have e2 : xs[j]? = some (xs[j]'(by omega)) := by simp [l1, hj]
  have e3 : subs[j]? = some (subs[j]'(by omega)) := by simp [l2, hj]
  generalize (setsN s)[j] = st at e1
  generalize xs[j]'(by omega) = x at e2
  generalize subs[j]'(by omega) = m at e3
  obtain ⟨a, q⟩ := x
  obtain ⟨v, hv, ha⟩ := h.ats.at e1
  rw [List.getElem?_map, e2] at hv
  simp at hv
  subst hv
  have hq : (xs.map (·.2))[j]? = some q := by rw [List.getElem?_map, e2]; rfl
  obtain ⟨b, off, cap, hsv, hcell⟩ := ArrS.at scs_len h.sl e2
  exact ⟨a, q, st, m, b, off, cap, e2, e1, e3, ha.arr, h.pgs.at hq e3, hsv, hcell, List.mem_of_getElem? hq⟩
end
def IsTab (w : World) (t : Nat) (own : List Nat) (s : Sch) (rows : List (List Val)) : Prop :=
  ∃ pm c k u sv xs main subs, own = pm :: xs.map (·.2) ∧ TabMem w t pm c k u sv xs s main subs ∧ Tells s rows main subs
theorem IsTab.chg0 {w w' : World} {t : Nat} {own : List Nat} {s : Sch} {rows : List (List Val)} (h : IsTab w t own s rows) (hc : Chg [] w w') : IsTab w' t own s rows :=
  let ⟨pm, c, k, u, sv, xs, main, subs, h1, h2, h3⟩ := h; ⟨pm, c, k, u, sv, xs, main, subs, h1, h2.chg0 hc, h3⟩
theorem IsTab.ok {w : World} {t : Nat} {own : List Nat} {s : Sch} {rows : List (List Val)} (h : IsTab w t own s rows) : TabOk s rows :=
  let ⟨_, _, _, _, _, _, _, _, _, _, h3⟩ := h; h3.ok
end Go.Wk

namespace Go.Wk
open Go.Proofs
set_option maxRecDepth 10000

def ksOf {K : Type} (es : List (K × Value)) : List K := es.map (·.1)
theorem mem_kput {K : Type} [DecidableEq K] {k k' : K} {v : Value} : ∀ {es : List (K × Value)}, k' ∈ ksOf (kput es k v) ↔ k' = k ∨ k' ∈ ksOf es
  | [] => by simp [ksOf, kput]
  | p :: r => by
    unfold kput
    by_cases h : p.1 = k
    · rw [if_pos h]
      simp [ksOf, h]
    · rw [if_neg h]
      have ih := mem_kput (k := k) (k' := k') (v := v) (es := r)
      unfold ksOf at *
      rw [List.map_cons, List.map_cons, List.mem_cons, ih, List.mem_cons]
      constructor
      · rintro (h | h | h)
        · exact .inr (.inl h)
        · exact .inl h
        · exact .inr (.inr h)
      · rintro (h | h | h)
        · exact .inr (.inl h)
        · exact .inl h
        · exact .inr (.inr h)
theorem kput_nodup {K : Type} [DecidableEq K] {k : K} {v : Value} : ∀ {es : List (K × Value)}, (ksOf es).Nodup → (ksOf (kput es k v)).Nodup
  | [], _ => by simp [ksOf, kput]
  | p :: r, h => by
    unfold kput
    have h' : p.1 ∉ ksOf r ∧ (ksOf r).Nodup := by simpa [ksOf] using h
    by_cases e : p.1 = k
    · rw [if_pos e]
      simpa [ksOf, e] using h
    · rw [if_neg e]
      have ih := kput_nodup (k := k) (v := v) h'.2
      show (p.1 :: ksOf (kput r k v)).Nodup
      rw [List.nodup_cons]
      exact ⟨fun hm => by rcases mem_kput.1 hm with h1 | h1; exact e h1; exact h'.1 h1, ih⟩
def ClashK (s : Sch) (rows : List (List Val)) (row : List Val) (sts : List (List Int)) (es : List (ByteArray × Value)) : Prop :=
  (ksOf es).Nodup ∧ ∀ k, k ∈ ksOf es ↔ ∃ r ∈ rows, (∃ st ∈ sts, clashSet r row st = true) ∧ keyR s r = k
theorem ClashK.nil {s : Sch} {rows : List (List Val)} {row : List Val} : ClashK s rows row [] [] := ⟨by simp [ksOf], by simp [ksOf]⟩
theorem ClashK.skip {s : Sch} {rows : List (List Val)} {row : List Val} {sts : List (List Int)} {st : List Int} {es : List (ByteArray × Value)} (h : ClashK s rows row sts es) (hn : ∀ r ∈ rows, clashSet r row st = false) : ClashK s rows row (sts ++ [st]) es := by
  refine ⟨h.1, fun k => (h.2 k).trans ⟨?_, ?_⟩⟩
  · rintro ⟨r, hr, ⟨st', hs, hc⟩, hk⟩
    exact ⟨r, hr, ⟨st', List.mem_append_left _ hs, hc⟩, hk⟩
  · rintro ⟨r, hr, ⟨st', hs, hc⟩, hk⟩
    rcases List.mem_append.1 hs with hs | hs
    · exact ⟨r, hr, ⟨st', hs, hc⟩, hk⟩
    · simp at hs
      subst hs
      rw [hn r hr] at hc; cases hc
theorem rowOf_some {rows : List (List Val)} {st : List Int} {vals r : List Val} (h : rowOf rows st vals = some r) : r ∈ rows ∧ nnS (pickN r st) = true ∧ pickN r st = vals := by
  have h1 := List.mem_of_find?_eq_some h
  have h2 := List.find?_some h
  simp only [Bool.and_eq_true, decide_eq_true_eq] at h2
  exact ⟨h1, h2⟩
theorem rowOf_none {rows : List (List Val)} {st : List Int} {vals r : List Val} (h : rowOf rows st vals = none) (hr : r ∈ rows) : ¬ (nnS (pickN r st) = true ∧ pickN r st = vals) := by
  have := List.find?_eq_none.1 h r hr
  simpa using this
theorem ClashK.none {s : Sch} {rows : List (List Val)} {row : List Val} {sts : List (List Int)} {st : List Int} {es : List (ByteArray × Value)} (h : ClashK s rows row sts es) (hn : nnS (pickN row st) = false ∨ rowOf rows st (pickN row st) = none) : ClashK s rows row (sts ++ [st]) es := by
  refine h.skip fun r hr => ?_
  cases hc : clashSet r row st with
  | false => rfl
  | true =>
    obtain ⟨h1, h2⟩ := clashSet_iff.1 hc
    rcases hn with hn | hn
    · rw [← h2, h1] at hn; cases hn
    · exact absurd ⟨h1, h2⟩ (rowOf_none hn hr)
theorem ClashK.some {s : Sch} {rows : List (List Val)} (ht : TabOk s rows) {row r : List Val} {sts : List (List Int)} {st : List Int} (hst : st ∈ setsN s) {es : List (ByteArray × Value)} {v : Value} (h : ClashK s rows row sts es) (hn : rowOf rows st (pickN row st) = some r) : ClashK s rows row (sts ++ [st]) (kput es (keyR s r) v) := by
  obtain ⟨hr, h1, h2⟩ := rowOf_some hn
  have hc : clashSet r row st = true := clashSet_iff.2 ⟨h1, h2⟩
  refine ⟨kput_nodup h.1, fun k => ?_⟩
  rw [mem_kput, h.2 k]
  constructor
  · rintro (rfl | ⟨r', hr', ⟨st', hs, hc'⟩, hk⟩)
    · exact ⟨r, hr, ⟨st, by simp, hc⟩, rfl⟩
    · exact ⟨r', hr', ⟨st', List.mem_append_left _ hs, hc'⟩, hk⟩
  · rintro ⟨r', hr', ⟨st', hs, hc'⟩, hk⟩
    rcases List.mem_append.1 hs with hs | hs
    · exact .inr ⟨r', hr', ⟨st', hs, hc'⟩, hk⟩
    · simp at hs
      subst hs
      obtain ⟨g1, g2⟩ := clashSet_iff.1 hc'
      have : r' = r := ht.uniqC hr' hr (clashR_iff.2 ⟨st', hst, g1, by rw [g2, h2]⟩)
      subst this
      exact .inl hk.symm
theorem ClashK.gone {s : Sch} {rows : List (List Val)} {row : List Val} {es : List (ByteArray × Value)} (h : ClashK s rows row (setsN s) es) (k : ByteArray) : k ∈ ksOf es ↔ k ∈ (goneR s rows row).map (keyR s) := by
  rw [h.2 k, List.mem_map]
  constructor
  · rintro ⟨r, hr, ⟨st, hs, hc⟩, hk⟩
    exact ⟨r, mem_gone.2 ⟨hr, List.any_eq_true.2 ⟨st, hs, hc⟩⟩, hk⟩
  · rintro ⟨r, hr, hk⟩
    obtain ⟨h1, h2⟩ := mem_gone.1 hr
    obtain ⟨st, hs, hc⟩ := List.any_eq_true.1 h2
    exact ⟨r, h1, ⟨st, hs, hc⟩, hk⟩
end Go.Wk

namespace Go.Wk
open Go.Proofs
set_option maxRecDepth 10000

theorem t_fits0 (v : Value) (w : World) : Ret Tryz.prog 48 #[.pointer none, v] w fun r w' => ErrOf w' r 1 ∧ Chg [] w w' := by
  refine Ret.of_W (args := [_, _]) Tryz.func48 rfl rfl rfl rfl ?_

  refine Sr (Oa rfl rfl (O_end [0, 1] (F' := [(0, _), (1, _)]) rfl (W_seq (Sr (Om rfl rfl ?_)))))
  refine Og (vl_pnil pt31 rfl rfl) rfl ?_
  refine O_end [0, 1, 7] (F' := [(0, _), (1, _), (7, _)]) rfl (W_cond_true rfl (Sr ?_))
  refine Og (vl_mkif ni32 rfl) rfl ?_
  refine Og (vl_build pl141 zr141 rfl (vs := [_, _]) rfl (css := [_, _]) ⟨rfl, rfl, trivial⟩ rfl rfl (cs := [_, _]) rfl) rfl ?_
  refine Og (vl_mkif ni141 rfl) rfl ?_
  refine Oa rfl rfl (O_end [4] (F' := [(4, _)]) rfl (W_ret ?_))
  repeat (first | refine then_ret ?_ | refine block_ret ?_)
  refine ret1 rfl rfl ?_
  exact ⟨.inr ⟨.inr (.inr ⟨_, rfl⟩), by decide⟩, Chg.refl _ _⟩
section
variable {t pm : Nat} {c k u sv : Value} {xs : List (Value × Nat)} {s : Sch} {main : List (List Ent)} {subs : List (List (List Ent))}
theorem TabMem.scells {w : World} (h : TabMem w t pm c k u sv xs s main subs) : Cells w t 1 [c, k, u] := by
  intro i x hi
  have := (Cells.of_blk0 h.blk) (1 + i) x (by
    rw [show [Value.pointer (some ⟨pm, 0, none⟩), c, k, u, sv] = [Value.pointer (some ⟨pm, 0, none⟩)] ++ [c, k, u] ++ [sv] from rfl, List.append_assoc, List.getElem?_append_right (by simp)]
    simp only [List.length_cons, List.length_nil, Nat.zero_add, Nat.add_sub_cancel_left]
    rw [List.getElem?_append_left (List.getElem?_eq_some_iff.1 hi).1]
    exact hi)
  rw [Nat.zero_add] at this
  exact this
theorem t_fits (v : Value) (l : List Val) (w : World) (hE : EOk w) (h : TabMem w t pm c k u sv xs s main subs) (hr : rightS s = true) (hl : IsVals w v l) (hg : ∀ x ∈ l, x.Rng) (hn : l.length ≤ 1048576) :
    Ret Tryz.prog 48 #[.pointer (some ⟨t, 0, none⟩), v] w fun r w' => ErrOf w' r (rowN s l) ∧ Chg [] w w' := by
  refine Ret.of_W (args := [_, _]) Tryz.func48 rfl rfl rfl rfl ?_

  refine Sr (Oa rfl rfl (O_end [0, 1] (F' := [(0, _), (1, _)]) rfl (W_seq (Sr (Om rfl rfl ?_)))))
  refine Og (vl_pnil pt31 rfl rfl) rfl ?_
  refine O_end [0, 1, 7] (F' := [(0, _), (1, _), (7, _)]) rfl (W_cond_false rfl (W_skipE (W_seq (Sr (Om rfl rfl (Og (vl_nilCheck rfl) rfl (Og (vl_fieldAddr fo98_1 rfl) rfl ?_)))))))
  refine Og (vl_loadAgg ag30 sz30 rfl rfl h.scells) rfl ?_
  refine Om rfl rfl ?_
  refine O_go (gn rfl) (st_call bd80 rfl rfl rfl rfl (s_Row c k u v s l _ hE h.sch (right_sm hr) hl hg hn) ?_)
  rintro v16 w16 ⟨rfl, c16⟩
  refine Oa rfl rfl (O_end [5] (F' := [(5, _)]) rfl (W_seq ?_))
  by_cases he : rowN s l = 0
  · refine W_region (Om rfl rfl ?_)
    refine Og (vl_is (b' := false) (vl_ine rfl rfl) (by simp [he])) rfl ?_
    refine O_end [5, 18] (F' := [(5, _), (18, _)]) rfl (W_cond_false rfl (W_skipE (Sr (Oa rfl rfl (O_end [4] (F' := [(4, _)]) rfl (W_ret ?_))))))
    refine ret1 rfl rfl ?_
    exact ⟨.inl ⟨rfl, he⟩, c16⟩
  · refine W_region (Om rfl rfl ?_)
    refine Og (vl_is (b' := true) (vl_ine rfl rfl) (by simp [he])) rfl ?_
    refine O_end [5, 18] (F' := [(5, _), (18, _)]) rfl (W_cond_true rfl (Sr (Om rfl rfl ?_)))
    refine Og (vl_mkif ni32 rfl) rfl ?_
    refine Og (vl_build pl141 zr141 rfl (vs := [_, _]) rfl (css := [_, _]) ⟨rfl, rfl, trivial⟩ rfl rfl (cs := [_, _]) rfl) rfl ?_
    refine Og (vl_mkif ni141 rfl) rfl ?_
    refine Oa rfl rfl (O_end [4] (F' := [(4, _)]) rfl (W_ret ?_))
    repeat (first | refine then_ret ?_ | refine block_ret ?_)
    refine ret1 rfl rfl ?_
    exact ⟨.inr ⟨.inr (.inr ⟨_, rfl⟩), he⟩, c16⟩
end
/-- What is told of a set's values. -/
theorem set_of {w : World} {a v : Value} {q : Nat} {s : Sch} {st : List Int} {row : List Val} (hf : rowN s row = 0) (hg : ∀ x ∈ row, x.Rng) (hst : st ∈ setsN s) (ha : IsInts w a st) (hv : IsVals w v row) :
    Ret Tryz.prog 62 #[.agg #[a, .pointer (some ⟨q, 0, none⟩)], v] w fun r w' => r = .tuple #[.string (keyS (pickN row st)), .bool (nnS (pickN row st))] ∧ Chg [] w w' := by
  obtain ⟨hr, hl, _⟩ := rowN_ok hf
  obtain ⟨h1, h2, _⟩ := set_parts (sets_right hr st hst)
  have h8 := (right_parts hr).1
  exact k_setof a _ v st row w ha rfl hv hg (row_chk hf) (fun i hi => by have := h2 i hi; omega) (by omega) (by omega)
theorem SubsOk.st {s : Sch} {rows : List (List Val)} {j : Nat} {st : List Int} {m : List (List Ent)} : ∀ {sts : List (List Int)} {pss : List (List (List Ent))}, SubsOk s rows sts pss → sts[j]? = some st → pss[j]? = some m → SubOk s rows st m := by
  intro sts pss h h1 h2
  obtain ⟨ps, hp, hs⟩ := h.at' h1
  rw [h2] at hp
  cases hp
  exact hs
end Go.Wk

namespace Go.Wk
open Go.Proofs
set_option maxRecDepth 10000

theorem take_snoc {α : Type} {l : List α} {j : Nat} {x : α} (h : l[j]? = some x) : l.take (j + 1) = l.take j ++ [x] := by rw [List.take_add_one, h]; rfl
theorem kput_len {K : Type} [DecidableEq K] (k : K) (v : Value) : ∀ (es : List (K × Value)), (kput es k v).length ≤ es.length + 1
  | [] => by simp [kput]
  | p :: r => by
    unfold kput
    split
    · simp
    · have := kput_len k v r
      simp only [List.length_cons]
      omega
section
variable {t pm : Nat} {c k u sv : Value} {xs : List (Value × Nat)} {s : Sch} {main : List (List Ent)} {subs : List (List (List Ent))} {rows : List (List Val)}
theorem t_clashing (v : Value) (row : List Val) (w : World) (h : TabMem w t pm c k u sv xs s main subs) (ht : Tells s rows main subs) (hf : rowN s row = 0) (hl : IsVals w v row) (hg : ∀ x ∈ row, x.Rng) :
    Ret Tryz.prog 50 #[.pointer (some ⟨t, 0, none⟩), v] w fun r w' => ∃ b es, r = .map (some b) ∧ w.heap.size ≤ b ∧ IsMapK strK w' b es ∧ es.length ≤ 4 ∧ ClashK s rows row (setsN s) es ∧ Chg [] w w' := by
  obtain ⟨l1, l2⟩ := h.lens
  obtain ⟨psv, csv, rfl, hcsv⟩ := ArrS.val h.sl
  have hn3 := (right_parts ht.ok.right).2.1
  have hn4 : (setsN s).length ≤ 4 := by simp [setsN]; omega
  refine Ret.of_W (args := [_, _]) Tryz.func50 rfl rfl rfl rfl ?_

  refine Sr (Oa rfl rfl (O_end [0, 1] (F' := [(0, _), (1, _)]) rfl (Sr ?_)))
  refine O_go (gn rfl) (st_makeMapK (strK) rfl ?_)
  intro b12 w12 e12 n12 c12 k12
  refine Oa rfl rfl (O_end [0, 1, 5] (F' := [(0, _), (1, _), (5, _)]) rfl (W_seq (W_seq ?_)))
  have h2 := h.chg0 c12
  refine W_region (Om rfl rfl (Og (vl_nilCheck rfl) rfl (Og (vl_fieldAddr fo98_2 rfl) rfl ?_)))
  refine Og (vl_load ag96 rfl (h2.blk.cell' rfl)) rfl ?_
  refine Og (vl_len sl96 rfl) rfl (Om rfl rfl (O_end [1, 5, 16, 17, 18] (F' := [(1, _), (5, _), (16, _), (17, _), (18, _)]) rfl (W_block ?_)))
  refine W_loop [1, 5, 16, 17, 18] (fun m F wx => ∃ (j : Nat) (es : List (ByteArray × Value)), m = xs.length - j ∧ j ≤ xs.length ∧ F = [(1, v), (5, .map (some b12)), (16, .slice psv xs.length csv), (17, .int .i64 xs.length), (18, .int .i64 j)] ∧ IsMapK strK wx b12 es ∧ es.length ≤ j ∧ ClashK s rows row ((setsN s).take j) es ∧ Chg [b12] w12 wx) (m := xs.length - 0) ⟨0, [], rfl, Nat.zero_le _, rfl, k12, by simp, ClashK.nil, Chg.refl _ _⟩ ?_
  rintro m F wx ⟨j, es, rfl, hj, rfl, hes, hint, hck, hcx⟩
  have hcw : Chg [] w wx := c12.own hcx (by intro y hy; simp at hy; omega)
  have hx := h.chg0 hcw
  have hvx := Arr.chg0 hl hcw
  refine Sr (Og (vl_lss rfl rfl) rfl (O_end [1, 5, 16, 17, 18, 19] (F' := [(1, _), (5, _), (16, _), (17, _), (18, _), (19, _)]) rfl (W_seq ?_)))
  refine W_cond rfl (fun hT => ?_) (fun hF => ?_)
  · refine W_skipE ?_
    have hlt : j < xs.length := by have := of_decide_eq_true hT; omega
    obtain ⟨a, q, st, m, b, off, cap, e1, e2, e3, ha, hq, hsv, hcell, hqm⟩ := hx.at (j := j) (by omega)
    cases hsv
    have hst : st ∈ setsN s := List.mem_of_getElem? e2
    have hsub := SubsOk.st ht.subs e2 e3
    refine W_seq (W_block (Sr (Om rfl rfl ?_)))
    refine Og (vl_indexAddr sl96 sz103 rfl rfl _ rfl hlt) rfl ?_
    refine Og (vl_loadAgg ag103 sz103 rfl rfl hcell) rfl ?_
    refine O_go (gn rfl) (st_alloc zr103 rfl rfl ?_)
    intro b7 w7 e7 n7 c7 k7
    refine Oa rfl rfl ?_
    refine O_go (gn rfl) (st_store sz103 rfl rfl rfl rfl k7 (by simp) (by intro u hu; simp at hu; rcases hu with rfl | rfl; exact Arr.one1 ha; rfl) ?_)
    intro wA nA cA kA
    refine O_end [1, 5, 6, 7, 16, 17, 18] (F' := [(1, _), (5, _), (6, _), (7, _), (16, _), (17, _), (18, _)]) rfl ?_
    have kA : Blk wA b7 103 [a, .pointer (some ⟨q, 0, none⟩)] := kA
    have hcA : Chg [] wx wA := c7.own cA (by intro y hy; simp at hy; omega)
    refine Sr ?_
    refine Og (vl_loadAgg ag103 sz103 rfl rfl (Cells.of_blk0 kA)) rfl ?_
    refine Om rfl rfl ?_
    refine O_go (gn rfl) (st_call bd62 rfl rfl rfl rfl (set_of hf hg hst (Arr.chg0 ha hcA) (Arr.chg0 hvx hcA)) ?_)
    rintro v26 w26 ⟨rfl, c26⟩
    refine Om rfl rfl (Oe rfl rfl rfl (Oe rfl rfl rfl (Oa rfl rfl (Oa rfl rfl (O_end [1, 5, 6, 7, 8, 9, 16, 17, 18] (F' := [(1, _), (5, _), (6, _), (7, _), (8, _), (9, _), (16, _), (17, _), (18, _)]) rfl ?_)))))
    have hcB : Chg [] wx w26 := hcA.trans c26
    have hbb : b12 < w26.heap.size := Nat.lt_of_lt_of_le hes.lt hcB.size
    refine Sr (Om rfl rfl (O_end [1, 5, 6, 7, 8, 16, 17, 18, 29] (F' := [(1, _), (5, _), (6, _), (7, _), (8, _), (16, _), (17, _), (18, _), (29, _)]) rfl ?_))
    cases hnn : nnS (pickN row st) with
    | false =>
      refine W_cond_false rfl (W_skip (block_normal (W_region ?_)))
      refine Og (vl_add rfl rfl (by omega)) rfl ?_
      refine Om rfl rfl ?_
      refine O_endN [1, 5, 16, 17, 18] (F' := [(1, _), (5, _), (16, _), (17, _), (18, _)]) rfl ?_
      refine ⟨xs.length - (j + 1), by omega, j + 1, es, rfl, by omega, rfl, hes.chg0 hcB, by omega, ?_, hcx.trans hcB⟩
      rw [take_snoc e2]
      exact hck.none (.inl hnn)
    | true =>
      refine W_cond_true rfl ?_
      have hget := hsub.get ht.ok hst (vals := pickN row st) (pick_ok hf hg hst)
      refine Sr (Og (vl_fieldAddr fo103_1 rfl) rfl ?_)
      refine Og (vl_load ag94 rfl ((kA.chg0 c26).cell' rfl)) rfl ?_
      refine Om rfl rfl ?_
      refine O_go (gn rfl) (st_call bd65 rfl rfl rfl rfl (f15 q m _ _ (hq.chg0 hcB) hsub.wf (by have := hsub.le ht.ok; omega)) ?_)
      rintro v34 w34 ⟨rfl, c34⟩
      refine Om rfl rfl (Oe rfl rfl rfl (Oe rfl rfl rfl (Oa rfl rfl (Oa rfl rfl (O_end [1, 5, 6, 10, 11, 16, 17, 18] (F' := [(1, _), (5, _), (6, _), (10, _), (11, _), (16, _), (17, _), (18, _)]) rfl ?_)))))
      have hcC : Chg [] wx w34 := hcB.trans c34
      rw [hget]
      cases hro : rowOf rows st (pickN row st) with
      | none =>
        refine Sr (Om rfl rfl (O_end [1, 5, 6, 10, 16, 17, 18, 37] (F' := [(1, _), (5, _), (6, _), (10, _), (16, _), (17, _), (18, _), (37, _)]) rfl (W_cond_false rfl (W_skip (block_normal (W_region ?_))))))
        refine Og (vl_add rfl rfl (by omega)) rfl ?_
        refine Om rfl rfl ?_
        refine O_endN [1, 5, 16, 17, 18] (F' := [(1, _), (5, _), (16, _), (17, _), (18, _)]) rfl ?_
        refine ⟨xs.length - (j + 1), by omega, j + 1, es, rfl, by omega, rfl, hes.chg0 hcC, by omega, ?_, hcx.trans hcC⟩
        rw [take_snoc e2]
        exact hck.none (.inr hro)
      | some r =>
        refine Sr (Om rfl rfl (O_end [1, 5, 6, 10, 16, 17, 18, 37] (F' := [(1, _), (5, _), (6, _), (10, _), (16, _), (17, _), (18, _), (37, _)]) rfl (W_cond_true rfl (W_region (Om rfl rfl (Om rfl rfl (Om rfl rfl ?_)))))))
        refine O_go (gn rfl) (st_putK (κ := strK) mp110 (stOf_und st9) rfl rfl rfl (hes.chg0 hcC) ?_)
        intro wD nD cD kD
        refine O_endN [1, 5, 16, 17, 18] (F' := [(1, _), (5, _), (16, _), (17, _), (18, _)]) rfl ?_
        refine block_normal (W_region ?_)
        refine Og (vl_add rfl rfl (by omega)) rfl ?_
        refine Om rfl rfl ?_
        refine O_endN [1, 5, 16, 17, 18] (F' := [(1, _), (5, _), (16, _), (17, _), (18, _)]) rfl ?_
        refine ⟨xs.length - (j + 1), by omega, j + 1, _, rfl, by omega, rfl, kD, ?_, ?_, (hcx.trans hcC).transS cD⟩
        · exact Nat.le_trans (kput_len _ _ _) (by omega)
        · rw [take_snoc e2]
          exact hck.some ht.ok hst hro
  · refine W_exit ?_
    repeat (first | refine then_exit ?_ | refine blockF_other rfl ?_)
    refine blockF_exit _ ?_
    have he : xs.length ≤ j := by have := of_decide_eq_false hF; omega
    rw [List.take_of_length_le (by omega)] at hck
    refine Sr (Om rfl rfl (Oa rfl rfl (O_end [4] (F' := [(4, _)]) rfl (W_ret ?_))))
    refine ret1 rfl rfl ?_
    exact ⟨b12, es, rfl, by omega, hes, by omega, hck, c12.own hcx (by intro y hy; simp at hy; omega)⟩
end
end Go.Wk

namespace Go.Wk
open Go.Proofs
set_option maxRecDepth 10000

/-! ### sets one by one -/
section
variable {α β : Type} (f : α → β → β)
def stepJ (a : List α) (l : List β) (j : Nat) : List β := List.zipWith f (a.take j) (l.take j) ++ l.drop j
variable {f} {a : List α} {l : List β} {j : Nat} {x : α} {y : β}
theorem stepJ_zero : stepJ f a l 0 = l := by simp [stepJ]
theorem stepJ_all (h : a.length = l.length) (hj : l.length ≤ j) : stepJ f a l j = List.zipWith f a l := by
  unfold stepJ
  rw [List.take_of_length_le (by omega), List.take_of_length_le hj, List.drop_eq_nil_of_le hj, List.append_nil]
theorem stepJ_at (hx : a[j]? = some x) (hy : l[j]? = some y) : (stepJ f a l j)[j]? = some y := by
  have h1 := (List.getElem?_eq_some_iff.1 hx).1
  have h2 := (List.getElem?_eq_some_iff.1 hy).1
  unfold stepJ
  rw [List.getElem?_append_right (by simp; omega), List.getElem?_drop]
  rw [show j + (j - (List.zipWith f (a.take j) (l.take j)).length) = j by simp; omega]
  exact hy
theorem stepJ_succ (hx : a[j]? = some x) (hy : l[j]? = some y) : stepJ f a l (j + 1) = (stepJ f a l j).set j (f x y) := by
  have h1 := (List.getElem?_eq_some_iff.1 hx).1
  have h2 := (List.getElem?_eq_some_iff.1 hy).1
  have hz : (List.zipWith f (a.take j) (l.take j)).length = j := by simp; omega
  unfold stepJ
  rw [take_snoc hx, take_snoc hy, List.zipWith_append (by simp; omega)]
  rw [List.set_append_right _ _ (by omega), hz, Nat.sub_self]
  obtain ⟨_, rfl⟩ := List.getElem?_eq_some_iff.1 hy
  rw [show l.drop j = l[j] :: l.drop (j + 1) from List.drop_eq_getElem_cons h2]
  simp only [List.set_cons_zero, List.append_assoc, List.cons_append, List.nil_append, List.zipWith_cons_cons, List.zipWith_nil_left]
theorem stepJ_same (hx : a[j]? = some x) (hy : l[j]? = some y) (hf : f x y = y) : stepJ f a l (j + 1) = stepJ f a l j := by
  rw [stepJ_succ hx hy, hf]
  have := stepJ_at (f := f) hx hy
  obtain ⟨h1, h2⟩ := List.getElem?_eq_some_iff.1 this
  conv => lhs; rw [← h2]
  exact List.set_getElem_self h1
end
def comeF (row : List Val) (k : ByteArray) (st : List Int) (ps : List (List Ent)) : List (List Ent) := if nnS (pickN row st) then pPut ps (keyS (pickN row st)) k else ps
def leaveF (row : List Val) (st : List Int) (ps : List (List Ent)) : List (List Ent) := if nnS (pickN row st) then pTake ps (keyS (pickN row st)) else ps
theorem comeS_zip (row : List Val) (k : ByteArray) : ∀ sts pss, comeS row k sts pss = List.zipWith (comeF row k) sts pss
  | [], _ => by simp [comeS]
  | _ :: _, [] => by simp [comeS]
  | st :: sts, ps :: pss => by simp only [comeS, List.zipWith_cons_cons, comeS_zip row k sts pss]; rfl
theorem leaveS_zip (row : List Val) : ∀ sts pss, leaveS row sts pss = List.zipWith (leaveF row) sts pss
  | [], _ => by simp [leaveS]
  | _ :: _, [] => by simp [leaveS]
  | st :: sts, ps :: pss => by simp only [leaveS, List.zipWith_cons_cons, leaveS_zip row sts pss]; rfl
theorem enc_string (s : Sch) (row : List Val) : (⟨(encR s.cols row).toArray⟩ : ByteArray) = encS s row := rfl
theorem keyS_size {s : Sch} {row : List Val} (hf : rowN s row = 0) {st : List Int} (hst : st ∈ setsN s) : (keyS (pickN row st)).size ≤ 2000 := by
  have h1 := keyB_len (l := pickN row st) fun x hx => row_chk hf x (pick_mem hf hst x hx)
  have h2 := (set_parts (sets_right (rowN_ok hf).1 st hst)).1
  have e : (keyS (pickN row st)).size = (keyB (pickN row st)).length := by simp [keyS, ByteArray.size]
  rw [show (pickN row st).length = st.length by simp [pickN]] at h1
  omega
section
variable {t pm : Nat} {c k u sv : Value} {xs : List (Value × Nat)} {s : Sch} {main : List (List Ent)} {subs : List (List (List Ent))} {rows : List (List Val)}
set_option maxHeartbeats 400000 in
theorem t_come (v : Value) (row : List Val) (w : World) (hE : EOk w) (h : TabMem w t pm c k u sv xs s main subs) (ht : Tells s rows main subs) (hf : rowN s row = 0) (hl : IsVals w v row) (hg : ∀ x ∈ row, x.Rng) :
    Ret Tryz.prog 52 #[.pointer (some ⟨t, 0, none⟩), v] w fun _ w' => TabMem w' t pm c k u sv xs s (pPut main (keyR s row) (encS s row)) (comeS row (keyR s row) (setsN s) subs) ∧ Chg (pm :: xs.map (·.2)) w w' := by
  obtain ⟨l1, l2⟩ := h.lens
  obtain ⟨psv, csv, rfl, hcsv⟩ := ArrS.val h.sl
  have hn3 := (right_parts ht.ok.right).2.1
  have hn4 : (setsN s).length ≤ 4 := by simp [setsN]; omega
  have hn1 : 1 ≤ (setsN s).length := by simp [setsN]
  obtain ⟨hrs, hlen, hfit⟩ := rowN_ok hf
  have h8 := (right_parts hrs).1
  refine Ret.of_W (args := [_, _]) Tryz.func52 rfl rfl rfl rfl ?_

  refine W_seq ?_
  obtain ⟨a0, q0, stA, m0, b0, off0, cap0, e1, e2, e3, ha0, hq0, hsv0, hcell0, hqm0⟩ := h.at (j := 0) (by omega)
  have hstA : s.key = stA := by simp [setsN] at e2; exact e2
  subst hstA
  cases hsv0
  refine W_region (Om rfl rfl (Og (vl_nilCheck rfl) rfl (Og (vl_fieldAddr fo98_2 rfl) rfl ?_)))
  refine Og (vl_load ag96 rfl (h.blk.cell' rfl)) rfl ?_
  refine Og (vl_indexAddr sl96 sz103 rfl rfl 0 rfl (show 0 < xs.length by omega)) rfl ?_
  refine Og (vl_loadAgg ag103 sz103 rfl rfl hcell0) rfl ?_
  refine Om rfl rfl ?_
  refine O_go (gn rfl) (st_call bd62 rfl rfl rfl rfl (set_of hf hg (key_mem s) ha0 hl) ?_)
  rintro v20 w20 ⟨rfl, c20⟩
  refine Om rfl rfl (Oe rfl rfl rfl (Oe rfl rfl rfl (Oa rfl rfl (Oa rfl rfl (O_end [0, 1, 4] (F' := [(0, _), (1, _), (4, _)]) rfl ?_)))))
  have h1 := h.chg0 c20
  have hl1 := Arr.chg0 hl c20
  refine Sr (Om rfl rfl (Og (vl_nilCheck rfl) rfl (Og (vl_fieldAddr fo98_1 rfl) rfl ?_)))
  refine Og (vl_loadAgg ag30 sz30 rfl rfl h1.scells) rfl ?_
  refine Om rfl rfl ?_
  refine O_go (gn rfl) (st_call bd84 rfl rfl rfl rfl (c_Encode c k u v s row _ (hE.chg0 c20) h1.sch (right_sm hrs) hl1 hg (by omega)) ?_)
  rintro v29 w29 ⟨o29, rfl, i29, f29, c29⟩
  rw [if_pos hf] at i29
  obtain ⟨p29, q29, rfl, -⟩ := id (IsSl.val i29)
  refine Om rfl rfl (Oe rfl rfl rfl (Oe rfl rfl rfl (Oa rfl rfl (Oa rfl rfl (O_end [0, 1, 4, 6] (F' := [(0, _), (1, _), (4, _), (6, _)]) rfl ?_)))))
  have h2 := h1.chg0 c29
  have hl2 := Arr.chg0 hl1 c29
  refine W_seq ?_
  refine W_draw (fun wz => Chg [] w29 wz) mix (by kernel_rfl) (Chg.drew [] _) ?_
  refine Tm rfl rfl ?_
  refine t_pure rfl (gn rfl) (fun _ => vl_nilCheck rfl) rfl rfl ?_
  refine t_pure rfl (gn rfl) (fun _ => vl_fieldAddr fo98_0 rfl) rfl rfl ?_
  refine t_read rfl (gn rfl) (fun wz hz => vl_load ag94 rfl ((h2.blk.chg0 hz).cell' rfl)) rfl rfl ?_
  refine Tm rfl rfl (Tm rfl rfl ?_)
  refine t_read rfl (gn rfl) (fun wz hz => vl_bytesR (l := (encR s.cols row)) sl132 it5_u8 st9 rfl (IsSl.rd (IsSl.chg0 i29 hz))) rfl rfl ?_
  refine t_st rfl (gn rfl) (st_call bd85 rfl rfl rfl rfl (f10 pm main (keyR s row) (encS s row) _ (h2.pg.chg0 (Chg.drew [] _)) ht.wf (by have := ht.le; omega) (keyS_size hf (key_mem s))) ?_)
  rintro v39 w39 ⟨rfl, p39, c39⟩
  refine ⟨.inr (by kernel_rfl), ?_⟩
  refine T_end [0, 1, 4] (F' := [(0, _), (1, _), (4, _)]) rfl ?_
  have h3 := (h2.chg0 (Chg.drew [] _)).putM c39 p39
  have hc3 : Chg (pm :: xs.map (·.2)) w w39 := ((((Chg.refl _ w).trans c20).trans c29).trans (Chg.drew [] _)).trans' c39 (fun y hy => .inl (by simp at hy; simp [hy]))
  have hl3 : IsVals w39 v row := by
    exact Arr.chgC (Arr.chg0 hl2 (Chg.drew [] _)) c39 cs_lit (h2.pg.chg0 (Chg.drew [] _)).nl
  refine Sr (Om rfl rfl (Og (vl_nilCheck rfl) rfl (Og (vl_fieldAddr fo98_2 rfl) rfl ?_)))
  refine Og (vl_load ag96 rfl (h3.blk.cell' rfl)) rfl ?_
  refine Og (vl_len sl96 rfl) rfl (Om rfl rfl (O_end [1, 4, 43, 44, 45] (F' := [(1, _), (4, _), (43, _), (44, _), (45, _)]) rfl (W_block ?_)))
  refine W_loop [1, 4, 43, 44, 45] (fun m F wx => ∃ (j : Nat), m = xs.length - j ∧ j ≤ xs.length ∧ F = [(1, v), (4, .string (keyR s row)), (43, .slice (some ⟨b0, off0, none⟩) xs.length csv), (44, .int .i64 xs.length), (45, .int .i64 j)] ∧ TabMem wx t pm c k u (.slice (some ⟨b0, off0, none⟩) xs.length csv) xs s (pPut main (keyR s row) (encS s row)) (stepJ (comeF row (keyR s row)) (setsN s) subs j) ∧ IsVals wx v row ∧ Chg (pm :: xs.map (·.2)) w wx) (m := xs.length - 0) ⟨0, rfl, Nat.zero_le _, rfl, by rw [stepJ_zero]; exact h3, hl3, hc3⟩ ?_
  rintro m F wx ⟨j, rfl, hj, rfl, hx, hvx, hcx⟩
  refine Sr (Og (vl_lss rfl rfl) rfl (O_end [1, 4, 43, 44, 45, 46] (F' := [(1, _), (4, _), (43, _), (44, _), (45, _), (46, _)]) rfl (W_seq ?_)))
  refine W_cond rfl (fun hT => ?_) (fun hF => ?_)
  · refine W_skipE ?_
    have hlt : j < xs.length := by have := of_decide_eq_true hT; omega
    obtain ⟨a, q, st, m, b, off, cap, e1, e2, e3, ha, hq, hsv, hcell, hqm⟩ := hx.at (j := j) (by omega)
    cases hsv
    have hst : st ∈ setsN s := List.mem_of_getElem? e2
    have e3' : subs[j]? = some (subs[j]'(by omega)) := by simp [show j < subs.length by omega]
    generalize subs[j]'(by omega) = m' at e3'
    have hmm : m = m' := by
      have := stepJ_at (f := comeF row (keyR s row)) e2 e3'
      rw [e3] at this
      cases this; rfl
    subst hmm
    have hsub := SubsOk.st ht.subs e2 e3'
    refine W_seq (W_block (Sr ?_))
    refine Og (vl_indexAddr sl96 sz103 rfl rfl _ rfl hlt) rfl ?_
    refine Og (vl_loadAgg ag103 sz103 rfl rfl hcell) rfl ?_
    refine O_go (gn rfl) (st_alloc zr103 rfl rfl ?_)
    intro b9 w9 e9 n9 c9 k9
    refine O_go (gn rfl) (st_store sz103 rfl rfl rfl rfl k9 (by simp) (by intro u hu; simp at hu; rcases hu with rfl | rfl; exact Arr.one1 ha; rfl) ?_)
    intro wA nA cA kA
    refine O_end [1, 4, 9, 43, 44, 45] (F' := [(1, _), (4, _), (9, _), (43, _), (44, _), (45, _)]) rfl ?_
    have kA : Blk wA b9 103 [a, .pointer (some ⟨q, 0, none⟩)] := kA
    have hcA : Chg [] wx wA := c9.own cA (by intro y hy; simp at hy; omega)
    refine Sr ?_
    refine Og (vl_loadAgg ag103 sz103 rfl rfl (Cells.of_blk0 kA)) rfl ?_
    refine Om rfl rfl ?_
    refine O_go (gn rfl) (st_call bd62 rfl rfl rfl rfl (set_of hf hg hst (Arr.chg0 ha hcA) (Arr.chg0 hvx hcA)) ?_)
    rintro v52 w52 ⟨rfl, c52⟩
    refine Om rfl rfl (Oe rfl rfl rfl (Oe rfl rfl rfl (Oa rfl rfl (Oa rfl rfl (O_end [1, 4, 9, 10, 11, 43, 44, 45] (F' := [(1, _), (4, _), (9, _), (10, _), (11, _), (43, _), (44, _), (45, _)]) rfl ?_)))))
    have hcB : Chg [] wx w52 := hcA.trans c52
    refine Sr (Om rfl rfl (O_end [1, 4, 9, 10, 43, 44, 45, 55] (F' := [(1, _), (4, _), (9, _), (10, _), (43, _), (44, _), (45, _), (55, _)]) rfl ?_))
    cases hnn : nnS (pickN row st) with
    | false =>
      refine W_cond_false rfl (W_skip (block_normal (W_region ?_)))
      refine Og (vl_add rfl rfl (by omega)) rfl ?_
      refine Om rfl rfl ?_
      refine O_endN [1, 4, 43, 44, 45] (F' := [(1, _), (4, _), (43, _), (44, _), (45, _)]) rfl ?_
      refine ⟨xs.length - (j + 1), by omega, j + 1, rfl, by omega, rfl, ?_, Arr.chg0 hvx hcB, hcx.trans hcB⟩
      rw [stepJ_same e2 e3' (by unfold comeF; rw [hnn]; rfl)]
      exact hx.chg0 hcB
    | true =>
      refine W_cond_true rfl (W_region (Og (vl_fieldAddr fo103_1 rfl) rfl ?_))
      refine Og (vl_load ag94 rfl ((kA.chg0 c52).cell' rfl)) rfl ?_
      refine Om rfl rfl (Om rfl rfl ?_)
      refine O_go (gn rfl) (st_call bd85 rfl rfl rfl rfl (f10 q m (keyS (pickN row st)) (keyR s row) _ (hq.chg0 hcB) hsub.wf (by have := hsub.le ht.ok; omega) (keyS_size hf hst)) ?_)
      rintro v60 w60 ⟨rfl, p60, c60⟩
      refine O_endN [1, 4, 43, 44, 45] (F' := [(1, _), (4, _), (43, _), (44, _), (45, _)]) rfl ?_
      refine block_normal (W_region ?_)
      refine Og (vl_add rfl rfl (by omega)) rfl ?_
      refine Om rfl rfl ?_
      refine O_endN [1, 4, 43, 44, 45] (F' := [(1, _), (4, _), (43, _), (44, _), (45, _)]) rfl ?_
      refine ⟨xs.length - (j + 1), by omega, j + 1, rfl, by omega, rfl, ?_, ?_, (hcx.trans hcB).trans' c60 (fun y hy => .inl (by simp at hy; subst hy; exact List.mem_cons_of_mem _ hqm))⟩
      · rw [stepJ_succ e2 e3', show comeF row (keyR s row) st m = pPut m (keyS (pickN row st)) (keyR s row) by unfold comeF; rw [hnn]; rfl]
        exact (hx.chg0 hcB).putS e1 e3 c60 p60
      · exact Arr.chgC (Arr.chg0 hvx hcB) c60 cs_lit (hq.chg0 hcB).nl
  · refine W_exit ?_
    repeat (first | refine then_exit ?_ | refine blockF_other rfl ?_)
    refine blockF_exit _ ?_
    have he : xs.length ≤ j := by have := of_decide_eq_false hF; omega
    refine end0 rfl ?_
    rw [comeS_zip, ← stepJ_all (j := j) (by omega) (by omega)]
    exact ⟨hx, hcx⟩
end
end Go.Wk

namespace Go.Wk
open Go.Proofs
set_option maxRecDepth 10000

theorem t_Get0 (key : ByteArray) (w : World) : Ret Tryz.prog 23 #[.pointer none, .string key] w fun r w' => r = .tuple #[.slice none 0 0, .bool false] ∧ w' = w := by
  refine Ret.of_W (args := [_, _]) Tryz.func23 rfl rfl rfl rfl ?_

  refine Sr (Oa rfl rfl (Oa rfl rfl (O_end [0, 1] (F' := [(0, _), (1, _)]) rfl (W_seq (Sr (Om rfl rfl ?_))))))
  refine Og (vl_pnil pt31 rfl rfl) rfl ?_
  refine O_end [0, 1, 11] (F' := [(0, _), (1, _), (11, _)]) rfl (W_cond_true rfl (Sr (Oa rfl rfl (Oa rfl rfl (O_end [4, 5] (F' := [(4, _), (5, _)]) rfl (W_ret ?_))))))
  repeat (first | refine then_ret ?_ | refine block_ret ?_)
  refine ret2 rfl rfl rfl ?_
  exact ⟨rfl, rfl⟩
theorem enc_size {s : Sch} {r : List Val} (hf : rowN s r = 0) : (encS s r).size ≤ 1680 ∧ (encS s r).data.toList = encR s.cols r ∧ (encS s r).size = (encR s.cols r).length := by
  obtain ⟨hrs, _, hfit⟩ := rowN_ok hf
  have h8 := (right_parts hrs).1
  have h1 := encR_len hfit
  have e : (encS s r).size = (encR s.cols r).length := by simp [encS, ByteArray.size]
  exact ⟨by omega, by simp [encS], e⟩
section
variable {t pm : Nat} {c k u sv : Value} {xs : List (Value × Nat)} {s : Sch} {main : List (List Ent)} {subs : List (List (List Ent))} {rows : List (List Val)}
theorem t_Get (key : ByteArray) (w : World) (h : TabMem w t pm c k u sv xs s main subs) (ht : Tells s rows main subs) :
    Ret Tryz.prog 23 #[.pointer (some ⟨t, 0, none⟩), .string key] w fun r w' => ∃ o, r = .tuple #[o, .bool (getR s rows key).isSome] ∧ IsValsS w' o ((getR s rows key).getD []) ∧ (∀ b ∈ blkOf o, w.heap.size ≤ b) ∧ Chg [] w w' := by
  refine Ret.of_W (args := [_, _]) Tryz.func23 rfl rfl rfl rfl ?_

  refine Sr (Oa rfl rfl (Oa rfl rfl (O_end [0, 1] (F' := [(0, _), (1, _)]) rfl (W_seq (Sr (Om rfl rfl ?_))))))
  refine Og (vl_pnil pt31 rfl rfl) rfl ?_
  refine O_end [0, 1, 11] (F' := [(0, _), (1, _), (11, _)]) rfl (W_cond_false rfl (W_skipE (Sr (Om rfl rfl (Og (vl_nilCheck rfl) rfl (Og (vl_fieldAddr fo98_0 rfl) rfl ?_))))))
  refine Og (vl_load ag94 rfl (h.blk.cell' rfl)) rfl ?_
  refine Om rfl rfl ?_
  refine O_go (gn rfl) (st_call bd65 rfl rfl rfl rfl (f15 pm main key _ h.pg ht.wf (by have := ht.le; omega)) ?_)
  rintro v18 w18 ⟨rfl, c18⟩
  refine Om rfl rfl (Oe rfl rfl rfl (Oe rfl rfl rfl (Oa rfl rfl (Oa rfl rfl (O_end [0, 6, 7] (F' := [(0, _), (6, _), (7, _)]) rfl ?_)))))
  have h1 := h.chg0 c18
  rw [ht.get]
  cases hg : getR s rows key with
  | none =>
    refine W_seq (Sr (Om rfl rfl (Og (vl_not rfl) rfl (O_end [0, 6, 22] (F' := [(0, _), (6, _), (22, _)]) rfl (W_cond_true rfl (Sr (Oa rfl rfl (Oa rfl rfl (O_end [4, 5] (F' := [(4, _), (5, _)]) rfl (W_ret ?_))))))))))
    repeat (first | refine then_ret ?_ | refine block_ret ?_)
    refine ret2 rfl rfl rfl ?_
    exact ⟨_, rfl, ArrS.nil _ _ _ _, by simp [blkOf], c18⟩
  | some r =>
    obtain ⟨hr, _⟩ := get_some hg
    have hf := ht.ok.fit r hr
    obtain ⟨z1, z2, z3⟩ := enc_size hf
    refine W_seq (Sr (Om rfl rfl (Og (vl_not rfl) rfl (O_end [0, 6, 22] (F' := [(0, _), (6, _), (22, _)]) rfl (W_cond_false rfl (W_skipE (Sr (Om rfl rfl (Og (vl_nilCheck rfl) rfl (Og (vl_fieldAddr fo98_1 rfl) rfl ?_))))))))))
    refine Og (vl_loadAgg ag30 sz30 rfl rfl h1.scells) rfl ?_
    refine Om rfl rfl ?_
    refine O_go (gn rfl) (st_bytes st9 sl132 it5_u8 rfl (by simp only [Option.map_some, Option.getD_some, maxLen]; omega) rfl ?_)
    intro b29 q29 w29 e29 c29 g29 i29
    refine O_go (gn rfl) (st_call bd66 rfl rfl rfl rfl (c_Decode c k u _ s r _ (h1.sch.chg0 c29) (right_sm ht.ok.right) hf (by have e := i29; simp only [Option.map_some, Option.getD_some] at e; rw [z2, z3] at e; exact e)) ?_)
    rintro v30 w30 ⟨o30, rfl, i30, f30, c30⟩
    refine Om rfl rfl (Oe rfl rfl rfl (Oe rfl rfl rfl (Oa rfl rfl (Oa rfl rfl (O_end [8] (F' := [(8, _)]) rfl (Sr (Om rfl rfl (Oa rfl rfl (Oa rfl rfl (O_end [4, 5] (F' := [(4, _), (5, _)]) rfl (W_ret ?_)))))))))))
    refine ret2 rfl rfl rfl ?_
    have hs := c18.size
    have hs2 := c29.size
    exact ⟨_, rfl, i30, fun b hb => by have := f30 b hb; omega, (c18.trans c29).trans c30⟩
theorem t_Key (v : Value) (row : List Val) (w : World) (hE : EOk w) (h : TabMem w t pm c k u sv xs s main subs) (ht : Tells s rows main subs) (hl : IsVals w v row) (hg : ∀ x ∈ row, x.Rng) (hn : row.length ≤ 1048576) :
    Ret Tryz.prog 20 #[.pointer (some ⟨t, 0, none⟩), v] w fun r w' => r = .tuple #[.string (if rowN s row = 0 then keyR s row else e0), .int .i64 (rowN s row)] ∧ Chg [] w w' := by
  obtain ⟨l1, l2⟩ := h.lens
  have hn1 : 1 ≤ (setsN s).length := by simp [setsN]
  refine Ret.of_W (args := [_, _]) Tryz.func20 rfl rfl rfl rfl ?_

  refine Sr (Oa rfl rfl (Oa rfl rfl (O_end [0, 1] (F' := [(0, _), (1, _)]) rfl (W_seq (Sr (Om rfl rfl (Om rfl rfl ?_)))))))
  refine O_go (gn rfl) (st_call bd48 rfl rfl rfl rfl (t_fits v row w hE h ht.ok.right hl hg hn) ?_)
  rintro v11 w11 ⟨i11, c11⟩
  refine Oa rfl rfl (O_end [0, 1, 6] (F' := [(0, _), (1, _), (6, _)]) rfl ?_)
  have h1 := h.chg0 c11
  have hl1 := Arr.chg0 hl c11
  rcases i11 with ⟨rfl, he⟩ | ⟨i11, he⟩
  · refine Sr (Om rfl rfl ?_)
    refine Og (vl_innil in106 rfl rfl) rfl ?_
    refine O_end [0, 1, 6, 13] (F' := [(0, _), (1, _), (6, _), (13, _)]) rfl (W_cond_false rfl (W_skipE ?_))
    obtain ⟨a0, q0, stA, m0, b0, off0, cap0, e1, e2, e3, ha0, hq0, hsv0, hcell0, hqm0⟩ := h1.at (j := 0) (by omega)
    have hstA : s.key = stA := by simp [setsN] at e2; exact e2
    subst hstA
    subst hsv0
    refine Sr (Om rfl rfl (Og (vl_nilCheck rfl) rfl (Og (vl_fieldAddr fo98_2 rfl) rfl ?_)))
    refine Og (vl_load ag96 rfl (h1.blk.cell' rfl)) rfl ?_
    refine Og (vl_indexAddr sl96 sz103 rfl rfl 0 rfl (show 0 < xs.length by omega)) rfl ?_
    refine Og (vl_loadAgg ag103 sz103 rfl rfl hcell0) rfl ?_
    refine Om rfl rfl ?_
    refine O_go (gn rfl) (st_call bd62 rfl rfl rfl rfl (set_of he hg (key_mem s) ha0 hl1) ?_)
    rintro v24 w24 ⟨rfl, c24⟩
    refine Om rfl rfl (Oe rfl rfl rfl (Oe rfl rfl rfl (Oa rfl rfl (Oa rfl rfl (O_end [7] (F' := [(7, _)]) rfl (Sr (Om rfl rfl (Oa rfl rfl (Oa rfl rfl (O_end [4, 5] (F' := [(4, _), (5, _)]) rfl (W_ret ?_)))))))))))
    refine ret2 rfl rfl rfl ?_
    rw [if_pos he, he]
    exact ⟨rfl, c11.trans c24⟩
  · refine Sr (Om rfl rfl ?_)
    refine Og (vl_innil in106 rfl i11.notNil) rfl ?_
    refine O_end [0, 1, 6, 13] (F' := [(0, _), (1, _), (6, _), (13, _)]) rfl (W_cond_true rfl (Sr (Om rfl rfl ?_)))
    refine O_go (gn rfl) (st_call bd46 rfl rfl rfl rfl (e_numT _ _ _ (hE.chg0 c11) (.inr i11)) ?_)
    rintro v15 w15 ⟨rfl, c15⟩
    refine Oa rfl rfl (Oa rfl rfl (O_end [4, 5] (F' := [(4, _), (5, _)]) rfl (W_ret ?_)))
    repeat (first | refine then_ret ?_ | refine block_ret ?_)
    refine ret2 rfl rfl rfl ?_
    rw [if_neg he]
    exact ⟨rfl, c11.trans c15⟩
theorem t_Len (w : World) (h : TabMem w t pm c k u sv xs s main subs) (ht : Tells s rows main subs) :
    Ret Tryz.prog 15 #[.pointer (some ⟨t, 0, none⟩)] w fun r w' => r = .int .i64 rows.length ∧ w' = w := by
  refine Ret.of_W (args := [_]) Tryz.func15 rfl rfl rfl rfl ?_

  refine Sr (Oa rfl rfl (O_end [0] (F' := [(0, _)]) rfl (W_seq (Sr (Om rfl rfl ?_)))))
  refine Og (vl_pnil pt31 rfl rfl) rfl ?_
  refine O_end [0, 4] (F' := [(0, _), (4, _)]) rfl (W_cond_false rfl (W_skipE (Sr (Om rfl rfl (Og (vl_nilCheck rfl) rfl (Og (vl_fieldAddr fo98_0 rfl) rfl ?_))))))
  refine Og (vl_load ag94 rfl (h.blk.cell' rfl)) rfl ?_
  refine O_go (gn rfl) (st_call bd53 rfl rfl rfl rfl (f13 pm main _ h.pg ht.wf.le (by have := ht.le; omega)) ?_)
  rintro v9 w9 ⟨rfl, rfl⟩
  refine Oa rfl rfl (O_end [2] (F' := [(2, _)]) rfl (W_ret ?_))
  refine ret1 rfl rfl ?_
  rw [ht.flat, List.length_map]
  exact ⟨rfl, rfl⟩
end
end Go.Wk

namespace Go.Wk
open Go.Proofs
set_option maxRecDepth 10000

section
variable {t pm : Nat} {c k u sv : Value} {xs : List (Value × Nat)} {s : Sch} {main : List (List Ent)} {subs : List (List (List Ent))} {rows : List (List Val)}
set_option maxHeartbeats 400000 in
theorem t_leaves (key : ByteArray) (row : List Val) (w : World) (h : TabMem w t pm c k u sv xs s main subs) (ht : Tells s rows main subs) (hr : getR s rows key = some row) :
    Ret Tryz.prog 51 #[.pointer (some ⟨t, 0, none⟩), .string key] w fun o w' => IsValsS w' o row ∧ (∀ b ∈ blkOf o, w.heap.size ≤ b) ∧ TabMem w' t pm c k u sv xs s (pTake main (keyR s row)) (leaveS row (setsN s) subs) ∧ Chg (pm :: xs.map (·.2)) w w' := by
  obtain ⟨l1, l2⟩ := h.lens
  obtain ⟨psv, csv, rfl, hcsv⟩ := ArrS.val h.sl
  have hn3 := (right_parts ht.ok.right).2.1
  have hn4 : (setsN s).length ≤ 4 := by simp [setsN]; omega
  obtain ⟨hmr, hkr⟩ := get_some hr
  have hf := ht.ok.fit row hmr
  have hg := ht.ok.rng row hmr
  obtain ⟨hrs, hlen, hfit⟩ := rowN_ok hf
  have h8 := (right_parts hrs).1
  refine Ret.of_W (args := [_, _]) Tryz.func51 rfl rfl rfl rfl ?_

  refine Sr (Oa rfl rfl (O_end [0, 1] (F' := [(0, _), (1, _)]) rfl (Sr (Om rfl rfl (Om rfl rfl ?_)))))
  refine O_go (gn rfl) (st_call bd23 rfl rfl rfl rfl (t_Get key w h ht) ?_)
  rintro v14 w14 ⟨o, rfl, io, fo, c14⟩
  refine Om rfl rfl (Oe rfl rfl rfl (Oe rfl rfl rfl (Oa rfl rfl (Oa rfl rfl (O_end [0, 1, 5] (F' := [(0, _), (1, _), (5, _)]) rfl ?_)))))
  rw [hr] at io
  have io : IsValsS w14 o row := io
  have h1 := h.chg0 c14
  refine Sr (Om rfl rfl (Og (vl_nilCheck rfl) rfl (Og (vl_fieldAddr fo98_0 rfl) rfl ?_)))
  refine Og (vl_load ag94 rfl (h1.blk.cell' rfl)) rfl ?_
  refine Om rfl rfl ?_
  refine O_go (gn rfl) (st_call bd83 rfl rfl rfl rfl (f11 pm main key _ h1.pg ht.wf (by have := ht.le; omega)) ?_)
  rintro v22 w22 ⟨rfl, p22, c22⟩
  refine O_end [0, 5] (F' := [(0, _), (5, _)]) rfl ?_
  rw [← hkr] at p22
  have h2 := h1.putM c22 p22
  have hc2 : Chg (pm :: xs.map (·.2)) w w22 := ((Chg.refl _ w).trans c14).trans' c22 (fun y hy => .inl (by simp at hy; simp [hy]))
  have io2 : IsValsS w22 o row := by
    obtain ⟨vb, hb, _⟩ := h1.pg
    exact ArrS.chg io c22 (IsSl.apart io hb rfl)
  refine W_seq (Sr (Om rfl rfl (Og (vl_nilCheck rfl) rfl (Og (vl_fieldAddr fo98_2 rfl) rfl ?_))))
  refine Og (vl_load ag96 rfl (h2.blk.cell' rfl)) rfl ?_
  refine Og (vl_len sl96 rfl) rfl (Om rfl rfl (O_end [5, 26, 27, 28] (F' := [(5, _), (26, _), (27, _), (28, _)]) rfl (W_block ?_)))
  refine W_loop [5, 26, 27, 28] (fun m F wx => ∃ (j : Nat), m = xs.length - j ∧ j ≤ xs.length ∧ F = [(5, o), (26, .slice psv xs.length csv), (27, .int .i64 xs.length), (28, .int .i64 j)] ∧ TabMem wx t pm c k u (.slice psv xs.length csv) xs s (pTake main (keyR s row)) (stepJ (leaveF row) (setsN s) subs j) ∧ IsValsS wx o row ∧ Chg (pm :: xs.map (·.2)) w wx) (m := xs.length - 0) ⟨0, rfl, Nat.zero_le _, rfl, by rw [stepJ_zero]; exact h2, io2, hc2⟩ ?_
  rintro m F wx ⟨j, rfl, hj, rfl, hx, hvx, hcx⟩
  refine Sr (Og (vl_lss rfl rfl) rfl (O_end [5, 26, 27, 28, 29] (F' := [(5, _), (26, _), (27, _), (28, _), (29, _)]) rfl (W_seq ?_)))
  refine W_cond rfl (fun hT => ?_) (fun hF => ?_)
  · refine W_skipE ?_
    have hlt : j < xs.length := by have := of_decide_eq_true hT; omega
    obtain ⟨a, q, st, m, b, off, cap, e1, e2, e3, ha, hq, hsv, hcell, hqm⟩ := hx.at (j := j) (by omega)
    cases hsv
    have hst : st ∈ setsN s := List.mem_of_getElem? e2
    have e3' : subs[j]? = some (subs[j]'(by omega)) := by simp [show j < subs.length by omega]
    generalize subs[j]'(by omega) = m' at e3'
    have hmm : m = m' := by
      have := stepJ_at (f := leaveF row) e2 e3'
      rw [e3] at this
      cases this; rfl
    subst hmm
    have hsub := SubsOk.st ht.subs e2 e3'
    refine W_seq (W_block (Sr ?_))
    refine Og (vl_indexAddr sl96 sz103 rfl rfl _ rfl hlt) rfl ?_
    refine Og (vl_loadAgg ag103 sz103 rfl rfl hcell) rfl ?_
    refine O_go (gn rfl) (st_alloc zr103 rfl rfl ?_)
    intro b8 w8 e8 n8 c8 k8
    refine O_go (gn rfl) (st_store sz103 rfl rfl rfl rfl k8 (by simp) (by intro u hu; simp at hu; rcases hu with rfl | rfl; exact Arr.one1 ha; rfl) ?_)
    intro wA nA cA kA
    refine O_end [5, 8, 26, 27, 28] (F' := [(5, _), (8, _), (26, _), (27, _), (28, _)]) rfl ?_
    have kA : Blk wA b8 103 [a, .pointer (some ⟨q, 0, none⟩)] := kA
    have hcA : Chg [] wx wA := c8.own cA (by intro y hy; simp at hy; omega)
    refine Sr ?_
    refine Og (vl_loadAgg ag103 sz103 rfl rfl (Cells.of_blk0 kA)) rfl ?_
    refine Om rfl rfl ?_
    refine O_go (gn rfl) (st_call bd62 rfl rfl rfl rfl (set_of hf hg hst (Arr.chg0 ha hcA) (Arr.chg0 hvx.arr hcA)) ?_)
    rintro v35 w35 ⟨rfl, c35⟩
    refine Om rfl rfl (Oe rfl rfl rfl (Oe rfl rfl rfl (Oa rfl rfl (Oa rfl rfl (O_end [5, 8, 9, 10, 26, 27, 28] (F' := [(5, _), (8, _), (9, _), (10, _), (26, _), (27, _), (28, _)]) rfl ?_)))))
    have hcB : Chg [] wx w35 := hcA.trans c35
    refine Sr (Om rfl rfl (O_end [5, 8, 9, 26, 27, 28, 38] (F' := [(5, _), (8, _), (9, _), (26, _), (27, _), (28, _), (38, _)]) rfl ?_))
    cases hnn : nnS (pickN row st) with
    | false =>
      refine W_cond_false rfl (W_skip (block_normal (W_region ?_)))
      refine Og (vl_add rfl rfl (by omega)) rfl ?_
      refine Om rfl rfl ?_
      refine O_endN [5, 26, 27, 28] (F' := [(5, _), (26, _), (27, _), (28, _)]) rfl ?_
      refine ⟨xs.length - (j + 1), by omega, j + 1, rfl, by omega, rfl, ?_, ArrS.chg0 hvx hcB, hcx.trans hcB⟩
      rw [stepJ_same e2 e3' (by unfold leaveF; rw [hnn]; rfl)]
      exact hx.chg0 hcB
    | true =>
      refine W_cond_true rfl (W_region (Og (vl_fieldAddr fo103_1 rfl) rfl ?_))
      refine Og (vl_load ag94 rfl ((kA.chg0 c35).cell' rfl)) rfl ?_
      refine Om rfl rfl ?_
      refine O_go (gn rfl) (st_call bd83 rfl rfl rfl rfl (f11 q m (keyS (pickN row st)) _ (hq.chg0 hcB) hsub.wf (by have := hsub.le ht.ok; omega)) ?_)
      rintro v42 w42 ⟨rfl, p42, c42⟩
      refine O_endN [5, 26, 27, 28] (F' := [(5, _), (26, _), (27, _), (28, _)]) rfl ?_
      refine block_normal (W_region ?_)
      refine Og (vl_add rfl rfl (by omega)) rfl ?_
      refine Om rfl rfl ?_
      refine O_endN [5, 26, 27, 28] (F' := [(5, _), (26, _), (27, _), (28, _)]) rfl ?_
      refine ⟨xs.length - (j + 1), by omega, j + 1, rfl, by omega, rfl, ?_, ?_, (hcx.trans hcB).trans' c42 (fun y hy => .inl (by simp at hy; subst hy; exact List.mem_cons_of_mem _ hqm))⟩
      · rw [stepJ_succ e2 e3', show leaveF row st m = pTake m (keyS (pickN row st)) by unfold leaveF; rw [hnn]; rfl]
        exact (hx.chg0 hcB).putS e1 e3 c42 p42
      · obtain ⟨vb, hb, _⟩ := hq.chg0 hcB
        exact ArrS.chg (ArrS.chg0 hvx hcB) c42 (IsSl.apart (ArrS.chg0 hvx hcB) hb rfl)
  · refine W_exit ?_
    repeat (first | refine then_exit ?_ | refine blockF_other rfl ?_)
    refine blockF_exit _ ?_
    have he : xs.length ≤ j := by have := of_decide_eq_false hF; omega
    refine Sr (Om rfl rfl (Oa rfl rfl (O_end [4] (F' := [(4, _)]) rfl (W_ret ?_))))
    refine ret1 rfl rfl ?_
    rw [leaveS_zip, ← stepJ_all (j := j) (by omega) (by omega)]
    exact ⟨hvx, fo, hx, hcx⟩
end
/-! ### whole tables -/
/-- After a turn of its own pages a table's memory still holds what a slice of rows holds. -/
theorem Tab_own {w w' : World} {own : List Nat} {e k n : Nat} {v : Value} {xs : List Value} (h : IsSl w e k v n xs) (hp : ∀ p ∈ own, ∃ p' n c', Blk w p 147 [.slice p' n c']) (hne : Nat.beq e 147 = false) (hc : Chg own w w') : IsSl w' e k v n xs :=
  IsSl.chg h hc fun b hb hm => by
    obtain ⟨_, _, _, hx⟩ := hp b hm
    exact h.apart hx hne b hb (by simp)
theorem Nl.own {w : World} {own : List Nat} (hp : ∀ p ∈ own, ∃ p' n c', Blk w p 147 [.slice p' n c']) : Nl w own := fun b hb => by
  obtain ⟨p', n, c', hx⟩ := hp b hb
  exact Nl.one hx (by intro y hy; simp at hy; subst hy; rfl) b (by simp)
theorem Nt.own {w : World} {own : List Nat} {E : Nat} (hp : ∀ p ∈ own, ∃ p' n c', Blk w p 147 [.slice p' n c']) (hE : okT E 147 = false) : Nt w E own := fun b hb => by
  obtain ⟨p', n, c', hx⟩ := hp b hb
  exact Nt.one hx hE b (by simp)
theorem IsVals.own {w w' : World} {own : List Nat} {v : Value} {l : List Val} (h : IsVals w v l) (hp : ∀ p ∈ own, ∃ p' n c', Blk w p 147 [.slice p' n c']) (hc : Chg own w w') : IsVals w' v l := Arr.chgC h hc cs_lit (Nl.own hp)
theorem Pg.sl {w : World} {p : Nat} {ls : List (List Ent)} (h : Pg w p ls) : ∃ p' n c', Blk w p 147 [.slice p' n c'] := by
  obtain ⟨v, hb, us, hs, _⟩ := h
  obtain ⟨p', c', rfl, _⟩ := hs.val
  exact ⟨_, _, _, hb⟩
theorem IsTab.pages {w : World} {t : Nat} {own : List Nat} {s : Sch} {rows : List (List Val)} (h : IsTab w t own s rows) : ∀ p ∈ own, ∃ p' n c', Blk w p 147 [.slice p' n c'] := by
  obtain ⟨pm, c, k, u, sv, xs, main, subs, rfl, h2, h3⟩ := h
  have hL : ∀ {ps : List Nat} {ms : List (List (List Ent))}, PgL w ps ms → ∀ p ∈ ps, ∃ p' n c', Blk w p 147 [.slice p' n c'] := by
    intro ps
    induction ps with
    | nil => intro _ _ p hp; cases hp
    | cons q ps ih =>
      intro ms hm p hp
      cases ms with
      | nil => exact hm.elim
      | cons m ms =>
        rcases List.mem_cons.1 hp with rfl | hp
        · exact hm.1.sl
        · exact ih hm.2 p hp
  intro p hp
  rcases List.mem_cons.1 hp with rfl | hp
  · exact h2.pg.sl
  · exact hL h2.pgs p hp
theorem EOk.tab {w w' : World} {t : Nat} {own : List Nat} {s : Sch} {rows : List (List Val)} (hE : EOk w) (h : IsTab w t own s rows) (hc : Chg own w w') : EOk w' :=
  hE.chg hc fun hm => by
    obtain ⟨_, _, _, hx⟩ := h.pages 0 hm
    refine hE.ne hx ?_ rfl
    simp [rty]
end Go.Wk

namespace Go.Wk
open Go.Proofs
set_option maxRecDepth 10000

theorem ClashK.nil_iff {s : Sch} {rows : List (List Val)} {row : List Val} {es : List (ByteArray × Value)} (h : ClashK s rows row (setsN s) es) : es = [] ↔ goneR s rows row = [] := by
  constructor
  · rintro rfl
    cases hg : goneR s rows row with
    | nil => rfl
    | cons r l =>
      have := (h.gone (keyR s r)).2 (by rw [hg]; simp)
      simp [ksOf] at this
  · intro hg
    cases es with
    | nil => rfl
    | cons p l =>
      have := (h.gone p.1).1 (by simp [ksOf])
      rw [hg] at this
      simp at this
theorem gone_nil {s : Sch} {rows : List (List Val)} {row : List Val} : goneR s rows row = [] ↔ (rows.any fun r => clashR s r row) = false := by
  simp [goneR]
theorem t_insert (t : Nat) (own : List Nat) (s : Sch) (rows : List (List Val)) (v : Value) (row : List Val) (w : World) (hE : EOk w) (h : IsTab w t own s rows) (hl : IsVals w v row) (hg : ∀ x ∈ row, x.Rng) (hn : row.length ≤ 1048576) :
    Ret Tryz.prog 47 #[.pointer (some ⟨t, 0, none⟩), v] w fun r w' => ErrOf w' r (insE s rows row) ∧ IsTab w' t own s (insR s rows row) ∧ Chg own w w' := by
  have hT := h
  obtain ⟨pm, c, k, u, sv, xs, main, subs, rfl, hm, ht⟩ := h
  refine Ret.of_W (args := [_, _]) Tryz.func47 rfl rfl rfl rfl ?_

  refine Sr (Oa rfl rfl (O_end [0, 1] (F' := [(0, _), (1, _)]) rfl (W_seq (Sr (Om rfl rfl (Om rfl rfl ?_))))))
  refine O_go (gn rfl) (st_call bd48 rfl rfl rfl rfl (t_fits v row w hE hm ht.ok.right hl hg hn) ?_)
  rintro v9 w9 ⟨i9, c9⟩
  refine Oa rfl rfl (O_end [0, 1, 5] (F' := [(0, _), (1, _), (5, _)]) rfl ?_)
  have hm1 := hm.chg0 c9
  have hl1 := Arr.chg0 hl c9
  rcases i9 with ⟨rfl, he⟩ | ⟨i9, he⟩
  · refine Sr (Om rfl rfl ?_)
    refine Og (vl_innil in106 rfl rfl) rfl ?_
    refine O_end [0, 1, 5, 11] (F' := [(0, _), (1, _), (5, _), (11, _)]) rfl (W_cond_false rfl (W_skipE (W_seq (Sr (Om rfl rfl (Om rfl rfl ?_))))))
    refine O_go (gn rfl) (st_call bd50 rfl rfl rfl rfl (t_clashing v row _ hm1 ht he hl1 hg) ?_)
    rintro v15 w15 ⟨bm, es, rfl, hbm, kes, _, hck, c15⟩
    refine O_go (gn rfl) (st_rangeK mp110 rfl kes rfl ?_)
    intro b16 w16 e16 n16 c16 k16
    refine O_end [0, 1, 16] (F' := [(0, _), (1, _), (16, _)]) rfl ?_
    have hcA := (c9.trans c15).trans c16
    refine W_block ?_
    refine W_loop [0, 1, 16] (fun m F wx => m = 0 ∧ F = [(0, .pointer (some ⟨t, 0, none⟩)), (1, v), (16, .pointer (some ⟨b16, 0, none⟩))] ∧ wx = w16) (m := 0) ⟨rfl, rfl, rfl⟩ ?_
    rintro m F wx ⟨rfl, rfl, rfl⟩
    cases hes : es with
    | nil =>
      have hgn := hck.nil_iff.1 hes
      refine Sr ?_
      refine O_go (gn rfl) (st_nextK rfl k16 rfl (fun _ => ?_) (fun p l1 l2 w' h => absurd (hes.symm.trans h) (by simp)))
      skip
      refine Oe rfl rfl rfl (O_end [0, 1, 16, 18] (F' := [(0, _), (1, _), (16, _), (18, _)]) rfl (W_seq (W_cond_false rfl ?_)))
      refine W_exit ?_
      repeat (first | refine then_exit ?_ | refine blockF_other rfl ?_)
      refine blockF_exit _ ?_
      refine W_seq (W_seq ?_)
      have hm2 := hm.chg0 hcA
      have hany := gone_nil.1 hgn
      have htk : takenR s rows row e0 = false := by rw [taken_e0 ht.ok]; exact hany
      have eI : insE s rows row = if 400 ≤ rows.length then 3 else 0 := by
        unfold insE
        rw [if_neg (by simp [he]), htk]
        rfl
      rcases Nat.lt_or_ge rows.length 400 with hlt | hge
      · rw [if_neg (by omega)] at eI
        refine W_region (Om rfl rfl ?_)
        refine O_go (gn rfl) (st_call bd15 rfl rfl rfl rfl (t_Len _ hm2 ht) ?_)
        rintro v26 w26 ⟨rfl, rfl⟩
        refine Og (vl_is (b' := false) (vl_geq rfl rfl) (decide_eq_false (by omega))) rfl ?_
        refine O_end [0, 1, 27] (F' := [(0, _), (1, _), (27, _)]) rfl (W_cond_false rfl (W_skipE (Sr (Om rfl rfl (Om rfl rfl ?_)))))
        refine O_go (gn rfl) (st_call bd52 rfl rfl rfl rfl (t_come v row _ (hE.chg0 hcA) hm2 ht he (Arr.chg0 hl hcA) hg) ?_)
        rintro v33 w33 ⟨m33, c33⟩
        refine O_end [] (F' := []) rfl (Sr (Oa rfl rfl (O_end [4] (F' := [(4, _)]) rfl (W_ret ?_))))
        refine ret1 rfl rfl ?_
        have hfree : ∀ r ∈ rows, clashR s r row = false := fun r hr => by simpa using List.any_eq_false.1 hany r hr
        unfold insR
        rw [eI, if_pos rfl]
        exact ⟨.inl ⟨rfl, rfl⟩, ⟨pm, c, k, u, sv, xs, _, _, rfl, m33, ht.come he hg hfree hlt⟩, hcA.any.transS c33⟩
      · rw [if_pos hge] at eI
        refine W_region (Om rfl rfl ?_)
        refine O_go (gn rfl) (st_call bd15 rfl rfl rfl rfl (t_Len _ hm2 ht) ?_)
        rintro v26 w26 ⟨rfl, rfl⟩
        refine Og (vl_is (b' := true) (vl_geq rfl rfl) (decide_eq_true (by omega))) rfl ?_
        refine O_end [0, 1, 27] (F' := [(0, _), (1, _), (27, _)]) rfl (W_cond_true rfl (Sr ?_))
        refine Og (vl_mkif ni32 rfl) rfl ?_
        refine Og (vl_build pl141 zr141 rfl (vs := [_, _]) rfl (css := [_, _]) ⟨rfl, rfl, trivial⟩ rfl rfl (cs := [_, _]) rfl) rfl ?_
        refine Og (vl_mkif ni141 rfl) rfl ?_
        refine Oa rfl rfl (O_end [4] (F' := [(4, _)]) rfl (W_ret ?_))
        repeat (first | refine then_ret ?_ | refine block_ret ?_)
        refine ret1 rfl rfl ?_
        unfold insR
        rw [eI, if_neg (by decide)]
        exact ⟨.inr ⟨.inr (.inr ⟨_, rfl⟩), by decide⟩, hT.chg0 hcA, hcA.any⟩
    | cons p l =>
      have hgn : goneR s rows row ≠ [] := fun e => by rw [hck.nil_iff.2 e] at hes; cases hes
      refine Sr ?_
      refine O_go (gn rfl) (st_nextK rfl k16 rfl (fun h => absurd (hes.symm.trans h) (by simp)) ?_)
      intro p l1 l2 w17 e17 n17 c17 k17
      refine Oe rfl rfl rfl (O_end [0, 1, 16, 18] (F' := [(0, _), (1, _), (16, _), (18, _)]) rfl (W_seq (W_cond_true rfl (W_skipE (W_block (Sr ?_))))))
      refine Og (vl_entryK rfl k17) rfl ?_
      refine Oe rfl rfl rfl (Oa rfl rfl (O_end [6] (F' := [(6, _)]) rfl (Sr (Om rfl rfl ?_))))
      refine Og (vl_mkif ni32 rfl) rfl ?_
      refine Og (vl_build pl141 zr141 rfl (vs := [_, _]) rfl (css := [_, _]) ⟨rfl, rfl, trivial⟩ rfl rfl (cs := [_, _]) rfl) rfl ?_
      refine Og (vl_mkif ni141 rfl) rfl ?_
      refine Oa rfl rfl (O_end [4] (F' := [(4, _)]) rfl (W_ret ?_))
      repeat (first | refine then_ret ?_ | refine block_ret ?_)
      refine ret1 rfl rfl ?_
      have hany : (rows.any fun r => clashR s r row) = true := by
        cases ha : rows.any fun r => clashR s r row with
        | true => rfl
        | false => exact absurd (gone_nil.2 ha) hgn
      have eI : insE s rows row = 220 := by
        unfold insE
        rw [if_neg (by simp [he]), if_pos (by rw [taken_e0 ht.ok]; exact hany)]
      have hcB : Chg [] w w17 := hcA.own c17 (by intro y hy; simp at hy; subst hy; have := (c9.trans c15).size; omega)
      unfold insR
      rw [eI, if_neg (by decide)]
      exact ⟨.inr ⟨.inr (.inr ⟨_, rfl⟩), by decide⟩, hT.chg0 hcB, hcB.any⟩
  · refine Sr (Om rfl rfl ?_)
    refine Og (vl_innil in106 rfl i9.notNil) rfl ?_
    refine O_end [0, 1, 5, 11] (F' := [(0, _), (1, _), (5, _), (11, _)]) rfl (W_cond_true rfl (Sr (Om rfl rfl (Oa rfl rfl (O_end [4] (F' := [(4, _)]) rfl (W_ret ?_))))))
    repeat (first | refine then_ret ?_ | refine block_ret ?_)
    refine ret1 rfl rfl ?_
    have e : insE s rows row = rowN s row := by unfold insE; rw [if_pos he]
    unfold insR
    rw [e, if_neg he]
    exact ⟨.inr ⟨i9, he⟩, hT.chg0 c9, c9.any⟩
theorem t_Insert (t : Nat) (own : List Nat) (s : Sch) (rows : List (List Val)) (v : Value) (row : List Val) (w : World) (hE : EOk w) (h : IsTab w t own s rows) (hl : IsVals w v row) (hg : ∀ x ∈ row, x.Rng) (hn : row.length ≤ 1048576) :
    Ret Tryz.prog 12 #[.pointer (some ⟨t, 0, none⟩), v] w fun r w' => r = .int .i64 (insE s rows row) ∧ IsTab w' t own s (insR s rows row) ∧ Chg own w w' := by
  refine Ret.of_W (args := [_, _]) Tryz.func12 rfl rfl rfl rfl ?_

  refine Sr (Oa rfl rfl (O_end [0, 1] (F' := [(0, _), (1, _)]) rfl (Sr (Om rfl rfl (Om rfl rfl ?_)))))
  refine O_go (gn rfl) (st_call bd47 rfl rfl rfl rfl (t_insert t own s rows v row w hE h hl hg hn) ?_)
  rintro v7 w7 ⟨i7, t7, c7⟩
  refine O_go (gn rfl) (st_call bd46 rfl rfl rfl rfl (e_numT _ _ _ (hE.tab h c7) i7.weak) ?_)
  rintro v8 w8 ⟨rfl, c8⟩
  refine Oa rfl rfl (O_end [4] (F' := [(4, _)]) rfl (W_ret ?_))
  refine ret1 rfl rfl ?_
  exact ⟨rfl, t7.chg0 c8, c7.trans c8⟩
/-- Did it come? -/
def ignB (s : Sch) (rows : List (List Val)) (row : List Val) : Bool := decide (insE s rows row = 0)
def ignE (s : Sch) (rows : List (List Val)) (row : List Val) : Int := if insE s rows row = 220 then 0 else insE s rows row
theorem t_Ignore (t : Nat) (own : List Nat) (s : Sch) (rows : List (List Val)) (v : Value) (row : List Val) (w : World) (hE : EOk w) (h : IsTab w t own s rows) (hl : IsVals w v row) (hg : ∀ x ∈ row, x.Rng) (hn : row.length ≤ 1048576) :
    Ret Tryz.prog 38 #[.pointer (some ⟨t, 0, none⟩), v] w fun r w' => r = .tuple #[.bool (ignB s rows row), .int .i64 (ignE s rows row)] ∧ IsTab w' t own s (insR s rows row) ∧ Chg own w w' := by
  refine Ret.of_W (args := [_, _]) Tryz.func38 rfl rfl rfl rfl ?_

  refine Sr (Oa rfl rfl (Oa rfl rfl (O_end [0, 1] (F' := [(0, _), (1, _)]) rfl (Sr (Om rfl rfl (Om rfl rfl ?_))))))
  refine O_go (gn rfl) (st_call bd47 rfl rfl rfl rfl (t_insert t own s rows v row w hE h hl hg hn) ?_)
  rintro v9 w9 ⟨i9, t9, c9⟩
  refine Oa rfl rfl (O_end [6] (F' := [(6, _)]) rfl ?_)
  have hE9 := hE.tab h c9
  unfold ignB ignE
  refine W_seq (W_seq ?_)
  rcases i9 with ⟨rfl, he⟩ | ⟨i9, he⟩
  · refine W_region (Om rfl rfl ?_)
    refine Og (vl_mkif ni32 rfl) rfl ?_
    refine O_go (gn rfl) (st_call bd74 rfl rfl rfl rfl (e_Is0 220 _) ?_)
    rintro v12 w12 ⟨rfl, rfl⟩
    refine O_end [6, 12] (F' := [(6, _), (12, _)]) rfl (W_cond_false rfl (W_skipE (W_seq ?_)))
    refine W_draw (fun wz => Chg [] w12 wz) mix (by kernel_rfl) (Chg.drew _ _) ?_
    refine Tm rfl rfl ?_
    refine t_pure rfl (gn rfl) (fun _ => vl_inil in106 rfl rfl) rfl rfl ?_
    refine Tm rfl rfl ?_
    refine t_st rfl (gn rfl) (st_call bd46 rfl rfl rfl rfl (e_numT _ _ _ (hE9.chg0 (Chg.drew _ _)) (.inl ⟨rfl, rfl⟩)) ?_)
    rintro v16 w16 ⟨rfl, c16⟩
    refine ⟨.inl ((Chg.drew _ _).trans c16), ?_⟩
    refine Ta rfl rfl (Ta rfl rfl ?_)
    refine T_end [4, 5] (F' := [(4, _), (5, _)]) rfl ?_
    refine W_ret ?_
    refine ret2 rfl rfl rfl ?_
    rw [he]
    exact ⟨rfl, (t9.chg0 (Chg.drew _ _)).chg0 c16, (c9.trans (Chg.drew _ _)).trans c16⟩
  · by_cases h2 : insE s rows row = 220
    · refine W_region (Om rfl rfl ?_)
      refine Og (vl_mkif ni32 rfl) rfl ?_
      refine O_go (gn rfl) (st_call bd74 rfl rfl rfl rfl (e_Is _ _ 220 _ i9) ?_)
      rintro v12 w12 ⟨rfl, c12⟩
      refine O_end [6, 12] (F' := [(6, _), (12, _)]) rfl ?_
      rw [decide_eq_true h2]
      refine W_cond_true rfl (Sr (Oa rfl rfl (Oa rfl rfl (O_end [4, 5] (F' := [(4, _), (5, _)]) rfl (W_ret ?_)))))
      repeat (first | refine then_ret ?_ | refine block_ret ?_)
      refine ret2 rfl rfl rfl ?_
      rw [if_pos h2, h2]
      exact ⟨rfl, t9.chg0 c12, c9.trans c12⟩
    · refine W_region (Om rfl rfl ?_)
      refine Og (vl_mkif ni32 rfl) rfl ?_
      refine O_go (gn rfl) (st_call bd74 rfl rfl rfl rfl (e_Is _ _ 220 _ i9) ?_)
      rintro v12 w12 ⟨rfl, c12⟩
      refine O_end [6, 12] (F' := [(6, _), (12, _)]) rfl ?_
      rw [decide_eq_false h2]
      refine W_cond_false rfl (W_skipE (W_seq ?_))
      refine W_draw (fun wz => Chg [] w12 wz) mix (by kernel_rfl) (Chg.drew _ _) ?_
      refine Tm rfl rfl ?_
      refine t_pure rfl (gn rfl) (fun _ => vl_inil in106 rfl i9.notNil) rfl rfl ?_
      refine Tm rfl rfl ?_
      refine t_st rfl (gn rfl) (st_call bd46 rfl rfl rfl rfl (e_numT _ _ _ ((hE9.chg0 c12).chg0 (Chg.drew _ _)) (.inr ((i9.chg0 c12).chg0 (Chg.drew _ _)))) ?_)
      rintro v16 w16 ⟨rfl, c16⟩
      refine ⟨.inl ((Chg.drew _ _).trans c16), ?_⟩
      refine Ta rfl rfl (Ta rfl rfl ?_)
      refine T_end [4, 5] (F' := [(4, _), (5, _)]) rfl ?_
      refine W_ret ?_
      refine ret2 rfl rfl rfl ?_
      rw [if_neg h2, decide_eq_false he]
      exact ⟨rfl, ((t9.chg0 c12).chg0 (Chg.drew _ _)).chg0 c16, ((c9.trans c12).trans (Chg.drew _ _)).trans c16⟩
end Go.Wk

namespace Go.Wk
open Go.Proofs
set_option maxRecDepth 10000

theorem less_none {s : Sch} {rows : List (List Val)} {k : ByteArray} (h : getR s rows k = none) : lessR s rows k = rows := by
  unfold lessR
  exact List.filter_eq_self.2 fun r hr => by simpa using get_none h r hr
theorem t_Delete0 (key : ByteArray) (w : World) : Ret Tryz.prog 40 #[.pointer none, .string key] w fun r w' => r = .tuple #[.slice none 0 0, .int .i64 1] ∧ w' = w := by
  refine Ret.of_W (args := [_, _]) Tryz.func40 rfl rfl rfl rfl ?_

  refine Sr (Oa rfl rfl (Oa rfl rfl (O_end [0, 1] (F' := [(0, _), (1, _)]) rfl (W_seq (Sr (Om rfl rfl ?_))))))
  refine Og (vl_pnil pt31 rfl rfl) rfl ?_
  refine O_end [0, 1, 9] (F' := [(0, _), (1, _), (9, _)]) rfl (W_cond_true rfl (Sr (Oa rfl rfl (Oa rfl rfl (O_end [4, 5] (F' := [(4, _), (5, _)]) rfl (W_ret ?_))))))
  repeat (first | refine then_ret ?_ | refine block_ret ?_)
  refine ret2 rfl rfl rfl ?_
  exact ⟨rfl, rfl⟩
theorem t_Delete (t : Nat) (own : List Nat) (s : Sch) (rows : List (List Val)) (key : ByteArray) (w : World) (h : IsTab w t own s rows) :
    Ret Tryz.prog 40 #[.pointer (some ⟨t, 0, none⟩), .string key] w fun r w' => ∃ o, r = .tuple #[o, .int .i64 (delE s rows key)] ∧ IsVals w' o ((getR s rows key).getD []) ∧ (∀ b ∈ blkOf o, w.heap.size ≤ b) ∧ IsTab w' t own s (lessR s rows key) ∧ Chg own w w' := by
  have hT := h
  obtain ⟨pm, c, k, u, sv, xs, main, subs, rfl, hm, ht⟩ := h
  refine Ret.of_W (args := [_, _]) Tryz.func40 rfl rfl rfl rfl ?_

  refine Sr (Oa rfl rfl (Oa rfl rfl (O_end [0, 1] (F' := [(0, _), (1, _)]) rfl (W_seq (Sr (Om rfl rfl ?_))))))
  refine Og (vl_pnil pt31 rfl rfl) rfl ?_
  refine O_end [0, 1, 9] (F' := [(0, _), (1, _), (9, _)]) rfl (W_cond_false rfl (W_skipE (W_seq (Sr (Om rfl rfl (Om rfl rfl ?_))))))
  refine O_go (gn rfl) (st_call bd23 rfl rfl rfl rfl (t_Get key w hm ht) ?_)
  rintro v13 w13 ⟨o13, rfl, i13, f13', c13⟩
  refine Om rfl rfl (Oe rfl rfl rfl (Oe rfl rfl rfl (Oa rfl rfl (Oa rfl rfl (O_end [0, 1, 7] (F' := [(0, _), (1, _), (7, _)]) rfl ?_)))))
  unfold delE
  cases hgr : getR s rows key with
  | none =>
    refine Sr (Om rfl rfl (Og (vl_not rfl) rfl (O_end [0, 1, 17] (F' := [(0, _), (1, _), (17, _)]) rfl (W_cond_true rfl (Sr (Oa rfl rfl (Oa rfl rfl (O_end [4, 5] (F' := [(4, _), (5, _)]) rfl (W_ret ?_)))))))))
    repeat (first | refine then_ret ?_ | refine block_ret ?_)
    refine ret2 rfl rfl rfl ?_
    rw [less_none hgr]
    exact ⟨_, rfl, Arr.nil _ _ _ _, by simp [blkOf], hT.chg0 c13, c13.any⟩
  | some row =>
    obtain ⟨hr, hk⟩ := get_some hgr
    refine Sr (Om rfl rfl (Og (vl_not rfl) rfl (O_end [0, 1, 17] (F' := [(0, _), (1, _), (17, _)]) rfl (W_cond_false rfl (W_skipE (Sr (Om rfl rfl (Om rfl rfl ?_))))))))
    refine O_go (gn rfl) (st_call bd51 rfl rfl rfl rfl (t_leaves key row _ (hm.chg0 c13) ht hgr) ?_)
    rintro v20 w20 ⟨i20, f20', m20, c20⟩
    refine Oa rfl rfl (Oa rfl rfl (O_end [4, 5] (F' := [(4, _), (5, _)]) rfl (W_ret ?_)))
    refine ret2 rfl rfl rfl ?_
    have hs := c13.size
    have hL := ht.leave hr
    rw [hk] at hL m20
    exact ⟨_, rfl, i20.arr, fun b hb => by have := f20' b hb; omega, ⟨pm, c, k, u, sv, xs, _, _, rfl, m20, hL⟩, c13.any.transS c20⟩
theorem t_Update0 (v : Value) (key : ByteArray) (w : World) (hE : EOk w) : Ret Tryz.prog 39 #[.pointer none, .string key, v] w fun r w' => r = .tuple #[.slice none 0 0, .int .i64 1] ∧ Chg [] w w' := by
  refine Ret.of_W (args := [_, _, _]) Tryz.func39 rfl rfl rfl rfl ?_

  refine Sr (Oa rfl rfl (Oa rfl rfl (O_end [0, 1, 2] (F' := [(0, _), (1, _), (2, _)]) rfl (W_seq (Sr (Om rfl rfl (Om rfl rfl ?_)))))))
  refine O_go (gn rfl) (st_call bd48 rfl rfl rfl rfl (t_fits0 v w) ?_)
  rintro v15 w15 ⟨i15, c15⟩
  obtain ⟨-, h0⟩ | ⟨i15, -⟩ := i15
  · exact absurd h0 (by decide)
  refine Oa rfl rfl (O_end [0, 1, 2, 8] (F' := [(0, _), (1, _), (2, _), (8, _)]) rfl (Sr (Om rfl rfl ?_)))
  refine Og (vl_innil in106 rfl i15.notNil) rfl ?_
  refine O_end [0, 1, 2, 8, 17] (F' := [(0, _), (1, _), (2, _), (8, _), (17, _)]) rfl (W_cond_true rfl (Sr (Om rfl rfl ?_)))
  refine O_go (gn rfl) (st_call bd46 rfl rfl rfl rfl (e_numT _ _ _ (hE.chg0 c15) (.inr i15)) ?_)
  rintro v19 w19 ⟨rfl, c19⟩
  refine Oa rfl rfl (Oa rfl rfl (O_end [6, 7] (F' := [(6, _), (7, _)]) rfl (W_ret ?_)))
  repeat (first | refine then_ret ?_ | refine block_ret ?_)
  refine ret2 rfl rfl rfl ?_
  exact ⟨rfl, c15.trans c19⟩
theorem taken_iff {s : Sch} {rows : List (List Val)} {row : List Val} {key : ByteArray} {es : List (ByteArray × Value)} (h : ClashK s rows row (setsN s) es) : takenR s rows row key = true ↔ ∃ k ∈ ksOf es, k ≠ key := by
  unfold takenR
  rw [List.any_eq_true]
  constructor
  · rintro ⟨r, hr, hc⟩
    simp only [Bool.and_eq_true, decide_eq_true_eq] at hc
    exact ⟨keyR s r, (h.gone _).2 (List.mem_map.2 ⟨r, mem_gone.2 ⟨hr, hc.2⟩, rfl⟩), hc.1⟩
  · rintro ⟨k, hk, hne⟩
    obtain ⟨r, hr, rfl⟩ := List.mem_map.1 ((h.gone k).1 hk)
    obtain ⟨h1, h2⟩ := mem_gone.1 hr
    exact ⟨r, h1, by simp [hne, h2]⟩
set_option maxHeartbeats 400000 in
theorem t_Update (t : Nat) (own : List Nat) (s : Sch) (rows : List (List Val)) (v : Value) (row : List Val) (key : ByteArray) (w : World) (hE : EOk w) (h : IsTab w t own s rows) (hl : IsVals w v row) (hg : ∀ x ∈ row, x.Rng) (hn : row.length ≤ 1048576) :
    Ret Tryz.prog 39 #[.pointer (some ⟨t, 0, none⟩), .string key, v] w fun r w' => ∃ o, r = .tuple #[o, .int .i64 (updE s rows key row)] ∧ IsVals w' o (updW s rows key row) ∧ (∀ b ∈ blkOf o, w.heap.size ≤ b) ∧ IsTab w' t own s (updR s rows key row) ∧ Chg own w w' := by
  have hT := h
  obtain ⟨pm, c, k, u, sv, xs, main, subs, rfl, hm, ht⟩ := h
  refine Ret.of_W (args := [_, _, _]) Tryz.func39 rfl rfl rfl rfl ?_

  refine Sr (Oa rfl rfl (Oa rfl rfl (O_end [0, 1, 2] (F' := [(0, _), (1, _), (2, _)]) rfl (W_seq (Sr (Om rfl rfl (Om rfl rfl ?_)))))))
  refine O_go (gn rfl) (st_call bd48 rfl rfl rfl rfl (t_fits v row w hE hm ht.ok.right hl hg hn) ?_)
  rintro v15 w15 ⟨i15, c15⟩
  refine Oa rfl rfl (O_end [0, 1, 2, 8] (F' := [(0, _), (1, _), (2, _), (8, _)]) rfl ?_)
  rcases i15 with ⟨rfl, he⟩ | ⟨i15, he⟩
  · refine Sr (Om rfl rfl ?_)
    refine Og (vl_innil in106 rfl rfl) rfl ?_
    refine O_end [0, 1, 2, 8, 17] (F' := [(0, _), (1, _), (2, _), (8, _), (17, _)]) rfl (W_cond_false rfl (W_skipE (W_seq (Sr (Om rfl rfl (Om rfl rfl ?_))))))
    refine O_go (gn rfl) (st_call bd23 rfl rfl rfl rfl (t_Get key _ (hm.chg0 c15) ht) ?_)
    rintro v23 w23 ⟨o23, rfl, i23, f23', c23⟩
    refine Om rfl rfl (Oe rfl rfl rfl (Oe rfl rfl rfl (Oa rfl rfl (Oa rfl rfl (O_end [0, 1, 2, 10] (F' := [(0, _), (1, _), (2, _), (10, _)]) rfl ?_)))))
    have hc2 := c15.trans c23
    cases hgr : getR s rows key with
    | none =>
      refine Sr (Om rfl rfl (Og (vl_not rfl) rfl (O_end [0, 1, 2, 27] (F' := [(0, _), (1, _), (2, _), (27, _)]) rfl (W_cond_true rfl (Sr (Om rfl rfl ?_))))))
      refine Og (vl_mkif ni32 rfl) rfl ?_
      refine Og (vl_build pl141 zr141 rfl (vs := [_, _]) rfl (css := [_, _]) ⟨rfl, rfl, trivial⟩ rfl rfl (cs := [_, _]) rfl) rfl ?_
      refine Og (vl_mkif ni141 rfl) rfl ?_
      refine O_go (gn rfl) (st_call bd46 rfl rfl rfl rfl (e_numT _ 5 _ (hE.chg0 hc2) (.inr (.inr (.inr ⟨_, rfl⟩)))) ?_)
      rintro v32 w32 ⟨rfl, c32⟩
      refine Oa rfl rfl (Oa rfl rfl (O_end [6, 7] (F' := [(6, _), (7, _)]) rfl (W_ret ?_)))
      repeat (first | refine then_ret ?_ | refine block_ret ?_)
      refine ret2 rfl rfl rfl ?_
      have eU : updE s rows key row = 5 := by unfold updE; rw [if_neg (by simp [he]), hgr]; rfl
      unfold updW updR
      rw [eU, if_neg (by decide), if_neg (by decide)]
      exact ⟨_, rfl, Arr.nil _ _ _ _, by simp [blkOf], hT.chg0 (hc2.trans c32), (hc2.trans c32).any⟩
    | some old =>
      refine Sr (Om rfl rfl (Og (vl_not rfl) rfl (O_end [0, 1, 2, 27] (F' := [(0, _), (1, _), (2, _), (27, _)]) rfl (W_cond_false rfl (W_skipE (W_seq (Sr (Om rfl rfl (Om rfl rfl ?_)))))))))
      refine O_go (gn rfl) (st_call bd50 rfl rfl rfl rfl (t_clashing v row _ (hm.chg0 hc2) ht he (Arr.chg0 hl hc2) hg) ?_)
      rintro v35 w35 ⟨bm, es, rfl, hbm, kes, _, hck, c35⟩
      refine O_go (gn rfl) (st_rangeK mp110 rfl kes rfl ?_)
      intro b36 w36 e36 n36 c36 k36
      refine O_end [0, 1, 2, 36] (F' := [(0, _), (1, _), (2, _), (36, _)]) rfl ?_
      have hcA := (hc2.trans c35).trans c36
      refine W_block ?_
      refine W_loop [0, 1, 2, 36] (fun m F wx => ∃ (left : List (ByteArray × Value)) (last : Option (ByteArray × Value)), m = left.length ∧ F = [(0, .pointer (some ⟨t, 0, none⟩)), (1, .string key), (2, v), (36, .pointer (some ⟨b36, 0, none⟩))] ∧ IsIt strK wx b36 bm es left last ∧ (∀ p ∈ es, p ∉ left → p.1 = key) ∧ Chg [b36] w36 wx) (m := es.length) ⟨es, none, rfl, rfl, k36, fun p h1 h2 => absurd h1 h2, Chg.refl _ _⟩ ?_
      rintro m F wx ⟨left, last, rfl, rfl, hit, hvis, hcx⟩
      have hs36 := (hc2.trans c35).size
      have hcw : Chg [] w wx := hcA.own hcx (by intro y hy; simp at hy; subst hy; omega)
      cases hleft : left with
      | nil =>
        refine Sr ?_
        refine O_go (gn rfl) (st_nextK rfl hit rfl (fun _ => ?_) (fun p l1 l2 w' h => absurd (hleft.symm.trans h) (by simp)))
        skip
        refine Oe rfl rfl rfl (O_end [0, 1, 2, 36, 38] (F' := [(0, _), (1, _), (2, _), (36, _), (38, _)]) rfl (W_seq (W_cond_false rfl ?_)))
        refine W_exit ?_
        repeat (first | refine then_exit ?_ | refine blockF_other rfl ?_)
        refine blockF_exit _ ?_
        have htk : takenR s rows row key = false := by
          cases hx : takenR s rows row key with
          | false => rfl
          | true =>
            obtain ⟨k', hk', hne⟩ := (taken_iff hck).1 hx
            obtain ⟨p, hp, rfl⟩ := List.mem_map.1 hk'
            exact absurd (hvis p hp (by rw [hleft]; simp)) hne
        have eU : updE s rows key row = 0 := by unfold updE; rw [if_neg (by simp [he]), hgr, htk]; rfl
        obtain ⟨_, _, hfree, hlt⟩ := upd_ok ht.ok eU
        obtain ⟨hro, hko⟩ := get_some hgr
        have hL := ht.leave hro
        rw [hko] at hL
        refine Sr (Om rfl rfl (Om rfl rfl ?_))
        refine O_go (gn rfl) (st_call bd51 rfl rfl rfl rfl (t_leaves key old _ (hm.chg0 hcw) ht hgr) ?_)
        rintro v51 w51 ⟨i51, f51', m51, c51⟩
        refine Oa rfl rfl (O_end [0, 2, 12] (F' := [(0, _), (2, _), (12, _)]) rfl ?_)
        rw [hko] at m51
        have hEx := hE.chg0 hcw
        have hTx := hT.chg0 hcw
        have hE51 := hEx.tab hTx c51
        have hl51 : IsVals w51 v row := IsVals.own (Arr.chg0 hl hcw) hTx.pages c51
        refine Sr (Om rfl rfl (Om rfl rfl ?_))
        refine O_go (gn rfl) (st_call bd52 rfl rfl rfl rfl (t_come v row _ hE51 m51 hL he hl51 hg) ?_)
        rintro v54 w54 ⟨m54, c54⟩
        refine O_end [12] (F' := [(12, _)]) rfl (Sr (Om rfl rfl (Oa rfl rfl (Oa rfl rfl (O_end [6, 7] (F' := [(6, _), (7, _)]) rfl (W_ret ?_))))))
        refine ret2 rfl rfl rfl ?_
        have hT51 : IsTab w51 t (pm :: xs.map (·.2)) s (lessR s rows key) := ⟨pm, c, k, u, sv, xs, _, _, rfl, m51, hL⟩
        unfold updW updR
        rw [eU, if_pos rfl, if_pos rfl, hgr]
        have hsx := hcw.size
        exact ⟨_, rfl, ArrS.arr (Tab_own i51 hT51.pages rfl c54), fun b hb => by have := f51' b hb; omega, ⟨pm, c, k, u, sv, xs, _, _, rfl, m54, hL.come he hg hfree hlt⟩, (hcw.any.transS c51).trans' c54 (fun _ h => .inl h)⟩
      | cons p l =>
        refine Sr ?_
        refine O_go (gn rfl) (st_nextK rfl hit rfl (fun h => absurd (hleft.symm.trans h) (by simp)) ?_)
        intro p l1 l2 w37 e37 n37 c37 k37
        refine Oe rfl rfl rfl (O_end [0, 1, 2, 36, 38] (F' := [(0, _), (1, _), (2, _), (36, _), (38, _)]) rfl (W_seq (W_cond_true rfl (W_skipE (W_block (Sr ?_))))))
        refine Og (vl_entryK rfl k37) rfl ?_
        refine Oe rfl rfl rfl (Oa rfl rfl (O_end [0, 1, 2, 11, 36] (F' := [(0, _), (1, _), (2, _), (11, _), (36, _)]) rfl (W_seq ?_)))
        have hpe : p ∈ es := by
          obtain ⟨_, _, _, _, _, _, _, hsub, _⟩ := hit
          exact hsub p (by rw [e37]; simp)
        by_cases hpk : p.1 = key
        · refine W_region (Om rfl rfl (Om rfl rfl ?_))
          refine Og (vl_is (b' := false) (vl_sne rfl rfl) (by simp [hpk])) rfl ?_
          refine O_end [0, 1, 2, 11, 36, 43] (F' := [(0, _), (1, _), (2, _), (11, _), (36, _), (43, _)]) rfl (W_cond_false rfl (W_skip (block_normal ?_)))
          refine ⟨(l1 ++ l2).length, by rw [← hleft, e37]; simp, l1 ++ l2, some p, rfl, rfl, k37, fun p' h1 h2 => ?_, hcx.transS c37⟩
          by_cases hin : p' ∈ left
          · rw [e37] at hin
            rcases List.mem_append.1 hin with hin | hin
            · exact absurd (List.mem_append_left _ hin) h2
            · rcases List.mem_cons.1 hin with rfl | hin
              · exact hpk
              · exact absurd (List.mem_append_right _ hin) h2
          · exact hvis p' h1 hin
        · refine W_region (Om rfl rfl (Om rfl rfl ?_))
          refine Og (vl_is (b' := true) (vl_sne rfl rfl) (by simp [hpk])) rfl ?_
          refine O_end [0, 1, 2, 11, 36, 43] (F' := [(0, _), (1, _), (2, _), (11, _), (36, _), (43, _)]) rfl (W_cond_true rfl (W_seq ?_))
          have hcB : Chg [] w w37 := hcw.own c37 (by intro y hy; simp at hy; subst hy; omega)
          refine W_region (Om rfl rfl ?_)
          refine Og (vl_mkif ni32 rfl) rfl ?_
          refine Og (vl_build pl141 zr141 rfl (vs := [_, _]) rfl (css := [_, _]) ⟨rfl, rfl, trivial⟩ rfl rfl (cs := [_, _]) rfl) rfl ?_
          refine Og (vl_mkif ni141 rfl) rfl ?_
          refine O_go (gn rfl) (st_call bd46 rfl rfl rfl rfl (e_numT _ 220 _ (hE.chg0 hcB) (.inr (.inr (.inr ⟨_, rfl⟩)))) ?_)
          rintro v48 w48 ⟨rfl, c48⟩
          refine Oa rfl rfl (Oa rfl rfl (O_end [6, 7] (F' := [(6, _), (7, _)]) rfl (W_ret ?_)))
          repeat (first | refine then_ret ?_ | refine block_ret ?_)
          refine ret2 rfl rfl rfl ?_
          have htk : takenR s rows row key = true := (taken_iff hck).2 ⟨p.1, List.mem_map.2 ⟨p, hpe, rfl⟩, hpk⟩
          have eU : updE s rows key row = 220 := by unfold updE; rw [if_neg (by simp [he]), hgr, htk]; rfl
          unfold updW updR
          rw [eU, if_neg (by decide), if_neg (by decide)]
          exact ⟨_, rfl, Arr.nil _ _ _ _, by simp [blkOf], hT.chg0 (hcB.trans c48), (hcB.trans c48).any⟩
  · refine Sr (Om rfl rfl ?_)
    refine Og (vl_innil in106 rfl i15.notNil) rfl ?_
    refine O_end [0, 1, 2, 8, 17] (F' := [(0, _), (1, _), (2, _), (8, _), (17, _)]) rfl (W_cond_true rfl (Sr (Om rfl rfl ?_)))
    refine O_go (gn rfl) (st_call bd46 rfl rfl rfl rfl (e_numT _ _ _ (hE.chg0 c15) (.inr i15)) ?_)
    rintro v19 w19 ⟨rfl, c19⟩
    refine Oa rfl rfl (Oa rfl rfl (O_end [6, 7] (F' := [(6, _), (7, _)]) rfl (W_ret ?_)))
    repeat (first | refine then_ret ?_ | refine block_ret ?_)
    refine ret2 rfl rfl rfl ?_
    have eU : updE s rows key row = rowN s row := by unfold updE; rw [if_pos he]
    unfold updW updR
    rw [eU, if_neg he, if_neg he]
    exact ⟨_, rfl, Arr.nil _ _ _ _, by simp [blkOf], hT.chg0 (c15.trans c19), (c15.trans c19).any⟩
end Go.Wk

namespace Go.Wk
set_option maxRecDepth 10000

/-- The first i are in order, but for the one at j. -/
def SrtX (m : List ByteArray) (i j : Nat) : Prop := ∀ p q x y, p < q → q < i → q ≠ j → m[p]? = some x → m[q]? = some y → blt y x = false
theorem SrtX.one (m : List ByteArray) (j : Nat) : SrtX m 1 j := fun p q _ _ h1 h2 => by omega
theorem SrtX.next {m : List ByteArray} {i : Nat} (h : SrtX m i i) : SrtX m (i + 1) i := fun p q x y h1 h2 h3 => h p q x y h1 (by omega) (by omega)
theorem SrtX.done {m : List ByteArray} {i j : Nat} (h : SrtX m i j) (hj : ∀ x y, j ≠ 0 → m[j - 1]? = some x → m[j]? = some y → blt y x = false) (hl : i ≤ m.length) : SrtX m i i := by
  intro p q x y h1 h2 _ hx hy
  by_cases hq : q = j
  · subst hq
    by_cases hp : p = q - 1
    · subst hp
      exact hj x y (by omega) hx hy
    · have hz : m[q - 1]? = some (m[q - 1]'(by omega)) := by simp
      have e1 := h p (q - 1) x _ (by omega) (by omega) (by omega) hx hz
      have e2 := hj _ y (by omega) hz hy
      cases hb : blt y x with
      | false => rfl
      | true =>
        have := blt_of_le hb e1
        rw [this] at e2; cases e2
  · exact h p q x y h1 h2 hq hx hy
def swB (m : List ByteArray) (j : Nat) (a b : ByteArray) : List ByteArray := (m.set j a).set (j - 1) b
theorem swB_at {m : List ByteArray} {j : Nat} {a b : ByteArray} (h0 : j ≠ 0) (ha : m[j - 1]? = some a) (hb : m[j]? = some b) (q : Nat) :
    (swB m j a b)[q]? = if q = j - 1 then some b else if q = j then some a else m[q]? := by
  have l1 := (List.getElem?_eq_some_iff.1 ha).1
  have l2 := (List.getElem?_eq_some_iff.1 hb).1
  unfold swB
  rw [List.getElem?_set, List.getElem?_set]
  by_cases h1 : q = j - 1
  · subst h1; simp; omega
  · rw [if_neg (by omega), if_neg h1]
    by_cases h2 : q = j
    · subst h2; simp; omega
    · rw [if_neg (by omega), if_neg h2]
theorem swB_perm {m : List ByteArray} {j : Nat} {a b : ByteArray} (ha : m[j - 1]? = some a) (hb : m[j]? = some b) : (swB m j a b).Perm m := by
  obtain ⟨l1, rfl⟩ := List.getElem?_eq_some_iff.1 ha
  obtain ⟨l2, rfl⟩ := List.getElem?_eq_some_iff.1 hb
  exact List.set_set_perm l2 l1
theorem SrtX.step {m : List ByteArray} {i j : Nat} {a b : ByteArray} (h : SrtX m i j) (h0 : j ≠ 0) (hj : j < i) (ha : m[j - 1]? = some a) (hb : m[j]? = some b) (hlt : blt b a = true) : SrtX (swB m j a b) i (j - 1) := by
  intro p q x y h1 h2 h3 hx hy
  rw [swB_at h0 ha hb] at hx hy
  rw [if_neg h3] at hy
  by_cases hq : q = j
  · subst hq
    rw [if_pos rfl] at hy
    cases hy
    by_cases hp : p = q - 1
    · rw [if_pos hp] at hx
      cases hx
      exact blt_asymm hlt
    · rw [if_neg hp, if_neg (by omega)] at hx
      exact h p (q - 1) x _ (by omega) (by omega) (by omega) hx ha
  · rw [if_neg hq] at hy
    by_cases hp : p = j - 1
    · rw [if_pos hp] at hx
      cases hx
      exact h j q _ y (by omega) h2 hq hb hy
    · rw [if_neg hp] at hx
      by_cases hp2 : p = j
      · rw [if_pos hp2] at hx
        cases hx
        exact h (j - 1) q _ y (by omega) h2 hq ha hy
      · rw [if_neg hp2] at hx
        exact h p q x y h1 h2 hq hx hy
theorem SrtX.pair {m : List ByteArray} (h : SrtX m m.length m.length) (hn : m.Nodup) : m.Pairwise fun a b => blt a b = true := by
  rw [List.pairwise_iff_getElem]
  intro p q hp hq hpq
  have h1 := h p q m[p] m[q] hpq hq (by omega) (by simp [hp]) (by simp [hq])
  cases hb : blt m[p] m[q] with
  | true => rfl
  | false =>
    have := blt_total hb h1
    exact absurd this (List.pairwise_iff_getElem.1 hn p q hp hq hpq)
/-- Two orders of the same. -/
theorem gone_sorted {s : Sch} {rows : List (List Val)} (h : TabOk s rows) {row : List Val} {es : List (ByteArray × Value)} (hc : ClashK s rows row (setsN s) es) {l : List ByteArray} (hp : l.Perm (ksOf es)) (hs : l.Pairwise fun a b => blt a b = true) : l = (goneR s rows row).map (keyR s) :=
  srtB_ext hs (gone_srt h row) fun x => hp.mem_iff.trans (hc.gone x)
end Go.Wk
