/-
  The document's pages: Put.
-/
import Derived.Test.YthbahcjkncfpdaaP12
namespace Go.Wk
open Go.Proofs
set_option maxRecDepth 10000

theorem AllS.apartB {w : World} {e k : Nat} {b : Nat} {t : TypeId} {c : List Value} (hb : Blk w b t c) (hne : Nat.beq e t = false) : ∀ {us : List Value} {xs : List (List Value)}, AllS w e k us xs → ∀ u ∈ us, ∀ x ∈ blkOf u, x ∉ [b]
  | [], [], _, u, hu => by simp at hu
  | u :: us, x :: xs, h, u', hu => by
    rcases List.mem_cons.1 hu with rfl | hu
    · exact h.1.apart hb hne
    · exact AllS.apartB hb hne h.2 u' hu
theorem RPg.chg1 {w w' : World} {v : Value} {ls : List (List Ent)} (h : RPg w v ls) {b : Nat} {t : TypeId} {c : List Value} (hb : Blk w b t c) (h1 : Nat.beq 53 t = false) (h2 : Nat.beq 57 t = false) (hc : Chg [b] w w') : RPg w' v ls :=
  let ⟨us, g1, g2⟩ := h; ⟨us, g1.chg hc (g1.apart hb h1), g2.chg hc (g2.apartB hb h2)⟩
theorem RPg.one {w : World} {b : Nat} {v : Value} {l : List Ent} (hb : Blk w b 53 [v]) (hl : RList w v l) : RPg w (.slice (some ⟨b, 0, none⟩) 1 1) [l] :=
  ⟨[v], IsSl.of_blk (n := 1) hb rfl (by simp [maxLen]) (by intro u hu; simp at hu; subst hu; exact IsSl.one1 hl), by rw [half_flat]; exact hl, trivial⟩
theorem RPg.two {w : World} {b : Nat} {v u : Value} {l m : List Ent} (hb : Blk w b 53 [v, u]) (hl : RList w v l) (hm : RList w u m) : RPg w (.slice (some ⟨b, 0, none⟩) 2 2) [l, m] :=
  ⟨[v, u], IsSl.of_blk (n := 2) hb rfl (by simp [maxLen]) (by intro x hx; simp at hx; rcases hx with rfl | rfl; exact IsSl.one1 hl; exact IsSl.one1 hm), by rw [half_flat]; exact hl, by rw [half_flat]; exact hm, trivial⟩
theorem RList.cutL {w : World} {p : Option Addr} {c : Nat} {l : List Ent} (h : RList w (.slice p l.length c) l) {i m : Nat} (hi : i ≤ l.length) (h1 : i ≤ m) (h2 : m ≤ c) : RList w (cut p 0 i m 2) (l.take i) := by
  have := IsSl.cut h (l := 0) (h := i) (m := m) (Nat.zero_le _) h1 h2 hi
  unfold RList
  rw [flat_take, List.length_take]
  simpa [show min i l.length = i by omega] using this
theorem RList.cutR {w : World} {p : Option Addr} {c : Nat} {l : List Ent} (h : RList w (.slice p l.length c) l) {i : Nat} (hi : i ≤ l.length) (hc : l.length ≤ c) : RList w (cut p i l.length c 2) (l.drop i) := by
  have := IsSl.cut h (l := i) (h := l.length) (m := c) hi hc (Nat.le_refl _) (Nat.le_refl _)
  unfold RList
  rw [flat_drop, List.length_drop]
  rw [List.take_of_length_le (by simp [length_flat]; omega)] at this
  exact this

/-! ### the document's way of putting into a page -/
def put1 (key val : ByteArray) (p : List Ent × Bool) (x : Ent) : List Ent × Bool := if (!p.2 && !blt x.1 key) = true then (p.1 ++ [(key, val)], true) else p
def put2 (key : ByteArray) (p : List Ent × Bool) (x : Ent) : List Ent × Bool := if x.1 = key then p else (p.1 ++ [x], p.2)
def putS (key val : ByteArray) (l : List Ent) : List Ent × Bool := l.foldl (fun p x => put2 key (put1 key val p x) x) ([], false)
theorem putS_succ {key val : ByteArray} {l : List Ent} {i : Nat} {x : Ent} (h : l[i]? = some x) : putS key val (l.take (i + 1)) = put2 key (put1 key val (putS key val (l.take i)) x) x := by
  unfold putS
  rw [List.take_add_one, h]
  simp
theorem put1_len (key val : ByteArray) (p : List Ent × Bool) (x : Ent) : (put1 key val p x).1.length ≤ p.1.length + 1 := by unfold put1; split <;> simp
theorem put2_len (key : ByteArray) (p : List Ent × Bool) (x : Ent) : (put2 key p x).1.length ≤ p.1.length + 1 := by unfold put2; split <;> simp
theorem putS_len (key val : ByteArray) (l : List Ent) (i : Nat) : (putS key val (l.take i)).1.length ≤ 2 * i := by
  induction i with
  | zero => simp [putS]
  | succ i ih =>
    cases hx : l[i]? with
    | none =>
      rw [List.take_add_one, hx]
      simp only [Option.toList_none, List.append_nil]
      omega
    | some x =>
      rw [putS_succ hx]
      have h1 := put1_len key val (putS key val (l.take i)) x
      have h2 := put2_len key (put1 key val (putS key val (l.take i)) x) x
      omega

theorem put_low (key val : ByteArray) : ∀ (A acc : List Ent), (∀ x ∈ A, blt x.1 key = true) → A.foldl (fun p x => put2 key (put1 key val p x) x) (acc, false) = (acc ++ A, false)
  | [], acc, _ => by simp
  | x :: A, acc, h => by
    have hx := h x (by simp)
    have e : put2 key (put1 key val (acc, false) x) x = (acc ++ [x], false) := by simp [put1, put2, hx, blt_ne hx]
    rw [List.foldl_cons, e, put_low key val A _ (fun y hy => h y (by simp [hy]))]
    simp
theorem put_high (key val : ByteArray) : ∀ (B acc : List Ent), (∀ x ∈ B, x.1 ≠ key) → B.foldl (fun p x => put2 key (put1 key val p x) x) (acc, true) = (acc ++ B, true)
  | [], acc, _ => by simp
  | x :: B, acc, h => by
    have hx := h x (by simp)
    have e : put2 key (put1 key val (acc, true) x) x = (acc ++ [x], true) := by simp [put1, put2, hx]
    rw [List.foldl_cons, e, put_high key val B _ (fun y hy => h y (by simp [hy]))]
    simp

theorem lbN_take (l : List Ent) (key : ByteArray) : ∀ x ∈ l.take (lbN l key), blt x.1 key = true := by
  intro x hx
  have : l.take (lbN l key) = l.takeWhile fun x => blt x.1 key := ((List.prefix_iff_eq_take.1 (List.takeWhile_prefix _)).symm)
  rw [this] at hx
  exact (List.all_takeWhile (l := l) (p := fun x => blt x.1 key) |> List.all_eq_true.1) x hx
theorem lbN_at {l : List Ent} {key : ByteArray} {x : Ent} (h : l[lbN l key]? = some x) : blt x.1 key = false := (takeWhile_iff _ l _ x h).2 rfl

theorem putS_eq {l : List Ent} {key val : ByteArray} (hs : Srt l) : (if (putS key val l).2 = true then (putS key val l).1 else (putS key val l).1 ++ [(key, val)]) = putL l key val := by
  have h1 : putS key val l = (l.drop (lbN l key)).foldl (fun p x => put2 key (put1 key val p x) x) (l.take (lbN l key), false) := by
    have e : l.foldl (fun p x => put2 key (put1 key val p x) x) ([], false) = (l.take (lbN l key) ++ l.drop (lbN l key)).foldl (fun p x => put2 key (put1 key val p x) x) ([], false) := by rw [List.take_append_drop]
    unfold putS
    rw [e, List.foldl_append, put_low key val _ _ (lbN_take l key)]
    simp
  cases hx : l[lbN l key]? with
  | none =>
    have hl : l.length ≤ lbN l key := List.getElem?_eq_none_iff.1 hx
    have hh : hasK l key = false := by unfold hasK hasAt; rw [List.getElem?_map, hx]; rfl
    rw [List.drop_eq_nil_of_le hl] at h1
    rw [h1]
    unfold putL
    rw [hh, List.drop_eq_nil_of_le hl]
    simp
  | some b =>
    have hb := lbN_at hx
    have hil := (List.getElem?_eq_some_iff.1 hx).1
    have hd : l.drop (lbN l key) = b :: l.drop (lbN l key + 1) := by
      obtain ⟨hl, rfl⟩ := List.getElem?_eq_some_iff.1 hx
      exact List.drop_eq_getElem_cons hl
    have hrest : ∀ y ∈ l.drop (lbN l key + 1), y.1 ≠ key := by
      intro y hy
      obtain ⟨j, hj⟩ := List.mem_iff_getElem?.1 hy
      rw [List.getElem?_drop] at hj
      have h2 := hs.at (show lbN l key < lbN l key + 1 + j by omega) hx hj
      intro e
      rw [e] at h2
      rw [h2] at hb
      cases hb
    have hst : put1 key val (l.take (lbN l key), false) b = (l.take (lbN l key) ++ [(key, val)], true) := by simp [put1, hb]
    rw [hd, List.foldl_cons, hst] at h1
    by_cases he : b.1 = key
    · have hh : hasK l key = true := by unfold hasK hasAt; rw [List.getElem?_map, hx]; simp [he]
      have e2 : put2 key (l.take (lbN l key) ++ [(key, val)], true) b = (l.take (lbN l key) ++ [(key, val)], true) := by simp [put2, he]
      rw [e2, put_high key val _ _ hrest] at h1
      rw [h1]
      unfold putL
      rw [hh, if_pos rfl, if_pos rfl, List.set_eq_take_append_cons_drop, if_pos hil]
      simp
    · have hh : hasK l key = false := by unfold hasK hasAt; rw [List.getElem?_map, hx]; simp [he]
      have e2 : put2 key (l.take (lbN l key) ++ [(key, val)], true) b = (l.take (lbN l key) ++ [(key, val)] ++ [b], true) := by simp [put2, he]
      rw [e2, put_high key val _ _ hrest] at h1
      rw [h1]
      unfold putL
      rw [hh, hd]
      simp

theorem f34 (v : Value) (ls : List (List Ent)) (key val : ByteArray) (w : World) (hp : RPg w v ls) (hw : WfP ls) (hn : ls.length ≤ 65536) :
    Ret Try.prog 34 #[.agg #[v], .string key, .string val] w fun r w' => (∃ v', r = .agg #[v'] ∧ RPg w' v' (pPut ls key val)) ∧ Chg [] w w' := by
  obtain ⟨us, hsl, hal⟩ := id hp
  obtain ⟨p, c, rfl, _⟩ := hsl.val
  refine Ret.of_W (args := [_, _, _]) Try.func34 rfl rfl rfl rfl ?_

  refine W_seq ?_
  refine W_region ?_
  refine O_go (gn rfl) (st_box rfl rfl rfl ?_)
  intro b3 w3 e3 n3 c3 k3
  refine O_go (gn rfl) (st_alloc zr48 rfl rfl ?_)
  intro b6 w6 e6 n6 c6 k6
  refine O_end [1, 2, 3, 6] (F' := [(1, _), (2, _), (3, _), (6, _)]) rfl ?_
  have hc6 : Chg [] w w6 := c3.trans c6
  have hk3 := k3.chg0 c6
  have hs3 := c3.size
  refine W_seq ?_
  refine W_seq ?_
  refine W_region ?_
  refine O_go (gn rfl) (St.vl (vl_fieldAddr fo48_0 rfl) rfl rfl ?_)
  refine O_go (gn rfl) (St.vl (vl_load ag46 rfl (hk3.cell' rfl)) rfl rfl ?_)
  refine O_go (gn rfl) (St.vl (vl_len sl46 rfl) rfl rfl ?_)
  refine O_go (gn rfl) (St.vl (vl_ieq rfl rfl) rfl rfl ?_)
  refine O_end [1, 2, 3, 6, 15] (F' := [(1, _), (2, _), (3, _), (6, _), (15, _)]) rfl ?_
  refine W_cond rfl (fun hT => ?_) (fun hF => ?_)
  · have : ls = [] := List.eq_nil_of_length_eq_zero (by simpa using hT)
    subst this
    refine W_seq ?_
    refine W_region ?_
    refine O_go (gn rfl) (St.vl (vl_move rfl) rfl rfl ?_)
    refine O_go (gn rfl) (St.vl (vl_move rfl) rfl rfl ?_)
    refine O_go (gn rfl) (St.vl (vl_build pl57 zr57 rfl (vs := [_, _]) rfl (css := [_, _]) ⟨rfl, rfl, trivial⟩ rfl rfl (cs := [_, _]) rfl) rfl rfl ?_)
    refine O_go (gn rfl) (st_buildSlice ap53 rfl (vs := [_]) rfl (css := [_]) ⟨rfl, trivial⟩ rfl rfl (cs := [_, _]) rfl rfl ?_)
    intro b19 w19 e19 n19 c19 k19
    refine O_go (gn rfl) (st_buildSlice ap46 rfl (vs := [_]) rfl (css := [_]) ⟨rfl, trivial⟩ rfl rfl (cs := [_]) rfl rfl ?_)
    intro b20 w20 e20 n20 c20 k20
    refine O_go (gn rfl) (St.vl (vl_build pl48 zr48 rfl (vs := [_]) rfl (css := [_]) ⟨rfl, trivial⟩ rfl rfl (cs := [_]) rfl) rfl rfl ?_)
    refine O_go (gn rfl) (st_store sz48 rfl rfl rfl rfl (k6.chg0 (c19.trans c20)) (by simp) (by intro u hu; simp at hu; subst hu; rfl) ?_)
    intro wF nF cF kF
    refine O_end [6] (F' := [(6, _)]) rfl ?_
    refine W_ret ?_
    refine then_ret ?_
    have hq : RPg w20 (.slice (some ⟨b20, 0, none⟩) 1 1) [[(key, val)]] := RPg.one k20 ((show RList w19 (.slice (some ⟨b19, 0, none⟩) 1 1) [(key, val)] from IsSl.of_blk (n := 1) k19 rfl (by simp [maxLen]) (flat_one _)).chg0 c20)
    refine retC rfl ag48 sz48 rfl rfl (Cells.of_blk0 kF) ?_
    exact ⟨⟨_, rfl, hq.chg1 (k6.chg0 (c19.trans c20)) rfl rfl cF⟩, (hc6.trans (c19.trans c20)).own cF (by intro x hx; simp at hx; omega)⟩
  refine W_skipE ?_
  have hls : ls ≠ [] := by rintro rfl; simp at hF
  have hat := cntN_lt (key := key) hls
  have hL : ls[cntN ls key - 1]? = some ls[cntN ls key - 1] := by simp [hat]
  have hL8 := hw.le _ (List.mem_of_getElem? hL)
  have hLs := hw.each _ (List.mem_of_getElem? hL)
  have hpp : pPut ls key val = ls.take (cntN ls key - 1) ++ splitL (putL ls[cntN ls key - 1] key val) ++ ls.drop (cntN ls key - 1 + 1) := by unfold pPut; rw [hL]
  rw [hpp]
  generalize ls[cntN ls key - 1] = L at *
  refine W_seq ?_
  refine W_region ?_
  refine O_go (gn rfl) (St.vl (vl_loadAgg ag48 sz48 rfl rfl (Cells.of_blk0 hk3)) rfl rfl ?_)
  refine O_go (gn rfl) (St.vl (vl_move rfl) rfl rfl ?_)
  refine O_go (gn rfl) (st_call bd46 rfl rfl rfl rfl (f46 _ ls key _ (hp.chg0 hc6) hw.ne hw.firsts hn) ?_)
  rintro v24 w24 ⟨rfl, c24⟩
  refine O_go (gn rfl) (St.vl (vl_assign rfl) rfl rfl ?_)
  refine O_end [1, 2, 3, 6, 7] (F' := [(1, _), (2, _), (3, _), (6, _), (7, _)]) rfl ?_
  generalize cntN ls key - 1 = at' at *
  refine W_seq ?_
  refine W_region ?_
  refine O_go (gn rfl) (St.vl (vl_assign rfl) rfl rfl ?_)
  refine O_end [1, 2, 3, 6, 7, 8] (F' := [(1, _), (2, _), (3, _), (6, _), (7, _), (8, _)]) rfl ?_
  refine W_seq ?_
  refine W_region ?_
  refine O_go (gn rfl) (St.vl (vl_assign rfl) rfl rfl ?_)
  refine O_end [1, 2, 3, 6, 7, 8, 9] (F' := [(1, _), (2, _), (3, _), (6, _), (7, _), (8, _), (9, _)]) rfl ?_
  refine W_seq ?_
  refine W_seq ?_
  refine W_region ?_
  refine O_go (gn rfl) (St.vl (vl_assign rfl) rfl rfl ?_)
  refine O_end [1, 2, 3, 6, 7, 8, 9, 10] (F' := [(1, _), (2, _), (3, _), (6, _), (7, _), (8, _), (9, _), (10, _)]) rfl ?_
  refine W_block ?_
  refine W_loop [1, 2, 3, 6, 7, 8, 9, 10] (fun m F wx => Chg [] w6 wx ∧ ∃ (i : Nat) (out : Value), m = L.length - i ∧ i ≤ L.length ∧ F = [(1, .string key), (2, .string val), (3, .pointer (some ⟨b3, 0, none⟩)), (6, .pointer (some ⟨b6, 0, none⟩)), (7, .int .i64 at'), (8, out), (9, .bool (putS key val (L.take i)).2), (10, .int .i64 i)] ∧ RList wx out (putS key val (L.take i)).1 ∧ (∀ b ∈ blkOf out, w6.heap.size ≤ b)) (m := L.length - 0) ⟨c24, 0, _, rfl, Nat.zero_le _, rfl, IsSl.nil _ _ _, by simp [blkOf]⟩ ?_
  rintro m F wx ⟨hcx, i, out, rfl, hi, rfl, ho, hof⟩
  have hkx := hk3.chg0 hcx
  obtain ⟨b, off, cap, pl, cl, hv, hc, hl, hlc⟩ := (hp.chg0 (hc6.trans hcx)).at hL
  simp only [Value.slice.injEq] at hv
  obtain ⟨rfl, _, rfl⟩ := hv
  refine W_seq ?_
  refine W_seq ?_
  refine W_region ?_
  refine O_go (gn rfl) (St.vl (vl_move rfl) rfl rfl ?_)
  refine O_go (gn rfl) (St.vl (vl_fieldAddr fo48_0 rfl) rfl rfl ?_)
  refine O_go (gn rfl) (St.vl (vl_load ag46 rfl (hkx.cell' rfl)) rfl rfl ?_)
  refine O_go (gn rfl) (St.vl (vl_move rfl) rfl rfl ?_)
  refine O_go (gn rfl) (St.vl (vl_indexAddr sl46 sz53 rfl rfl _ rfl hat) rfl rfl ?_)
  refine O_go (gn rfl) (St.vl (vl_load ag53 rfl hc) rfl rfl ?_)
  refine O_go (gn rfl) (St.vl (vl_len sl53 rfl) rfl rfl ?_)
  refine O_go (gn rfl) (St.vl (vl_lss rfl rfl) rfl rfl ?_)
  refine O_end [1, 2, 3, 6, 7, 8, 9, 10, 32] (F' := [(1, _), (2, _), (3, _), (6, _), (7, _), (8, _), (9, _), (10, _), (32, _)]) rfl ?_
  refine W_cond rfl (fun hT => ?_) (fun hF => ?_)
  · refine W_skipE ?_
    have hlt : i < L.length := by simpa using hT
    have hx : L[i]? = some L[i] := by simp [hlt]
    generalize L[i] = x at hx
    have hsucc := putS_succ (key := key) (val := val) hx
    have hst := putS_len key val L i
    generalize putS key val (L.take i) = st at *
    obtain ⟨o, th⟩ := st
    dsimp only at ho hst ⊢
    obtain ⟨bl, ol, cl', hvl, hcl⟩ := hl.at' hx
    simp only [Value.slice.injEq] at hvl
    obtain ⟨rfl, _, rfl⟩ := hvl
    refine W_seq ?_
    refine W_block ?_
    refine W_seq ?_
    refine W_region ?_
    refine O_go (gn rfl) (St.vl (vl_fieldAddr fo48_0 rfl) rfl rfl ?_)
    refine O_go (gn rfl) (St.vl (vl_load ag46 rfl (hkx.cell' rfl)) rfl rfl ?_)
    refine O_go (gn rfl) (St.vl (vl_move rfl) rfl rfl ?_)
    refine O_go (gn rfl) (St.vl (vl_indexAddr sl46 sz53 rfl rfl _ rfl hat) rfl rfl ?_)
    refine O_go (gn rfl) (St.vl (vl_load ag53 rfl hc) rfl rfl ?_)
    refine O_go (gn rfl) (St.vl (vl_move rfl) rfl rfl ?_)
    refine O_go (gn rfl) (St.vl (vl_indexAddr sl53 sz57 rfl rfl _ rfl hlt) rfl rfl ?_)
    refine O_go (gn rfl) (St.vl (vl_loadAgg ag57 sz57 rfl rfl hcl) rfl rfl ?_)
    refine O_go (gn rfl) (st_alloc zr57 rfl rfl ?_)
    intro b11 w11 e11 n11 c11 k11
    refine O_go (gn rfl) (st_store sz57 rfl rfl rfl rfl k11 (by simp) (by intro u hu; simp at hu; rcases hu with rfl | rfl <;> rfl) ?_)
    intro wF nF cF kF
    refine O_end [1, 2, 3, 6, 7, 8, 9, 10, 11] (F' := [(1, _), (2, _), (3, _), (6, _), (7, _), (8, _), (9, _), (10, _), (11, _)]) rfl ?_
    have hcF : Chg [] wx wF := c11.own cF (by intro x hx; simp at hx; omega)
    have hbn : b11 ∉ blkOf out := fun h => by have := IsSl.lt ho _ h; omega
    refine W_seq_cut (fun F' w' => ∃ out', F' = [(1, .string key), (2, .string val), (3, .pointer (some ⟨b3, 0, none⟩)), (6, .pointer (some ⟨b6, 0, none⟩)), (7, .int .i64 at'), (8, out'), (9, .bool (put1 key val (o, th) x).2), (10, .int .i64 i), (11, .pointer (some ⟨b11, 0, none⟩))] ∧ RList w' out' (put1 key val (o, th) x).1 ∧ (∀ b ∈ blkOf out', w6.heap.size ≤ b) ∧ Chg [] w6 w' ∧ Blk w' b11 57 [.string x.1, .string x.2] ∧ b11 ∉ blkOf out') ?_ ?_
    · refine W_seq ?_
      cases th with
      | true =>
        refine W_region ?_
        refine O_go (gn rfl) (St.vl (vl_move rfl) rfl rfl ?_)
        refine O_go (gn rfl) (St.vl (vl_not rfl) rfl rfl ?_)
        refine O_go (gn rfl) (St.vl (vl_move rfl) rfl rfl ?_)
        refine O_guard_no rfl rfl rfl rfl rfl rfl ?_
        refine O_guard_no rfl rfl rfl rfl rfl rfl ?_
        refine O_guard_no rfl rfl rfl rfl rfl rfl ?_
        refine O_guard_no rfl rfl rfl rfl rfl rfl ?_
        refine O_go (gn rfl) (St.vl (vl_pick_f rfl rfl) rfl rfl ?_)
        refine O_end [1, 2, 3, 6, 7, 8, 9, 10, 11, 50] (F' := [(1, _), (2, _), (3, _), (6, _), (7, _), (8, _), (9, _), (10, _), (11, _), (50, _)]) rfl ?_
        refine W_cond_false rfl ?_
        refine W_prune [1, 2, 3, 6, 7, 8, 9, 10, 11] rfl ?_
        refine W_skipE ?_
        have e : put1 key val (o, true) x = (o, true) := by simp [put1]
        rw [e]
        exact ⟨out, rfl, ho.chg0 hcF, hof, hcx.trans hcF, kF, hbn⟩
      | false =>
        refine W_region ?_
        refine O_go (gn rfl) (St.vl (vl_move rfl) rfl rfl ?_)
        refine O_go (gn rfl) (St.vl (vl_not rfl) rfl rfl ?_)
        refine O_go (gn rfl) (St.vl (vl_move rfl) rfl rfl ?_)
        refine O_go (gy rfl rfl rfl) (St.vl (vl_fieldAddr fo57_0 rfl) rfl rfl ?_)
        refine O_go (gy rfl rfl rfl) (St.vl (vl_load ag9 rfl (kF.cell' rfl)) rfl rfl ?_)
        refine O_go (gy rfl rfl rfl) (St.vl (vl_move rfl) rfl rfl ?_)
        refine O_go (gy rfl rfl rfl) (St.vl (vl_sge rfl rfl) rfl rfl ?_)
        refine O_go (gn rfl) (St.vl (vl_pick_t rfl rfl) rfl rfl ?_)
        refine O_end [1, 2, 3, 6, 7, 8, 9, 10, 11, 50] (F' := [(1, _), (2, _), (3, _), (6, _), (7, _), (8, _), (9, _), (10, _), (11, _), (50, _)]) rfl ?_
        refine W_cond rfl (fun hT => ?_) (fun hF => ?_)
        · have e : put1 key val (o, false) x = (o ++ [(key, val)], true) := by simp only [put1]; rw [if_pos (by simpa using hT)]
          rw [e]
          refine W_seq ?_
          refine W_region ?_
          refine O_go (gn rfl) (St.vl (vl_move rfl) rfl rfl ?_)
          refine O_go (gn rfl) (St.vl (vl_move rfl) rfl rfl ?_)
          refine O_go (gn rfl) (St.vl (vl_move rfl) rfl rfl ?_)
          refine O_go (gn rfl) (St.vl (vl_build pl57 zr57 rfl (vs := [_, _]) rfl (css := [_, _]) ⟨rfl, rfl, trivial⟩ rfl rfl (cs := [_, _]) rfl) rfl rfl ?_)
          refine O_go (gn rfl) (st_buildSlice ap53 rfl (vs := [_]) rfl (css := [_]) ⟨rfl, trivial⟩ rfl rfl (cs := [_, _]) rfl rfl ?_)
          intro b55 w55 e55 n55 c55 k55
          refine O_go (gn rfl) (st_append ap53 sl53 rfl rfl (ho.chg0 (hcF.trans c55)) (IsSl.of_blk (n := 1) k55 rfl (by simp [maxLen]) (flat_one [(key, val)])) (by simp only [maxLen]; omega) (by omega) rfl ?_)
          intro v56 w56 i56 c56 o56 z56
          refine O_go (gn rfl) (St.vl (vl_assign rfl) rfl rfl ?_)
          refine O_end [1, 2, 3, 6, 7, 8, 10, 11] (F' := [(1, _), (2, _), (3, _), (6, _), (7, _), (8, _), (10, _), (11, _)]) rfl ?_
          refine W_region ?_
          refine O_go (gn rfl) (St.vl (vl_assign rfl) rfl rfl ?_)
          refine O_end [1, 2, 3, 6, 7, 8, 9, 10, 11] (F' := [(1, _), (2, _), (3, _), (6, _), (7, _), (8, _), (9, _), (10, _), (11, _)]) rfl ?_
          have hcy : Chg [] w6 w55 := (hcx.trans hcF).trans c55
          refine ⟨v56, rfl, ?_, fresh_of o56 hof hcy.size, hcy.own c56 hof, (kF.chg0 c55).chg c56 hbn, ?_⟩
          · unfold RList
            rw [List.length_append, flat_append]
            exact i56
          · rcases o56 with o56 | ⟨b', o56, hb'⟩
            · rw [o56]; exact hbn
            · rw [o56]; intro h; simp at h; have := kF.lt; have := c55.size; omega
        · refine W_prune [1, 2, 3, 6, 7, 8, 9, 10, 11] rfl ?_
          refine W_skipE ?_
          have e : put1 key val (o, false) x = (o, false) := by simp only [put1]; rw [if_neg (by simpa using hF)]
          rw [e]
          exact ⟨out, rfl, ho.chg0 hcF, hof, hcx.trans hcF, kF, hbn⟩
    · rintro F' w' ⟨out', rfl, ho', hof', hc', hk', hn'⟩
      have hsq2 := put1_len key val (o, th) x
      dsimp only at hsq2
      generalize put1 key val (o, th) x = sq2 at *
      obtain ⟨o2, th2⟩ := sq2
      dsimp only at ho' hsq2 ⊢
      refine W_seq ?_
      refine W_region ?_
      refine O_go (gn rfl) (St.vl (vl_fieldAddr fo57_0 rfl) rfl rfl ?_)
      refine O_go (gn rfl) (St.vl (vl_load ag9 rfl (hk'.cell' rfl)) rfl rfl ?_)
      refine O_go (gn rfl) (St.vl (vl_move rfl) rfl rfl ?_)
      refine O_go (gn rfl) (St.vl (vl_sne rfl rfl) rfl rfl ?_)
      refine O_end [1, 2, 3, 6, 7, 8, 9, 10, 11, 60] (F' := [(1, _), (2, _), (3, _), (6, _), (7, _), (8, _), (9, _), (10, _), (11, _), (60, _)]) rfl ?_
      refine W_cond rfl (fun hT => ?_) (fun hF => ?_)
      · have e : put2 key (o2, th2) x = (o2 ++ [x], th2) := by simp only [put2]; rw [if_neg (by simpa using hT)]
        refine W_region ?_
        refine O_go (gn rfl) (St.vl (vl_move rfl) rfl rfl ?_)
        refine O_go (gn rfl) (St.vl (vl_loadAgg ag57 sz57 rfl rfl (Cells.of_blk0 hk')) rfl rfl ?_)
        refine O_go (gn rfl) (st_buildSlice ap53 rfl (vs := [_]) rfl (css := [_]) ⟨rfl, trivial⟩ rfl rfl (cs := [_, _]) rfl rfl ?_)
        intro b63 w63 e63 n63 c63 k63
        refine O_go (gn rfl) (st_append ap53 sl53 rfl rfl (ho'.chg0 c63) (IsSl.of_blk (n := 1) k63 rfl (by simp [maxLen]) (flat_one [x])) (by simp only [maxLen]; omega) (by omega) rfl ?_)
        intro v64 w64 i64 c64 o64 z64
        refine O_go (gn rfl) (St.vl (vl_assign rfl) rfl rfl ?_)
        refine O_endN [1, 2, 3, 6, 7, 8, 9, 10] (F' := [(1, _), (2, _), (3, _), (6, _), (7, _), (8, _), (9, _), (10, _)]) rfl ?_
        refine block_normal ?_
        refine W_region ?_
        refine O_go (gn rfl) (St.vl (vl_move rfl) rfl rfl ?_)
        refine O_go (gn rfl) (St.vl (vl_add rfl rfl (by omega)) rfl rfl ?_)
        refine O_go (gn rfl) (St.vl (vl_assign rfl) rfl rfl ?_)
        refine O_endN [1, 2, 3, 6, 7, 8, 9, 10] (F' := [(1, _), (2, _), (3, _), (6, _), (7, _), (8, _), (9, _), (10, _)]) rfl ?_
        refine ⟨L.length - (i + 1), by omega, (hc'.trans c63).own c64 hof', i + 1, v64, rfl, by omega, by rw [hsucc, e]; rfl, ?_, fresh_of o64 hof' (hc'.trans c63).size⟩
        rw [hsucc, e]
        unfold RList
        rw [List.length_append, flat_append]
        exact i64
      · have e : put2 key (o2, th2) x = (o2, th2) := by simp only [put2]; rw [if_pos (by simpa using hF)]
        refine W_skip ?_
        refine block_normal ?_
        refine W_region ?_
        refine O_go (gn rfl) (St.vl (vl_move rfl) rfl rfl ?_)
        refine O_go (gn rfl) (St.vl (vl_add rfl rfl (by omega)) rfl rfl ?_)
        refine O_go (gn rfl) (St.vl (vl_assign rfl) rfl rfl ?_)
        refine O_endN [1, 2, 3, 6, 7, 8, 9, 10] (F' := [(1, _), (2, _), (3, _), (6, _), (7, _), (8, _), (9, _), (10, _)]) rfl ?_
        exact ⟨L.length - (i + 1), by omega, hc', i + 1, out', rfl, by omega, by rw [hsucc, e]; rfl, by rw [hsucc, e]; exact ho', hof'⟩
  · refine W_exit ?_
    repeat (first | refine then_exit ?_ | refine blockF_other rfl ?_)
    refine blockF_exit _ ?_
    have he : i = L.length := by
      have : ¬ (i < L.length) := by simpa using hF
      omega
    subst he
    rw [List.take_length] at ho ⊢
    have hst := putS_len key val L L.length
    rw [List.take_length] at hst
    have hfin := putS_eq (key := key) (val := val) hLs
    rw [← hfin]
    generalize putS key val L = st at *
    obtain ⟨o, th⟩ := st
    dsimp only at ho hst ⊢
    refine W_seq_cut (fun F' w' => ∃ out', F' = [(3, .pointer (some ⟨b3, 0, none⟩)), (6, .pointer (some ⟨b6, 0, none⟩)), (7, .int .i64 at'), (8, out')] ∧ RList w' out' (if th = true then o else o ++ [(key, val)]) ∧ Chg [] w6 w') ?_ ?_
    · refine W_seq ?_
      refine W_region ?_
      refine O_go (gn rfl) (St.vl (vl_move rfl) rfl rfl ?_)
      refine O_go (gn rfl) (St.vl (vl_not rfl) rfl rfl ?_)
      refine O_end [1, 2, 3, 6, 7, 8, 66] (F' := [(1, _), (2, _), (3, _), (6, _), (7, _), (8, _), (66, _)]) rfl ?_
      refine W_cond rfl (fun hT => ?_) (fun hF => ?_)
      · have e : th = false := by simpa using hT
        subst e
        refine W_region ?_
        refine O_go (gn rfl) (St.vl (vl_move rfl) rfl rfl ?_)
        refine O_go (gn rfl) (St.vl (vl_move rfl) rfl rfl ?_)
        refine O_go (gn rfl) (St.vl (vl_move rfl) rfl rfl ?_)
        refine O_go (gn rfl) (St.vl (vl_build pl57 zr57 rfl (vs := [_, _]) rfl (css := [_, _]) ⟨rfl, rfl, trivial⟩ rfl rfl (cs := [_, _]) rfl) rfl rfl ?_)
        refine O_go (gn rfl) (st_buildSlice ap53 rfl (vs := [_]) rfl (css := [_]) ⟨rfl, trivial⟩ rfl rfl (cs := [_, _]) rfl rfl ?_)
        intro b71 w71 e71 n71 c71 k71
        refine O_go (gn rfl) (st_append ap53 sl53 rfl rfl (ho.chg0 c71) (IsSl.of_blk (n := 1) k71 rfl (by simp [maxLen]) (flat_one [(key, val)])) (by simp only [maxLen]; omega) (by omega) rfl ?_)
        intro v72 w72 i72 c72 o72 z72
        refine O_go (gn rfl) (St.vl (vl_assign rfl) rfl rfl ?_)
        refine O_end [3, 6, 7, 8] (F' := [(3, _), (6, _), (7, _), (8, _)]) rfl ?_
        refine ⟨v72, rfl, ?_, (hcx.trans c71).own c72 hof⟩
        rw [if_neg (by simp)]
        unfold RList
        rw [List.length_append, flat_append]
        exact i72
      · have e : th = true := by simpa using hF
        subst e
        refine W_prune [3, 6, 7, 8] rfl ?_
        refine W_skipE ?_
        exact ⟨out, rfl, by rw [if_pos rfl]; exact ho, hcx⟩
    rintro F' w' ⟨out', rfl, ho', hc'⟩
    have hlen : (if th = true then o else o ++ [(key, val)]).length ≤ 17 := by
      have : (o ++ [(key, val)]).length = o.length + 1 := by simp
      split <;> omega
    generalize (if th = true then o else o ++ [(key, val)]) = l' at *
    obtain ⟨q, d, rfl, hqd⟩ := IsSl.val ho'
    have hk3' := hk3.chg0 hc'
    have hk6' := k6.chg0 hc'
    have hp' := hp.chg0 (hc6.trans hc')
    refine W_seq ?_
    refine W_seq ?_
    refine W_region ?_
    refine O_go (gn rfl) (St.vl (vl_move rfl) rfl rfl ?_)
    refine O_go (gn rfl) (St.vl (vl_len sl53 rfl) rfl rfl ?_)
    refine O_go (gn rfl) (St.vl (vl_leq rfl rfl) rfl rfl ?_)
    refine O_end [3, 6, 7, 8, 75] (F' := [(3, _), (6, _), (7, _), (8, _), (75, _)]) rfl ?_
    refine W_cond rfl (fun hT => ?_) (fun hF => ?_)
    · have h8 : l'.length ≤ 8 := by have := of_decide_eq_true hT; omega
      have e : splitL l' = [l'] := by unfold splitL; rw [if_neg (by omega)]
      rw [e]
      refine W_seq ?_
      refine W_region ?_
      refine O_go (gn rfl) (St.vl (vl_loadAgg ag48 sz48 rfl rfl (Cells.of_blk0 hk3')) rfl rfl ?_)
      refine O_go (gn rfl) (St.vl (vl_move rfl) rfl rfl ?_)
      refine O_go (gn rfl) (St.vl (vl_move rfl) rfl rfl ?_)
      refine O_go (gn rfl) (St.vl (vl_eq (v' := .int .i64 ((at' + 1 : Nat) : Int)) (vl_add rfl rfl (by omega)) (by congr 1)) rfl rfl ?_)
      refine O_go (gn rfl) (St.vl (vl_move rfl) rfl rfl ?_)
      refine O_go (gn rfl) (st_buildSlice ap46 rfl (vs := [_]) rfl (css := [_]) ⟨rfl, trivial⟩ rfl rfl (cs := [_]) rfl rfl ?_)
      intro b81 w81 e81 n81 c81 k81
      refine O_go (gn rfl) (st_call bd47 rfl rfl rfl rfl (f47 _ _ ls [l'] at' (at' + 1) w81 (hp'.chg0 c81) (RPg.one k81 (ho'.chg0 c81)) (by omega) (by omega) (by omega) (by simp)) ?_)
      rintro v82 w82 ⟨⟨v', rfl, hr'⟩, c82⟩
      obtain ⟨vs', hs', _⟩ := id hr'
      obtain ⟨p', d', rfl, _⟩ := hs'.val
      refine O_go (gn rfl) (st_store sz48 rfl rfl rfl rfl (hk6'.chg0 (c81.trans c82)) (by simp) (by intro u hu; simp at hu; subst hu; rfl) ?_)
      intro wF nF cF kF
      refine O_end [6] (F' := [(6, _)]) rfl ?_
      refine W_ret ?_
      refine then_ret ?_
      refine retC rfl ag48 sz48 rfl rfl (Cells.of_blk0 kF) ?_
      exact ⟨⟨_, rfl, hr'.chg1 (hk6'.chg0 (c81.trans c82)) rfl rfl cF⟩, (hc6.trans (hc'.trans (c81.trans c82))).own cF (by intro x hx; simp at hx; omega)⟩
    · have h8 : 8 < l'.length := by have := of_decide_eq_false hF; omega
      have e : splitL l' = [l'.take 4, l'.drop 4] := by unfold splitL; rw [if_pos h8]
      rw [e]
      refine W_skipE ?_
      refine W_seq ?_
      refine W_draw (fun wz => Chg [] w' wz) mix (by kernel_rfl) (Chg.drew [] w') ?_
      refine t_read rfl (gn rfl) (fun wz hz => vl_loadAgg ag48 sz48 rfl rfl (Cells.of_blk0 (hk3'.chg0 hz))) rfl rfl ?_
      refine t_pure rfl (gn rfl) (fun _ => vl_move rfl) rfl rfl ?_
      refine t_pure rfl (gn rfl) (fun _ => vl_move rfl) rfl rfl ?_
      refine t_pure rfl (gn rfl) (fun _ => vl_eq (v' := .int .i64 ((at' + 1 : Nat) : Int)) (vl_add rfl rfl (by omega)) (by congr 1)) rfl rfl ?_
      refine t_pure rfl (gn rfl) (fun _ => vl_move rfl) rfl rfl ?_
      refine t_pure rfl (gn rfl) (fun _ => vl_cut_h sl53 sz57 rfl rfl _ rfl (show (4 : Nat) ≤ d by omega)) rfl rfl ?_
      refine t_pure rfl (gn rfl) (fun _ => vl_move rfl) rfl rfl ?_
      refine t_pure rfl (gn rfl) (fun _ => vl_cut_l sl53 sz57 rfl rfl _ rfl (show (4 : Nat) ≤ l'.length by omega)) rfl rfl ?_
      refine t_st rfl (gn rfl) (st_buildSlice ap46 rfl (vs := [_, _]) rfl (css := [_, _]) ⟨rfl, rfl, trivial⟩ rfl rfl (cs := [_, _]) rfl rfl ?_)
      intro b91 w91 e91 n91 c91 k91
      refine ⟨.inl ((Chg.drew [] w').trans c91), ?_⟩
      refine t_st rfl (gn rfl) (st_call bd47 rfl rfl rfl rfl (f47 _ _ ls [l'.take 4, l'.drop 4] at' (at' + 1) w91 (hp'.chg0 ((Chg.drew [] w').trans c91)) (RPg.two k91 (RList.cutL (i := 4) (m := d) (ho'.chg0 ((Chg.drew [] w').trans c91)) (by omega) (by omega) (Nat.le_refl _)) (RList.cutR (i := 4) (ho'.chg0 ((Chg.drew [] w').trans c91)) (by omega) hqd)) (by omega) (by omega) (by omega) (by simp)) ?_)
      rintro v92 w92 ⟨⟨v', rfl, hr'⟩, c92⟩
      obtain ⟨vs', hs', _⟩ := id hr'
      obtain ⟨p', d', rfl, _⟩ := hs'.val
      refine ⟨.inl (((Chg.drew [] w').trans c91).trans c92), ?_⟩
      refine t_st rfl (gn rfl) (st_store sz48 rfl rfl rfl rfl (hk6'.chg0 (((Chg.drew [] w').trans c91).trans c92)) (by simp) (by intro u hu; simp at hu; subst hu; rfl) ?_)
      intro wF nF cF kF
      refine ⟨.inr (by kernel_rfl), ?_⟩
      refine T_end [6] (F' := [(6, _)]) rfl ?_
      refine W_ret ?_
      refine retC rfl ag48 sz48 rfl rfl (Cells.of_blk0 kF) ?_
      exact ⟨⟨_, rfl, hr'.chg1 (hk6'.chg0 (((Chg.drew [] w').trans c91).trans c92)) rfl rfl cF⟩, (hc6.trans (hc'.trans (((Chg.drew [] w').trans c91).trans c92))).own cF (by intro x hx; simp at hx; omega)⟩
end Go.Wk

