/-
  From: the iterator, as a range over a function wants it.
-/
import Derived.Test.YthbahcjkncfpdaaP26
namespace Go.Wk
open Go.Proofs
set_option maxRecDepth 10000

/-- The entries from a key on. -/
def fromP (l : List Ent) (key : ByteArray) : List Ent := l.filter fun x => !blt x.1 key
theorem fromP_append (a b : List Ent) (key : ByteArray) : fromP (a ++ b) key = fromP a key ++ fromP b key := by simp [fromP]

theorem IsSl.kp {w w' : World} {e k : Nat} {v : Value} {len : Nat} {xs : List Value} (h : IsSl w e k v len xs) (hk : ∀ b ∈ blkOf v, w'.heap[b]? = w.heap[b]?) : IsSl w' e k v len xs := by
  rcases h with h | ⟨b, off, cap, c, rfl, h⟩
  · exact .inl h
  · exact .inr ⟨b, off, cap, c, rfl, ⟨(hk b (by simp [blkOf])).trans h.blk, h.le, h.max, h.fit, h.xs, h.one⟩⟩
theorem Kp.sl {S : List Nat} {w w' : World} (hk : ∀ k, k < w.heap.size → k ∉ S → w'.heap[k]? = w.heap[k]?) {e k : Nat} {v : Value} {len : Nat} {xs : List Value} (h : IsSl w e k v len xs)
    (hS : ∀ b ∈ S, ∃ e' c, Blk w b e' c ∧ Nat.beq e e' = false) : IsSl w' e k v len xs := by
  refine IsSl.kp h fun b hb => hk b (h.lt b hb) fun hm => ?_
  obtain ⟨e', c, hbk, hne⟩ := hS b hm
  exact h.apart hbk hne b hb (by simp)

theorem fromP_take {ls : List (List Ent)} {j : Nat} {l : List Ent} (h : ls[j]? = some l) (key : ByteArray) : fromP (ls.take (j + 1)).flatten key = fromP (ls.take j).flatten key ++ fromP l key := by
  rw [flat_take1 h, fromP_append]
theorem fromP_take1 {l : List Ent} {i : Nat} {x : Ent} (h : l[i]? = some x) (key : ByteArray) : fromP (l.take (i + 1)) key = fromP (l.take i) key ++ (if blt x.1 key then [] else [x]) := by
  rw [List.take_add_one, h, fromP_append]
  congr 1
  cases hb : blt x.1 key <;> simp [fromP, hb]
theorem fromP_pre {ls : List (List Ent)} {j : Nat} {l : List Ent} (h : ls[j]? = some l) (key : ByteArray) (i : Nat) : fromP (ls.take j).flatten key ++ fromP (l.take i) key <+: fromP ls.flatten key := by
  rw [← fromP_append]
  refine List.IsPrefix.filter _ ?_
  conv => rhs; rw [split_at h]
  rw [List.flatten_append, List.flatten_cons]
  refine List.prefix_append_right_inj _ |>.2 ?_
  exact (List.take_prefix _ _).trans (List.prefix_append _ _)

theorem scopeN {Q : Exit → Fr → World → Prop} {F : Fr} {w : World} (h : Q .normal F w) : scopeF Q .normal F w := h
theorem yb {A B : Prop} {e : Ending} (h : (e = .returned (.bool true) ∧ A) ∨ (e = .returned (.bool false) ∧ B)) : ∃ b, e = .returned (.bool b) ∧ ((b = true ∧ A) ∨ (b = false ∧ B)) := by
  rcases h with ⟨rfl, h⟩ | ⟨rfl, h⟩
  · exact ⟨true, rfl, .inl ⟨rfl, h⟩⟩
  · exact ⟨false, rfl, .inr ⟨rfl, h⟩⟩

theorem f32_seqA {α : Type} (val : α → Ent) (al : List α) (w : World) (b5 b3 : Nat) (v : Value) (ls : List (List Ent)) (key : ByteArray) (S0 : List Nat) (h5 : Blk w b5 65 [v]) (hp : IsPages w v ls) (h3 : Blk w b3 9 [.string key])
    (hl : ls.length ≤ 65536) (h8 : ∀ l ∈ ls, l.length ≤ 8) (k3 : b3 ∉ S0) (hS : ∀ b ∈ S0, ∃ e c, Blk w b e c ∧ Nat.beq 71 e = false ∧ Nat.beq 69 e = false) (ha : fromP ls.flatten key = al.map val) :
    SeqStopsK Fence.wide 2 Try.prog 32 #[.pointer (some ⟨b5, 0, none⟩), .pointer (some ⟨b3, 0, none⟩)] (fun x : α => #[.string (val x).1, .string (val x).2]) (Kp S0 w.heap.size)
      (fun xs => xs = al) (fun pre => pre ≠ [] ∧ pre <+: al) al.length w := by
  intro l J Jx W hW hJ hJx hY h0
  have hab : ∀ {pre : List α} {W1 W2 : World}, Chg [] W1 W2 → J pre W1 → J pre W2 := fun hc hj => hJ _ _ _ none hj hc.grown0 (fun _ e => by cases e)
  have hcw : Chg [] w W := ⟨hW.os, hW.tape, hW.output, hW.size, fun k hk _ => hW.block k hk⟩
  obtain ⟨vs, hsl, hal⟩ := id hp
  have fsl : ∀ {W1 : World}, Kp S0 w.heap.size w W1 → IsSl W1 71 1 v ls.length vs := fun hk => Kp.sl hk.2 hsl (fun b hb => let ⟨e, c, hc, h1, _⟩ := hS b hb; ⟨e, c, hc, h1⟩)
  have fls : ∀ {W1 : World} {u : Value} {L : List Ent}, Kp S0 w.heap.size w W1 → IsList w u L → IsList W1 u L := fun hk hL => Kp.sl hk.2 hL (fun b hb => let ⟨e, c, hc, _, h2⟩ := hS b hb; ⟨e, c, hc, h2⟩)
  have fb3 : ∀ {W1 : World}, Kp S0 w.heap.size w W1 → Blk W1 b3 9 [.string key] := fun hk => (hk.2 b3 h3.lt k3).trans h3
  have hkw : Kp S0 w.heap.size w W := ⟨hcw.size, fun k hk _ => hcw.block k hk (by simp)⟩
  have hmono : ∀ {W1 W2 : World}, Kp S0 w.heap.size w W1 → Chg [] W1 W2 → Kp S0 w.heap.size w W2 := fun hk hc => ⟨Nat.le_trans hk.1 hc.size, fun k hlt hn => (hc.block k (Nat.lt_of_lt_of_le hlt hk.1) (by simp)).trans (hk.2 k hlt hn)⟩
  refine CallsIn.mono (R := fun e W' => ∃ u, e = .returned u ∧ (fun (_ : Value) W' => (∃ xs, xs = al ∧ J xs W') ∨ (∃ pre, (pre ≠ [] ∧ pre <+: al) ∧ Jx pre W')) u W') ?_ (fun e W' ⟨u, he, h⟩ => ⟨⟨u, he⟩, h⟩)
  refine CallsIn.of_WX (args := [_, _, _]) Try.func32 rfl rfl rfl rfl (WX_of_W ?_)

  refine W_scope ?_
  refine W_seq ?_
  refine W_label ?_
  refine W_seq ?_
  obtain ⟨pv, cv, rfl, hcv⟩ := hsl.val
  refine W_region ?_
  refine O_go (gn rfl) (St.vl (vl_load ag65 rfl ((h5.chg0 hcw).cell' rfl)) rfl rfl ?_)
  refine O_go (gn rfl) (St.vl (vl_len sl65 rfl) rfl rfl ?_)
  refine O_go (gn rfl) (St.vl (vl_move rfl) rfl rfl ?_)
  refine O_end [0, 2, 8, 9, 10] (F' := [(0, _), (2, _), (8, _), (9, _), (10, _)]) rfl ?_
  refine W_block ?_
  refine W_loop [0, 2, 8, 9, 10] (fun m F wx => ∃ j : Nat, m = ls.length - j ∧ j ≤ ls.length ∧ F = [(0, .func (.yield l) #[] #[]), (2, .pointer (some ⟨b3, 0, none⟩)), (8, .slice pv ls.length cv), (9, .int .i64 ls.length), (10, .int .i64 j)] ∧ Kp S0 w.heap.size w wx ∧ J (al.take (fromP (ls.take j).flatten key).length) wx) (m := ls.length - 0) ⟨0, rfl, Nat.zero_le _, rfl, hkw, h0⟩ ?_
  rintro m F wx ⟨j, rfl, hj, rfl, hkx, hJx0⟩
  refine W_seq ?_
  refine W_region ?_
  refine O_go (gn rfl) (St.vl (vl_lss rfl rfl) rfl rfl ?_)
  refine O_end [0, 2, 8, 9, 10, 11] (F' := [(0, _), (2, _), (8, _), (9, _), (10, _), (11, _)]) rfl ?_
  refine W_seq ?_
  refine W_cond rfl (fun hT => ?_) (fun hF => ?_)
  · refine W_skipE ?_
    have hlt : j < ls.length := by have := of_decide_eq_true hT; omega
    have hx : ls[j]? = some ls[j] := by simp [hlt]
    generalize ls[j] = L at hx
    have hL8 := h8 L (List.mem_of_getElem? hx)
    refine W_seq ?_
    refine W_block ?_
    refine W_seq ?_
    obtain ⟨u, hus, hlw⟩ := hal.at hx
    obtain ⟨bb, off, cap, u', hv, hu', hcell⟩ := (fsl hkx).at1 hlt
    rw [hus] at hu'
    simp only [Option.some.injEq] at hu'
    subst hu'
    simp only [Value.slice.injEq] at hv
    obtain ⟨rfl, _, rfl⟩ := hv
    obtain ⟨pu, cu, rfl, _⟩ := IsSl.val hlw
    refine W_region ?_
    refine O_go (gn rfl) (St.vl (vl_indexAddr sl65 sz71 rfl rfl _ rfl hlt) rfl rfl ?_)
    refine O_go (gn rfl) (St.vl (vl_load ag71 rfl hcell) rfl rfl ?_)
    refine O_go (gn rfl) (St.vl (vl_assign rfl) rfl rfl ?_)
    refine O_end [0, 2, 5, 8, 9, 10] (F' := [(0, _), (2, _), (5, _), (8, _), (9, _), (10, _)]) rfl ?_
    refine W_seq ?_
    refine W_region ?_
    refine O_go (gn rfl) (St.vl (vl_move rfl) rfl rfl ?_)
    refine O_go (gn rfl) (St.vl (vl_len sl71 rfl) rfl rfl ?_)
    refine O_go (gn rfl) (St.vl (vl_move rfl) rfl rfl ?_)
    refine O_end [0, 2, 8, 9, 10, 14, 15, 16] (F' := [(0, _), (2, _), (8, _), (9, _), (10, _), (14, _), (15, _), (16, _)]) rfl ?_
    refine W_block ?_
    refine W_loop [0, 2, 8, 9, 10, 14, 15, 16] (fun m F wy => ∃ i : Nat, m = L.length - i ∧ i ≤ L.length ∧ F = [(0, .func (.yield l) #[] #[]), (2, .pointer (some ⟨b3, 0, none⟩)), (8, .slice (some ⟨bb, off, none⟩) ls.length cv), (9, .int .i64 ls.length), (10, .int .i64 j), (14, .slice pu L.length cu), (15, .int .i64 L.length), (16, .int .i64 i)] ∧ Kp S0 w.heap.size w wy ∧ J (al.take (fromP (ls.take j).flatten key ++ fromP (L.take i) key).length) wy) (m := L.length - 0) ⟨0, rfl, Nat.zero_le _, rfl, hkx, by simpa [fromP] using hJx0⟩ ?_
    rintro m F wy ⟨i, rfl, hi, rfl, hky, hJy⟩
    refine W_seq ?_
    refine W_region ?_
    refine O_go (gn rfl) (St.vl (vl_lss rfl rfl) rfl rfl ?_)
    refine O_end [0, 2, 8, 9, 10, 14, 15, 16, 17] (F' := [(0, _), (2, _), (8, _), (9, _), (10, _), (14, _), (15, _), (16, _), (17, _)]) rfl ?_
    refine W_seq ?_
    refine W_cond rfl (fun hT => ?_) (fun hF => ?_)
    · refine W_skipE ?_
      have hli : i < L.length := by have := of_decide_eq_true hT; omega
      have hxi : L[i]? = some L[i] := by simp [hli]
      generalize L[i] = x at hxi
      obtain ⟨bu, ou, cu', hvu, hcu⟩ := (fls hky hlw).at' hxi
      simp only [Value.slice.injEq] at hvu
      obtain ⟨rfl, _, rfl⟩ := hvu
      have hb3 := fb3 hky
      refine W_seq ?_
      refine W_block ?_
      refine W_seq ?_
      refine W_region ?_
      refine O_go (gn rfl) (St.vl (vl_indexAddr sl71 sz69 rfl rfl _ rfl hli) rfl rfl ?_)
      refine O_go (gn rfl) (St.vl (vl_loadAgg ag69 sz69 rfl rfl hcu) rfl rfl ?_)
      refine O_go (gn rfl) (st_alloc zr69 rfl rfl ?_)
      intro b7 w7 e7 n7 c7 k7
      refine O_go (gn rfl) (st_store sz69 rfl rfl rfl rfl k7 (by simp) (by intro u hu; simp at hu; rcases hu with rfl | rfl <;> rfl) ?_)
      intro wA nA cA kA
      refine O_end [0, 2, 7, 8, 9, 10, 14, 15, 16] (F' := [(0, _), (2, _), (7, _), (8, _), (9, _), (10, _), (14, _), (15, _), (16, _)]) rfl ?_
      have hcA : Chg [] wy wA := c7.own cA (by intro y hy; simp at hy; omega)
      have hkA := hmono hky hcA
      have hJA := hab hcA hJy
      have hb3A := hb3.chg0 hcA
      have hkey := kA.cell' (i := 0) rfl
      have hval := kA.cell' (i := 1) rfl
      refine W_seq ?_
      cases hb : blt x.1 key with
      | true =>
        refine W_region ?_
        refine O_go (gn rfl) (St.vl (vl_fieldAddr fo69_0 rfl) rfl rfl ?_)
        refine O_go (gn rfl) (St.vl (vl_load ag9 rfl hkey) rfl rfl ?_)
        refine O_go (gn rfl) (St.vl (vl_load ag9 rfl (hb3A.cell' rfl)) rfl rfl ?_)
        refine O_go (gn rfl) (St.vl (vl_is (b' := false) (vl_sge rfl rfl) (by rw [hb]; rfl)) rfl rfl ?_)
        refine O_go (gn rfl) (St.vl (vl_move rfl) rfl rfl ?_)
        refine O_guard_no rfl rfl rfl rfl rfl rfl ?_
        refine O_guard_no rfl rfl rfl rfl rfl rfl ?_
        refine O_guard_no rfl rfl rfl rfl rfl rfl ?_
        refine O_guard_no rfl rfl rfl rfl rfl rfl ?_
        refine O_guard_no rfl rfl rfl rfl rfl rfl ?_
        refine O_guard_no rfl rfl rfl rfl rfl rfl ?_
        refine O_guard_no rfl rfl rfl rfl rfl rfl ?_
        refine O_go (gn rfl) (St.vl (vl_pick_f rfl rfl) rfl rfl ?_)
        refine O_end [0, 2, 8, 9, 10, 14, 15, 16, 32] (F' := [(0, _), (2, _), (8, _), (9, _), (10, _), (14, _), (15, _), (16, _), (32, _)]) rfl ?_
        refine W_cond_false rfl ?_
        refine W_skip ?_
        refine block_normal ?_
        refine W_region ?_
        refine O_go (gn rfl) (St.vl (vl_add rfl rfl (by omega)) rfl rfl ?_)
        refine O_go (gn rfl) (St.vl (vl_move rfl) rfl rfl ?_)
        refine O_endN [0, 2, 8, 9, 10, 14, 15, 16] (F' := [(0, _), (2, _), (8, _), (9, _), (10, _), (14, _), (15, _), (16, _)]) rfl ?_
        refine ⟨L.length - (i + 1), by omega, i + 1, rfl, by omega, rfl, hkA, ?_⟩
        rw [fromP_take1 hxi, hb, if_pos rfl, List.append_nil]
        exact hJA
      | false =>
        have hpre : fromP (ls.take j).flatten key ++ fromP (L.take (i + 1)) key <+: fromP ls.flatten key := fromP_pre hx key (i + 1)
        rw [fromP_take1 hxi, hb, if_neg (by simp), ← List.append_assoc] at hpre
        rw [ha] at hpre
        generalize hm : fromP (ls.take j).flatten key ++ fromP (L.take i) key = M at *
        have hlen : M.length < al.length := by
          have := hpre.length_le
          rw [List.length_append, List.length_map] at this
          simp only [List.length_cons, List.length_nil] at this
          omega
        have hat : al[M.length]? = some al[M.length] := by simp [hlen]
        generalize al[M.length] = a at hat
        have hval' : val a = x := by
          obtain ⟨r, hr⟩ := hpre
          have h1 : (al.map val)[M.length]? = some x := by rw [← hr]; simp
          rw [List.getElem?_map, hat] at h1
          simpa using h1
        subst hval'
        have htake : al.take (M.length + 1) = al.take M.length ++ [a] := by rw [List.take_add_one, hat]; rfl
        have hy := hY _ a wA hJA (by rw [List.length_take]; omega)
        refine W_regionX ?_
        refine X_go (gn rfl) rfl (St.vl (vl_fieldAddr fo69_0 rfl) rfl rfl ?_)
        refine X_go (gn rfl) rfl (St.vl (vl_load ag9 rfl hkey) rfl rfl ?_)
        refine X_go (gn rfl) rfl (St.vl (vl_load ag9 rfl (hb3A.cell' rfl)) rfl rfl ?_)
        refine X_go (gn rfl) rfl (St.vl (vl_is (b' := true) (vl_sge rfl rfl) (by rw [hb]; rfl)) rfl rfl ?_)
        refine X_go (gn rfl) rfl (St.vl (vl_move rfl) rfl rfl ?_)
        refine X_go (gy rfl rfl rfl) rfl (St.vl (vl_move rfl) rfl rfl ?_)
        refine X_go (gy rfl rfl rfl) rfl (St.vl (vl_fieldAddr fo69_0 rfl) rfl rfl ?_)
        refine X_go (gy rfl rfl rfl) rfl (St.vl (vl_load ag9 rfl hkey) rfl rfl ?_)
        refine X_go (gy rfl rfl rfl) rfl (St.vl (vl_fieldAddr fo69_1 rfl) rfl rfl ?_)
        refine X_go (gy rfl rfl rfl) rfl (St.vl (vl_load ag9 rfl hval) rfl rfl ?_)
        refine X_yield (gy rfl rfl rfl) rfl rfl rfl hy ?_
        rintro v30 w30 hR30
        obtain ⟨b30, rfl, hb30⟩ := yb hR30
        refine ⟨_, rfl, ?_⟩
        refine X_go (gy rfl rfl rfl) rfl (St.vl (vl_not rfl) rfl rfl ?_)
        refine X_go (gn rfl) rfl (St.vl (vl_pick_t rfl rfl) rfl rfl ?_)
        refine X_end [0, 2, 8, 9, 10, 14, 15, 16, 32] (F' := [(0, _), (2, _), (8, _), (9, _), (10, _), (14, _), (15, _), (16, _), (32, _)]) rfl ?_
        rcases hb30 with ⟨rfl, hJ30, hk30⟩ | ⟨rfl, hJ30⟩
        · refine W_cond_false rfl ?_
          refine W_skip ?_
          refine block_normal ?_
          refine W_region ?_
          refine O_go (gn rfl) (St.vl (vl_add rfl rfl (by omega)) rfl rfl ?_)
          refine O_go (gn rfl) (St.vl (vl_move rfl) rfl rfl ?_)
          refine O_endN [0, 2, 8, 9, 10, 14, 15, 16] (F' := [(0, _), (2, _), (8, _), (9, _), (10, _), (14, _), (15, _), (16, _)]) rfl ?_
          refine ⟨L.length - (i + 1), by omega, i + 1, rfl, by omega, rfl, hkA.trans hk30, ?_⟩
          rw [fromP_take1 hxi, hb, if_neg (by simp), ← List.append_assoc, hm, List.length_append]
          show J (al.take (M.length + 1)) _
          rw [htake]
          exact hJ30
        · refine W_cond_true rfl ?_
          refine W_exit ?_
          repeat (first | refine then_exit ?_ | refine blockF_other rfl ?_)
          refine blockF_exit _ ?_
          refine scopeN ?_
          refine end0 rfl ?_
          exact .inr ⟨_, ⟨by simp, by rw [← htake]; exact List.take_prefix _ _⟩, hJ30⟩
    · refine W_exit ?_
      repeat (first | refine then_exit ?_ | refine blockF_other rfl ?_)
      refine blockF_exit _ ?_
      refine block_normal ?_
      have he : i = L.length := by have := of_decide_eq_false hF; omega
      subst he
      refine W_region ?_
      refine O_go (gn rfl) (St.vl (vl_add rfl rfl (by omega)) rfl rfl ?_)
      refine O_go (gn rfl) (St.vl (vl_move rfl) rfl rfl ?_)
      refine O_endN [0, 2, 8, 9, 10] (F' := [(0, _), (2, _), (8, _), (9, _), (10, _)]) rfl ?_
      refine ⟨ls.length - (j + 1), by omega, j + 1, rfl, by omega, rfl, hky, ?_⟩
      rw [fromP_take hx]
      rwa [List.take_length] at hJy
  · refine W_exit ?_
    repeat (first | refine then_exit ?_ | refine blockF_other rfl ?_)
    refine blockF_exit _ ?_
    refine scopeN ?_
    refine end0 rfl ?_
    have he : j = ls.length := by have := of_decide_eq_false hF; omega
    subst he
    rw [List.take_length, ha, List.length_map, List.take_length] at hJx0
    exact .inl ⟨_, rfl, hJx0⟩

theorem f32_seq (w : World) (b5 b3 : Nat) (v : Value) (ls : List (List Ent)) (key : ByteArray) (S0 : List Nat) (h5 : Blk w b5 65 [v]) (hp : IsPages w v ls) (h3 : Blk w b3 9 [.string key])
    (hl : ls.length ≤ 65536) (h8 : ∀ l ∈ ls, l.length ≤ 8) (k3 : b3 ∉ S0) (hS : ∀ b ∈ S0, ∃ e c, Blk w b e c ∧ Nat.beq 71 e = false ∧ Nat.beq 69 e = false) {all : List Ent} (ha : fromP ls.flatten key = all) :
    SeqStopsK Fence.wide 2 Try.prog 32 #[.pointer (some ⟨b5, 0, none⟩), .pointer (some ⟨b3, 0, none⟩)] (fun x : Ent => #[.string x.1, .string x.2]) (Kp S0 w.heap.size)
      (fun xs => xs = all) (fun pre => pre ≠ [] ∧ pre <+: all) all.length w :=
  f32_seqA id all w b5 b3 v ls key S0 h5 hp h3 hl h8 k3 hS (by rw [List.map_id]; exact ha)
end Go.Wk

