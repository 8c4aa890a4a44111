/-
  The law's 'few' and 'works'.
-/
import Derived.Test.YthbahcjkncfpdaaP18
namespace Go.Wk
open Go.Proofs
set_option maxRecDepth 10000

/-! ### works: the worked rows, computed -/
def kb (c : UInt8) : ByteArray := ⟨#[c]⟩
def ks9 : List ByteArray := [kb 97, kb 98, kb 99, kb 100, kb 101, kb 102, kb 103, kb 104, kb 105]
def ks4 : List ByteArray := [kb 97, kb 98, kb 101, kb 102]
def stP (j : Nat) : List (List Ent) := (ks9.take j).foldl (fun ls k => pPut ls k (kb 49)) []
def stD : List (List Ent) := pTake (pTake (stP 9) (kb 100)) (kb 99)
def stT (j : Nat) : List (List Ent) := (ks4.take j).foldl (fun ls k => pTake ls k) stD
theorem wf_foldl (f : List (List Ent) → ByteArray → List (List Ent)) (hf : ∀ ls k, WfP ls → WfP (f ls k)) : ∀ (ks : List ByteArray) (ls : List (List Ent)), WfP ls → WfP (ks.foldl f ls)
  | [], _, h => h
  | k :: ks, ls, h => wf_foldl f hf ks _ (hf ls k h)
theorem stP_wf (j : Nat) : WfP (stP j) := wf_foldl _ (fun _ _ h => h.put _ _) _ _ WfP.nil
theorem stD_wf : WfP stD := ((stP_wf 9).take _).take _
theorem stT_wf (j : Nat) : WfP (stT j) := wf_foldl _ (fun _ _ h => h.take _) _ _ stD_wf
theorem stP_succ {j : Nat} {k : ByteArray} (h : ks9[j]? = some k) : stP (j + 1) = pPut (stP j) k (kb 49) := by
  unfold stP
  rw [List.take_add_one, h]
  simp
theorem stT_succ {j : Nat} {k : ByteArray} (h : ks4[j]? = some k) : stT (j + 1) = pTake (stT j) k := by
  unfold stT
  rw [List.take_add_one, h]
  simp
theorem stP_none : ∀ j, j < 9 → getP (stP j) (ks9.getD j ⟨#[]⟩) = none := by decide +kernel
theorem stT_some : ∀ j, j < 4 → getP (stT j) (ks4.getD j ⟨#[]⟩) = some (kb 49) := by decide +kernel
theorem stP_len : ∀ j, j < 10 → (stP j).length ≤ 10 := by decide +kernel
theorem stT_len : ∀ j, j < 5 → (stT j).length ≤ 10 := by decide +kernel
theorem stD_len : (pTake (stP 9) (kb 100)).length ≤ 10 := by decide +kernel
theorem txA : keysT ⟨#[]⟩ (keysOf (stP 9)) = ⟨#[97,44,98,44,99,44,100,44,124,101,44,102,44,103,44,104,44,105,44,124]⟩ := by decide +kernel
theorem txB : keysT ⟨#[]⟩ (keysOf stD) = ⟨#[97,44,98,44,101,44,102,44,103,44,104,44,105,44,124]⟩ := by decide +kernel
theorem txC : keysT ⟨#[]⟩ (keysOf (stT 4)) = ⟨#[103,44,104,44,105,44,124]⟩ := by decide +kernel
theorem txN : (stT 4).flatten.length = 3 := by decide +kernel
theorem kbP : ∀ l ∈ keysOf (stP 9), l.length ≤ 8 ∧ ∀ k ∈ l, k.size ≤ 64 := by decide +kernel
theorem kbD : ∀ l ∈ keysOf stD, l.length ≤ 8 ∧ ∀ k ∈ l, k.size ≤ 64 := by decide +kernel
theorem kbT : ∀ l ∈ keysOf (stT 4), l.length ≤ 8 ∧ ∀ k ∈ l, k.size ≤ 64 := by decide +kernel
theorem ks9_at {j : Nat} (h : j < 9) : ks9[j]? = some (ks9.getD j ⟨#[]⟩) ∧ (ks9.getD j ⟨#[]⟩).size ≤ 2000 := by
  have : ∀ j, j < 9 → ks9[j]? = some (ks9.getD j ⟨#[]⟩) ∧ (ks9.getD j ⟨#[]⟩).size ≤ 2000 := by decide +kernel
  exact this j h
theorem ks4_at {j : Nat} (h : j < 4) : ks4[j]? = some (ks4.getD j ⟨#[]⟩) := by
  have : ∀ j, j < 4 → ks4[j]? = some (ks4.getD j ⟨#[]⟩) := by decide +kernel
  exact this j h

theorem f8 (w : World) : Ret Try.prog 8 #[] w fun r w' => r = .bool true ∧ Chg [] w w' := by
  refine Ret.of_W (args := []) Try.func8 rfl rfl rfl rfl ?_

  refine W_seq ?_
  refine W_region ?_
  refine O_go (gn rfl) (St.vl (vl_assign rfl) rfl rfl ?_)
  refine O_end [] (F' := []) rfl ?_
  refine W_seq ?_
  refine W_region ?_
  refine O_go (gn rfl) (st_call bd9 rfl rfl rfl rfl (f9 _) ?_)
  rintro v14 w14 ⟨p, rfl, hpn, hp14, c14⟩
  refine O_go (gn rfl) (St.vl (vl_assign rfl) rfl rfl ?_)
  refine O_end [1] (F' := [(1, _)]) rfl ?_
  refine W_seq ?_
  refine W_seq ?_
  refine W_region ?_
  refine O_go (gn rfl) (st_buildSlice ap37 rfl (vs := [_, _, _, _, _, _, _, _, _]) rfl (css := [_, _, _, _, _, _, _, _, _]) ⟨rfl, rfl, rfl, rfl, rfl, rfl, rfl, rfl, rfl, trivial⟩ rfl rfl (cs := [_, _, _, _, _, _, _, _, _]) rfl rfl ?_)
  intro b15 w15 e15 n15 c15 k15
  refine O_go (gn rfl) (St.vl (vl_len sl37 rfl) rfl rfl ?_)
  refine O_go (gn rfl) (St.vl (vl_move rfl) rfl rfl ?_)
  refine O_end [1, 15, 16, 17] (F' := [(1, _), (15, _), (16, _), (17, _)]) rfl ?_
  have hk15 : Blk w15 b15 9 (ks9.map Value.string) := k15
  have hp15 := hp14.chg0 c15
  refine W_block ?_
  refine W_loop [1, 15, 16, 17] (fun m F wx => Chg [p] w wx ∧ Blk wx b15 9 (ks9.map Value.string) ∧ ∃ j : Nat, m = 9 - j ∧ j ≤ 9 ∧ F = [(1, .pointer (some ⟨p, 0, none⟩)), (15, .slice (some ⟨b15, 0, none⟩) 9 9), (16, .int .i64 (9 : Nat)), (17, .int .i64 j)] ∧ Pg wx p (stP j)) (m := 9 - 0) ⟨(c14.trans c15).any, hk15, 0, rfl, Nat.zero_le _, rfl, hp15⟩ ?_
  rintro m F wx ⟨hcx, hkx, j, rfl, hj, rfl, hpx⟩
  refine W_seq ?_
  refine W_region ?_
  refine O_go (gn rfl) (St.vl (vl_lss rfl rfl) rfl rfl ?_)
  refine O_end [1, 15, 16, 17, 18] (F' := [(1, _), (15, _), (16, _), (17, _), (18, _)]) rfl ?_
  refine W_seq ?_
  refine W_cond rfl (fun hT => ?_) (fun hF => ?_)
  · refine W_skipE ?_
    have hlt : j < 9 := by have := of_decide_eq_true hT; omega
    have hkey := ks9_at hlt
    have hno := stP_none j hlt
    generalize ks9.getD j ⟨#[]⟩ = key at hkey hno
    have hsucc := stP_succ hkey.1
    have h10 := f10 p (stP j) key (kb 49) wx hpx (stP_wf j) (by have := stP_len j (by omega); omega) hkey.2
    rw [hno] at h10
    refine W_seq ?_
    refine W_block ?_
    refine W_seq ?_
    refine W_region ?_
    refine O_go (gn rfl) (St.vl (vl_indexAddr sl37 sz9 rfl rfl _ rfl hlt) rfl rfl ?_)
    refine O_go (gn rfl) (St.vl (vl_load ag9 rfl (hkx.cell' (show (ks9.map Value.string)[0 + j * 1]? = some (.string key) by rw [List.getElem?_map, show 0 + j * 1 = j by omega, hkey.1]; rfl))) rfl rfl ?_)
    refine O_go (gn rfl) (St.vl (vl_assign rfl) rfl rfl ?_)
    refine O_end [1, 3, 15, 16, 17] (F' := [(1, _), (3, _), (15, _), (16, _), (17, _)]) rfl ?_
    refine W_seq ?_
    refine W_region ?_
    refine O_go (gn rfl) (St.vl (vl_move rfl) rfl rfl ?_)
    refine O_go (gn rfl) (St.vl (vl_move rfl) rfl rfl ?_)
    refine O_go (gn rfl) (st_call bd10 rfl rfl rfl rfl h10 ?_)
    rintro v24 w24 ⟨rfl, hp24, c24⟩
    refine O_go (gn rfl) (St.vl (vl_move rfl) rfl rfl ?_)
    refine O_go (gn rfl) (St.vl (vl_extract rfl rfl) rfl rfl ?_)
    refine O_go (gn rfl) (St.vl (vl_extract rfl rfl) rfl rfl ?_)
    refine O_go (gn rfl) (St.vl (vl_extract rfl rfl) rfl rfl ?_)
    refine O_go (gn rfl) (St.vl (vl_assign rfl) rfl rfl ?_)
    refine O_go (gn rfl) (St.vl (vl_assign rfl) rfl rfl ?_)
    refine O_go (gn rfl) (St.vl (vl_assign rfl) rfl rfl ?_)
    refine O_end [1, 5, 6, 15, 16, 17] (F' := [(1, _), (5, _), (6, _), (15, _), (16, _), (17, _)]) rfl ?_
    refine W_seq ?_
    refine W_region ?_
    refine O_go (gn rfl) (St.vl (vl_move rfl) rfl rfl ?_)
    refine O_go (gn rfl) (St.vl (vl_move rfl) rfl rfl ?_)
    refine O_go (gy rfl rfl rfl) (St.vl (vl_move rfl) rfl rfl ?_)
    refine O_go (gy rfl rfl rfl) (st_call bd18 rfl rfl rfl rfl (f18 _ _) ?_)
    rintro v31 w31 ⟨rfl, rfl⟩
    refine O_go (gy rfl rfl rfl) (St.vl (vl_is (b' := false) (vl_ine rfl rfl) (by simp)) rfl rfl ?_)
    refine O_go (gn rfl) (St.vl (vl_pick_f rfl rfl) rfl rfl ?_)
    refine O_end [1, 15, 16, 17, 33] (F' := [(1, _), (15, _), (16, _), (17, _), (33, _)]) rfl ?_
    refine W_cond_false rfl ?_
    refine W_skip ?_
    refine block_normal ?_
    refine W_region ?_
    refine O_go (gn rfl) (St.vl (vl_add rfl rfl (by omega)) rfl rfl ?_)
    refine O_go (gn rfl) (St.vl (vl_move rfl) rfl rfl ?_)
    refine O_endN [1, 15, 16, 17] (F' := [(1, _), (15, _), (16, _), (17, _)]) rfl ?_
    have hbn : b15 ∉ [p] := by
      obtain ⟨vp, hbp, _⟩ := hpx
      simpa using Blk.ne hkx hbp rfl
    exact ⟨9 - (j + 1), by omega, hcx.transS c24, hkx.chg c24 hbn, j + 1, rfl, by omega, rfl, by rw [hsucc]; exact hp24⟩
  refine W_exit ?_
  repeat (first | refine then_exit ?_ | refine blockF_other rfl ?_)
  refine blockF_exit _ ?_
  have he : j = 9 := by have := of_decide_eq_false hF; omega
  subst he
  refine W_seq ?_
  refine W_region ?_
  refine O_go (gn rfl) (St.vl (vl_move rfl) rfl rfl ?_)
  refine O_go (gn rfl) (st_call bd12 rfl rfl rfl rfl (f12 p (stP 9) _ hpx (stP_wf 9).le (by have := stP_len 9 (by omega); omega)) ?_)
  rintro v36 w36 ⟨hk36, c36⟩
  refine O_go (gn rfl) (st_call bd23 rfl rfl rfl rfl (f23 _ (keysOf (stP 9)) _ hk36 kbP (by rw [length_keysOf]; have := stP_len 9 (by omega); omega)) ?_)
  rintro v37 w37 ⟨rfl, rfl⟩
  refine O_go (gn rfl) (St.vl (vl_assign rfl) rfl rfl ?_)
  refine O_end [1, 7] (F' := [(1, _), (7, _)]) rfl ?_
  refine W_seq ?_
  refine W_region ?_
  refine O_go (gn rfl) (St.vl (vl_move rfl) rfl rfl ?_)
  refine O_go (gn rfl) (st_call bd11 rfl rfl rfl rfl (f11 p (stP 9) (kb 100) _ (hpx.chg0 c36) (stP_wf 9) (by have := stP_len 9 (by omega); omega)) ?_)
  rintro v39 w39 ⟨rfl, hp39, c39⟩
  refine O_end [1, 7] (F' := [(1, _), (7, _)]) rfl ?_
  refine W_seq ?_
  refine W_region ?_
  refine O_go (gn rfl) (St.vl (vl_move rfl) rfl rfl ?_)
  refine O_go (gn rfl) (st_call bd11 rfl rfl rfl rfl (f11 p _ (kb 99) _ hp39 ((stP_wf 9).take _) (by have := stD_len; omega)) ?_)
  rintro v41 w41 ⟨rfl, hp41, c41⟩
  refine O_end [1, 7] (F' := [(1, _), (7, _)]) rfl ?_
  have hp41 : Pg w41 p stD := hp41
  have hDl : stD.length ≤ 10 := stT_len 0 (by omega)
  refine W_seq ?_
  refine W_region ?_
  refine O_go (gn rfl) (St.vl (vl_move rfl) rfl rfl ?_)
  refine O_go (gn rfl) (st_call bd12 rfl rfl rfl rfl (f12 p stD _ hp41 stD_wf.le (by omega)) ?_)
  rintro v43 w43 ⟨hk43, c43⟩
  refine O_go (gn rfl) (st_call bd23 rfl rfl rfl rfl (f23 _ (keysOf stD) _ hk43 kbD (by rw [length_keysOf]; omega)) ?_)
  rintro v44 w44 ⟨rfl, rfl⟩
  refine O_go (gn rfl) (St.vl (vl_assign rfl) rfl rfl ?_)
  refine O_end [1, 7, 8] (F' := [(1, _), (7, _), (8, _)]) rfl ?_
  have hcB := (((hcx.trans c36).transS c39).transS c41).trans c43
  have hp43 := hp41.chg0 c43
  refine W_seq ?_
  refine W_seq ?_
  refine W_region ?_
  refine O_go (gn rfl) (st_buildSlice ap37 rfl (vs := [_, _, _, _]) rfl (css := [_, _, _, _]) ⟨rfl, rfl, rfl, rfl, trivial⟩ rfl rfl (cs := [_, _, _, _]) rfl rfl ?_)
  intro b45 w45 e45 n45 c45 k45
  refine O_go (gn rfl) (St.vl (vl_len sl37 rfl) rfl rfl ?_)
  refine O_go (gn rfl) (St.vl (vl_move rfl) rfl rfl ?_)
  refine O_end [1, 7, 8, 45, 46, 47] (F' := [(1, _), (7, _), (8, _), (45, _), (46, _), (47, _)]) rfl ?_
  have hk45 : Blk w45 b45 9 (ks4.map Value.string) := k45
  refine W_block ?_
  refine W_loop [1, 7, 8, 45, 46, 47] (fun m F wx => Chg [p] w wx ∧ Blk wx b45 9 (ks4.map Value.string) ∧ ∃ j : Nat, m = 4 - j ∧ j ≤ 4 ∧ F = [(1, .pointer (some ⟨p, 0, none⟩)), (7, .string (keysT ⟨#[]⟩ (keysOf (stP 9)))), (8, .string (keysT ⟨#[]⟩ (keysOf stD))), (45, .slice (some ⟨b45, 0, none⟩) 4 4), (46, .int .i64 (4 : Nat)), (47, .int .i64 j)] ∧ Pg wx p (stT j)) (m := 4 - 0) ⟨hcB.trans c45, hk45, 0, rfl, Nat.zero_le _, rfl, hp43.chg0 c45⟩ ?_
  rintro m F wx ⟨hcx, hkx, j, rfl, hj, rfl, hpx⟩
  refine W_seq ?_
  refine W_region ?_
  refine O_go (gn rfl) (St.vl (vl_lss rfl rfl) rfl rfl ?_)
  refine O_end [1, 7, 8, 45, 46, 47, 48] (F' := [(1, _), (7, _), (8, _), (45, _), (46, _), (47, _), (48, _)]) rfl ?_
  refine W_seq ?_
  refine W_cond rfl (fun hT => ?_) (fun hF => ?_)
  · refine W_skipE ?_
    have hlt : j < 4 := by have := of_decide_eq_true hT; omega
    have hkey := ks4_at hlt
    have hno := stT_some j hlt
    generalize ks4.getD j ⟨#[]⟩ = key at hkey hno
    have hsucc := stT_succ hkey
    have h11 := f11 p (stT j) key wx hpx (stT_wf j) (by have := stT_len j (by omega); omega)
    rw [hno] at h11
    refine W_seq ?_
    refine W_block ?_
    refine W_seq ?_
    refine W_region ?_
    refine O_go (gn rfl) (St.vl (vl_indexAddr sl37 sz9 rfl rfl _ rfl hlt) rfl rfl ?_)
    refine O_go (gn rfl) (St.vl (vl_load ag9 rfl (hkx.cell' (show (ks4.map Value.string)[0 + j * 1]? = some (.string key) by rw [List.getElem?_map, show 0 + j * 1 = j by omega, hkey]; rfl))) rfl rfl ?_)
    refine O_go (gn rfl) (St.vl (vl_assign rfl) rfl rfl ?_)
    refine O_end [1, 7, 8, 10, 45, 46, 47] (F' := [(1, _), (7, _), (8, _), (10, _), (45, _), (46, _), (47, _)]) rfl ?_
    refine W_seq ?_
    refine W_region ?_
    refine O_go (gn rfl) (St.vl (vl_move rfl) rfl rfl ?_)
    refine O_go (gn rfl) (St.vl (vl_move rfl) rfl rfl ?_)
    refine O_go (gn rfl) (st_call bd11 rfl rfl rfl rfl h11 ?_)
    rintro v54 w54 ⟨rfl, hp54, c54⟩
    refine O_go (gn rfl) (St.vl (vl_move rfl) rfl rfl ?_)
    refine O_go (gn rfl) (St.vl (vl_extract rfl rfl) rfl rfl ?_)
    refine O_go (gn rfl) (St.vl (vl_extract rfl rfl) rfl rfl ?_)
    refine O_go (gn rfl) (St.vl (vl_extract rfl rfl) rfl rfl ?_)
    refine O_go (gn rfl) (St.vl (vl_assign rfl) rfl rfl ?_)
    refine O_go (gn rfl) (St.vl (vl_assign rfl) rfl rfl ?_)
    refine O_go (gn rfl) (St.vl (vl_assign rfl) rfl rfl ?_)
    refine O_end [1, 7, 8, 12, 13, 45, 46, 47] (F' := [(1, _), (7, _), (8, _), (12, _), (13, _), (45, _), (46, _), (47, _)]) rfl ?_
    refine W_seq ?_
    refine W_region ?_
    refine O_go (gn rfl) (St.vl (vl_move rfl) rfl rfl ?_)
    refine O_go (gn rfl) (St.vl (vl_not rfl) rfl rfl ?_)
    refine O_go (gn rfl) (St.vl (vl_move rfl) rfl rfl ?_)
    refine O_go (gy rfl rfl rfl) (St.vl (vl_move rfl) rfl rfl ?_)
    refine O_go (gy rfl rfl rfl) (st_call bd18 rfl rfl rfl rfl (f18 _ _) ?_)
    rintro v62 w62 ⟨rfl, rfl⟩
    refine O_go (gy rfl rfl rfl) (St.vl (vl_is (b' := false) (vl_ine rfl rfl) (by simp)) rfl rfl ?_)
    refine O_go (gn rfl) (St.vl (vl_pick_f rfl rfl) rfl rfl ?_)
    refine O_end [1, 7, 8, 45, 46, 47, 64] (F' := [(1, _), (7, _), (8, _), (45, _), (46, _), (47, _), (64, _)]) rfl ?_
    refine W_cond_false rfl ?_
    refine W_skip ?_
    refine block_normal ?_
    refine W_region ?_
    refine O_go (gn rfl) (St.vl (vl_add rfl rfl (by omega)) rfl rfl ?_)
    refine O_go (gn rfl) (St.vl (vl_move rfl) rfl rfl ?_)
    refine O_endN [1, 7, 8, 45, 46, 47] (F' := [(1, _), (7, _), (8, _), (45, _), (46, _), (47, _)]) rfl ?_
    have hbn : b45 ∉ [p] := by
      obtain ⟨vp, hbp, _⟩ := hpx
      simpa using Blk.ne hkx hbp rfl
    exact ⟨4 - (j + 1), by omega, hcx.transS c54, hkx.chg c54 hbn, j + 1, rfl, by omega, rfl, by rw [hsucc]; exact hp54⟩
  refine W_exit ?_
  repeat (first | refine then_exit ?_ | refine blockF_other rfl ?_)
  refine blockF_exit _ ?_
  have he : j = 4 := by have := of_decide_eq_false hF; omega
  subst he
  have hTl := stT_len 4 (by omega)
  refine W_seq ?_
  refine W_region ?_
  refine O_go (gn rfl) (St.vl (vl_move rfl) rfl rfl ?_)
  refine O_go (gn rfl) (St.vl (vl_is (b' := true) (vl_seq rfl rfl) (decide_eq_true txA)) rfl rfl ?_)
  refine O_go (gn rfl) (St.vl (vl_move rfl) rfl rfl ?_)
  refine O_go (gy rfl rfl rfl) (St.vl (vl_move rfl) rfl rfl ?_)
  refine O_go (gy rfl rfl rfl) (St.vl (vl_is (b' := true) (vl_seq rfl rfl) (decide_eq_true txB)) rfl rfl ?_)
  refine O_go (gn rfl) (St.vl (vl_pick_t rfl rfl) rfl rfl ?_)
  refine O_go (gn rfl) (St.vl (vl_move rfl) rfl rfl ?_)
  refine O_go (gy rfl rfl rfl) (St.vl (vl_move rfl) rfl rfl ?_)
  refine O_go (gy rfl rfl rfl) (st_call bd12 rfl rfl rfl rfl (f12 p (stT 4) _ hpx (stT_wf 4).le (by omega)) ?_)
  rintro v74 w74 ⟨hk74, c74⟩
  refine O_go (gy rfl rfl rfl) (st_call bd23 rfl rfl rfl rfl (f23 _ (keysOf (stT 4)) _ hk74 kbT (by rw [length_keysOf]; omega)) ?_)
  rintro v75 w75 ⟨rfl, rfl⟩
  refine O_go (gy rfl rfl rfl) (St.vl (vl_is (b' := true) (vl_seq rfl rfl) (decide_eq_true txC)) rfl rfl ?_)
  refine O_go (gn rfl) (St.vl (vl_pick_t rfl rfl) rfl rfl ?_)
  refine O_go (gn rfl) (St.vl (vl_move rfl) rfl rfl ?_)
  refine O_go (gy rfl rfl rfl) (St.vl (vl_move rfl) rfl rfl ?_)
  refine O_go (gy rfl rfl rfl) (st_call bd13 rfl rfl rfl rfl (f13 p (stT 4) _ (hpx.chg0 c74) (stT_wf 4).le (by omega)) ?_)
  rintro v80 w80 ⟨rfl, rfl⟩
  refine O_go (gy rfl rfl rfl) (St.vl (vl_is (b' := true) (vl_ieq rfl rfl) (decide_eq_true (by rw [txN]; rfl))) rfl rfl ?_)
  refine O_go (gn rfl) (St.vl (vl_pick_t rfl rfl) rfl rfl ?_)
  refine O_go (gn rfl) (St.vl (vl_assign rfl) rfl rfl ?_)
  refine O_end [0] (F' := [(0, _)]) rfl ?_
  refine W_ret ?_
  refine ret1 rfl rfl ?_
  have hcz := hcx.trans c74
  exact ⟨rfl, (Chg.refl [] w).own hcz (by intro x hx; simp at hx; subst hx; exact hpn)⟩
end Go.Wk

