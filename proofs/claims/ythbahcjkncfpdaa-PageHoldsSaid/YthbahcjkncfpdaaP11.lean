/-
  Keys; the law's text of keys.
-/
import Derived.Test.YthbahcjkncfpdaaP10
namespace Go.Wk
open Go.Proofs
set_option maxRecDepth 10000

def keysOf (ls : List (List Ent)) : List (List ByteArray) := ls.map fun l => l.map (·.1)
theorem keysOf_take1 {ls : List (List Ent)} {j : Nat} {x : List Ent} (h : ls[j]? = some x) : keysOf (ls.take (j + 1)) = keysOf (ls.take j) ++ [x.map (·.1)] := by
  rw [List.take_add_one, h]
  simp [keysOf]

theorem f12_nil (w : World) : Ret Try.prog 12 #[.pointer none] w fun r w' => r = .slice none 0 0 ∧ w' = w := by
  refine Ret.of_W (args := [_]) Try.func12 rfl rfl rfl rfl ?_

  refine W_seq ?_
  refine W_region ?_
  refine O_go (gn rfl) (St.vl (vl_assign rfl) rfl rfl ?_)
  refine O_end [0, 2] (F' := [(0, _), (2, _)]) rfl ?_
  refine W_seq ?_
  refine W_seq ?_
  refine W_region ?_
  refine O_go (gn rfl) (St.vl (vl_move rfl) rfl rfl ?_)
  refine O_go (gn rfl) (St.vl (vl_pnil pt25 rfl rfl) rfl rfl ?_)
  refine O_end [0, 2, 9] (F' := [(0, _), (2, _), (9, _)]) rfl ?_
  refine W_cond_true rfl ?_
  refine W_seq ?_
  refine W_region ?_
  refine O_go (gn rfl) (St.vl (vl_assign rfl) rfl rfl ?_)
  refine O_end [2] (F' := [(2, _)]) rfl ?_
  refine W_ret ?_
  refine then_ret ?_
  refine ret1 rfl rfl ?_
  exact ⟨rfl, rfl⟩

theorem f12 (p : Nat) (ls : List (List Ent)) (w : World) (hp : Pg w p ls) (h8 : ∀ l ∈ ls, l.length ≤ 8) (hn : ls.length ≤ 65536) :
    Ret Try.prog 12 #[.pointer (some ⟨p, 0, none⟩)] w fun r w' => IsKeys w' 37 9 r (keysOf ls) ∧ Chg [] w w' := by
  obtain ⟨v, hb, hpg⟩ := id hp
  obtain ⟨vs, hsl, hal⟩ := id hpg
  obtain ⟨pv, cv, rfl, hlc⟩ := hsl.val
  refine Ret.of_W (args := [_]) Try.func12 rfl rfl rfl rfl ?_

  refine W_seq ?_
  refine W_region ?_
  refine O_go (gn rfl) (St.vl (vl_assign rfl) rfl rfl ?_)
  refine O_end [0, 2] (F' := [(0, _), (2, _)]) rfl ?_
  refine W_seq ?_
  refine W_seq ?_
  refine W_region ?_
  refine O_go (gn rfl) (St.vl (vl_move rfl) rfl rfl ?_)
  refine O_go (gn rfl) (St.vl (vl_pnil pt25 rfl rfl) rfl rfl ?_)
  refine O_end [0, 2, 9] (F' := [(0, _), (2, _), (9, _)]) rfl ?_
  refine W_cond_false rfl ?_
  refine W_skipE ?_
  refine W_seq ?_
  refine W_seq ?_
  refine W_region ?_
  refine O_go (gn rfl) (St.vl (vl_move rfl) rfl rfl ?_)
  refine O_go (gn rfl) (St.vl (vl_nilCheck rfl) rfl rfl ?_)
  refine O_go (gn rfl) (St.vl (vl_fieldAddr fo67_0 rfl) rfl rfl ?_)
  refine O_go (gn rfl) (St.vl (vl_load ag65 rfl (hb.cell' rfl)) rfl rfl ?_)
  refine O_go (gn rfl) (St.vl (vl_len sl65 rfl) rfl rfl ?_)
  refine O_go (gn rfl) (St.vl (vl_move rfl) rfl rfl ?_)
  refine O_end [2, 13, 14, 15] (F' := [(2, _), (13, _), (14, _), (15, _)]) rfl ?_
  refine W_block ?_
  refine W_loop [2, 13, 14, 15] (fun m F wx => Chg [] w wx ∧ ∃ (j : Nat) (out : Value), m = ls.length - j ∧ j ≤ ls.length ∧ F = [(2, out), (13, .slice pv ls.length cv), (14, .int .i64 ls.length), (15, .int .i64 j)] ∧ IsKeys wx 37 9 out (keysOf (ls.take j)) ∧ (∀ b ∈ blkOf out, w.heap.size ≤ b)) (m := ls.length - 0) ⟨Chg.refl _ _, 0, _, rfl, Nat.zero_le _, rfl, ⟨[], IsSl.nil _ _ _, trivial⟩, by simp [blkOf]⟩ ?_
  rintro m F wx ⟨hcx, j, out, rfl, hj, rfl, ho, hof⟩
  refine W_seq ?_
  refine W_region ?_
  refine O_go (gn rfl) (St.vl (vl_lss rfl rfl) rfl rfl ?_)
  refine O_end [2, 13, 14, 15, 16] (F' := [(2, _), (13, _), (14, _), (15, _), (16, _)]) rfl ?_
  refine W_seq ?_
  refine W_cond rfl (fun hT => ?_) (fun hF => ?_)
  · refine W_skipE ?_
    have hlt : j < ls.length := by simpa using hT
    have hx : ls[j]? = some ls[j] := by simp [hlt]
    have hx8 := h8 _ (List.mem_of_getElem? hx)
    generalize ls[j] = l at hx hx8
    obtain ⟨b, off, cap, u, hv, hc, hl⟩ := (hpg.chg0 hcx).at hx
    simp only [Value.slice.injEq] at hv
    obtain ⟨rfl, _, rfl⟩ := hv
    obtain ⟨pu, cu, rfl, _⟩ := IsSl.val hl
    refine W_seq ?_
    refine W_block ?_
    refine W_seq ?_
    refine W_region ?_
    refine O_go (gn rfl) (St.vl (vl_indexAddr sl65 sz71 rfl rfl _ rfl hlt) rfl rfl ?_)
    refine O_go (gn rfl) (St.vl (vl_load ag71 rfl hc) rfl rfl ?_)
    refine O_go (gn rfl) (St.vl (vl_assign rfl) rfl rfl ?_)
    refine O_end [2, 4, 13, 14, 15] (F' := [(2, _), (4, _), (13, _), (14, _), (15, _)]) rfl ?_
    refine W_seq ?_
    refine W_region ?_
    refine O_go (gn rfl) (St.vl (vl_assign rfl) rfl rfl ?_)
    refine O_end [2, 4, 5, 13, 14, 15] (F' := [(2, _), (4, _), (5, _), (13, _), (14, _), (15, _)]) rfl ?_
    refine W_seq ?_
    refine W_seq ?_
    refine W_region ?_
    refine O_go (gn rfl) (St.vl (vl_move rfl) rfl rfl ?_)
    refine O_go (gn rfl) (St.vl (vl_len sl71 rfl) rfl rfl ?_)
    refine O_go (gn rfl) (St.vl (vl_move rfl) rfl rfl ?_)
    refine O_end [2, 5, 13, 14, 15, 19, 20, 21] (F' := [(2, _), (5, _), (13, _), (14, _), (15, _), (19, _), (20, _), (21, _)]) rfl ?_
    refine W_block ?_
    refine W_loop [2, 5, 13, 14, 15, 19, 20, 21] (fun m F wy => Chg [] wx wy ∧ ∃ (i : Nat) (k : Value), m = l.length - i ∧ i ≤ l.length ∧ F = [(2, out), (5, k), (13, .slice (some ⟨b, off, none⟩) ls.length cv), (14, .int .i64 ls.length), (15, .int .i64 j), (19, .slice pu l.length cu), (20, .int .i64 l.length), (21, .int .i64 i)] ∧ IsSl wy 9 1 k i ((l.take i).map fun x => Value.string x.1) ∧ (∀ b ∈ blkOf k, wx.heap.size ≤ b)) (m := l.length - 0) ⟨Chg.refl _ _, 0, _, rfl, Nat.zero_le _, rfl, IsSl.nil _ _ _, by simp [blkOf]⟩ ?_
    rintro m F wy ⟨hcy, i, k, rfl, hi, rfl, hk, hkf⟩
    refine W_seq ?_
    refine W_region ?_
    refine O_go (gn rfl) (St.vl (vl_lss rfl rfl) rfl rfl ?_)
    refine O_end [2, 5, 13, 14, 15, 19, 20, 21, 22] (F' := [(2, _), (5, _), (13, _), (14, _), (15, _), (19, _), (20, _), (21, _), (22, _)]) rfl ?_
    refine W_seq ?_
    refine W_cond rfl (fun hT => ?_) (fun hF => ?_)
    · refine W_skipE ?_
      have hlti : i < l.length := by simpa using hT
      have hxi : l[i]? = some l[i] := by simp [hlti]
      generalize l[i] = x at hxi
      obtain ⟨x1, x2⟩ := x
      obtain ⟨bl, ol, cl, hvl, hcl⟩ := (IsList.chg0 hl hcy).at' hxi
      simp only [Value.slice.injEq] at hvl
      obtain ⟨rfl, _, rfl⟩ := hvl
      refine W_seq ?_
      refine W_block ?_
      refine W_seq ?_
      refine W_region ?_
      refine O_go (gn rfl) (St.vl (vl_indexAddr sl71 sz69 rfl rfl _ rfl hlti) rfl rfl ?_)
      refine O_go (gn rfl) (St.vl (vl_loadAgg ag69 sz69 rfl rfl hcl) rfl rfl ?_)
      refine O_go (gn rfl) (st_alloc zr69 rfl rfl ?_)
      intro b7 w7 e7 n7 c7 k7
      refine O_go (gn rfl) (st_store sz69 rfl rfl rfl rfl k7 (by simp) (by intro u hu; simp at hu; rcases hu with rfl | rfl <;> rfl) ?_)
      intro w8 n8 c8 k8
      refine O_end [2, 5, 7, 13, 14, 15, 19, 20, 21] (F' := [(2, _), (5, _), (7, _), (13, _), (14, _), (15, _), (19, _), (20, _), (21, _)]) rfl ?_
      have c8' : Chg [] wy w8 := c7.own c8 (by intro x hx; simp at hx; omega)
      refine W_region ?_
      refine O_go (gn rfl) (St.vl (vl_move rfl) rfl rfl ?_)
      refine O_go (gn rfl) (St.vl (vl_fieldAddr fo69_0 rfl) rfl rfl ?_)
      refine O_go (gn rfl) (St.vl (vl_load ag9 rfl (k8.cell' rfl)) rfl rfl ?_)
      refine O_go (gn rfl) (st_buildSlice ap37 rfl (vs := [_]) rfl (css := [_]) ⟨rfl, trivial⟩ rfl rfl (cs := [_]) rfl rfl ?_)
      intro b28 w28 e28 n28 c28 k28
      refine O_go (gn rfl) (st_append ap37 sl37 rfl rfl (hk.chg0 (c8'.trans c28)) (IsSl.of_blk (n := 1) k28 rfl (by simp [maxLen]) (by intro u hu; simp at hu; subst hu; rfl)) (by simp only [maxLen]; omega) (by omega) rfl ?_)
      intro v29 w29 i29 c29 o29 z29
      refine O_go (gn rfl) (St.vl (vl_assign rfl) rfl rfl ?_)
      refine O_endN [2, 5, 13, 14, 15, 19, 20, 21] (F' := [(2, _), (5, _), (13, _), (14, _), (15, _), (19, _), (20, _), (21, _)]) rfl ?_
      refine block_normal ?_
      refine W_region ?_
      refine O_go (gn rfl) (St.vl (vl_add rfl rfl (by omega)) rfl rfl ?_)
      refine O_go (gn rfl) (St.vl (vl_move rfl) rfl rfl ?_)
      refine O_endN [2, 5, 13, 14, 15, 19, 20, 21] (F' := [(2, _), (5, _), (13, _), (14, _), (15, _), (19, _), (20, _), (21, _)]) rfl ?_
      have hcz := (c8'.trans c28)
      have hcw : Chg [] wx w29 := (hcy.trans hcz).own c29 hkf
      refine ⟨l.length - (i + 1), by omega, hcw, i + 1, v29, rfl, by omega, rfl, ?_, ?_⟩
      · rw [List.take_add_one, hxi]
        simpa using i29
      · rcases o29 with o29 | ⟨b', o29, hb'⟩
        · rw [o29]; exact hkf
        · rw [o29]; intro y hy; simp at hy; subst hy; have := (hcy.trans hcz).size; omega
    · refine W_exit ?_
      repeat (first | refine then_exit ?_ | refine blockF_other rfl ?_)
      refine blockF_exit _ ?_
      have he : i = l.length := by
        have : ¬ (i < l.length) := by simpa using hF
        omega
      subst he
      rw [List.take_length] at hk
      obtain ⟨us, hs1, hs2⟩ := ho.chg0 hcy
      obtain ⟨pk, ck, rfl, _⟩ := hk.val
      refine W_region ?_
      refine O_go (gn rfl) (St.vl (vl_move rfl) rfl rfl ?_)
      refine O_go (gn rfl) (St.vl (vl_move rfl) rfl rfl ?_)
      refine O_go (gn rfl) (st_buildSlice ap35 rfl (vs := [_]) rfl (css := [_]) ⟨rfl, trivial⟩ rfl rfl (cs := [_]) rfl rfl ?_)
      intro b33 w33 e33 n33 c33 k33
      refine O_go (gn rfl) (st_append ap35 sl35 rfl rfl (hs1.chg0 c33) (IsSl.of_blk (n := 1) k33 rfl (by simp [maxLen]) (by intro u hu; simp at hu; subst hu; rfl)) (by simp only [maxLen, keysOf, List.length_map, List.length_take]; omega) (by simp only [keysOf, List.length_map, List.length_take]; omega) rfl ?_)
      intro v34 w34 i34 c34 o34 z34
      refine O_go (gn rfl) (St.vl (vl_assign rfl) rfl rfl ?_)
      refine O_endN [2, 13, 14, 15] (F' := [(2, _), (13, _), (14, _), (15, _)]) rfl ?_
      refine block_normal ?_
      refine W_region ?_
      refine O_go (gn rfl) (St.vl (vl_add rfl rfl (by omega)) rfl rfl ?_)
      refine O_go (gn rfl) (St.vl (vl_move rfl) rfl rfl ?_)
      refine O_endN [2, 13, 14, 15] (F' := [(2, _), (13, _), (14, _), (15, _)]) rfl ?_
      have hcz := (hcx.trans hcy).trans c33
      refine ⟨ls.length - (j + 1), by omega, hcz.own c34 hof, j + 1, v34, rfl, by omega, rfl, ?_, ?_⟩
      · refine ⟨us ++ [.slice pk l.length ck], ?_, ?_⟩
        · rw [keysOf_take1 hx, List.length_append]
          exact i34
        · rw [keysOf_take1 hx, List.map_append]
          refine AllS.append (AllS.chg c34 (AllS.apartSl (hs1.chg0 c33) rfl (hs2.chg0 c33)) (hs2.chg0 c33)) ⟨?_, trivial⟩
          have := IsSl.chg (hk.chg0 c33) c34 (IsSl.apartSl (hk.chg0 c33) (hs1.chg0 c33) rfl)
          simpa [Function.comp_def] using this
      · rcases o34 with o34 | ⟨b', o34, hb'⟩
        · rw [o34]; exact hof
        · rw [o34]; intro y hy; simp at hy; subst hy; have := hcz.size; omega
  · refine W_exit ?_
    repeat (first | refine then_exit ?_ | refine blockF_other rfl ?_)
    refine blockF_exit _ ?_
    have he : j = ls.length := by
      have : ¬ (j < ls.length) := by simpa using hF
      omega
    subst he
    refine W_seq ?_
    refine W_region ?_
    refine O_go (gn rfl) (St.vl (vl_move rfl) rfl rfl ?_)
    refine O_go (gn rfl) (St.vl (vl_assign rfl) rfl rfl ?_)
    refine O_end [2] (F' := [(2, _)]) rfl ?_
    refine W_ret ?_
    refine ret1 rfl rfl ?_
    rw [List.take_length] at ho
    exact ⟨ho, hcx⟩

/-! ### the law's text -/
def keysT1 (s : ByteArray) (l : List ByteArray) : ByteArray := l.foldl (fun s k => s ++ k ++ ⟨#[44]⟩) s
def keysT (s : ByteArray) (kss : List (List ByteArray)) : ByteArray := kss.foldl (fun s l => keysT1 s l ++ ⟨#[124]⟩) s

theorem f23 (v : Value) (kss : List (List ByteArray)) (w : World) (hk : IsKeys w 37 9 v kss) (hb : ∀ l ∈ kss, l.length ≤ 8 ∧ ∀ k ∈ l, k.size ≤ 64) (hn : kss.length ≤ 65536) :
    Ret Try.prog 23 #[v] w fun r w' => r = .string (keysT ⟨#[]⟩ kss) ∧ w' = w := by
  obtain ⟨us, hs1, hs2⟩ := id hk
  obtain ⟨p, c, rfl, _⟩ := hs1.val
  refine Ret.of_W (args := [_]) Try.func23 rfl rfl rfl rfl ?_

  refine W_seq ?_
  refine W_region ?_
  refine O_go (gn rfl) (St.vl (vl_assign rfl) rfl rfl ?_)
  refine O_end [0] (F' := [(0, _)]) rfl ?_
  refine W_seq ?_
  refine W_region ?_
  refine O_go (gn rfl) (St.vl (vl_assign rfl) rfl rfl ?_)
  refine O_end [0, 3] (F' := [(0, _), (3, _)]) rfl ?_
  refine W_seq ?_
  refine W_seq ?_
  refine W_region ?_
  refine O_go (gn rfl) (St.vl (vl_assign rfl) rfl rfl ?_)
  refine O_end [0, 3, 4] (F' := [(0, _), (3, _), (4, _)]) rfl ?_
  refine W_block ?_
  refine W_loop [0, 3, 4] (fun m F wx => wx = w ∧ ∃ (j : Nat), m = kss.length - j ∧ j ≤ kss.length ∧ F = [(0, .slice p kss.length c), (3, .string (keysT ⟨#[]⟩ (kss.take j))), (4, .int .i64 j)] ∧ (keysT ⟨#[]⟩ (kss.take j)).size ≤ j * 600) (m := kss.length - 0) ⟨rfl, 0, rfl, Nat.zero_le _, rfl, Nat.le_refl 0⟩ ?_
  rintro m F wx ⟨rfl, j, rfl, hj, rfl, hsz⟩
  refine W_seq ?_
  refine W_seq ?_
  refine W_region ?_
  refine O_go (gn rfl) (St.vl (vl_move rfl) rfl rfl ?_)
  refine O_go (gn rfl) (St.vl (vl_move rfl) rfl rfl ?_)
  refine O_go (gn rfl) (St.vl (vl_len sl35 rfl) rfl rfl ?_)
  refine O_go (gn rfl) (St.vl (vl_lss rfl rfl) rfl rfl ?_)
  refine O_end [0, 3, 4, 9] (F' := [(0, _), (3, _), (4, _), (9, _)]) rfl ?_
  refine W_cond rfl (fun hT => ?_) (fun hF => ?_)
  · refine W_skipE ?_
    have hlt : j < kss.length := by simpa using hT
    have hx : kss[j]? = some kss[j] := by simp [hlt]
    have hlb := hb _ (List.mem_of_getElem? hx)
    generalize kss[j] = l at hx hlb
    obtain ⟨b, off, cap, pu, cu, hv, hc, hl⟩ := hk.at hx
    simp only [Value.slice.injEq] at hv
    obtain ⟨rfl, _, rfl⟩ := hv
    generalize hs : keysT ⟨#[]⟩ (kss.take j) = s at *
    refine W_seq ?_
    refine W_block ?_
    refine W_seq ?_
    refine W_seq ?_
    refine W_region ?_
    refine O_go (gn rfl) (St.vl (vl_assign rfl) rfl rfl ?_)
    refine O_end [0, 3, 4, 5] (F' := [(0, _), (3, _), (4, _), (5, _)]) rfl ?_
    refine W_block ?_
    refine W_loop [0, 3, 4, 5] (fun m F wy => wy = wx ∧ ∃ (i : Nat), m = l.length - i ∧ i ≤ l.length ∧ F = [(0, .slice (some ⟨b, off, none⟩) kss.length c), (3, .string (keysT1 s (l.take i))), (4, .int .i64 j), (5, .int .i64 i)] ∧ (keysT1 s (l.take i)).size ≤ j * 600 + i * 66) (m := l.length - 0) ⟨rfl, 0, rfl, Nat.zero_le _, rfl, by simp [keysT1]; exact hsz⟩ ?_
    rintro m F wy ⟨rfl, i, rfl, hi, rfl, hsz1⟩
    refine W_seq ?_
    refine W_seq ?_
    refine W_region ?_
    refine O_go (gn rfl) (St.vl (vl_move rfl) rfl rfl ?_)
    refine O_go (gn rfl) (St.vl (vl_move rfl) rfl rfl ?_)
    refine O_go (gn rfl) (St.vl (vl_move rfl) rfl rfl ?_)
    refine O_go (gn rfl) (St.vl (vl_indexAddr sl35 sz37 rfl rfl _ rfl hlt) rfl rfl ?_)
    refine O_go (gn rfl) (St.vl (vl_load ag37 rfl hc) rfl rfl ?_)
    refine O_go (gn rfl) (St.vl (vl_len sl37 rfl) rfl rfl ?_)
    refine O_go (gn rfl) (St.vl (vl_lss rfl rfl) rfl rfl ?_)
    refine O_end [0, 3, 4, 5, 18] (F' := [(0, _), (3, _), (4, _), (5, _), (18, _)]) rfl ?_
    refine W_cond rfl (fun hT => ?_) (fun hF => ?_)
    · refine W_skipE ?_
      have hlti : i < l.length := by simpa using hT
      have hxi : l[i]? = some l[i] := by simp [hlti]
      have hxb := hlb.2 _ (List.mem_of_getElem? hxi)
      generalize l[i] = x at hxi hxb
      obtain ⟨bl, ol, cl, ul, hvl, hul, hcl⟩ := hl.at1 hlti
      simp only [Value.slice.injEq] at hvl
      obtain ⟨rfl, _, rfl⟩ := hvl
      rw [List.getElem?_map, hxi] at hul
      simp only [Option.map_some, Option.some.injEq] at hul
      subst hul
      have e1 : keysT1 s (l.take (i + 1)) = keysT1 s (l.take i) ++ x ++ ⟨#[44]⟩ := by
        rw [List.take_add_one, hxi]
        simp [keysT1]
      have e2 : (⟨#[44]⟩ : ByteArray).size = 1 := rfl
      have e3 : (keysT1 s (l.take i) ++ x ++ ⟨#[44]⟩).size = (keysT1 s (l.take i)).size + x.size + 1 := by rw [ByteArray.size_append, ByteArray.size_append, e2]
      refine W_seq ?_
      refine W_block ?_
      refine W_region ?_
      refine O_go (gn rfl) (St.vl (vl_move rfl) rfl rfl ?_)
      refine O_go (gn rfl) (St.vl (vl_move rfl) rfl rfl ?_)
      refine O_go (gn rfl) (St.vl (vl_move rfl) rfl rfl ?_)
      refine O_go (gn rfl) (St.vl (vl_indexAddr sl35 sz37 rfl rfl _ rfl hlt) rfl rfl ?_)
      refine O_go (gn rfl) (St.vl (vl_load ag37 rfl hc) rfl rfl ?_)
      refine O_go (gn rfl) (St.vl (vl_move rfl) rfl rfl ?_)
      refine O_go (gn rfl) (St.vl (vl_indexAddr sl37 sz9 rfl rfl _ rfl hlti) rfl rfl ?_)
      refine O_go (gn rfl) (St.vl (vl_load ag9 rfl hcl) rfl rfl ?_)
      refine O_go (gn rfl) (St.vl (vl_cat rfl rfl (by omega)) rfl rfl ?_)
      refine O_go (gn rfl) (St.vl (vl_cat rfl rfl (by rw [ByteArray.size_append]; have e2 : (⟨#[44]⟩ : ByteArray).size = 1 := rfl; omega)) rfl rfl ?_)
      refine O_go (gn rfl) (St.vl (vl_assign rfl) rfl rfl ?_)
      refine O_endN [0, 3, 4, 5] (F' := [(0, _), (3, _), (4, _), (5, _)]) rfl ?_
      refine block_normal ?_
      refine W_region ?_
      refine O_go (gn rfl) (St.vl (vl_move rfl) rfl rfl ?_)
      refine O_go (gn rfl) (St.vl (vl_add rfl rfl (by omega)) rfl rfl ?_)
      refine O_go (gn rfl) (St.vl (vl_assign rfl) rfl rfl ?_)
      refine O_endN [0, 3, 4, 5] (F' := [(0, _), (3, _), (4, _), (5, _)]) rfl ?_
      exact ⟨l.length - (i + 1), by omega, rfl, i + 1, rfl, by omega, by rw [e1]; rfl, by rw [e1, e3]; omega⟩
    · refine W_exit ?_
      repeat (first | refine then_exit ?_ | refine blockF_other rfl ?_)
      refine blockF_exit _ ?_
      have he : i = l.length := by
        have : ¬ (i < l.length) := by simpa using hF
        omega
      subst he
      rw [List.take_length] at hsz1 ⊢
      have e1 : keysT ⟨#[]⟩ (kss.take (j + 1)) = keysT1 s l ++ ⟨#[124]⟩ := by
        rw [List.take_add_one, hx]
        simp only [keysT, List.foldl_append, Option.toList_some, List.foldl_cons, List.foldl_nil] at hs ⊢
        rw [hs]
      have e2 : (⟨#[124]⟩ : ByteArray).size = 1 := rfl
      have e3 : (keysT1 s l ++ ⟨#[124]⟩).size = (keysT1 s l).size + 1 := by rw [ByteArray.size_append, e2]
      have hl8 := hlb.1
      refine W_region ?_
      refine O_go (gn rfl) (St.vl (vl_move rfl) rfl rfl ?_)
      refine O_go (gn rfl) (St.vl (vl_cat rfl rfl (by have e2 : (⟨#[124]⟩ : ByteArray).size = 1 := rfl; omega)) rfl rfl ?_)
      refine O_go (gn rfl) (St.vl (vl_assign rfl) rfl rfl ?_)
      refine O_endN [0, 3, 4] (F' := [(0, _), (3, _), (4, _)]) rfl ?_
      refine block_normal ?_
      refine W_region ?_
      refine O_go (gn rfl) (St.vl (vl_move rfl) rfl rfl ?_)
      refine O_go (gn rfl) (St.vl (vl_add rfl rfl (by omega)) rfl rfl ?_)
      refine O_go (gn rfl) (St.vl (vl_assign rfl) rfl rfl ?_)
      refine O_endN [0, 3, 4] (F' := [(0, _), (3, _), (4, _)]) rfl ?_
      exact ⟨kss.length - (j + 1), by omega, rfl, j + 1, rfl, by omega, by rw [e1]; rfl, by rw [e1, e3]; omega⟩
  · refine W_exit ?_
    repeat (first | refine then_exit ?_ | refine blockF_other rfl ?_)
    refine blockF_exit _ ?_
    have he : j = kss.length := by
      have : ¬ (j < kss.length) := by simpa using hF
      omega
    subst he
    refine W_seq ?_
    refine W_region ?_
    refine O_go (gn rfl) (St.vl (vl_move rfl) rfl rfl ?_)
    refine O_go (gn rfl) (St.vl (vl_assign rfl) rfl rfl ?_)
    refine O_end [2] (F' := [(2, _)]) rfl ?_
    refine W_ret ?_
    refine ret1 rfl rfl ?_
    rw [List.take_length]
    exact ⟨rfl, rfl⟩
end Go.Wk

