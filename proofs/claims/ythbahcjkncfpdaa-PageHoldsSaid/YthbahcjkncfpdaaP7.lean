/-
  Pages: what putting and taking do, in lists; Put.
-/
import Derived.Test.YthbahcjkncfpdaaP6
namespace Go.Wk
open Go.Proofs
set_option maxRecDepth 10000

/-- Pages as they should be: no page is empty, none has more than eight, all keys rise. -/
structure WfP (ls : List (List Ent)) : Prop where
  ne : ∀ l ∈ ls, l ≠ []
  le : ∀ l ∈ ls, l.length ≤ 8
  srt : Srt ls.flatten

theorem WfP.each {ls : List (List Ent)} (h : WfP ls) : ∀ l ∈ ls, Srt l := (List.pairwise_flatten.1 h.srt).1
theorem firstK_mem {l : List Ent} (h : l ≠ []) : ∃ x ∈ l, firstK l = x.1 := by
  cases l with
  | nil => exact absurd rfl h
  | cons x l => exact ⟨x, by simp, rfl⟩
theorem WfP.firsts {ls : List (List Ent)} (h : WfP ls) : SrtF ls := by
  refine List.Pairwise.imp_of_mem ?_ (List.pairwise_flatten.1 h.srt).2
  intro a b ha hb hab
  obtain ⟨x, hx, e1⟩ := firstK_mem (h.ne a ha)
  obtain ⟨y, hy, e2⟩ := firstK_mem (h.ne b hb)
  rw [e1, e2]
  exact hab x hx y hy

def getP (ls : List (List Ent)) (key : ByteArray) : Option ByteArray :=
  match ls[cntN ls key - 1]? with
  | some l => if hasK l key then (l[lbN l key]?).map (·.2) else none
  | none => none
def putL (l : List Ent) (key val : ByteArray) : List Ent := if hasK l key then l.set (lbN l key) (key, val) else l.take (lbN l key) ++ [(key, val)] ++ l.drop (lbN l key)
def splitL (l : List Ent) : List (List Ent) := if 8 < l.length then [l.take 4, l.drop 4] else [l]
def pPut (ls : List (List Ent)) (key val : ByteArray) : List (List Ent) :=
  match ls[cntN ls key - 1]? with
  | some l => ls.take (cntN ls key - 1) ++ splitL (putL l key val) ++ ls.drop (cntN ls key - 1 + 1)
  | none => [[(key, val)]]

theorem hasK_at {l : List Ent} {key : ByteArray} (h : hasK l key = true) : ∃ v, l[lbN l key]? = some (key, v) := by
  unfold hasK hasAt at h
  rw [List.getElem?_map] at h
  cases hx : l[lbN l key]? with
  | none => simp [hx] at h
  | some x => simp [hx] at h; exact ⟨x.2, by rw [← h]⟩
theorem lbN_le (l : List Ent) (key : ByteArray) : lbN l key ≤ l.length := (List.takeWhile_prefix _).length_le

theorem flat_set {es : List Ent} {i : Nat} {x : Ent} (hi : i < es.length) : flat (es.set i x) = flat (es.take i) ++ (.string x.1 :: .string x.2 :: flat (es.drop (i + 1))) := by
  rw [List.set_eq_take_append_cons_drop, if_pos hi, flat_append, flat_cons]

/-- One entry's value is laid anew. -/
theorem IsList.setVal {w : World} {b off cap : Nat} {c : List Value} {es : List Ent} {i : Nat} {k v x : ByteArray} (hs : SlAt w 69 2 b off es.length cap c (flat es)) (hi : es[i]? = some (k, v)) {w' : World} (hb : Blk w' b 69 (laid c (off + i * 2 + 1) [.string x])) :
    IsList w' (.slice (some ⟨b, off, none⟩) es.length cap) (es.set i (k, x)) := by
  have hil : i < es.length := (List.getElem?_eq_some_iff.1 hi).1
  have hfit := hs.fit
  have hle := hs.le
  have hlen : off + i * 2 + 1 + [Value.string x].length ≤ c.length := by simp; omega
  have hfl := hs.xs
  have hfe : flat es = flat (es.take i) ++ (.string k :: .string v :: flat (es.drop (i + 1))) := by
    have : es.set i (k, v) = es := by
      rw [List.getElem?_eq_some_iff] at hi
      obtain ⟨_, h⟩ := hi
      rw [← h]; exact List.set_getElem_self hil
    have h := flat_set (x := (k, v)) hil
    rw [this] at h
    exact h
  have hti : (flat (es.take i)).length = i * 2 := by rw [length_flat, List.length_take]; omega
  have hdi : (flat (es.drop (i + 1))).length = (es.length - (i + 1)) * 2 := by rw [length_flat, List.length_drop]
  -- the block, in parts
  have hc : c = (c.take off ++ flat (es.take i) ++ [.string k]) ++ ([.string v] ++ (flat (es.drop (i + 1)) ++ c.drop (off + es.length * 2))) := by
    have e1 : c.drop off = flat es ++ c.drop (off + es.length * 2) := by
      rw [hfl, ← List.drop_drop]; exact (List.take_append_drop _ _).symm
    have e2 := List.take_append_drop off c
    rw [e1, hfe] at e2
    refine e2.symm.trans ?_
    simp
  have hA : (c.take off ++ flat (es.take i) ++ [Value.string k]).length = off + i * 2 + 1 := by simp only [List.length_append, List.length_take, hti, List.length_singleton]; omega
  have hl : laid c (off + i * 2 + 1) [.string x] = (c.take off ++ flat (es.take i) ++ [.string k]) ++ ([.string x] ++ (flat (es.drop (i + 1)) ++ c.drop (off + es.length * 2))) := by
    conv => lhs; rw [hc, ← hA]
    rw [laid_mid]
    simp
  refine .inr ⟨b, off, cap, _, by rw [List.length_set], ⟨hb, by rw [List.length_set]; exact hle, hs.max, by rw [length_laid hlen]; exact hfit, ?_, ?_⟩⟩
  · rw [hl, flat_set hil, List.length_set]
    have : (c.take off).length = off := by rw [List.length_take]; omega
    have e0 : (c.take off ++ flat (es.take i) ++ [Value.string k]) ++ ([Value.string x] ++ (flat (es.drop (i + 1)) ++ c.drop (off + es.length * 2))) = c.take off ++ ((flat (es.take i) ++ (.string k :: .string x :: flat (es.drop (i + 1)))) ++ c.drop (off + es.length * 2)) := by simp
    rw [e0, List.drop_left' this, List.take_left' (by simp only [List.length_append, List.length_cons, hti, hdi]; omega)]
  · intro u hu
    simp only [laid, List.mem_append] at hu
    rcases hu with (hu | hu) | hu
    · exact hs.one u (List.mem_of_mem_take hu)
    · simp at hu; subst hu; rfl
    · exact hs.one u (List.mem_of_mem_drop hu)

theorem f10_nil (key val : ByteArray) (w : World) : Ret Try.prog 10 #[.pointer none, .string key, .string val] w fun r w' => r = .tuple #[.string ⟨#[]⟩, .bool false, .int .i64 1] ∧ w' = w := by
  refine Ret.of_W (args := [_, _, _]) Try.func10 rfl rfl rfl rfl ?_

  refine W_seq ?_
  refine W_region ?_
  refine O_go (gn rfl) (St.vl (vl_assign rfl) rfl rfl ?_)
  refine O_go (gn rfl) (St.vl (vl_assign rfl) rfl rfl ?_)
  refine O_go (gn rfl) (St.vl (vl_assign rfl) rfl rfl ?_)
  refine O_end [0, 1, 2] (F' := [(0, _), (1, _), (2, _)]) rfl ?_
  refine W_seq ?_
  refine W_block ?_
  refine W_seq ?_
  refine W_region ?_
  refine O_go (gn rfl) (St.vl (vl_move rfl) rfl rfl ?_)
  refine O_go (gn rfl) (St.vl (vl_pnil pt25 rfl rfl) rfl rfl ?_)
  refine O_go (gn rfl) (St.vl (vl_assign rfl) rfl rfl ?_)
  refine O_end [0, 1, 2, 16] (F' := [(0, _), (1, _), (2, _), (16, _)]) rfl ?_
  refine W_cond_true rfl ?_
  refine W_seq ?_
  refine W_region ?_
  refine O_go (gn rfl) (St.vl (vl_assign rfl) rfl rfl ?_)
  refine O_go (gn rfl) (St.vl (vl_assign rfl) rfl rfl ?_)
  refine O_go (gn rfl) (St.vl (vl_assign rfl) rfl rfl ?_)
  refine O_end [6, 7, 8] (F' := [(6, _), (7, _), (8, _)]) rfl ?_
  refine W_ret ?_
  refine block_ret (then_ret ?_)
  refine ret3 rfl rfl rfl rfl ?_
  exact ⟨rfl, rfl⟩

theorem f10_long (p : Nat) (key val : ByteArray) (w : World) (hk : 2000 < key.size) : Ret Try.prog 10 #[.pointer (some ⟨p, 0, none⟩), .string key, .string val] w fun r w' => r = .tuple #[.string ⟨#[]⟩, .bool false, .int .i64 3] ∧ w' = w := by
  refine Ret.of_W (args := [_, _, _]) Try.func10 rfl rfl rfl rfl ?_

  refine W_seq ?_
  refine W_region ?_
  refine O_go (gn rfl) (St.vl (vl_assign rfl) rfl rfl ?_)
  refine O_go (gn rfl) (St.vl (vl_assign rfl) rfl rfl ?_)
  refine O_go (gn rfl) (St.vl (vl_assign rfl) rfl rfl ?_)
  refine O_end [0, 1, 2] (F' := [(0, _), (1, _), (2, _)]) rfl ?_
  refine W_seq ?_
  refine W_block ?_
  refine W_seq ?_
  refine W_region ?_
  refine O_go (gn rfl) (St.vl (vl_move rfl) rfl rfl ?_)
  refine O_go (gn rfl) (St.vl (vl_pnil pt25 rfl rfl) rfl rfl ?_)
  refine O_go (gn rfl) (St.vl (vl_assign rfl) rfl rfl ?_)
  refine O_end [0, 1, 2, 16] (F' := [(0, _), (1, _), (2, _), (16, _)]) rfl ?_
  refine W_cond_false rfl ?_
  refine W_seq ?_
  refine W_region ?_
  refine O_go (gn rfl) (St.vl (vl_move rfl) rfl rfl ?_)
  refine O_go (gn rfl) (St.vl (vl_slen st9 rfl) rfl rfl ?_)
  refine O_go (gn rfl) (St.vl (vl_gtr rfl rfl) rfl rfl ?_)
  refine O_go (gn rfl) (St.vl (vl_assign rfl) rfl rfl ?_)
  refine O_end [0, 1, 2, 19] (F' := [(0, _), (1, _), (2, _), (19, _)]) rfl ?_
  refine W_cond rfl (fun hT => ?_) (fun hF => ?_)
  · refine W_seq ?_
    refine W_region ?_
    refine O_go (gn rfl) (St.vl (vl_assign rfl) rfl rfl ?_)
    refine O_go (gn rfl) (St.vl (vl_assign rfl) rfl rfl ?_)
    refine O_go (gn rfl) (St.vl (vl_assign rfl) rfl rfl ?_)
    refine O_end [6, 7, 8] (F' := [(6, _), (7, _), (8, _)]) rfl ?_
    refine W_ret ?_
    refine block_ret (then_ret ?_)
    refine ret3 rfl rfl rfl rfl ?_
    exact ⟨rfl, rfl⟩
  · exfalso
    have := of_decide_eq_false hF
    omega

theorem f10 (p : Nat) (ls : List (List Ent)) (key val : ByteArray) (w : World) (hp : Pg w p ls) (hw : WfP ls) (hn : ls.length ≤ 65536) (hk : key.size ≤ 2000) :
    Ret Try.prog 10 #[.pointer (some ⟨p, 0, none⟩), .string key, .string val] w fun r w' => r = .tuple #[.string ((getP ls key).getD ⟨#[]⟩), .bool (getP ls key).isSome, .int .i64 0] ∧ Pg w' p (pPut ls key val) ∧ Chg [p] w w' := by
  obtain ⟨v, hb, hpg⟩ := id hp
  obtain ⟨vs, hsl, hal⟩ := id hpg
  obtain ⟨pv, cv, rfl, hlc⟩ := hsl.val
  refine Ret.of_W (args := [_, _, _]) Try.func10 rfl rfl rfl rfl ?_

  refine W_seq ?_
  refine W_region ?_
  refine O_go (gn rfl) (St.vl (vl_assign rfl) rfl rfl ?_)
  refine O_go (gn rfl) (St.vl (vl_assign rfl) rfl rfl ?_)
  refine O_go (gn rfl) (St.vl (vl_assign rfl) rfl rfl ?_)
  refine O_end [0, 1, 2] (F' := [(0, _), (1, _), (2, _)]) rfl ?_
  refine W_seq ?_
  refine W_block ?_
  refine W_seq ?_
  refine W_region ?_
  refine O_go (gn rfl) (St.vl (vl_move rfl) rfl rfl ?_)
  refine O_go (gn rfl) (St.vl (vl_pnil pt25 rfl rfl) rfl rfl ?_)
  refine O_go (gn rfl) (St.vl (vl_assign rfl) rfl rfl ?_)
  refine O_end [0, 1, 2, 16] (F' := [(0, _), (1, _), (2, _), (16, _)]) rfl ?_
  refine W_cond_false rfl ?_
  refine W_seq ?_
  refine W_region ?_
  refine O_go (gn rfl) (St.vl (vl_move rfl) rfl rfl ?_)
  refine O_go (gn rfl) (St.vl (vl_slen st9 rfl) rfl rfl ?_)
  refine O_go (gn rfl) (St.vl (vl_gtr rfl rfl) rfl rfl ?_)
  refine O_go (gn rfl) (St.vl (vl_assign rfl) rfl rfl ?_)
  refine O_end [0, 1, 2, 19] (F' := [(0, _), (1, _), (2, _), (19, _)]) rfl ?_
  refine W_cond rfl (fun hT => ?_) (fun hF => ?_)
  · exfalso
    have := of_decide_eq_true hT
    omega
  refine W_seq ?_
  refine W_region ?_
  refine O_go (gn rfl) (St.vl (vl_move rfl) rfl rfl ?_)
  refine O_go (gn rfl) (St.vl (vl_nilCheck rfl) rfl rfl ?_)
  refine O_go (gn rfl) (St.vl (vl_fieldAddr fo67_0 rfl) rfl rfl ?_)
  refine O_go (gn rfl) (St.vl (vl_load ag65 rfl (hb.cell' rfl)) rfl rfl ?_)
  refine O_go (gn rfl) (St.vl (vl_len sl65 rfl) rfl rfl ?_)
  refine O_go (gn rfl) (St.vl (vl_ieq rfl rfl) rfl rfl ?_)
  refine O_go (gn rfl) (St.vl (vl_assign rfl) rfl rfl ?_)
  refine O_end [0, 1, 2, 23] (F' := [(0, _), (1, _), (2, _), (23, _)]) rfl ?_
  refine W_cond rfl (fun hT => ?_) (fun hF => ?_)
  · have hls : ls = [] := List.eq_nil_of_length_eq_zero (by have := of_decide_eq_true hT; omega)
    subst hls
    refine W_seq ?_
    refine W_region ?_
    refine O_go (gn rfl) (St.vl (vl_move rfl) rfl rfl ?_)
    refine O_go (gn rfl) (St.vl (vl_move rfl) rfl rfl ?_)
    refine O_go (gn rfl) (St.vl (vl_move rfl) rfl rfl ?_)
    refine O_go (gn rfl) (St.vl (vl_build pl69 zr69 rfl (vs := [_, _]) rfl (css := [_, _]) ⟨rfl, rfl, trivial⟩ rfl rfl (cs := [_, _]) rfl) rfl rfl ?_)
    refine O_go (gn rfl) (st_buildSlice ap71 rfl (vs := [_]) rfl (css := [_]) ⟨rfl, trivial⟩ rfl rfl (cs := [_, _]) rfl rfl ?_)
    intro b34 w34 e34 n34 c34 k34
    refine O_go (gn rfl) (st_buildSlice ap65 rfl (vs := [_]) rfl (css := [_]) ⟨rfl, trivial⟩ rfl rfl (cs := [_]) rfl rfl ?_)
    intro b35 w35 e35 n35 c35 k35
    refine O_go (gn rfl) (St.vl (vl_nilCheck rfl) rfl rfl ?_)
    refine O_go (gn rfl) (St.vl (vl_fieldAddr fo67_0 rfl) rfl rfl ?_)
    refine O_go (gn rfl) (st_store sz65 rfl rfl rfl rfl (hb.chg0 (c34.trans c35)) (by simp) (by intro u hu; simp at hu; subst hu; rfl) ?_)
    intro wX nX cX kX
    refine O_end [] (F' := []) rfl ?_
    refine W_seq ?_
    refine W_region ?_
    refine O_go (gn rfl) (St.vl (vl_assign rfl) rfl rfl ?_)
    refine O_go (gn rfl) (St.vl (vl_assign rfl) rfl rfl ?_)
    refine O_go (gn rfl) (St.vl (vl_assign rfl) rfl rfl ?_)
    refine O_end [6, 7, 8] (F' := [(6, _), (7, _), (8, _)]) rfl ?_
    refine W_ret ?_
    refine block_ret (then_ret ?_)
    refine ret3 rfl rfl rfl rfl ?_
    have hl : IsList w35 (.slice (some ⟨b34, 0, none⟩) 1 1) [(key, val)] := (IsSl.of_blk (n := 1) (k34.chg0 c35) rfl (by simp [maxLen]) (flat_one [(key, val)]) : IsSl w35 69 2 _ 1 (flat [(key, val)]))
    have hpp : IsPages w35 (.slice (some ⟨b35, 0, none⟩) 1 1) [[(key, val)]] := IsPages.one k35 hl
    refine ⟨rfl, ⟨_, kX, hpp.chg1 (hb.chg0 (c34.trans c35)) rfl rfl cX⟩, ((c34.trans c35).any (S := [p])).transS cX⟩
  refine W_skip ?_
  refine block_normal ?_
  have hls : ls ≠ [] := by rintro rfl; simp at hF
  have hat := cntN_lt (key := key) hls
  have hget : ls[cntN ls key - 1]? = some ls[cntN ls key - 1] := by simp [hat]
  have hmem : ls[cntN ls key - 1] ∈ ls := List.getElem_mem hat
  have hspot : spot ls key = (cntN ls key - 1, lbN ls[cntN ls key - 1] key, hasK ls[cntN ls key - 1] key) := by unfold spot; rw [hget]
  have hgp : getP ls key = if hasK ls[cntN ls key - 1] key then (ls[cntN ls key - 1][lbN ls[cntN ls key - 1] key]?).map (·.2) else none := by unfold getP; rw [hget]
  have hpp : pPut ls key val = ls.take (cntN ls key - 1) ++ splitL (putL ls[cntN ls key - 1] key val) ++ ls.drop (cntN ls key - 1 + 1) := by unfold pPut; rw [hget]
  have hl8 := hw.le _ hmem
  rw [hgp, hpp]
  have f24' := f24 (.slice pv ls.length cv) ls key w hpg hw.ne (by omega) hw.firsts hw.each (fun l hl => by have := hw.le l hl; omega)
  rw [hspot] at f24'
  generalize hl : ls[cntN ls key - 1] = l at *
  generalize ha : cntN ls key - 1 = a at *
  clear hspot hgp hpp
  have hlb := lbN_le l key
  refine W_seq ?_
  refine W_region ?_
  refine O_go (gn rfl) (St.vl (vl_move rfl) rfl rfl ?_)
  refine O_go (gn rfl) (St.vl (vl_nilCheck rfl) rfl rfl ?_)
  refine O_go (gn rfl) (St.vl (vl_fieldAddr fo67_0 rfl) rfl rfl ?_)
  refine O_go (gn rfl) (St.vl (vl_load ag65 rfl (hb.cell' rfl)) rfl rfl ?_)
  refine O_go (gn rfl) (St.vl (vl_move rfl) rfl rfl ?_)
  refine O_go (gn rfl) (st_call bd24 rfl rfl rfl rfl f24' ?_)
  rintro v44 w44 ⟨rfl, c44⟩
  refine O_go (gn rfl) (St.vl (vl_move rfl) rfl rfl ?_)
  refine O_go (gn rfl) (St.vl (vl_extract rfl rfl) rfl rfl ?_)
  refine O_go (gn rfl) (St.vl (vl_extract rfl rfl) rfl rfl ?_)
  refine O_go (gn rfl) (St.vl (vl_extract rfl rfl) rfl rfl ?_)
  refine O_go (gn rfl) (St.vl (vl_assign rfl) rfl rfl ?_)
  refine O_go (gn rfl) (St.vl (vl_assign rfl) rfl rfl ?_)
  refine O_go (gn rfl) (St.vl (vl_assign rfl) rfl rfl ?_)
  refine O_end [0, 1, 2, 9, 10, 11] (F' := [(0, _), (1, _), (2, _), (9, _), (10, _), (11, _)]) rfl ?_
  obtain ⟨bb, off, cap, u, hv, hcell, hlu⟩ := (hpg.chg0 c44).at hget
  simp only [Value.slice.injEq] at hv
  obtain ⟨rfl, _, rfl⟩ := hv
  refine W_seq ?_
  refine W_region ?_
  refine O_go (gn rfl) (St.vl (vl_move rfl) rfl rfl ?_)
  refine O_go (gn rfl) (St.vl (vl_nilCheck rfl) rfl rfl ?_)
  refine O_go (gn rfl) (St.vl (vl_fieldAddr fo67_0 rfl) rfl rfl ?_)
  refine O_go (gn rfl) (St.vl (vl_load ag65 rfl ((hb.chg0 c44).cell' rfl)) rfl rfl ?_)
  refine O_go (gn rfl) (St.vl (vl_move rfl) rfl rfl ?_)
  refine O_go (gn rfl) (St.vl (vl_indexAddr sl65 sz71 rfl rfl _ rfl hat) rfl rfl ?_)
  refine O_go (gn rfl) (St.vl (vl_load ag71 rfl hcell) rfl rfl ?_)
  refine O_go (gn rfl) (st_call bd25 rfl rfl rfl rfl (f25 _ _ _ _ hlu (by omega)) ?_)
  rintro v55 w55 ⟨i55, n55, c55⟩
  obtain ⟨p55, q55, rfl, hq55⟩ := i55.val
  refine O_go (gn rfl) (St.vl (vl_assign rfl) rfl rfl ?_)
  refine O_end [0, 1, 2, 9, 10, 11, 12] (F' := [(0, _), (1, _), (2, _), (9, _), (10, _), (11, _), (12, _)]) rfl ?_
  have hc55 : Chg [] w w55 := c44.trans c55
  refine W_seq ?_
  refine W_region ?_
  refine O_go (gn rfl) (St.vl (vl_move rfl) rfl rfl ?_)
  refine O_go (gn rfl) (St.vl (vl_func rfl rfl) rfl rfl ?_)
  refine O_go (gn rfl) (St.vl (vl_assign rfl) rfl rfl ?_)
  refine O_end [1, 2, 9, 10, 11, 12, 13] (F' := [(1, _), (2, _), (9, _), (10, _), (11, _), (12, _), (13, _)]) rfl ?_
  refine W_seq ?_
  refine W_seq ?_
  refine W_region ?_
  refine O_go (gn rfl) (St.vl (vl_move rfl) rfl rfl ?_)
  refine O_end [1, 2, 9, 10, 12, 13, 58] (F' := [(1, _), (2, _), (9, _), (10, _), (12, _), (13, _), (58, _)]) rfl ?_
  refine W_cond rfl (fun hT => ?_) (fun hF => ?_)
  · obtain ⟨old, hold⟩ := hasK_at hT
    have hil := (List.getElem?_eq_some_iff.1 hold).1
    obtain ⟨bl, ol, cl, rfl, hsl55⟩ : ∃ b off c, p55 = some ⟨b, off, none⟩ ∧ SlAt w55 69 2 b off l.length q55 c (flat l) := by
      rcases i55 with ⟨_, h1, _⟩ | ⟨b, off, cap, c, he, hs⟩
      · omega
      · simp only [Value.slice.injEq] at he
        obtain ⟨rfl, _, rfl⟩ := he
        exact ⟨b, off, c, rfl, hs⟩
    have hnew : w44.heap.size ≤ bl := n55 bl (by simp [blkOf])
    obtain ⟨_, _, _, hv2, hcl2⟩ := IsList.at' i55 hold
    simp only [Value.slice.injEq, Option.some.injEq, Addr.mk.injEq, and_true] at hv2
    obtain ⟨⟨rfl, rfl⟩, _⟩ := hv2
    have hfit := hsl55.fit
    have hle55 := hsl55.le
    refine W_seq ?_
    refine W_region ?_
    refine O_go (gn rfl) (St.vl (vl_move rfl) rfl rfl ?_)
    refine O_go (gn rfl) (St.vl (vl_move rfl) rfl rfl ?_)
    refine O_go (gn rfl) (St.vl (vl_indexAddr sl71 sz69 rfl rfl _ rfl hil) rfl rfl ?_)
    refine O_go (gn rfl) (St.vl (vl_fieldAddr fo69_1 rfl) rfl rfl ?_)
    refine O_go (gn rfl) (St.vl (vl_load ag9 rfl (hcl2 1 _ rfl)) rfl rfl ?_)
    refine O_go (gn rfl) (St.vl (vl_assign rfl) rfl rfl ?_)
    refine O_end [2, 9, 10, 12, 13, 14] (F' := [(2, _), (9, _), (10, _), (12, _), (13, _), (14, _)]) rfl ?_
    refine W_seq ?_
    refine W_region ?_
    refine O_go (gn rfl) (St.vl (vl_move rfl) rfl rfl ?_)
    refine O_go (gn rfl) (St.vl (vl_move rfl) rfl rfl ?_)
    refine O_go (gn rfl) (St.vl (vl_move rfl) rfl rfl ?_)
    refine O_go (gn rfl) (St.vl (vl_indexAddr sl71 sz69 rfl rfl _ rfl hil) rfl rfl ?_)
    refine O_go (gn rfl) (St.vl (vl_fieldAddr fo69_1 rfl) rfl rfl ?_)
    refine O_go (gn rfl) (st_store sz9 rfl rfl rfl rfl hsl55.blk (by simp; omega) (by intro u hu; simp at hu; subst hu; rfl) ?_)
    intro w68 n68 c68 k68
    refine O_end [9, 12, 13, 14] (F' := [(9, _), (12, _), (13, _), (14, _)]) rfl ?_
    have hset := IsList.setVal hsl55 hold k68
    have hc68 : Chg [] w w68 := hc55.own c68 (by intro x hx; simp at hx; subst hx; have := c44.size; omega)
    refine W_seq ?_
    refine W_region ?_
    refine O_go (gn rfl) (St.vl (vl_move rfl) rfl rfl ?_)
    refine O_go (gn rfl) (St.vl (vl_move rfl) rfl rfl ?_)
    refine O_go (gn rfl) (St.vl (vl_move rfl) rfl rfl ?_)
    refine O_go (gn rfl) (St.vl (vl_eq (v' := .int .i64 ((a + 1 : Nat) : Int)) (vl_add rfl rfl (by omega)) (by congr 1)) rfl rfl ?_)
    refine O_go (gn rfl) (St.vl (vl_move rfl) rfl rfl ?_)
    refine O_go (gn rfl) (st_buildSlice ap64 rfl (vs := [_]) rfl (css := [_]) ⟨rfl, trivial⟩ rfl rfl (cs := [_]) rfl rfl ?_)
    intro b74 w74 e74 n74 c74 k74
    refine O_go (gn rfl) (st_call bd26 rfl rfl rfl rfl (f26 p ls [l.set (lbN l key) (key, val)] _ a (a + 1) _ (hp.chg0 (hc68.trans c74)) (IsPages.one k74 (hset.chg0 c74)) (by omega) hat (by omega) (by simp)) ?_)
    rintro v75 w75 ⟨rfl, p75, c75⟩
    refine O_end [14] (F' := [(14, _)]) rfl ?_
    refine W_seq ?_
    refine W_region ?_
    refine O_go (gn rfl) (St.vl (vl_move rfl) rfl rfl ?_)
    refine O_go (gn rfl) (St.vl (vl_assign rfl) rfl rfl ?_)
    refine O_go (gn rfl) (St.vl (vl_assign rfl) rfl rfl ?_)
    refine O_go (gn rfl) (St.vl (vl_assign rfl) rfl rfl ?_)
    refine O_end [6, 7, 8] (F' := [(6, _), (7, _), (8, _)]) rfl ?_
    refine W_ret ?_
    refine then_ret ?_
    refine ret3 rfl rfl rfl rfl ?_
    refine ⟨?_, ?_, ((hc68.trans c74).any (S := [p])).transS c75⟩
    · rw [if_pos hT, hold]; rfl
    · rw [putL, if_pos hT, splitL, if_neg (by rw [List.length_set]; omega)]
      exact p75
  · have hF' : ¬ hasK l key = true := by rw [show hasK l key = false from hF]; simp
    refine W_skipE ?_
    refine W_seq ?_
    have hys : ∀ (wz : World) (b : Nat), Blk wz b 69 [.string key, .string val] → IsSl wz 69 2 (.slice (some ⟨b, 0, none⟩) 1 1) 1 (flat [(key, val)]) := fun wz b hb => IsSl.of_blk (n := 1) hb rfl (by simp [maxLen]) (flat_one [(key, val)])
    refine W_region ?_
    refine O_go (gn rfl) (St.vl (vl_move rfl) rfl rfl ?_)
    refine O_go (gn rfl) (St.vl (vl_move rfl) rfl rfl ?_)
    refine O_go (gn rfl) (St.vl (vl_move rfl) rfl rfl ?_)
    refine O_go (gn rfl) (St.vl (vl_move rfl) rfl rfl ?_)
    refine O_go (gn rfl) (St.vl (vl_build pl69 zr69 rfl (vs := [_, _]) rfl (css := [_, _]) ⟨rfl, rfl, trivial⟩ rfl rfl (cs := [_, _]) rfl) rfl rfl ?_)
    refine O_go (gn rfl) (st_buildSlice ap70 rfl (vs := [_]) rfl (css := [_]) ⟨rfl, trivial⟩ rfl rfl (cs := [_, _]) rfl rfl ?_)
    intro b82 w82 e82 n82 c82 k82
    refine O_go (gn rfl) (st_call bd27 rfl rfl rfl rfl (f27 _ _ (lbN l key) l.length (flat l) (flat [(key, val)]) _ (i55.chg0 c82) (hys _ _ k82) hlb (by omega) (by intro x hx hy; simp [blkOf] at hx; subst hx; have := i55.lt _ hy; omega)) ?_)
    rintro v83 w83 ⟨i83, c83, o83⟩
    refine O_go (gn rfl) (St.vl (vl_assign rfl) rfl rfl ?_)
    refine O_end [9, 12, 13] (F' := [(9, _), (12, _), (13, _)]) rfl ?_
    have hput : putL l key val = l.take (lbN l key) ++ [(key, val)] ++ l.drop (lbN l key) := by rw [putL, if_neg hF']
    have hpl : (putL l key val).length = l.length + 1 := by rw [hput]; simp; omega
    have hlist : IsList w83 v83 (putL l key val) := by
      unfold IsList
      rw [hpl, hput, flat_append, flat_append, flat_take, flat_drop]
      exact i83
    have hc83 : Chg [] w w83 := (hc55.trans c82).own c83 (by intro x hx; have := n55 x hx; have := c44.size; omega)
    clear i83 c83 o83
    rw [if_neg hF']
    clear hput
    generalize putL l key val = l' at *
    obtain ⟨p83, q83, rfl, hq83⟩ := IsSl.val hlist
    refine W_seq ?_
    refine W_seq ?_
    refine W_region ?_
    refine O_go (gn rfl) (St.vl (vl_move rfl) rfl rfl ?_)
    refine O_go (gn rfl) (St.vl (vl_len sl71 rfl) rfl rfl ?_)
    refine O_go (gn rfl) (St.vl (vl_gtr rfl rfl) rfl rfl ?_)
    refine O_end [9, 12, 13, 86] (F' := [(9, _), (12, _), (13, _), (86, _)]) rfl ?_
    refine W_cond rfl (fun hT2 => ?_) (fun hF2 => ?_)
    · have h8 : 8 < l'.length := by have := of_decide_eq_true hT2; omega
      refine W_seq ?_
      refine W_region ?_
      refine O_go (gn rfl) (St.vl (vl_assign rfl) rfl rfl ?_)
      refine O_end [9, 12, 13, 15] (F' := [(9, _), (12, _), (13, _), (15, _)]) rfl ?_
      refine W_draw (fun _ => True) mix (by kernel_rfl) trivial ?_
      refine t_pure rfl (gn rfl) (fun _ => vl_move rfl) rfl rfl ?_
      refine t_pure rfl (gn rfl) (fun _ => vl_move rfl) rfl rfl ?_
      refine t_pure rfl (gn rfl) (fun _ => vl_move rfl) rfl rfl ?_
      refine t_pure rfl (gn rfl) (fun _ => vl_eq (v' := .int .i64 ((a + 1 : Nat) : Int)) (vl_add rfl rfl (by omega)) (by congr 1)) rfl rfl ?_
      refine t_pure rfl (gn rfl) (fun _ => vl_move rfl) rfl rfl ?_
      refine t_pure rfl (gn rfl) (fun _ => vl_move rfl) rfl rfl ?_
      refine t_pure rfl (gn rfl) (fun _ => vl_move rfl) rfl rfl ?_
      refine t_pure rfl (gn rfl) (fun _ => vl_cut_hm sl71 sz69 rfl rfl rfl 4 4 rfl rfl (Nat.le_refl _) (by omega)) rfl rfl ?_
      refine t_pure rfl (gn rfl) (fun _ => vl_move rfl) rfl rfl ?_
      refine t_pure rfl (gn rfl) (fun _ => vl_move rfl) rfl rfl ?_
      refine t_pure rfl (gn rfl) (fun _ => vl_cut_l sl71 sz69 rfl rfl 4 rfl (by omega)) rfl rfl ?_
      refine t_st rfl (gn rfl) (st_buildSlice ap64 rfl (vs := [_, _]) rfl (css := [_, _]) ⟨rfl, rfl, trivial⟩ rfl rfl (cs := [_, _]) rfl rfl ?_)
      intro b98 w98 e98 n98 c98 k98
      refine ⟨.inl trivial, ?_⟩
      have hc98 : Chg [] w83 w98 := (Chg.drew [] w83).trans c98
      refine t_st rfl (gn rfl) (st_call bd26 rfl rfl rfl rfl (f26 p ls [l'.take 4, l'.drop 4] _ a (a + 1) _ (hp.chg0 (hc83.trans hc98)) (IsPages.two k98 ((hlist.chg0 hc98).cutL (by omega) (Nat.le_refl _) (by omega)) ((hlist.chg0 hc98).cutR (by omega) hq83)) (by omega) hat (by omega) (by simp)) ?_)
      rintro v99 w99 ⟨rfl, p99, c99⟩
      refine ⟨.inl trivial, ?_⟩
      refine T_end [] (F' := []) rfl ?_
      refine W_seq ?_
      refine W_region ?_
      refine O_go (gn rfl) (St.vl (vl_assign rfl) rfl rfl ?_)
      refine O_go (gn rfl) (St.vl (vl_assign rfl) rfl rfl ?_)
      refine O_go (gn rfl) (St.vl (vl_assign rfl) rfl rfl ?_)
      refine O_end [6, 7, 8] (F' := [(6, _), (7, _), (8, _)]) rfl ?_
      refine W_ret ?_
      refine ret3 rfl rfl rfl rfl ?_
      refine ⟨rfl, ?_, ((hc83.trans hc98).any (S := [p])).transS c99⟩
      rw [splitL, if_pos h8]
      exact p99
    · have h8 : ¬ 8 < l'.length := by have := of_decide_eq_false hF2; omega
      refine W_region ?_
      refine O_go (gn rfl) (St.vl (vl_move rfl) rfl rfl ?_)
      refine O_go (gn rfl) (St.vl (vl_move rfl) rfl rfl ?_)
      refine O_go (gn rfl) (St.vl (vl_move rfl) rfl rfl ?_)
      refine O_go (gn rfl) (St.vl (vl_eq (v' := .int .i64 ((a + 1 : Nat) : Int)) (vl_add rfl rfl (by omega)) (by congr 1)) rfl rfl ?_)
      refine O_go (gn rfl) (St.vl (vl_move rfl) rfl rfl ?_)
      refine O_go (gn rfl) (st_buildSlice ap64 rfl (vs := [_]) rfl (css := [_]) ⟨rfl, trivial⟩ rfl rfl (cs := [_]) rfl rfl ?_)
      intro b105 w105 e105 n105 c105 k105
      refine O_go (gn rfl) (st_call bd26 rfl rfl rfl rfl (f26 p ls [l'] _ a (a + 1) _ (hp.chg0 (hc83.trans c105)) (IsPages.one k105 (hlist.chg0 c105)) (by omega) hat (by omega) (by simp)) ?_)
      rintro v106 w106 ⟨rfl, p106, c106⟩
      refine O_end [] (F' := []) rfl ?_
      refine W_seq ?_
      refine W_region ?_
      refine O_go (gn rfl) (St.vl (vl_assign rfl) rfl rfl ?_)
      refine O_go (gn rfl) (St.vl (vl_assign rfl) rfl rfl ?_)
      refine O_go (gn rfl) (St.vl (vl_assign rfl) rfl rfl ?_)
      refine O_end [6, 7, 8] (F' := [(6, _), (7, _), (8, _)]) rfl ?_
      refine W_ret ?_
      refine ret3 rfl rfl rfl rfl ?_
      refine ⟨rfl, ?_, ((hc83.trans c105).any (S := [p])).transS c106⟩
      rw [splitL, if_neg h8]
      exact p106
end Go.Wk

