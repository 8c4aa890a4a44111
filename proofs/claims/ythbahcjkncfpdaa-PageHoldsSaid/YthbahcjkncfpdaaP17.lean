/-
  Plain law: putting and taking keep pages as they should be.
-/
import Derived.Test.YthbahcjkncfpdaaP16
namespace Go.Wk
open Go.Proofs
set_option maxRecDepth 10000

theorem blt_of_le {a b c : ByteArray} (h : blt a b = true) (h2 : blt c b = false) : blt a c = true := by
  cases hx : blt a c with
  | true => rfl
  | false =>
    exfalso
    cases hy : blt c a with
    | true => rw [blt_trans hy h] at h2; cases h2
    | false =>
      have := blt_total hx hy
      subst this
      rw [h] at h2; cases h2
theorem blt_of_le' {a b c : ByteArray} (h : blt b a = false) (h2 : blt b c = true) : blt a c = true := by
  cases hx : blt a c with
  | true => rfl
  | false =>
    exfalso
    cases hy : blt c a with
    | true => rw [blt_trans h2 hy] at h; cases h
    | false =>
      have := blt_total hx hy
      subst this
      rw [h2] at h; cases h

theorem srt_ins {X Y : List Ent} {k v : ByteArray} (h : Srt (X ++ Y)) (hx : ∀ x ∈ X, blt x.1 k = true) (hy : ∀ y ∈ Y, blt k y.1 = true) : Srt (X ++ (k, v) :: Y) := by
  obtain ⟨h1, h2, h3⟩ := List.pairwise_append.1 h
  refine List.pairwise_append.2 ⟨h1, List.pairwise_cons.2 ⟨fun y m => hy y m, h2⟩, fun a ha b hb => ?_⟩
  rcases List.mem_cons.1 hb with rfl | hb
  · exact hx a ha
  · exact h3 a ha b hb

theorem split_at {α : Type} {l : List α} {i : Nat} {x : α} (h : l[i]? = some x) : l = l.take i ++ x :: l.drop (i + 1) := by
  have h1 : l.drop i = x :: l.drop (i + 1) := by
    obtain ⟨hl, rfl⟩ := List.getElem?_eq_some_iff.1 h
    exact List.drop_eq_getElem_cons hl
  rw [← h1]
  exact (List.take_append_drop i l).symm

/-- What stands behind the key's place in its page. -/
def behind (l : List Ent) (key : ByteArray) : List Ent := if hasK l key then l.drop (lbN l key + 1) else l.drop (lbN l key)
theorem putL_form {l : List Ent} (key val : ByteArray) : putL l key val = l.take (lbN l key) ++ (key, val) :: behind l key := by
  unfold putL behind
  by_cases hh : hasK l key = true
  · rw [if_pos hh, if_pos hh]
    obtain ⟨v, hv⟩ := hasK_at hh
    rw [List.set_eq_take_append_cons_drop, if_pos (List.getElem?_eq_some_iff.1 hv).1]
  · rw [if_neg hh, if_neg hh]
    simp
theorem behind_gt {l : List Ent} {key : ByteArray} (hs : Srt l) : ∀ y ∈ behind l key, blt key y.1 = true := by
  intro y hy
  unfold behind at hy
  by_cases hh : hasK l key = true
  · rw [if_pos hh] at hy
    obtain ⟨v, hv⟩ := hasK_at hh
    obtain ⟨j, hj⟩ := List.mem_iff_getElem?.1 hy
    rw [List.getElem?_drop] at hj
    exact hs.at (show lbN l key < lbN l key + 1 + j by omega) hv hj
  · rw [if_neg hh] at hy
    obtain ⟨j, hj⟩ := List.mem_iff_getElem?.1 hy
    rw [List.getElem?_drop] at hj
    have hlen := (List.getElem?_eq_some_iff.1 hj).1
    have h0 : l[lbN l key]? = some l[lbN l key] := by simp
    have h1 := lbN_at h0
    have h2 : (l[lbN l key]).1 ≠ key := by
      intro e
      apply hh
      unfold hasK hasAt
      rw [List.getElem?_map, h0]
      simp [e]
    have h3 : blt key (l[lbN l key]).1 = true := by
      cases hx : blt key (l[lbN l key]).1 with
      | true => rfl
      | false => exact absurd (blt_total h1 hx) h2
    cases j with
    | zero =>
      rw [Nat.add_zero, h0] at hj
      simp only [Option.some.injEq] at hj
      rw [← hj]; exact h3
    | succ j => exact blt_trans h3 (hs.at (show lbN l key < lbN l key + (j + 1) by omega) h0 hj)
theorem behind_sub (l : List Ent) (key : ByteArray) : (behind l key).Sublist (l.drop (lbN l key)) := by
  unfold behind
  split
  · rw [← List.drop_drop]; exact List.drop_sublist _ _
  · exact List.Sublist.refl _
theorem putL_len (l : List Ent) (key val : ByteArray) : (putL l key val).length ≤ l.length + 1 := by
  unfold putL
  split
  · rw [List.length_set]; omega
  · simp; omega
theorem putL_pos (l : List Ent) (key val : ByteArray) : 0 < (putL l key val).length := by
  rw [putL_form]; simp; omega
theorem splitL_flat (l : List Ent) : (splitL l).flatten = l := by
  unfold splitL
  split <;> simp
theorem splitL_ok {l : List Ent} (h0 : 0 < l.length) (h9 : l.length ≤ 9) : ∀ x ∈ splitL l, x ≠ [] ∧ x.length ≤ 8 := by
  intro x hx
  unfold splitL at hx
  split at hx
  · simp at hx
    rcases hx with rfl | rfl
    · refine ⟨fun e => ?_, by simp; omega⟩
      have := congrArg List.length e
      rw [List.length_take, List.length_nil] at this; omega
    · refine ⟨fun e => ?_, by simp; omega⟩
      have := congrArg List.length e
      rw [List.length_drop, List.length_nil] at this; omega
  · simp at hx
    subst hx
    exact ⟨fun e => by subst e; simp at h0, by omega⟩
theorem splitL_len (l : List Ent) : 1 ≤ (splitL l).length ∧ (splitL l).length ≤ 2 := by unfold splitL; split <;> simp

theorem low_page {ls : List (List Ent)} {key : ByteArray} {L : List Ent} (hw : WfP ls) (hL : ls[cntN ls key - 1]? = some L) : ∀ x ∈ (ls.take (cntN ls key - 1)).flatten, blt x.1 key = true := by
  intro x hx
  obtain ⟨l', hl', hx'⟩ := List.mem_flatten.1 hx
  obtain ⟨j, hj⟩ := List.mem_iff_getElem?.1 hl'
  have hjl := (List.getElem?_eq_some_iff.1 hj).1
  rw [List.length_take] at hjl
  rw [List.getElem?_take_of_lt (by omega)] at hj
  have h3 := (List.pairwise_flatten.1 hw.srt).2
  have hmem := List.mem_of_getElem? hL
  obtain ⟨y, hy, e⟩ := firstK_mem (hw.ne _ hmem)
  obtain ⟨hjl', ej⟩ := List.getElem?_eq_some_iff.1 hj
  obtain ⟨hil, ei⟩ := List.getElem?_eq_some_iff.1 hL
  have h4 := List.pairwise_iff_getElem.1 h3 j _ hjl' hil (by omega) x (by rw [ej]; exact hx') y (by rw [ei]; exact hy)
  have h5 := (cntN_iff (key := key) hw.firsts hL).2 (by omega)
  rw [e] at h5
  exact blt_of_le h4 (by simpa using h5)
theorem high_page {ls : List (List Ent)} {key : ByteArray} (hw : WfP ls) : ∀ x ∈ (ls.drop (cntN ls key - 1 + 1)).flatten, blt key x.1 = true := by
  intro x hx
  obtain ⟨l', hl', hx'⟩ := List.mem_flatten.1 hx
  obtain ⟨j, hj⟩ := List.mem_iff_getElem?.1 hl'
  rw [List.getElem?_drop] at hj
  have h1 := firstK_le (hw.each l' (List.mem_of_getElem? hj)) hx'
  have h2 : blt key (firstK l') = true := by
    cases h : blt key (firstK l') with
    | true => rfl
    | false =>
      have := (cntN_iff (key := key) hw.firsts hj).1 (by rw [h]; rfl)
      omega
  exact blt_of_le h2 h1

theorem WfP.put {ls : List (List Ent)} (hw : WfP ls) (key val : ByteArray) : WfP (pPut ls key val) := by
  unfold pPut
  cases hL : ls[cntN ls key - 1]? with
  | none => exact ⟨by simp, by simp, by simp [Srt]⟩
  | some L =>
    have hmem := List.mem_of_getElem? hL
    have hs := hw.each L hmem
    have h8 := hw.le L hmem
    have hlen := putL_len L key val
    have hok := splitL_ok (putL_pos L key val) (by omega)
    dsimp only
    refine ⟨fun l hl => ?_, fun l hl => ?_, ?_⟩
    · simp only [List.mem_append] at hl
      rcases hl with (hl | hl) | hl
      · exact hw.ne l (List.mem_of_mem_take hl)
      · exact (hok l hl).1
      · exact hw.ne l (List.mem_of_mem_drop hl)
    · simp only [List.mem_append] at hl
      rcases hl with (hl | hl) | hl
      · exact hw.le l (List.mem_of_mem_take hl)
      · exact (hok l hl).2
      · exact hw.le l (List.mem_of_mem_drop hl)
    · rw [List.flatten_append, List.flatten_append, splitL_flat, putL_form]
      have e : (ls.take (cntN ls key - 1)).flatten ++ (L.take (lbN L key) ++ (key, val) :: behind L key) ++ (ls.drop (cntN ls key - 1 + 1)).flatten = ((ls.take (cntN ls key - 1)).flatten ++ L.take (lbN L key)) ++ (key, val) :: (behind L key ++ (ls.drop (cntN ls key - 1 + 1)).flatten) := by simp
      rw [e]
      refine srt_ins ?_ ?_ ?_
      · refine List.Pairwise.sublist ?_ hw.srt
        have e2 : ls.flatten = ((ls.take (cntN ls key - 1)).flatten ++ L.take (lbN L key)) ++ (L.drop (lbN L key) ++ (ls.drop (cntN ls key - 1 + 1)).flatten) := by
          conv => lhs; rw [split_at hL]
          rw [List.flatten_append, List.flatten_cons]
          simp only [List.append_assoc]
          rw [← List.append_assoc (L.take (lbN L key)), List.take_append_drop]
        rw [e2]
        exact List.Sublist.append (List.Sublist.refl _) (List.Sublist.append (behind_sub _ _) (List.Sublist.refl _))
      · intro x hx
        rcases List.mem_append.1 hx with hx | hx
        · exact low_page hw hL x hx
        · exact lbN_take L key x hx
      · intro x hx
        rcases List.mem_append.1 hx with hx | hx
        · exact behind_gt hs x hx
        · exact high_page hw x hx
theorem pPut_len (ls : List (List Ent)) (key val : ByteArray) : (pPut ls key val).length ≤ ls.length + 1 := by
  unfold pPut
  cases hL : ls[cntN ls key - 1]? with
  | none => simp
  | some L =>
    have := (List.getElem?_eq_some_iff.1 hL).1
    have h2 := splitL_len (putL L key val)
    simp only [List.length_append, List.length_take, List.length_drop]
    omega

/-! ### taking -/
theorem joinL_flat (l : List Ent) : (joinL l).flatten = l := by unfold joinL; split <;> simp
theorem joinL_ok {l : List Ent} (h0 : 0 < l.length) (h16 : l.length ≤ 16) : ∀ x ∈ joinL l, x ≠ [] ∧ x.length ≤ 8 := by
  intro x hx
  unfold joinL at hx
  split at hx
  · simp at hx
    subst hx
    exact ⟨fun e => by subst e; simp at h0, by omega⟩
  · simp at hx
    rcases hx with rfl | rfl
    · refine ⟨fun e => ?_, by simp; omega⟩
      have := congrArg List.length e
      rw [List.length_take, List.length_nil] at this; omega
    · refine ⟨fun e => ?_, by simp; omega⟩
      have := congrArg List.length e
      rw [List.length_drop, List.length_nil] at this; omega
theorem joinL_len (l : List Ent) : 1 ≤ (joinL l).length ∧ (joinL l).length ≤ 2 := by unfold joinL; split <;> simp

theorem WfP.parts {A B M : List (List Ent)} {ls : List (List Ent)} (hw : WfP ls) (hA : ∀ l ∈ A, l ∈ ls) (hB : ∀ l ∈ B, l ∈ ls) (hM : ∀ l ∈ M, l ≠ [] ∧ l.length ≤ 8) (hs : Srt (A ++ M ++ B).flatten) : WfP (A ++ M ++ B) := by
  refine ⟨fun l hl => ?_, fun l hl => ?_, hs⟩
  · simp only [List.mem_append] at hl
    rcases hl with (hl | hl) | hl
    · exact hw.ne l (hA l hl)
    · exact (hM l hl).1
    · exact hw.ne l (hB l hl)
  · simp only [List.mem_append] at hl
    rcases hl with (hl | hl) | hl
    · exact hw.le l (hA l hl)
    · exact (hM l hl).2
    · exact hw.le l (hB l hl)

theorem settle_flat {ls : List (List Ent)} {a : Nat} {L l' : List Ent} (hL : ls[a]? = some L) (hne : ls.length = 1 → l'.length = 0 → True) :
    (settle ls a l').flatten = if ls.length = 1 ∧ l'.length = 0 then [] else (ls.take a).flatten ++ l' ++ (ls.drop (a + 1)).flatten := by
  have hat := (List.getElem?_eq_some_iff.1 hL).1
  unfold settle
  by_cases h1 : 3 ≤ l'.length ∨ ls.length = 1 ∧ 0 < l'.length
  · rw [if_pos h1, if_neg (show ¬ (ls.length = 1 ∧ l'.length = 0) by omega)]
    simp
  · rw [if_neg h1]
    by_cases h2 : ls.length = 1
    · rw [if_pos h2, if_pos (show ls.length = 1 ∧ l'.length = 0 by omega)]
      rfl
    · rw [if_neg h2, if_neg (show ¬ (ls.length = 1 ∧ l'.length = 0) by omega)]
      by_cases h3 : a + 1 = ls.length
      · rw [if_pos h3]
        have h4 : a - 1 < ls.length := by omega
        have hg : ls[a - 1]? = some ls[a - 1] := by simp [h4]
        rw [nth_get hg, List.flatten_append, List.flatten_append, joinL_flat]
        have h5 := flat_take1 hg
        rw [show a - 1 + 1 = a by omega] at h5
        rw [h5]
        simp
      · rw [if_neg h3]
        have h4 : a + 1 < ls.length := by omega
        have hg : ls[a + 1]? = some ls[a + 1] := by simp [h4]
        rw [nth_get hg, List.flatten_append, List.flatten_append, joinL_flat]
        have h5 : ls.drop (a + 1) = ls[a + 1] :: ls.drop (a + 2) := List.drop_eq_getElem_cons h4
        rw [h5, List.flatten_cons]
        simp only [List.append_assoc]

theorem WfP.settle {ls : List (List Ent)} (hw : WfP ls) {a : Nat} {L l' : List Ent} (hL : ls[a]? = some L) (hsub : l'.Sublist L) : WfP (settle ls a l') := by
  have hat := (List.getElem?_eq_some_iff.1 hL).1
  have hmem := List.mem_of_getElem? hL
  have hl8 : l'.length ≤ 8 := Nat.le_trans hsub.length_le (hw.le L hmem)
  have hsrt : Srt (Wk.settle ls a l').flatten := by
    rw [settle_flat hL (fun _ _ => trivial)]
    split
    · exact List.Pairwise.nil
    · refine List.Pairwise.sublist ?_ hw.srt
      conv => rhs; rw [split_at hL]
      rw [List.flatten_append, List.flatten_cons, List.append_assoc]
      exact List.Sublist.append (List.Sublist.refl _) (List.Sublist.append hsub (List.Sublist.refl _))
  revert hsrt
  unfold Wk.settle
  by_cases h1 : 3 ≤ l'.length ∨ ls.length = 1 ∧ 0 < l'.length
  · rw [if_pos h1]
    intro hsrt
    refine hw.parts (fun l hl => List.mem_of_mem_take hl) (fun l hl => List.mem_of_mem_drop hl) ?_ hsrt
    intro l hl
    simp at hl
    subst hl
    exact ⟨fun e => by subst e; simp at h1, hl8⟩
  · rw [if_neg h1]
    by_cases h2 : ls.length = 1
    · rw [if_pos h2]
      intro _
      exact ⟨by simp, by simp, List.Pairwise.nil⟩
    · rw [if_neg h2]
      by_cases h3 : a + 1 = ls.length
      · rw [if_pos h3]
        intro hsrt
        have h4 : a - 1 < ls.length := by omega
        have hg : ls[a - 1]? = some ls[a - 1] := by simp [h4]
        have hm := List.mem_of_getElem? hg
        have hp := List.length_pos_iff.2 (hw.ne _ hm)
        have h8 := hw.le _ hm
        refine hw.parts (fun l hl => List.mem_of_mem_take hl) (fun l hl => List.mem_of_mem_drop hl) ?_ hsrt
        rw [nth_get hg]
        exact joinL_ok (by rw [List.length_append]; omega) (by rw [List.length_append]; omega)
      · rw [if_neg h3]
        intro hsrt
        have h4 : a + 1 < ls.length := by omega
        have hg : ls[a + 1]? = some ls[a + 1] := by simp [h4]
        have hm := List.mem_of_getElem? hg
        have hp := List.length_pos_iff.2 (hw.ne _ hm)
        have h8 := hw.le _ hm
        refine hw.parts (fun l hl => List.mem_of_mem_take hl) (fun l hl => List.mem_of_mem_drop hl) ?_ hsrt
        rw [nth_get hg]
        exact joinL_ok (by rw [List.length_append]; omega) (by rw [List.length_append]; omega)
theorem settle_len {ls : List (List Ent)} {a : Nat} {l' : List Ent} (hat : a < ls.length) : (settle ls a l').length ≤ ls.length := by
  unfold settle
  split
  · simp; omega
  · split
    · simp
    · have h2 := joinL_len (nth ls (a - 1) ++ l')
      have h3 := joinL_len (l' ++ nth ls (a + 1))
      split
      · simp only [List.length_append, List.length_take, List.length_drop]; omega
      · simp only [List.length_append, List.length_take, List.length_drop]; omega
theorem takeL_sub (l : List Ent) (key : ByteArray) : (takeL l key).Sublist l := by
  unfold takeL
  conv => rhs; rw [← List.take_append_drop (lbN l key) l]
  refine List.Sublist.append (List.Sublist.refl _) ?_
  rw [← List.drop_drop]
  exact List.drop_sublist _ _
theorem WfP.take {ls : List (List Ent)} (hw : WfP ls) (key : ByteArray) : WfP (pTake ls key) := by
  unfold pTake
  cases hL : ls[cntN ls key - 1]? with
  | none => exact hw
  | some L =>
    dsimp only
    split
    · exact hw.settle hL (takeL_sub L key)
    · exact hw
theorem pTake_len (ls : List (List Ent)) (key : ByteArray) : (pTake ls key).length ≤ ls.length := by
  unfold pTake
  cases hL : ls[cntN ls key - 1]? with
  | none => exact Nat.le_refl _
  | some L =>
    dsimp only
    split
    · exact settle_len (List.getElem?_eq_some_iff.1 hL).1
    · exact Nat.le_refl _
theorem WfP.nil : WfP [] := ⟨by simp, by simp, List.Pairwise.nil⟩
end Go.Wk

