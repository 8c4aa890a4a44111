/-
  Plain law: what is told of a key behind putting and taking; how many entries a page has; a map that tells the same.
-/
import Derived.Test.YthbahcjkncfpdaaP28
namespace Go.Wk
open Go.Proofs
set_option maxRecDepth 10000

theorem none_nil {ls : List (List Ent)} {key : ByteArray} (h : ls[cntN ls key - 1]? = none) : ls = [] := by
  by_cases hl : ls = []
  · exact hl
  · have h1 := cntN_lt (key := key) hl
    have h2 : ls.length ≤ cntN ls key - 1 := List.getElem?_eq_none_iff.1 h
    omega

/-- A page's place in the whole row. -/
structure Cutp (ls : List (List Ent)) (key : ByteArray) (L A B S : List Ent) : Prop where
  all : ls.flatten = A ++ (L.drop (lbN L key) ++ S)
  low : ∀ y ∈ A, blt y.1 key = true
  high : ∀ y ∈ B ++ S, blt key y.1 = true
  mid : ∀ y, y.1 ≠ key → (y ∈ L.drop (lbN L key) ↔ y ∈ B)

theorem cutp {ls : List (List Ent)} {key : ByteArray} {L : List Ent} (hw : WfP ls) (hL : ls[cntN ls key - 1]? = some L) :
    Cutp ls key L ((ls.take (cntN ls key - 1)).flatten ++ L.take (lbN L key)) (behind L key) ((ls.drop (cntN ls key - 1 + 1)).flatten) := by
  have hmem := List.mem_of_getElem? hL
  have hs := hw.each L hmem
  refine ⟨?_, fun y hy => ?_, fun y hy => ?_, fun y hy => ?_⟩
  · conv => lhs; rw [split_at hL]
    rw [List.flatten_append, List.flatten_cons]
    simp only [List.append_assoc]
    rw [← List.append_assoc (L.take (lbN L key)), List.take_append_drop]
  · rcases List.mem_append.1 hy with hy | hy
    · exact low_page hw hL y hy
    · exact lbN_take L key y hy
  · rcases List.mem_append.1 hy with hy | hy
    · exact behind_gt hs y hy
    · exact high_page hw y hy
  · unfold behind
    split
    · rename_i hh
      obtain ⟨v, hv⟩ := hasK_at hh
      have h1 : L.drop (lbN L key) = (key, v) :: L.drop (lbN L key + 1) := by
        obtain ⟨hl, e⟩ := List.getElem?_eq_some_iff.1 hv
        rw [← e]
        exact List.drop_eq_getElem_cons hl
      rw [h1, List.mem_cons]
      exact ⟨fun h => h.elim (fun e => absurd (by rw [e]) hy) id, .inr⟩
    · exact Iff.rfl
theorem Cutp.ne {ls : List (List Ent)} {key : ByteArray} {L A B S : List Ent} (h : Cutp ls key L A B S) {x : Ent} (hx : x ∈ A ∨ x ∈ B ∨ x ∈ S) : x.1 ≠ key := by
  rcases hx with hx | hx
  · exact blt_ne (h.low x hx)
  · exact fun e => blt_ne (h.high x (by simpa using hx)) e.symm
theorem Cutp.iff {ls : List (List Ent)} {key : ByteArray} {L A B S : List Ent} (h : Cutp ls key L A B S) (x : Ent) : (x ∈ A ∨ x ∈ B ∨ x ∈ S) ↔ (x.1 ≠ key ∧ x ∈ ls.flatten) := by
  constructor
  · intro hx
    have hne := h.ne hx
    refine ⟨hne, ?_⟩
    rw [h.all, List.mem_append, List.mem_append, h.mid x hne]
    exact hx
  · rintro ⟨hne, hx⟩
    rw [h.all, List.mem_append, List.mem_append, h.mid x hne] at hx
    exact hx

theorem mem_put {ls : List (List Ent)} (hw : WfP ls) (key val : ByteArray) (x : Ent) : x ∈ (pPut ls key val).flatten ↔ x = (key, val) ∨ (x.1 ≠ key ∧ x ∈ ls.flatten) := by
  unfold pPut
  cases hL : ls[cntN ls key - 1]? with
  | none =>
    have := none_nil hL
    subst this
    simp
  | some L =>
    have hc := cutp hw hL
    dsimp only
    rw [List.flatten_append, List.flatten_append, splitL_flat, putL_form, ← hc.iff x]
    simp only [List.mem_append, List.mem_cons]
    constructor
    · rintro ((h | h | h | h) | h)
      · exact .inr (.inl (.inl h))
      · exact .inr (.inl (.inr h))
      · exact .inl h
      · exact .inr (.inr (.inl h))
      · exact .inr (.inr (.inr h))
    · rintro (h | (h | h) | h | h)
      · exact .inl (.inr (.inr (.inl h)))
      · exact .inl (.inl h)
      · exact .inl (.inr (.inl h))
      · exact .inl (.inr (.inr (.inr h)))
      · exact .inr h
theorem settle_flat' {ls : List (List Ent)} {a : Nat} {L l' : List Ent} (hL : ls[a]? = some L) : (settle ls a l').flatten = (ls.take a).flatten ++ l' ++ (ls.drop (a + 1)).flatten := by
  rw [settle_flat hL (fun _ _ => trivial)]
  split
  · rename_i h
    have hat := (List.getElem?_eq_some_iff.1 hL).1
    have ha : a = 0 := by omega
    subst ha
    have hl : l' = [] := List.eq_nil_of_length_eq_zero h.2
    subst hl
    rw [List.drop_eq_nil_of_le (by omega)]
    simp
  · rfl
theorem mem_take {ls : List (List Ent)} (hw : WfP ls) (key : ByteArray) (x : Ent) : x ∈ (pTake ls key).flatten ↔ x.1 ≠ key ∧ x ∈ ls.flatten := by
  unfold pTake
  cases hL : ls[cntN ls key - 1]? with
  | none =>
    have := none_nil hL
    subst this
    simp
  | some L =>
    have hc := cutp hw hL
    dsimp only
    split
    · rename_i hh
      have hb : behind L key = L.drop (lbN L key + 1) := by unfold behind; rw [if_pos hh]
      rw [settle_flat' hL, ← hc.iff x, hb]
      unfold takeL
      simp only [List.mem_append]
      constructor
      · rintro ((h | h | h) | h)
        · exact .inl (.inl h)
        · exact .inl (.inr h)
        · exact .inr (.inl h)
        · exact .inr (.inr h)
      · rintro ((h | h) | h | h)
        · exact .inl (.inl h)
        · exact .inl (.inr (.inl h))
        · exact .inl (.inr (.inr h))
        · exact .inr h
    · rename_i hh
      have hb : behind L key = L.drop (lbN L key) := by unfold behind; rw [if_neg hh]
      have hall := hc.all
      rw [← hb] at hall
      constructor
      · intro hx
        refine ⟨hc.ne ?_, hx⟩
        rw [hall] at hx
        rcases List.mem_append.1 hx with h | h
        · exact .inl h
        · exact .inr (List.mem_append.1 h)
      · exact fun h => h.2

/-! ### how many entries a page has -/
def Wide (ls : List (List Ent)) : Prop := 1 < ls.length → ∀ l ∈ ls, 3 ≤ l.length
theorem Wide.nil : Wide [] := fun h => by simp at h
theorem putL_ge (l : List Ent) (key val : ByteArray) : l.length ≤ (putL l key val).length := by
  unfold putL
  split
  · rw [List.length_set]; omega
  · simp; omega
theorem splitL_ge {l : List Ent} (h : 8 < l.length) : ∀ x ∈ splitL l, 3 ≤ x.length := by
  intro x hx
  unfold splitL at hx
  rw [if_pos h] at hx
  simp at hx
  rcases hx with rfl | rfl
  · rw [List.length_take]; omega
  · rw [List.length_drop]; omega
theorem Wide.put {ls : List (List Ent)} (h3 : Wide ls) (key val : ByteArray) : Wide (pPut ls key val) := by
  unfold pPut
  cases hL : ls[cntN ls key - 1]? with
  | none => intro h; simp at h
  | some L =>
    have hat := (List.getElem?_eq_some_iff.1 hL).1
    have hmem := List.mem_of_getElem? hL
    have hge := putL_ge L key val
    dsimp only
    by_cases h8 : 8 < (putL L key val).length
    · intro _ l hl
      have old : ∀ l ∈ ls, 1 < ls.length → 3 ≤ l.length := fun l hl h => h3 h l hl
      simp only [List.mem_append] at hl
      rcases hl with (hl | hl) | hl
      · refine old l (List.mem_of_mem_take hl) ?_
        have := List.length_pos_of_mem hl
        rw [List.length_take] at this
        omega
      · exact splitL_ge h8 l hl
      · refine old l (List.mem_of_mem_drop hl) ?_
        have := List.length_pos_of_mem hl
        rw [List.length_drop] at this
        omega
    · have e : splitL (putL L key val) = [putL L key val] := by unfold splitL; rw [if_neg h8]
      rw [e]
      intro hlen l hl
      have hls : 1 < ls.length := by
        simp only [List.length_append, List.length_take, List.length_drop, List.length_cons, List.length_nil] at hlen
        omega
      simp only [List.mem_append, List.mem_singleton] at hl
      rcases hl with (hl | rfl) | hl
      · exact h3 hls l (List.mem_of_mem_take hl)
      · have := h3 hls L hmem; omega
      · exact h3 hls l (List.mem_of_mem_drop hl)
theorem joinL_ge {l : List Ent} (h : 3 ≤ l.length) : ∀ x ∈ joinL l, 3 ≤ x.length := by
  intro x hx
  unfold joinL at hx
  split at hx
  · simp at hx; subst hx; exact h
  · simp at hx
    rcases hx with rfl | rfl
    · rw [List.length_take]; omega
    · rw [List.length_drop]; omega
theorem Wide.settle {ls : List (List Ent)} (h3 : Wide ls) {a : Nat} {L l' : List Ent} (hL : ls[a]? = some L) : Wide (settle ls a l') := by
  have hat := (List.getElem?_eq_some_iff.1 hL).1
  unfold Wk.settle
  by_cases h1 : 3 ≤ l'.length ∨ ls.length = 1 ∧ 0 < l'.length
  · rw [if_pos h1]
    intro hlen l hl
    have hls : 1 < ls.length := by
      simp only [List.length_append, List.length_take, List.length_drop, List.length_cons, List.length_nil] at hlen
      omega
    simp only [List.mem_append, List.mem_singleton] at hl
    rcases hl with (hl | rfl) | hl
    · exact h3 hls l (List.mem_of_mem_take hl)
    · omega
    · exact h3 hls l (List.mem_of_mem_drop hl)
  · rw [if_neg h1]
    by_cases h2 : ls.length = 1
    · rw [if_pos h2]; exact Wide.nil
    · rw [if_neg h2]
      have hls : 1 < ls.length := by omega
      by_cases h4 : a + 1 = ls.length
      · rw [if_pos h4]
        have h5 : a - 1 < ls.length := by omega
        have hg : ls[a - 1]? = some ls[a - 1] := by simp [h5]
        have h6 := h3 hls _ (List.mem_of_getElem? hg)
        rw [nth_get hg]
        intro _ l hl
        simp only [List.mem_append] at hl
        rcases hl with (hl | hl) | hl
        · exact h3 hls l (List.mem_of_mem_take hl)
        · exact joinL_ge (by rw [List.length_append]; omega) l hl
        · exact h3 hls l (List.mem_of_mem_drop hl)
      · rw [if_neg h4]
        have h5 : a + 1 < ls.length := by omega
        have hg : ls[a + 1]? = some ls[a + 1] := by simp [h5]
        have h6 := h3 hls _ (List.mem_of_getElem? hg)
        rw [nth_get hg]
        intro _ l hl
        simp only [List.mem_append] at hl
        rcases hl with (hl | hl) | hl
        · exact h3 hls l (List.mem_of_mem_take hl)
        · exact joinL_ge (by rw [List.length_append]; omega) l hl
        · exact h3 hls l (List.mem_of_mem_drop hl)
theorem Wide.take {ls : List (List Ent)} (h3 : Wide ls) (key : ByteArray) : Wide (pTake ls key) := by
  unfold pTake
  cases hL : ls[cntN ls key - 1]? with
  | none => exact h3
  | some L =>
    dsimp only
    split
    · exact h3.settle hL
    · exact h3
theorem Wide.len {ls : List (List Ent)} (h3 : Wide ls) (h : 1 < ls.length) : 3 * ls.length ≤ ls.flatten.length := by
  have : ∀ ms : List (List Ent), (∀ l ∈ ms, 3 ≤ l.length) → 3 * ms.length ≤ ms.flatten.length := by
    intro ms
    induction ms with
    | nil => intro _; simp
    | cons m ms ih =>
      intro h
      have h1 := h m (by simp)
      have h2 := ih (fun l hl => h l (by simp [hl]))
      rw [List.flatten_cons, List.length_append, List.length_cons]
      omega
  exact this ls (h3 h)

/-! ### a map that tells the same -/
theorem nd_len {α : Type} : ∀ (l1 l2 : List α), l1.Nodup → (∀ x ∈ l1, x ∈ l2) → l1.length ≤ l2.length
  | [], _, _, _ => Nat.zero_le _
  | x :: r, l2, hn, h => by
    obtain ⟨a, b, rfl⟩ := List.append_of_mem (h x (by simp))
    have hn' := List.nodup_cons.1 hn
    have := nd_len r (a ++ b) hn'.2 (fun y hy => by
      have hy2 := h y (by simp [hy])
      simp only [List.mem_append, List.mem_cons] at hy2 ⊢
      rcases hy2 with h' | rfl | h'
      · exact .inl h'
      · exact absurd hy hn'.1
      · exact .inr h')
    simp only [List.length_append, List.length_cons] at this ⊢
    omega
def fv (v : ByteArray) : Value := .agg #[.string v]
theorem fv_inj {v u : ByteArray} (h : fv v = fv u) : v = u := by simpa [fv] using h
structure Tells (es : Ents) (l : List Ent) : Prop where
  nd : (es.map (·.1)).Nodup
  mem : ∀ k u, (k, u) ∈ es ↔ ∃ v, (k, v) ∈ l ∧ u = fv v

theorem mget_mem : ∀ {es : Ents} {k : ByteArray} {u : Value}, (es.map (·.1)).Nodup → ((k, u) ∈ es ↔ mget es k = some u)
  | [], k, u, _ => by simp [mget]
  | p :: r, k, u, hn => by
    rw [List.map_cons, List.nodup_cons] at hn
    have ih := mget_mem (k := k) (u := u) hn.2
    simp only [mget, List.mem_cons]
    by_cases he : p.1 = k
    · rw [if_pos he]
      constructor
      · rintro (h | h)
        · rw [← h]
        · exact absurd (List.mem_map.2 ⟨_, h, rfl⟩) (by rw [he] at hn; exact hn.1)
      · intro h
        left
        simp only [Option.some.injEq] at h
        rw [← he, ← h]
    · rw [if_neg he, ← ih]
      constructor
      · rintro (h | h)
        · exact absurd (by rw [← h]) he
        · exact h
      · exact .inr
theorem keys_mput : ∀ (es : Ents) (k : ByteArray) (v : Value) (x : ByteArray), x ∈ (mput es k v).map (·.1) ↔ x = k ∨ x ∈ es.map (·.1)
  | [], k, v, x => by simp [mput]
  | p :: r, k, v, x => by
    simp only [mput]
    by_cases he : p.1 = k
    · rw [if_pos he]
      simp only [List.map_cons, List.mem_cons, he]
      constructor
      · rintro (h | h)
        · exact .inl h
        · exact .inr (.inr h)
      · rintro (h | h | h)
        · exact .inl h
        · exact .inl h
        · exact .inr h
    · rw [if_neg he]
      simp only [List.map_cons, List.mem_cons, keys_mput r k v x]
      constructor
      · rintro (h | h | h)
        · exact .inr (.inl h)
        · exact .inl h
        · exact .inr (.inr h)
      · rintro (h | h | h)
        · exact .inr (.inl h)
        · exact .inl h
        · exact .inr (.inr h)
theorem nd_mput : ∀ {es : Ents} (k : ByteArray) (v : Value), (es.map (·.1)).Nodup → ((mput es k v).map (·.1)).Nodup
  | [], k, v, _ => by simp [mput]
  | p :: r, k, v, hn => by
    rw [List.map_cons, List.nodup_cons] at hn
    simp only [mput]
    by_cases he : p.1 = k
    · rw [if_pos he, List.map_cons, List.nodup_cons]
      rw [he] at hn
      exact hn
    · rw [if_neg he, List.map_cons, List.nodup_cons, keys_mput]
      exact ⟨fun h => h.elim he hn.1, nd_mput k v hn.2⟩
theorem mget_mput : ∀ (es : Ents) (k : ByteArray) (v : Value) (x : ByteArray), mget (mput es k v) x = if x = k then some v else mget es x
  | [], k, v, x => by
    by_cases h : x = k
    · subst h; simp [mput, mget]
    · have : ¬ k = x := fun e => h e.symm
      simp [mput, mget, h, this]
  | p :: r, k, v, x => by
    simp only [mput]
    by_cases he : p.1 = k
    · rw [if_pos he]
      simp only [mget, he]
      by_cases h : x = k
      · subst h; simp
      · have : ¬ k = x := fun e => h e.symm
        simp [h, this]
    · rw [if_neg he]
      simp only [mget, mget_mput r k v x]
      by_cases h : x = k
      · subst h; simp [he]
      · simp [h]
theorem mdel_sub : ∀ (es : Ents) (k : ByteArray), (mdel es k).Sublist es
  | [], _ => List.Sublist.refl _
  | p :: r, k => by
    simp only [mdel]
    split
    · exact List.sublist_cons_self _ _
    · exact (mdel_sub r k).cons_cons _
theorem nd_mdel {es : Ents} (k : ByteArray) (h : (es.map (·.1)).Nodup) : ((mdel es k).map (·.1)).Nodup := h.sublist ((mdel_sub es k).map _)
theorem mget_none_of : ∀ {es : Ents} {k : ByteArray}, k ∉ es.map (·.1) → mget es k = none
  | [], _, _ => rfl
  | p :: r, k, h => by
    simp only [List.map_cons, List.mem_cons, not_or] at h
    simp only [mget, if_neg (fun e => h.1 (Eq.symm e)), mget_none_of h.2]
theorem mget_mdel : ∀ {es : Ents} (k x : ByteArray), (es.map (·.1)).Nodup → mget (mdel es k) x = if x = k then none else mget es x
  | [], k, x, _ => by simp [mdel, mget]
  | p :: r, k, x, hn => by
    rw [List.map_cons, List.nodup_cons] at hn
    simp only [mdel]
    by_cases he : p.1 = k
    · rw [if_pos he]
      by_cases h : x = k
      · subst h
        rw [if_pos rfl]
        exact mget_none_of (by rw [← he]; exact hn.1)
      · rw [if_neg h]
        simp only [mget]
        rw [if_neg (by rw [he]; exact fun e => h e.symm)]
    · rw [if_neg he]
      simp only [mget, mget_mdel k x hn.2]
      by_cases h : x = k
      · subst h; simp [he]
      · simp [h]

theorem Tells.nil : Tells [] [] := ⟨by simp, fun k u => by simp⟩
theorem Tells.of_get {es : Ents} {l : List Ent} (nd : (es.map (·.1)).Nodup) (h : ∀ k u, mget es k = some u ↔ ∃ v, (k, v) ∈ l ∧ u = fv v) : Tells es l := ⟨nd, fun k u => (mget_mem nd).trans (h k u)⟩
theorem Tells.get {es : Ents} {l : List Ent} (h : Tells es l) (k : ByteArray) (u : Value) : mget es k = some u ↔ ∃ v, (k, v) ∈ l ∧ u = fv v := (mget_mem h.nd).symm.trans (h.mem k u)
theorem Tells.put {es : Ents} {ls : List (List Ent)} (h : Tells es ls.flatten) (hw : WfP ls) (key val : ByteArray) : Tells (mput es key (fv val)) (pPut ls key val).flatten := by
  refine Tells.of_get (nd_mput _ _ h.nd) fun k u => ?_
  rw [mget_mput]
  by_cases hk : k = key
  · subst hk
    rw [if_pos rfl]
    constructor
    · intro e
      simp only [Option.some.injEq] at e
      exact ⟨val, (mem_put hw _ _ _).2 (.inl rfl), e.symm⟩
    · rintro ⟨v, hv, rfl⟩
      rcases (mem_put hw _ _ _).1 hv with e | e
      · simp only [Prod.mk.injEq, true_and] at e
        rw [e]
      · exact absurd rfl e.1
  · rw [if_neg hk, h.get]
    constructor
    · rintro ⟨v, hv, rfl⟩
      exact ⟨v, (mem_put hw _ _ _).2 (.inr ⟨hk, hv⟩), rfl⟩
    · rintro ⟨v, hv, rfl⟩
      rcases (mem_put hw _ _ _).1 hv with e | e
      · simp only [Prod.mk.injEq] at e
        exact absurd e.1 hk
      · exact ⟨v, e.2, rfl⟩
theorem Tells.del {es : Ents} {ls : List (List Ent)} (h : Tells es ls.flatten) (hw : WfP ls) (key : ByteArray) : Tells (mdel es key) (pTake ls key).flatten := by
  refine Tells.of_get (nd_mdel _ h.nd) fun k u => ?_
  rw [mget_mdel _ _ h.nd]
  by_cases hk : k = key
  · subst hk
    rw [if_pos rfl]
    constructor
    · intro e; cases e
    · rintro ⟨v, hv, rfl⟩
      exact absurd rfl ((mem_take hw _ _).1 hv).1
  · rw [if_neg hk, h.get]
    constructor
    · rintro ⟨v, hv, rfl⟩
      exact ⟨v, (mem_take hw _ _).2 ⟨hk, hv⟩, rfl⟩
    · rintro ⟨v, hv, rfl⟩
      exact ⟨v, ((mem_take hw _ _).1 hv).2, rfl⟩
theorem srt_nd {l : List Ent} (h : Srt l) : (l.map (·.1)).Nodup := by
  unfold List.Nodup
  rw [List.pairwise_map]
  exact h.imp fun hb => blt_ne hb
theorem Tells.len {es : Ents} {l : List Ent} (h : Tells es l) (hs : Srt l) : es.length = l.length := by
  have h1 := nd_len (es.map (·.1)) (l.map (·.1)) h.nd (fun x hx => by
    obtain ⟨⟨k, u⟩, hp, rfl⟩ := List.mem_map.1 hx
    obtain ⟨v, hv, _⟩ := (h.mem k u).1 hp
    exact List.mem_map.2 ⟨_, hv, rfl⟩)
  have h2 := nd_len (l.map (·.1)) (es.map (·.1)) (srt_nd hs) (fun x hx => by
    obtain ⟨⟨k, v⟩, hp, rfl⟩ := List.mem_map.1 hx
    exact List.mem_map.2 ⟨_, (h.mem k (fv v)).2 ⟨v, hp, rfl⟩, rfl⟩)
  simp only [List.length_map] at h1 h2
  omega
theorem blt_empty (x : ByteArray) : blt x ⟨#[]⟩ = false := by
  cases h : blt x ⟨#[]⟩ with
  | false => rfl
  | true => have := (blt_iff _ _).1 h; simp at this
theorem fromP_empty (l : List Ent) : fromP l ⟨#[]⟩ = l := by
  unfold fromP
  rw [List.filter_eq_self]
  intro x _
  rw [blt_empty]; rfl
end Go.Wk

