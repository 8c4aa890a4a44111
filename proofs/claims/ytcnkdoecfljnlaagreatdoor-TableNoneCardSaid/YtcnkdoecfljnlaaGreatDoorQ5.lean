/-
  Where a key is: the page, the place.
  Clone, Grow, Concat.
  replace, Insert, Delete, join.
  Delete, join.
  Pages: what putting and taking do, in lists; Put.
-/
import Derived.Test.YtcnkdoecfljnlaaGreatDoorQ4
set_option linter.all false
namespace Go.Wk
open Go.Proofs
set_option maxRecDepth 10000

def firstK (l : List Ent) : ByteArray := match l with | x :: _ => x.1 | [] => ⟨#[]⟩
def lbN (l : List Ent) (key : ByteArray) : Nat := (l.takeWhile fun x => blt x.1 key).length
def hasK (l : List Ent) (key : ByteArray) : Bool := hasAt (l.map (·.1)) key (lbN l key)
def cntN (ls : List (List Ent)) (key : ByteArray) : Nat := (ls.takeWhile fun l => !blt key (firstK l)).length
def Srt (l : List Ent) : Prop := l.Pairwise fun a b => blt a.1 b.1 = true

theorem takeWhile_len {α : Type} (p : α → Bool) : ∀ (l : List α) (i : Nat), i ≤ l.length → (∀ j k, l[j]? = some k → (p k = true ↔ j < i)) → (l.takeWhile p).length = i
  | [], i, h, _ => by simp at h; simp [h]
  | x :: l, i, h, hp => by
    have h0 := hp 0 x rfl
    cases i with
    | zero =>
      have : p x = false := by
        cases hx : p x with
        | false => rfl
        | true => have := h0.1 hx; omega
      simp [List.takeWhile, this]
    | succ i =>
      have : p x = true := h0.2 (by omega)
      have ih := takeWhile_len p l i (by simpa using h) (fun j k hk => by
        have := hp (j + 1) k (by simpa using hk)
        rw [this]; omega)
      simp [List.takeWhile, this, ih]

theorem IsLb.eq {l : List Ent} {key : ByteArray} {i : Nat} (h : IsLb (l.map (·.1)) key i) : i = lbN l key := by
  refine (takeWhile_len _ l i (by simpa using h.1) (fun j k hk => ?_)).symm
  exact h.2 j k.1 (by rw [List.getElem?_map, hk]; rfl)

theorem Srt.at {l : List Ent} (h : Srt l) {i j : Nat} {a b : Ent} (hij : i < j) (ha : l[i]? = some a) (hb : l[j]? = some b) : blt a.1 b.1 = true := by
  obtain ⟨h1, rfl⟩ := List.getElem?_eq_some_iff.1 ha
  obtain ⟨h2, rfl⟩ := List.getElem?_eq_some_iff.1 hb
  exact List.pairwise_iff_getElem.1 h i j h1 h2 hij
theorem Srt.mono {l : List Ent} (h : Srt l) (key : ByteArray) : Mono (l.map (·.1)) key := by
  intro i j a b hij ha hb hlt
  rw [List.getElem?_map] at ha hb
  cases hx : l[i]? with
  | none => simp [hx] at ha
  | some x =>
    cases hy : l[j]? with
    | none => simp [hy] at hb
    | some y =>
      simp [hx] at ha; simp [hy] at hb
      subst ha hb
      rcases Nat.lt_or_ge i j with h' | h'
      · exact blt_trans (h.at h' hx hy) hlt
      · have : i = j := by omega
        subst this
        rw [hx] at hy
        simp at hy
        subst hy
        exact hlt

/-- First keys, strictly rising. -/
def SrtF (ls : List (List Ent)) : Prop := ls.Pairwise fun a b => blt (firstK a) (firstK b) = true
theorem SrtF.at {ls : List (List Ent)} (h : SrtF ls) {i j : Nat} {a b : List Ent} (hij : i < j) (ha : ls[i]? = some a) (hb : ls[j]? = some b) : blt (firstK a) (firstK b) = true := by
  obtain ⟨h1, rfl⟩ := List.getElem?_eq_some_iff.1 ha
  obtain ⟨h2, rfl⟩ := List.getElem?_eq_some_iff.1 hb
  exact List.pairwise_iff_getElem.1 h i j h1 h2 hij
theorem SrtF.mono {ls : List (List Ent)} (h : SrtF ls) (key : ByteArray) : Mono (ls.map firstK) key := by
  intro i j a b hij ha hb hlt
  rw [List.getElem?_map] at ha hb
  cases hx : ls[i]? with
  | none => simp [hx] at ha
  | some x =>
    cases hy : ls[j]? with
    | none => simp [hy] at hb
    | some y =>
      simp [hx] at ha; simp [hy] at hb
      subst ha hb
      rcases Nat.lt_or_ge i j with h' | h'
      · exact blt_trans (h.at h' hx hy) hlt
      · have : i = j := by omega
        subst this
        rw [hx] at hy
        simp at hy
        subst hy
        exact hlt
/-- The page of a key, by the first place whose first key isn't below. -/
theorem cntN_of {ls : List (List Ent)} {key : ByteArray} {i : Nat} (hs : SrtF ls) (h : IsLb (ls.map firstK) key i) : (cntN ls key - 1 : Nat) = (if hasAt (ls.map firstK) key i then i else i - 1) := by
  have hle : i ≤ ls.length := by simpa using h.1
  have key1 : ∀ j k, ls[j]? = some k → j < i → blt key (firstK k) = false := fun j k hk hj =>
    blt_asymm ((h.2 j (firstK k) (by rw [List.getElem?_map, hk]; rfl)).2 hj)
  have key2 : ∀ j k, ls[j]? = some k → i ≤ j → blt (firstK k) key = false := fun j k hk hj => by
    cases hx : blt (firstK k) key with
    | false => rfl
    | true => have := (h.2 j (firstK k) (by rw [List.getElem?_map, hk]; rfl)).1 hx; omega
  by_cases hh : hasAt (ls.map firstK) key i = true
  · rw [if_pos hh]
    unfold hasAt at hh
    rw [List.getElem?_map] at hh
    cases hx : ls[i]? with
    | none => simp [hx] at hh
    | some x =>
      simp [hx] at hh
      have hil := (List.getElem?_eq_some_iff.1 hx).1
      have : cntN ls key = i + 1 := by
        refine takeWhile_len _ ls (i + 1) (by omega) (fun j k hk => ?_)
        rw [Bool.not_eq_true']
        constructor
        · intro h1
          rcases Nat.lt_or_ge j (i + 1) with h' | h'
          · exact h'
          · have := hs.at (show i < j by omega) hx hk
            rw [hh, h1] at this; cases this
        · intro h1
          rcases Nat.lt_or_ge j i with h' | h'
          · exact key1 j k hk h'
          · have : j = i := by omega
            subst this
            rw [hx] at hk; simp at hk; subst hk
            rw [hh]; exact blt_irrefl _
      rw [this]; simp
  · rw [if_neg hh]
    have : cntN ls key = i := by
      refine takeWhile_len _ ls i hle (fun j k hk => ?_)
      rw [Bool.not_eq_true']
      constructor
      · intro h1
        rcases Nat.lt_or_ge j i with h' | h'
        · exact h'
        · exfalso
          have h2 := key2 j k hk h'
          have he := blt_total h2 h1
          rcases Nat.lt_or_ge i j with h3 | h3
          · have hil : i < ls.length := by have := (List.getElem?_eq_some_iff.1 hk).1; omega
            have hx : ls[i]? = some ls[i] := by simp [hil]
            have h4 := hs.at h3 hx hk
            rw [he] at h4
            rw [key2 i _ hx (Nat.le_refl _)] at h4; cases h4
          · have : j = i := by omega
            subst this
            apply hh
            unfold hasAt
            rw [List.getElem?_map, hk]
            simp [he]
      · intro h1; exact key1 j k hk h1
    rw [this]

/-! ### pages -/
def AllL (w : World) : List Value → List (List Ent) → Prop
  | [], [] => True
  | v :: vs, l :: ls => IsList w v l ∧ AllL w vs ls
  | _, _ => False
theorem AllL.length {w : World} : ∀ {vs : List Value} {ls : List (List Ent)}, AllL w vs ls → vs.length = ls.length
  | [], [], _ => rfl
  | _ :: _, _ :: _, h => by simp [AllL.length h.2]
theorem AllL.at {w : World} : ∀ {vs : List Value} {ls : List (List Ent)} {i : Nat} {l : List Ent}, AllL w vs ls → ls[i]? = some l → ∃ v, vs[i]? = some v ∧ IsList w v l
  | [], [], _, _, _, h => by simp at h
  | v :: vs, l :: ls, 0, l', h, hi => by simp at hi; subst hi; exact ⟨v, rfl, h.1⟩
  | v :: vs, l :: ls, i + 1, l', h, hi => by simpa using h.2.at (by simpa using hi)
theorem AllL.append {w : World} : ∀ {vs us : List Value} {ls ms : List (List Ent)}, AllL w vs ls → AllL w us ms → AllL w (vs ++ us) (ls ++ ms)
  | [], _, [], _, _, h => h
  | _ :: _, _, _ :: _, _, h, h' => ⟨h.1, h.2.append h'⟩
theorem AllL.take {w : World} : ∀ {vs : List Value} {ls : List (List Ent)} (i : Nat), AllL w vs ls → AllL w (vs.take i) (ls.take i)
  | _, _, 0, _ => by simp [AllL]
  | [], [], _ + 1, _ => by simp [AllL]
  | _ :: _, _ :: _, i + 1, h => ⟨h.1, h.2.take i⟩
theorem AllL.drop {w : World} : ∀ {vs : List Value} {ls : List (List Ent)} (i : Nat), AllL w vs ls → AllL w (vs.drop i) (ls.drop i)
  | _, _, 0, h => h
  | [], [], _ + 1, _ => by simp [AllL]
  | _ :: _, _ :: _, i + 1, h => by simpa using h.2.drop i
theorem AllL.chg {S : List Nat} {w w' : World} (hc : Chg S w w') : ∀ {vs : List Value} {ls : List (List Ent)}, (∀ v ∈ vs, ∀ b ∈ blkOf v, b ∉ S) → AllL w vs ls → AllL w' vs ls
  | [], [], _, _ => trivial
  | v :: vs, l :: ls, hb, h => ⟨h.1.chg hc (hb v (by simp)), AllL.chg hc (fun u hu => hb u (by simp [hu])) h.2⟩
theorem AllL.apart {w : World} {b : Nat} {e : TypeId} {c : List Value} (hb : Blk w b e c) (hne : Nat.beq 175 e = false) : ∀ {vs : List Value} {ls : List (List Ent)}, AllL w vs ls → ∀ v ∈ vs, ∀ x ∈ blkOf v, x ∉ [b]
  | [], [], _, v, hv => by simp at hv
  | v :: vs, l :: ls, h, u, hu => by
    rcases List.mem_cons.1 hu with rfl | hu
    · exact IsSl.apart h.1 hb hne
    · exact AllL.apart hb hne h.2 u hu

/-- v are pages with these lists. -/
def IsPages (w : World) (v : Value) (ls : List (List Ent)) : Prop := ∃ vs, IsSl w 177 1 v ls.length vs ∧ AllL w vs ls
theorem IsPages.chg0 {w w' : World} {v : Value} {ls : List (List Ent)} (h : IsPages w v ls) (hc : Chg [] w w') : IsPages w' v ls :=
  let ⟨vs, h1, h2⟩ := h; ⟨vs, h1.chg0 hc, h2.chg hc (by simp)⟩
theorem IsPages.chg1 {w w' : World} {v : Value} {ls : List (List Ent)} (h : IsPages w v ls) {b : Nat} {e : TypeId} {c : List Value} (hb : Blk w b e c) (h1 : Nat.beq 177 e = false) (h2 : Nat.beq 175 e = false) (hc : Chg [b] w w') : IsPages w' v ls :=
  let ⟨vs, g1, g2⟩ := h; ⟨vs, g1.chg hc (g1.apart hb h1), g2.chg hc (g2.apart hb h2)⟩
theorem IsPages.at {w : World} {v : Value} {ls : List (List Ent)} (h : IsPages w v ls) {i : Nat} {l : List Ent} (hi : ls[i]? = some l) : ∃ b off cap u, v = .slice (some ⟨b, off, none⟩) ls.length cap ∧ w.cell? ⟨b, off + i * 1, none⟩ = some u ∧ IsList w u l := by
  obtain ⟨vs, h1, h2⟩ := h
  obtain ⟨b, off, cap, u, hv, hu, hc⟩ := h1.at1 (List.getElem?_eq_some_iff.1 hi).1
  obtain ⟨u', hu', hl⟩ := h2.at hi
  rw [hu] at hu'
  simp at hu'
  subst hu'
  exact ⟨b, off, cap, u, hv, hc, hl⟩

theorem f56 (v : Value) (ls : List (List Ent)) (key : ByteArray) (b : Nat) (w : World) (hl : IsPages w v ls) (hne : ∀ l ∈ ls, l ≠ []) (hn : ls.length ≤ 4611686018427387903) (hb : Blk w b 288 [.func (.func 183) #[] #[]]) (hm : Mono (ls.map firstK) key) :
    Ret Tryz.prog 233 #[v, .string key, .func (.func 234) #[] #[.pointer (some ⟨b, 0, none⟩)]] w fun r w' => ∃ i : Nat, r = .tuple #[.int .i64 i, .bool (hasAt (ls.map firstK) key i)] ∧ IsLb (ls.map firstK) key i ∧ w' = w := by
  obtain ⟨vs, hsl, hal⟩ := id hl
  obtain ⟨p, c, rfl, _⟩ := hsl.val
  have call : ∀ (i : Nat) (l : List Ent), ls[i]? = some l → ∃ bb off u, p = some ⟨bb, off, none⟩ ∧ w.cell? ⟨bb, off + i * 1, none⟩ = some u ∧ Ret Tryz.prog 234 #[u, .string key, .pointer (some ⟨b, 0, none⟩)] w fun r w' => r = .int .i64 (scmp (firstK l) key) ∧ w' = w := by
    intro i l hi
    obtain ⟨bb, off, cap, u, hv, hc, hl'⟩ := hl.at hi
    simp only [Value.slice.injEq] at hv
    refine ⟨bb, off, u, hv.1, hc, ?_⟩
    cases l with
    | nil => exact absurd rfl (hne [] (List.mem_of_getElem? hi))
    | cons x l => exact f57 u x.1 x.2 key l b w hl' hb
  refine Ret.of_W (args := [_, _, _]) Tryz.func233 rfl rfl rfl rfl ?_

  refine Sr (Oa rfl rfl (Oa rfl rfl (O_end [0, 1, 2] (F' := [(0, _), (1, _), (2, _)]) rfl (Sr (Om rfl rfl (Og (vl_len sl144 rfl) rfl (Oa rfl rfl (O_end [0, 1, 2, 8] (F' := [(0, _), (1, _), (2, _), (8, _)]) rfl (Sr (Om rfl rfl ?_))))))))))
  refine Oa rfl rfl (Oa rfl rfl (O_end [0, 1, 2, 8, 9, 10] (F' := [(0, _), (1, _), (2, _), (8, _), (9, _), (10, _)]) rfl (W_seq (W_block ?_))))
  refine W_loop [0, 1, 2, 8, 9, 10] (fun m F wx => wx = w ∧ ∃ lo hi : Nat, m = hi - lo ∧ F = [(0, .slice p ls.length c), (1, .string key), (2, .func (.func 234) #[] #[.pointer (some ⟨b, 0, none⟩)]), (8, .int .i64 ls.length), (9, .int .i64 lo), (10, .int .i64 hi)] ∧ Between (ls.map firstK) key lo hi) (m := ls.length - 0) ⟨rfl, 0, ls.length, rfl, rfl, by simpa using Between.start (ls.map firstK) key⟩ ?_
  rintro m F wx ⟨rfl, lo, hi, rfl, rfl, hbt⟩
  have hle := hbt.2.1
  rw [List.length_map] at hle
  refine W_seq (Sr (Om rfl rfl (Om rfl rfl (Og (vl_lss rfl rfl) rfl (O_end [0, 1, 2, 8, 9, 10, 17] (F' := [(0, _), (1, _), (2, _), (8, _), (9, _), (10, _), (17, _)]) rfl ?_)))))
  refine W_cond rfl (fun hT => ?_) (fun hF => ?_)
  · refine W_skipE ?_
    have hlt : lo < hi := by simpa using hT
    have hh := half_lt hlt
    have hk : ls[(lo + hi) / 2]? = some ls[(lo + hi) / 2] := by simp
    obtain ⟨bb, off, u, rfl, hcs, hret⟩ := call _ _ hk
    refine W_block (Sr (Om rfl rfl (Om rfl rfl ?_)))
    refine Og (vl_add rfl rfl (by omega)) rfl ?_
    refine Og (vl_convn it227_u64 it3_i64 rfl (show IntKind.u64.wrap ((lo : Int) + (hi : Int)) = ((lo + hi : Nat) : Int) from by rw [IntWalk.u64_in _ ⟨by omega, by omega⟩]; omega)) rfl ?_
    refine Og (vl_shr 1 rfl rfl (by omega) (by decide) (show ((lo + hi : Nat) : Int).fdiv 2 = (((lo + hi) / 2 : Nat) : Int) from by rw [Int.fdiv_eq_ediv_of_nonneg _ (by omega)]; omega)) rfl ?_
    refine Og (vl_convn it3_i64 it227_u64 rfl (show IntKind.i64.wrap (((lo + hi) / 2 : Nat) : Int) = (((lo + hi) / 2 : Nat) : Int) from IntWalk.i64_in _ ⟨by omega, by omega⟩)) rfl ?_
    refine Oa rfl rfl (O_end [0, 1, 2, 8, 9, 10, 11] (F' := [(0, _), (1, _), (2, _), (8, _), (9, _), (10, _), (11, _)]) rfl (Sr (Om rfl rfl (Om rfl rfl (Om rfl rfl ?_)))))
    refine Og (vl_indexAddr sl144 sz177 rfl rfl _ rfl (by omega)) rfl ?_
    refine Og (vl_load ag177 rfl hcs) rfl ?_
    refine Om rfl rfl ?_
    refine O_go (gn rfl) (st_call bd234 rfl rfl rfl rfl hret ?_)
    rintro v30 w30 ⟨rfl, rfl⟩
    refine Og (vl_lss rfl rfl) rfl (O_end [0, 1, 2, 8, 9, 10, 11, 31] (F' := [(0, _), (1, _), (2, _), (8, _), (9, _), (10, _), (11, _), (31, _)]) rfl ?_)
    have hkm : (ls.map firstK)[(lo + hi) / 2]? = some (firstK ls[(lo + hi) / 2]) := by rw [List.getElem?_map, hk]; rfl
    refine W_cond rfl (fun hT => ?_) (fun hF => ?_)
    · have hlt2 := (scmp_lt _ _).1 (of_decide_eq_true hT)
      refine W_region (Om rfl rfl ?_)
      refine Og (vl_add rfl rfl (by omega)) rfl ?_
      refine Oa rfl rfl ?_
      refine O_endN [0, 1, 2, 8, 9, 10] (F' := [(0, _), (1, _), (2, _), (8, _), (9, _), (10, _)]) rfl ?_
      refine ⟨hi - ((lo + hi) / 2 + 1), by omega, rfl, (lo + hi) / 2 + 1, hi, rfl, rfl, hbt.low hm hh.1 hh.2 hkm hlt2⟩
    · have hlt2 : blt (firstK ls[(lo + hi) / 2]) key = false := by
        cases hx : blt (firstK ls[(lo + hi) / 2]) key with
        | false => rfl
        | true => have := (scmp_lt _ _).2 hx; simp at hF; omega
      refine W_region (Om rfl rfl (Oa rfl rfl ?_))
      refine O_endN [0, 1, 2, 8, 9, 10] (F' := [(0, _), (1, _), (2, _), (8, _), (9, _), (10, _)]) rfl ?_
      refine ⟨(lo + hi) / 2 - lo, by omega, rfl, lo, (lo + hi) / 2, rfl, rfl, hbt.high hm hh.1 hh.2 hkm hlt2⟩
  · refine W_exit ?_
    repeat (first | refine then_exit ?_ | refine blockF_other rfl ?_)
    refine blockF_exit _ ?_
    have hge : hi ≤ lo := by simpa using hF
    have hlb := hbt.done hge
    refine W_seq ?_
    by_cases hlt : lo < ls.length
    · have hk : ls[lo]? = some ls[lo] := by simp
      obtain ⟨bb, off, u, rfl, hcs, hret⟩ := call _ _ hk
      have hhas : hasAt (ls.map firstK) key lo = decide (scmp (firstK ls[lo]) key = 0) := by
        simp only [hasAt, List.getElem?_map, hk, Option.map_some]
        exact decide_eq_decide.2 (scmp_eq _ _).symm
      refine W_region (Om rfl rfl (Om rfl rfl (Om rfl rfl ?_)))
      refine Og (vl_is (b' := true) (vl_lss rfl rfl) (by simpa using hlt)) rfl ?_
      refine Om rfl rfl ?_
      refine Oy rfl rfl (vl_move rfl) rfl ?_
      refine Oy rfl rfl (vl_move rfl) rfl ?_
      refine Oy rfl rfl (vl_move rfl) rfl ?_
      refine Oy rfl rfl (vl_indexAddr sl144 sz177 rfl rfl _ rfl hlt) rfl ?_
      refine Oy rfl rfl (vl_load ag177 rfl hcs) rfl ?_
      refine Oy rfl rfl (vl_move rfl) rfl ?_
      refine O_go (gy rfl rfl rfl) (st_call bd234 rfl rfl rfl rfl hret ?_)
      rintro v46 w46 ⟨rfl, rfl⟩
      refine Oy rfl rfl (vl_is (vl_ieq rfl rfl) hhas.symm) rfl ?_
      refine Ot rfl rfl rfl (Oa rfl rfl (Oa rfl rfl (O_end [6, 7] (F' := [(6, _), (7, _)]) rfl (W_ret ?_))))
      refine ret2 rfl rfl rfl ?_
      exact ⟨lo, rfl, hlb, rfl⟩
    · have hhas : hasAt (ls.map firstK) key lo = false := by
        simp only [hasAt, List.getElem?_map, List.getElem?_eq_none (Nat.not_lt.1 hlt), Option.map_none]
      refine W_region (Om rfl rfl (Om rfl rfl (Om rfl rfl ?_)))
      refine Og (vl_is (b' := false) (vl_lss rfl rfl) (by simpa using hlt)) rfl ?_
      refine Om rfl rfl ?_
      iterate 8 refine O_guard_no rfl rfl rfl rfl rfl rfl ?_
      refine Of rfl rfl rfl (Oa rfl rfl (Oa rfl rfl (O_end [6, 7] (F' := [(6, _), (7, _)]) rfl (W_ret ?_))))
      refine ret2 rfl rfl rfl ?_
      exact ⟨lo, by rw [hhas], hlb, rfl⟩

theorem f40 (v : Value) (es : List Ent) (key : ByteArray) (w : World) (hl : IsList w v es) (hn : es.length ≤ 4611686018427387903) (hs : Srt es) :
    Ret Tryz.prog 138 #[v, .string key, .func (.func 139) #[] #[]] w fun r w' => r = .tuple #[.int .i64 (lbN es key : Nat), .bool (hasK es key)] ∧ Chg [] w w' := by
  refine Ret.of_W (args := [_, _, _]) Tryz.func138 rfl rfl rfl rfl ?_

  refine Sr ?_
  refine O_go (gn rfl) (st_box rfl rfl rfl ?_)
  intro b5 w5 e5 n5 c5 k5
  refine Oa rfl rfl (Oa rfl rfl (O_end [0, 1, 5] (F' := [(0, _), (1, _), (5, _)]) rfl (Sr (Om rfl rfl (Om rfl rfl ?_)))))
  refine Og (vl_func rfl rfl) rfl ?_
  refine O_go (gn rfl) (st_call bd184 rfl rfl rfl rfl (f50 v es key b5 _ (hl.chg0 c5) hn k5 (hs.mono key)) ?_)
  rintro v11 w11 ⟨i, rfl, hlb, c11⟩
  refine Oe rfl rfl rfl (Oe rfl rfl rfl (Oa rfl rfl (Oa rfl rfl (O_end [6, 7] (F' := [(6, _), (7, _)]) rfl (W_ret ?_)))))
  refine ret2 rfl rfl rfl ?_
  have := hlb.eq
  subst this
  exact ⟨rfl, c5.trans c11⟩

theorem f48 (v : Value) (ls : List (List Ent)) (key : ByteArray) (w : World) (hl : IsPages w v ls) (hne : ∀ l ∈ ls, l ≠ []) (hn : ls.length ≤ 4611686018427387903) (hs : SrtF ls) :
    Ret Tryz.prog 182 #[v, .string key, .func (.func 183) #[] #[]] w fun r w' => ∃ i : Nat, r = .tuple #[.int .i64 i, .bool (hasAt (ls.map firstK) key i)] ∧ IsLb (ls.map firstK) key i ∧ Chg [] w w' := by
  refine Ret.of_W (args := [_, _, _]) Tryz.func182 rfl rfl rfl rfl ?_

  refine Sr ?_
  refine O_go (gn rfl) (st_box rfl rfl rfl ?_)
  intro b5 w5 e5 n5 c5 k5
  refine Oa rfl rfl (Oa rfl rfl (O_end [0, 1, 5] (F' := [(0, _), (1, _), (5, _)]) rfl (Sr (Om rfl rfl (Om rfl rfl ?_)))))
  refine Og (vl_func rfl rfl) rfl ?_
  refine O_go (gn rfl) (st_call bd233 rfl rfl rfl rfl (f56 v ls key b5 _ (hl.chg0 c5) hne hn k5 (hs.mono key)) ?_)
  rintro v11 w11 ⟨i, rfl, hlb, rfl⟩
  refine Oe rfl rfl rfl (Oe rfl rfl rfl (Oa rfl rfl (Oa rfl rfl (O_end [6, 7] (F' := [(6, _), (7, _)]) rfl (W_ret ?_)))))
  refine ret2 rfl rfl rfl ?_
  exact ⟨i, rfl, hlb, c5⟩

theorem f39 (v : Value) (ls : List (List Ent)) (key : ByteArray) (w : World) (hl : IsPages w v ls) (hne : ∀ l ∈ ls, l ≠ []) (hn : ls.length ≤ 4611686018427387903) (hs : SrtF ls) :
    Ret Tryz.prog 137 #[v, .string key] w fun r w' => r = .int .i64 (cntN ls key - 1 : Nat) ∧ Chg [] w w' := by
  refine Ret.of_W (args := [_, _]) Tryz.func137 rfl rfl rfl rfl ?_

  refine Sr (Oa rfl rfl (O_end [0, 1] (F' := [(0, _), (1, _)]) rfl (Sr (Om rfl rfl (Om rfl rfl ?_)))))
  refine O_go (gn rfl) (st_call bd182 rfl rfl rfl rfl (f48 v ls key _ hl hne hn hs) ?_)
  rintro v10 w10 ⟨i, rfl, hlb, c10⟩
  refine Om rfl rfl (Oe rfl rfl rfl (Oe rfl rfl rfl (Oa rfl rfl (Oa rfl rfl (O_end [5, 6] (F' := [(5, _), (6, _)]) rfl ?_)))))
  have hc := cntN_of hs hlb
  have hi : i ≤ ls.length := by simpa using hlb.1
  refine W_seq (Sr (Om rfl rfl (Og (vl_not rfl) rfl (O_end [5, 14] (F' := [(5, _), (14, _)]) rfl ?_))))
  refine W_cond rfl (fun hT => ?_) (fun hF => ?_)
  · refine W_region (Om rfl rfl ?_)
    refine Og (vl_sub rfl rfl (by omega)) rfl ?_
    refine Oa rfl rfl (O_end [5] (F' := [(5, _)]) rfl (Sr (Om rfl rfl ?_)))
    refine Og (vl_max rfl rfl) rfl ?_
    refine Oa rfl rfl (O_end [4] (F' := [(4, _)]) rfl (W_ret ?_))
    refine ret1 rfl rfl ?_
    have : hasAt (ls.map firstK) key i = false := by simpa using hT
    rw [this] at hc
    simp at hc
    refine ⟨?_, c10⟩
    rw [hc]
    congr 1
    split <;> omega
  · refine W_skipE (Sr (Om rfl rfl ?_))
    refine Og (vl_max rfl rfl) rfl ?_
    refine Oa rfl rfl (O_end [4] (F' := [(4, _)]) rfl (W_ret ?_))
    refine ret1 rfl rfl ?_
    have : hasAt (ls.map firstK) key i = true := by simpa using hF
    rw [this] at hc
    simp at hc
    refine ⟨?_, c10⟩
    rw [hc]
    congr 1
    split <;> omega

/-- Where a key is: page, place, is it there? -/
def spot (ls : List (List Ent)) (key : ByteArray) : Nat × Nat × Bool :=
  match ls[cntN ls key - 1]? with
  | some l => (cntN ls key - 1, lbN l key, hasK l key)
  | none => (0, 0, false)

theorem cntN_lt {ls : List (List Ent)} {key : ByteArray} (h : ls ≠ []) : cntN ls key - 1 < ls.length := by
  have : cntN ls key ≤ ls.length := (List.takeWhile_prefix _).length_le
  have : 0 < ls.length := List.length_pos_iff.2 h
  omega

theorem f24 (v : Value) (ls : List (List Ent)) (key : ByteArray) (w : World) (hl : IsPages w v ls) (hne : ∀ l ∈ ls, l ≠ []) (hn : ls.length ≤ 4611686018427387903) (hs : SrtF ls) (hsl : ∀ l ∈ ls, Srt l) (hnl : ∀ l ∈ ls, l.length ≤ 4611686018427387903) :
    Ret Tryz.prog 97 #[v, .string key] w fun r w' => r = .tuple #[.int .i64 ((spot ls key).1 : Nat), .int .i64 ((spot ls key).2.1 : Nat), .bool (spot ls key).2.2] ∧ Chg [] w w' := by
  obtain ⟨vs, hsl', hal⟩ := id hl
  obtain ⟨p, c, rfl, _⟩ := hsl'.val
  refine Ret.of_W (args := [_, _]) Tryz.func97 rfl rfl rfl rfl ?_

  refine Sr (Oa rfl rfl (Oa rfl rfl (Oa rfl rfl (O_end [0, 1] (F' := [(0, _), (1, _)]) rfl (W_seq (Sr (Om rfl rfl (Og (vl_len sl145 rfl) rfl (Og (vl_ieq rfl rfl) rfl (O_end [0, 1, 9] (F' := [(0, _), (1, _), (9, _)]) rfl ?_))))))))))
  refine W_cond rfl (fun hT => ?_) (fun hF => ?_)
  · refine Sr (Oa rfl rfl (Oa rfl rfl (Oa rfl rfl (O_end [4, 5, 6] (F' := [(4, _), (5, _), (6, _)]) rfl (W_ret ?_)))))
    refine then_ret ?_
    refine ret3 rfl rfl rfl rfl ?_
    have : ls = [] := List.eq_nil_of_length_eq_zero (by simpa using hT)
    subst this
    exact ⟨rfl, Chg.refl _ _⟩
  · refine W_skipE ?_
    have hls : ls ≠ [] := by rintro rfl; simp at hF
    have hat := cntN_lt (key := key) hls
    have hk : ls[cntN ls key - 1]? = some ls[cntN ls key - 1] := by simp [hat]
    have hmem : ls[cntN ls key - 1] ∈ ls := List.getElem_mem hat
    have hspot : spot ls key = (cntN ls key - 1, lbN ls[cntN ls key - 1] key, hasK ls[cntN ls key - 1] key) := by unfold spot; rw [hk]
    refine Sr (Om rfl rfl (Om rfl rfl ?_))
    refine O_go (gn rfl) (st_call bd137 rfl rfl rfl rfl (f39 _ ls key _ hl hne hn hs) ?_)
    rintro v12 w12 ⟨rfl, c12⟩
    refine Oa rfl rfl (O_end [0, 1, 4] (F' := [(0, _), (1, _), (4, _)]) rfl ?_)
    obtain ⟨bb, off, cap, u, hv, hc, hl'⟩ := (hl.chg0 c12).at hk
    cases hv
    refine Sr (Om rfl rfl (Om rfl rfl ?_))
    refine Og (vl_indexAddr sl145 sz177 rfl rfl _ rfl hat) rfl ?_
    refine Og (vl_load ag177 rfl hc) rfl ?_
    refine Om rfl rfl ?_
    refine O_go (gn rfl) (st_call bd138 rfl rfl rfl rfl (f40 u _ key _ hl' (hnl _ hmem) (hsl _ hmem)) ?_)
    rintro v19 w19 ⟨rfl, c19⟩
    refine Om rfl rfl (Oe rfl rfl rfl (Oe rfl rfl rfl (Oa rfl rfl (Oa rfl rfl (O_end [4, 5, 6] (F' := [(4, _), (5, _), (6, _)]) rfl (Sr (Om rfl rfl (Om rfl rfl (Om rfl rfl (Oa rfl rfl (Oa rfl rfl (Oa rfl rfl ?_))))))))))))
    refine O_end [4, 5, 6] (F' := [(4, _), (5, _), (6, _)]) rfl (W_ret ?_)
    refine ret3 rfl rfl rfl rfl ?_
    rw [hspot]
    exact ⟨rfl, c12.trans c19⟩
end Go.Wk

namespace Go.Wk
open Go.Proofs
set_option maxRecDepth 10000

theorem f25 (v : Value) (n : Nat) (xs : List Value) (w : World) (h : IsSl w 175 2 v n xs) (hn : n ≤ 4294967296) : Ret Tryz.prog 130 #[v] w fun r w' => IsSl w' 175 2 r n xs ∧ (∀ b ∈ blkOf r, w.heap.size ≤ b) ∧ Chg [] w w' := by
  obtain ⟨p, c, rfl, _⟩ := h.val
  refine Ret.of_W (args := [_]) Tryz.func130 rfl rfl rfl rfl ?_

  refine Sr (Oa rfl rfl (O_end [0] (F' := [(0, _)]) rfl (W_seq (Sr (Om rfl rfl ?_)))))
  refine Og (vl_snil sl177 rfl rfl) rfl ?_
  refine O_end [0, 4] (F' := [(0, _), (4, _)]) rfl ?_
  refine W_cond rfl (fun hT => ?_) (fun hF => ?_)
  · refine Sr (Oa rfl rfl (O_end [2] (F' := [(2, _)]) rfl (W_ret ?_)))
    refine then_ret ?_
    refine ret1 rfl rfl ?_
    rcases h with ⟨_, rfl, rfl⟩ | ⟨b, off, cap, cc, he, _⟩
    · exact ⟨IsSl.nil _ _ _, by simp [blkOf], Chg.refl _ _⟩
    · simp only [Value.slice.injEq] at he
      rw [he.1] at hT
      simp at hT
  · refine W_skipE (Sr ?_)
    refine O_go (gn rfl) (st_buildSlice ap177 rfl (vs := []) rfl (css := []) trivial rfl rfl (cs := []) rfl rfl ?_)
    intro b5 w5 e5 n5 c5 k5
    refine Om rfl rfl ?_
    refine O_go (gn rfl) (st_append ap177 sl177 rfl rfl (IsSl.of_blk (n := 0) k5 (by simp) (by simp [maxLen]) (by simp)) (h.chg0 c5) (by simp only [maxLen]; omega) (by omega) rfl ?_)
    intro v7 w7 i7 c7 o7 z7
    refine Oa rfl rfl (O_end [2] (F' := [(2, _)]) rfl (W_ret ?_))
    refine ret1 rfl rfl ?_
    refine ⟨by simpa using i7, ?_, c5.own c7 (by simp [blkOf, ← e5])⟩
    rcases o7 with o7 | ⟨b, o7, hb⟩
    · rw [o7]; simp [blkOf, ← e5]
    · rw [o7]; intro x hx; simp at hx; subst hx; have := c5.size; omega

theorem f31 (v : Value) (n : Nat) (xs : List Value) (w : World) (h : IsSl w 177 1 v n xs) (hn : n ≤ 4294967296) : Ret Tryz.prog 99 #[v] w fun r w' => IsSl w' 177 1 r n xs ∧ (∀ b ∈ blkOf r, w.heap.size ≤ b) ∧ Chg [] w w' := by
  obtain ⟨p, c, rfl, _⟩ := h.val
  refine Ret.of_W (args := [_]) Tryz.func99 rfl rfl rfl rfl ?_

  refine Sr (Oa rfl rfl (O_end [0] (F' := [(0, _)]) rfl (W_seq (Sr (Om rfl rfl ?_)))))
  refine Og (vl_snil sl145 rfl rfl) rfl ?_
  refine O_end [0, 4] (F' := [(0, _), (4, _)]) rfl ?_
  refine W_cond rfl (fun hT => ?_) (fun hF => ?_)
  · refine Sr (Oa rfl rfl (O_end [2] (F' := [(2, _)]) rfl (W_ret ?_)))
    refine then_ret ?_
    refine ret1 rfl rfl ?_
    rcases h with ⟨_, rfl, rfl⟩ | ⟨b, off, cap, cc, he, _⟩
    · exact ⟨IsSl.nil _ _ _, by simp [blkOf], Chg.refl _ _⟩
    · simp only [Value.slice.injEq] at he
      rw [he.1] at hT
      simp at hT
  · refine W_skipE (Sr ?_)
    refine O_go (gn rfl) (st_buildSlice ap145 rfl (vs := []) rfl (css := []) trivial rfl rfl (cs := []) rfl rfl ?_)
    intro b5 w5 e5 n5 c5 k5
    refine Om rfl rfl ?_
    refine O_go (gn rfl) (st_append ap145 sl145 rfl rfl (IsSl.of_blk (n := 0) k5 (by simp) (by simp [maxLen]) (by simp)) (h.chg0 c5) (by simp only [maxLen]; omega) (by omega) rfl ?_)
    intro v7 w7 i7 c7 o7 z7
    refine Oa rfl rfl (O_end [2] (F' := [(2, _)]) rfl (W_ret ?_))
    refine ret1 rfl rfl ?_
    refine ⟨by simpa using i7, ?_, c5.own c7 (by simp [blkOf, ← e5])⟩
    rcases o7 with o7 | ⟨b, o7, hb⟩
    · rw [o7]; simp [blkOf, ← e5]
    · rw [o7]; intro x hx; simp at hx; subst hx; have := c5.size; omega

theorem f53 (n : Nat) (w : World) (hn : n ≤ 4294967296) : Ret Tryz.prog 228 #[.slice none 0 0, .int .i64 n] w fun r w' => IsSl w' 177 1 r 0 [] ∧ (∀ b ∈ blkOf r, w.heap.size ≤ b) ∧ Chg [] w w' := by
  refine Ret.of_W (args := [_, _]) Tryz.func228 rfl rfl rfl rfl ?_

  refine Sr (Oa rfl rfl (O_end [0, 1] (F' := [(0, _), (1, _)]) rfl (W_seq (Sr (Om rfl rfl (Og (vl_lss rfl rfl) rfl (O_end [0, 1, 6] (F' := [(0, _), (1, _), (6, _)]) rfl ?_)))))))
  refine W_cond rfl (fun hT => ?_) (fun hF => ?_)
  · exfalso
    have := of_decide_eq_true hT
    omega
  · refine W_skipE (W_seq (Sr (Om rfl rfl (Om rfl rfl ?_))))
    refine Og (vl_cap sl145 rfl) rfl ?_
    refine Om rfl rfl (Og (vl_len sl145 rfl) rfl ?_)
    refine Og (vl_sub rfl rfl (by omega)) rfl ?_
    refine Og (vl_eq (v' := .int .i64 n) (vl_sub rfl rfl (by omega)) (by congr 1 <;> omega)) rfl ?_
    refine Oa rfl rfl (O_end [0, 1] (F' := [(0, _), (1, _)]) rfl (Sr (Om rfl rfl ?_)))
    refine Og (vl_gtr rfl rfl) rfl ?_
    refine O_end [0, 1, 16] (F' := [(0, _), (1, _), (16, _)]) rfl ?_
    refine W_cond rfl (fun hT => ?_) (fun hF => ?_)
    · have hpos : 0 < n := by have := of_decide_eq_true hT; omega
      refine W_region (Om rfl rfl (Om rfl rfl ?_))
      refine Og (vl_cap sl145 rfl) rfl ?_
      refine Og (vl_cut_h sl145 sz177 rfl rfl _ rfl (by omega)) rfl ?_
      refine Om rfl rfl ?_
      refine O_go (gn rfl) (st_appendMake ap145 it3_i64 rfl rfl rfl (IsSl.nil _ _ _) (fun p c he => by simp [cut] at he; omega) (by simp only [maxLen]; omega) (by omega) rfl ?_)
      intro b cap zs w22 hb c22 hge hle hzl hone k22
      refine Om rfl rfl (Og (vl_len sl145 rfl) rfl ?_)
      refine Og (vl_cut_h sl145 sz177 rfl rfl 0 rfl (by omega)) rfl ?_
      refine Oa rfl rfl (O_end [0] (F' := [(0, _)]) rfl (Sr (Om rfl rfl (Oa rfl rfl (O_end [4] (F' := [(4, _)]) rfl (W_ret ?_))))))
      refine ret1 rfl rfl ?_
      have hsl : SlAt w22 177 1 b 0 (0 + n) cap ([] ++ zs) (((([] ++ zs) : List Value).drop 0).take ((0 + n) * 1)) := ⟨k22, hge, hle, by simp only [List.nil_append]; omega, rfl, hone⟩
      have hc := hsl.cut (l := 0) (h := 0) (m := cap) (Nat.le_refl _) (Nat.zero_le _) (Nat.le_refl _)
      refine ⟨by simpa using hc, fun x hx => ?_, c22⟩
      have := IsSl.cutBlk (len := 0) (cap := 0) x hx
      simp [blkOf] at this
      omega
    · refine W_skipE (Sr (Om rfl rfl (Oa rfl rfl (O_end [4] (F' := [(4, _)]) rfl (W_ret ?_)))))
      refine ret1 rfl rfl ?_
      exact ⟨IsSl.nil _ _ _, by simp [blkOf], Chg.refl _ _⟩

theorem f55 (n : Nat) (w : World) (hn : n ≤ 4294967296) : Ret Tryz.prog 229 #[.slice none 0 0, .int .i64 n] w fun r w' => IsSl w' 175 2 r 0 [] ∧ (∀ b ∈ blkOf r, w.heap.size ≤ b) ∧ Chg [] w w' := by
  refine Ret.of_W (args := [_, _]) Tryz.func229 rfl rfl rfl rfl ?_

  refine Sr (Oa rfl rfl (O_end [0, 1] (F' := [(0, _), (1, _)]) rfl (W_seq (Sr (Om rfl rfl (Og (vl_lss rfl rfl) rfl (O_end [0, 1, 6] (F' := [(0, _), (1, _), (6, _)]) rfl ?_)))))))
  refine W_cond rfl (fun hT => ?_) (fun hF => ?_)
  · exfalso
    have := of_decide_eq_true hT
    omega
  · refine W_skipE (W_seq (Sr (Om rfl rfl (Om rfl rfl ?_))))
    refine Og (vl_cap sl177 rfl) rfl ?_
    refine Om rfl rfl (Og (vl_len sl177 rfl) rfl ?_)
    refine Og (vl_sub rfl rfl (by omega)) rfl ?_
    refine Og (vl_eq (v' := .int .i64 n) (vl_sub rfl rfl (by omega)) (by congr 1 <;> omega)) rfl ?_
    refine Oa rfl rfl (O_end [0, 1] (F' := [(0, _), (1, _)]) rfl (Sr (Om rfl rfl ?_)))
    refine Og (vl_gtr rfl rfl) rfl ?_
    refine O_end [0, 1, 16] (F' := [(0, _), (1, _), (16, _)]) rfl ?_
    refine W_cond rfl (fun hT => ?_) (fun hF => ?_)
    · have hpos : 0 < n := by have := of_decide_eq_true hT; omega
      refine W_region (Om rfl rfl (Om rfl rfl ?_))
      refine Og (vl_cap sl177 rfl) rfl ?_
      refine Og (vl_cut_h sl177 sz175 rfl rfl _ rfl (by omega)) rfl ?_
      refine Om rfl rfl ?_
      refine O_go (gn rfl) (st_appendMake ap177 it3_i64 rfl rfl rfl (IsSl.nil _ _ _) (fun p c he => by simp [cut] at he; omega) (by simp only [maxLen]; omega) (by omega) rfl ?_)
      intro b cap zs w22 hb c22 hge hle hzl hone k22
      refine Om rfl rfl (Og (vl_len sl177 rfl) rfl ?_)
      refine Og (vl_cut_h sl177 sz175 rfl rfl 0 rfl (by omega)) rfl ?_
      refine Oa rfl rfl (O_end [0] (F' := [(0, _)]) rfl (Sr (Om rfl rfl (Oa rfl rfl (O_end [4] (F' := [(4, _)]) rfl (W_ret ?_))))))
      refine ret1 rfl rfl ?_
      have hsl : SlAt w22 175 2 b 0 (0 + n) cap ([] ++ zs) (((([] ++ zs) : List Value).drop 0).take ((0 + n) * 2)) := ⟨k22, hge, hle, by simp only [List.nil_append]; omega, rfl, hone⟩
      have hc := hsl.cut (l := 0) (h := 0) (m := cap) (Nat.le_refl _) (Nat.zero_le _) (Nat.le_refl _)
      refine ⟨by simpa using hc, fun x hx => ?_, c22⟩
      have := IsSl.cutBlk (len := 0) (cap := 0) x hx
      simp [blkOf] at this
      omega
    · refine W_skipE (Sr (Om rfl rfl (Oa rfl rfl (O_end [4] (F' := [(4, _)]) rfl (W_ret ?_)))))
      refine ret1 rfl rfl ?_
      exact ⟨IsSl.nil _ _ _, by simp [blkOf], Chg.refl _ _⟩

theorem f42 (v : Value) (us : List Value) (xss : List (List Value)) (w : World) (hu : IsSl w 145 1 v xss.length us) (ha : AllS w 177 1 us xss) (ht : sumTo 1 xss xss.length ≤ 4294967296) (hlen : xss.length ≤ 4294967296) :
    Ret Tryz.prog 159 #[v] w fun r w' => IsSl w' 177 1 r (sumTo 1 xss xss.length) xss.flatten ∧ (∀ b ∈ blkOf r, w.heap.size ≤ b) ∧ Chg [] w w' := by
  have part : ∀ (wx : World) (i : Nat), Chg [] w wx → i < xss.length → ∃ b off cap x p c, v = .slice (some ⟨b, off, none⟩) xss.length cap ∧ xss[i]? = some x ∧ wx.cell? ⟨b, off + i * 1, none⟩ = some (.slice p (x.length / 1) c) ∧ IsSl wx 177 1 (.slice p (x.length / 1) c) (x.length / 1) x := by
    intro wx i hc hi
    obtain ⟨b, off, cap, u, hv, hu', hcell⟩ := (hu.chg0 hc).at1 hi
    have hx : xss[i]? = some xss[i] := by simp [hi]
    obtain ⟨u', hu2, hs⟩ := (ha.chg0 hc).at hx
    rw [hu'] at hu2
    simp at hu2
    subst hu2
    obtain ⟨p, c, rfl, _⟩ := hs.val
    exact ⟨b, off, cap, _, p, c, hv, hx, hcell, hs⟩
  obtain ⟨pv, cv, rfl, _⟩ := hu.val
  refine Ret.of_W (args := [_]) Tryz.func159 rfl rfl rfl rfl ?_

  refine Sr (Oa rfl rfl (O_end [0] (F' := [(0, _)]) rfl (Sr (Oa rfl rfl (O_end [0, 3] (F' := [(0, _), (3, _)]) rfl (W_seq (Sr (Om rfl rfl (Og (vl_len sl328 rfl) rfl (Om rfl rfl ?_))))))))))
  refine O_end [0, 3, 9, 10, 11] (F' := [(0, _), (3, _), (9, _), (10, _), (11, _)]) rfl (W_block ?_)
  refine W_loop [0, 3, 9, 10, 11] (fun m F wx => wx = w ∧ ∃ j : Nat, m = xss.length - j ∧ j ≤ xss.length ∧ F = [(0, .slice pv xss.length cv), (3, .int .i64 (sumTo 1 xss j : Nat)), (9, .slice pv xss.length cv), (10, .int .i64 xss.length), (11, .int .i64 j)]) (m := xss.length - 0) ⟨rfl, 0, rfl, Nat.zero_le _, rfl⟩ ?_
  rintro m F wx ⟨rfl, j, rfl, hj, rfl⟩
  have hmj := sumTo_mono 1 xss hj
  refine Sr (Og (vl_lss rfl rfl) rfl (O_end [0, 3, 9, 10, 11, 12] (F' := [(0, _), (3, _), (9, _), (10, _), (11, _), (12, _)]) rfl (W_seq ?_)))
  refine W_cond rfl (fun hT => ?_) (fun hF => ?_)
  · refine W_skipE ?_
    have hlt : j < xss.length := by simpa using hT
    obtain ⟨b, off, cap, x, p, c, hv, hx, hcell, hs⟩ := part wx j (Chg.refl _ _) hlt
    cases hv
    have hsucc := sumTo_succ (k := 1) hx
    have hmj2 := sumTo_mono 1 xss (show j + 1 ≤ xss.length by omega)
    refine W_seq (W_block (Sr ?_))
    refine Og (vl_indexAddr sl328 sz145 rfl rfl _ rfl hlt) rfl ?_
    refine Og (vl_load ag145 rfl hcell) rfl ?_
    refine Oa rfl rfl (O_end [0, 3, 5, 9, 10, 11] (F' := [(0, _), (3, _), (5, _), (9, _), (10, _), (11, _)]) rfl (Sr (Om rfl rfl (Om rfl rfl (Og (vl_len sl145 rfl) rfl ?_)))))
    refine Og (vl_add rfl rfl (by omega)) rfl ?_
    refine Oa rfl rfl (O_end [0, 3, 9, 10, 11] (F' := [(0, _), (3, _), (9, _), (10, _), (11, _)]) rfl (Sr (Om rfl rfl (Og (vl_lss rfl rfl) rfl (O_end [0, 3, 9, 10, 11, 20] (F' := [(0, _), (3, _), (9, _), (10, _), (11, _), (20, _)]) rfl ?_)))))
    refine W_cond rfl (fun hT => ?_) (fun hF => ?_)
    · exfalso
      have := of_decide_eq_true hT
      omega
    · refine W_skip (block_normal (W_region ?_))
      refine Og (vl_add rfl rfl (by omega)) rfl ?_
      refine Om rfl rfl ?_
      refine O_endN [0, 3, 9, 10, 11] (F' := [(0, _), (3, _), (9, _), (10, _), (11, _)]) rfl ?_
      refine ⟨xss.length - (j + 1), by omega, rfl, j + 1, rfl, by omega, ?_⟩
      rw [hsucc]
      rfl
  · have hge : ¬ j < xss.length := by simpa using hF
    obtain rfl : j = xss.length := by omega
    refine W_exit ?_
    repeat (first | refine then_exit ?_ | refine blockF_other rfl ?_)
    refine blockF_exit _ ?_
    refine Sr (Om rfl rfl ?_)
    refine O_go (gn rfl) (st_call bd228 rfl rfl rfl rfl (f53 (sumTo 1 xss xss.length) wx ht) ?_)
    rintro v24 w24 ⟨i24, n24, c24⟩
    refine Oa rfl rfl (O_end [0, 6] (F' := [(0, _), (6, _)]) rfl (W_seq (Sr (Om rfl rfl (Og (vl_len sl328 rfl) rfl (Om rfl rfl (O_end [6, 25, 26, 27] (F' := [(6, _), (25, _), (26, _), (27, _)]) rfl (W_block ?_))))))))
    refine W_loop [6, 25, 26, 27] (fun m F wy => ∃ (j : Nat) (acc : Value), m = xss.length - j ∧ j ≤ xss.length ∧ F = [(6, acc), (25, .slice pv xss.length cv), (26, .int .i64 xss.length), (27, .int .i64 j)] ∧ IsSl wy 177 1 acc (sumTo 1 xss j) (xss.take j).flatten ∧ (∀ b ∈ blkOf acc, wx.heap.size ≤ b) ∧ Chg [] wx wy) (m := xss.length - 0) ⟨0, v24, rfl, Nat.zero_le _, rfl, by simpa [sumTo] using i24, n24, c24⟩ ?_
    rintro m F wy ⟨j, acc, rfl, hj, rfl, hacc, hnew, hcy⟩
    have hmj := sumTo_mono 1 xss hj
    refine Sr (Og (vl_lss rfl rfl) rfl (O_end [6, 25, 26, 27, 28] (F' := [(6, _), (25, _), (26, _), (27, _), (28, _)]) rfl (W_seq ?_)))
    refine W_cond rfl (fun hT => ?_) (fun hF => ?_)
    · refine W_skipE ?_
      have hlt : j < xss.length := by simpa using hT
      obtain ⟨b, off, cap, x, p, c, hv, hx, hcell, hs⟩ := part wy j hcy hlt
      cases hv
      have hsucc := sumTo_succ (k := 1) hx
      have hmj2 := sumTo_mono 1 xss (show j + 1 ≤ xss.length by omega)
      refine W_seq (W_block (Sr ?_))
      refine Og (vl_indexAddr sl328 sz145 rfl rfl _ rfl hlt) rfl ?_
      refine Og (vl_load ag145 rfl hcell) rfl ?_
      refine Oa rfl rfl (O_end [6, 8, 25, 26, 27] (F' := [(6, _), (8, _), (25, _), (26, _), (27, _)]) rfl (W_region (Om rfl rfl (Om rfl rfl ?_))))
      refine O_go (gn rfl) (st_append ap145 sl145 rfl rfl hacc hs (by simp only [maxLen]; omega) (by omega) rfl ?_)
      intro v33 w33 i33 c33 o33 z33
      refine Oa rfl rfl ?_
      refine O_endN [6, 25, 26, 27] (F' := [(6, _), (25, _), (26, _), (27, _)]) rfl ?_
      refine block_normal (W_region ?_)
      refine Og (vl_add rfl rfl (by omega)) rfl ?_
      refine Om rfl rfl ?_
      refine O_endN [6, 25, 26, 27] (F' := [(6, _), (25, _), (26, _), (27, _)]) rfl ?_
      refine ⟨xss.length - (j + 1), by omega, j + 1, v33, rfl, by omega, rfl, ?_, ?_, hcy.own c33 hnew⟩
      · rw [hsucc, flatten_take_succ hx]
        exact i33
      · rcases o33 with o33 | ⟨b', o33, hb'⟩
        · rw [o33]; exact hnew
        · rw [o33]; intro y hy; simp at hy; subst hy; have := hcy.size; omega
    · have hge : ¬ j < xss.length := by simpa using hF
      obtain rfl : j = xss.length := by omega
      refine W_exit ?_
      repeat (first | refine then_exit ?_ | refine blockF_other rfl ?_)
      refine blockF_exit _ ?_
      refine Sr (Om rfl rfl (Oa rfl rfl (O_end [2] (F' := [(2, _)]) rfl (W_ret ?_))))
      refine ret1 rfl rfl ?_
      rw [List.take_length] at hacc
      exact ⟨hacc, hnew, hcy⟩

theorem f45 (v : Value) (us : List Value) (xss : List (List Value)) (w : World) (hu : IsSl w 177 1 v xss.length us) (ha : AllS w 175 2 us xss) (ht : sumTo 2 xss xss.length ≤ 4294967296) (hlen : xss.length ≤ 4294967296) :
    Ret Tryz.prog 160 #[v] w fun r w' => IsSl w' 175 2 r (sumTo 2 xss xss.length) xss.flatten ∧ (∀ b ∈ blkOf r, w.heap.size ≤ b) ∧ Chg [] w w' := by
  have part : ∀ (wx : World) (i : Nat), Chg [] w wx → i < xss.length → ∃ b off cap x p c, v = .slice (some ⟨b, off, none⟩) xss.length cap ∧ xss[i]? = some x ∧ wx.cell? ⟨b, off + i * 1, none⟩ = some (.slice p (x.length / 2) c) ∧ IsSl wx 175 2 (.slice p (x.length / 2) c) (x.length / 2) x := by
    intro wx i hc hi
    obtain ⟨b, off, cap, u, hv, hu', hcell⟩ := (hu.chg0 hc).at1 hi
    have hx : xss[i]? = some xss[i] := by simp [hi]
    obtain ⟨u', hu2, hs⟩ := (ha.chg0 hc).at hx
    rw [hu'] at hu2
    simp at hu2
    subst hu2
    obtain ⟨p, c, rfl, _⟩ := hs.val
    exact ⟨b, off, cap, _, p, c, hv, hx, hcell, hs⟩
  obtain ⟨pv, cv, rfl, _⟩ := hu.val
  refine Ret.of_W (args := [_]) Tryz.func160 rfl rfl rfl rfl ?_

  refine Sr (Oa rfl rfl (O_end [0] (F' := [(0, _)]) rfl (Sr (Oa rfl rfl (O_end [0, 3] (F' := [(0, _), (3, _)]) rfl (W_seq (Sr (Om rfl rfl (Og (vl_len sl144 rfl) rfl (Om rfl rfl ?_))))))))))
  refine O_end [0, 3, 9, 10, 11] (F' := [(0, _), (3, _), (9, _), (10, _), (11, _)]) rfl (W_block ?_)
  refine W_loop [0, 3, 9, 10, 11] (fun m F wx => wx = w ∧ ∃ j : Nat, m = xss.length - j ∧ j ≤ xss.length ∧ F = [(0, .slice pv xss.length cv), (3, .int .i64 (sumTo 2 xss j : Nat)), (9, .slice pv xss.length cv), (10, .int .i64 xss.length), (11, .int .i64 j)]) (m := xss.length - 0) ⟨rfl, 0, rfl, Nat.zero_le _, rfl⟩ ?_
  rintro m F wx ⟨rfl, j, rfl, hj, rfl⟩
  have hmj := sumTo_mono 2 xss hj
  refine Sr (Og (vl_lss rfl rfl) rfl (O_end [0, 3, 9, 10, 11, 12] (F' := [(0, _), (3, _), (9, _), (10, _), (11, _), (12, _)]) rfl (W_seq ?_)))
  refine W_cond rfl (fun hT => ?_) (fun hF => ?_)
  · refine W_skipE ?_
    have hlt : j < xss.length := by simpa using hT
    obtain ⟨b, off, cap, x, p, c, hv, hx, hcell, hs⟩ := part wx j (Chg.refl _ _) hlt
    cases hv
    have hsucc := sumTo_succ (k := 2) hx
    have hmj2 := sumTo_mono 2 xss (show j + 1 ≤ xss.length by omega)
    refine W_seq (W_block (Sr ?_))
    refine Og (vl_indexAddr sl144 sz177 rfl rfl _ rfl hlt) rfl ?_
    refine Og (vl_load ag177 rfl hcell) rfl ?_
    refine Oa rfl rfl (O_end [0, 3, 5, 9, 10, 11] (F' := [(0, _), (3, _), (5, _), (9, _), (10, _), (11, _)]) rfl (Sr (Om rfl rfl (Om rfl rfl (Og (vl_len sl177 rfl) rfl ?_)))))
    refine Og (vl_add rfl rfl (by omega)) rfl ?_
    refine Oa rfl rfl (O_end [0, 3, 9, 10, 11] (F' := [(0, _), (3, _), (9, _), (10, _), (11, _)]) rfl (Sr (Om rfl rfl (Og (vl_lss rfl rfl) rfl (O_end [0, 3, 9, 10, 11, 20] (F' := [(0, _), (3, _), (9, _), (10, _), (11, _), (20, _)]) rfl ?_)))))
    refine W_cond rfl (fun hT => ?_) (fun hF => ?_)
    · exfalso
      have := of_decide_eq_true hT
      omega
    · refine W_skip (block_normal (W_region ?_))
      refine Og (vl_add rfl rfl (by omega)) rfl ?_
      refine Om rfl rfl ?_
      refine O_endN [0, 3, 9, 10, 11] (F' := [(0, _), (3, _), (9, _), (10, _), (11, _)]) rfl ?_
      refine ⟨xss.length - (j + 1), by omega, rfl, j + 1, rfl, by omega, ?_⟩
      rw [hsucc]
      rfl
  · have hge : ¬ j < xss.length := by simpa using hF
    obtain rfl : j = xss.length := by omega
    refine W_exit ?_
    repeat (first | refine then_exit ?_ | refine blockF_other rfl ?_)
    refine blockF_exit _ ?_
    refine Sr (Om rfl rfl ?_)
    refine O_go (gn rfl) (st_call bd229 rfl rfl rfl rfl (f55 (sumTo 2 xss xss.length) wx ht) ?_)
    rintro v24 w24 ⟨i24, n24, c24⟩
    refine Oa rfl rfl (O_end [0, 6] (F' := [(0, _), (6, _)]) rfl (W_seq (Sr (Om rfl rfl (Og (vl_len sl144 rfl) rfl (Om rfl rfl (O_end [6, 25, 26, 27] (F' := [(6, _), (25, _), (26, _), (27, _)]) rfl (W_block ?_))))))))
    refine W_loop [6, 25, 26, 27] (fun m F wy => ∃ (j : Nat) (acc : Value), m = xss.length - j ∧ j ≤ xss.length ∧ F = [(6, acc), (25, .slice pv xss.length cv), (26, .int .i64 xss.length), (27, .int .i64 j)] ∧ IsSl wy 175 2 acc (sumTo 2 xss j) (xss.take j).flatten ∧ (∀ b ∈ blkOf acc, wx.heap.size ≤ b) ∧ Chg [] wx wy) (m := xss.length - 0) ⟨0, v24, rfl, Nat.zero_le _, rfl, by simpa [sumTo] using i24, n24, c24⟩ ?_
    rintro m F wy ⟨j, acc, rfl, hj, rfl, hacc, hnew, hcy⟩
    have hmj := sumTo_mono 2 xss hj
    refine Sr (Og (vl_lss rfl rfl) rfl (O_end [6, 25, 26, 27, 28] (F' := [(6, _), (25, _), (26, _), (27, _), (28, _)]) rfl (W_seq ?_)))
    refine W_cond rfl (fun hT => ?_) (fun hF => ?_)
    · refine W_skipE ?_
      have hlt : j < xss.length := by simpa using hT
      obtain ⟨b, off, cap, x, p, c, hv, hx, hcell, hs⟩ := part wy j hcy hlt
      cases hv
      have hsucc := sumTo_succ (k := 2) hx
      have hmj2 := sumTo_mono 2 xss (show j + 1 ≤ xss.length by omega)
      refine W_seq (W_block (Sr ?_))
      refine Og (vl_indexAddr sl144 sz177 rfl rfl _ rfl hlt) rfl ?_
      refine Og (vl_load ag177 rfl hcell) rfl ?_
      refine Oa rfl rfl (O_end [6, 8, 25, 26, 27] (F' := [(6, _), (8, _), (25, _), (26, _), (27, _)]) rfl (W_region (Om rfl rfl (Om rfl rfl ?_))))
      refine O_go (gn rfl) (st_append ap177 sl177 rfl rfl hacc hs (by simp only [maxLen]; omega) (by omega) rfl ?_)
      intro v33 w33 i33 c33 o33 z33
      refine Oa rfl rfl ?_
      refine O_endN [6, 25, 26, 27] (F' := [(6, _), (25, _), (26, _), (27, _)]) rfl ?_
      refine block_normal (W_region ?_)
      refine Og (vl_add rfl rfl (by omega)) rfl ?_
      refine Om rfl rfl ?_
      refine O_endN [6, 25, 26, 27] (F' := [(6, _), (25, _), (26, _), (27, _)]) rfl ?_
      refine ⟨xss.length - (j + 1), by omega, j + 1, v33, rfl, by omega, rfl, ?_, ?_, hcy.own c33 hnew⟩
      · rw [hsucc, flatten_take_succ hx]
        exact i33
      · rcases o33 with o33 | ⟨b', o33, hb'⟩
        · rw [o33]; exact hnew
        · rw [o33]; intro y hy; simp at hy; subst hy; have := hcy.size; omega
    · have hge : ¬ j < xss.length := by simpa using hF
      obtain rfl : j = xss.length := by omega
      refine W_exit ?_
      repeat (first | refine then_exit ?_ | refine blockF_other rfl ?_)
      refine blockF_exit _ ?_
      refine Sr (Om rfl rfl (Oa rfl rfl (O_end [2] (F' := [(2, _)]) rfl (W_ret ?_))))
      refine ret1 rfl rfl ?_
      rw [List.take_length] at hacc
      exact ⟨hacc, hnew, hcy⟩
end Go.Wk

namespace Go.Wk
open Go.Proofs
set_option maxRecDepth 10000

/-- The pages behind a pointer. -/
def Pg (w : World) (p : Nat) (ls : List (List Ent)) : Prop := ∃ v, Blk w p 147 [v] ∧ IsPages w v ls
theorem Pg.chg0 {w w' : World} {p : Nat} {ls : List (List Ent)} (h : Pg w p ls) (hc : Chg [] w w') : Pg w' p ls :=
  let ⟨v, h1, h2⟩ := h; ⟨v, h1.chg0 hc, h2.chg0 hc⟩
theorem Pg.lt {w : World} {p : Nat} {ls : List (List Ent)} (h : Pg w p ls) : p < w.heap.size := let ⟨_, h1, _⟩ := h; h1.lt
theorem Pg.chgO {w w' : World} {p q : Nat} {ls ms : List (List Ent)} (h : Pg w p ls) (hq : Pg w q ms) (hne : p ≠ q) (hc : Chg [q] w w') : Pg w' p ls :=
  let ⟨v, h1, h2⟩ := h; let ⟨_, g1, _⟩ := hq; ⟨v, h1.chg hc (by simpa using hne), h2.chg1 g1 rfl rfl hc⟩

theorem f26 (p : Nat) (ls new : List (List Ent)) (lv : Value) (fr un : Nat) (w : World) (hp : Pg w p ls) (hnew : IsPages w lv new) (h1 : fr ≤ un) (h2 : un ≤ ls.length) (hb1 : ls.length ≤ 1048576) (hb2 : new.length ≤ 1048576) :
    Ret Tryz.prog 131 #[.pointer (some ⟨p, 0, none⟩), .int .i64 fr, .int .i64 un, lv] w fun r w' => r = .tuple #[] ∧ Pg w' p (ls.take fr ++ new ++ ls.drop un) ∧ Chg [p] w w' := by
  obtain ⟨v, hb, vs, hsl, hal⟩ := hp
  obtain ⟨nvs, hnsl, hnal⟩ := hnew
  obtain ⟨pv, cv, rfl, hlc⟩ := hsl.val
  obtain ⟨pn, cn, rfl, _⟩ := hnsl.val
  have hvl := hsl.len_xs
  have hnl := hnsl.len_xs
  have hA : IsSl w 177 1 (cut pv 0 fr fr 1) ((vs.take fr).length / 1) (vs.take fr) := by
    have := hsl.cut (l := 0) (h := fr) (m := fr) (Nat.zero_le _) (Nat.le_refl _) (by omega) (by omega)
    simpa [show min fr vs.length = fr by omega] using this
  have hB : IsSl w 177 1 (.slice pn new.length cn) (nvs.length / 1) nvs := by simpa [hnl] using hnsl
  have hC : IsSl w 177 1 (cut pv un ls.length cv 1) ((vs.drop un).length / 1) (vs.drop un) := by
    have := hsl.cut (l := un) (h := ls.length) (m := cv) (by omega) hlc (Nat.le_refl _) (Nat.le_refl _)
    have e : (vs.drop (un * 1)).take ((ls.length - un) * 1) = vs.drop un := by rw [Nat.mul_one, Nat.mul_one, List.take_of_length_le (by simp; omega)]
    rw [e] at this
    simpa [hvl] using this
  have hS : AllS w 177 1 [cut pv 0 fr fr 1, .slice pn new.length cn, cut pv un ls.length cv 1] [vs.take fr, nvs, vs.drop un] := ⟨hA, hB, hC, trivial⟩
  have hsum : sumTo 1 [vs.take fr, nvs, vs.drop un] 3 = fr + new.length + (ls.length - un) := by
    simp [sumTo, hvl, hnl, show min fr ls.length = fr by omega]
    omega
  refine Ret.of_W (args := [_, _, _, _]) Tryz.func131 rfl rfl rfl rfl ?_

  refine W_draw (fun wz => Chg [] w wz) mix (by kernel_rfl) (Chg.drew [] w) ?_
  refine Tm rfl rfl (Tm rfl rfl ?_)
  refine t_pure rfl (gn rfl) (fun _ => vl_nilCheck rfl) rfl rfl ?_
  refine t_pure rfl (gn rfl) (fun _ => vl_fieldAddr fo147_0 rfl) rfl rfl ?_
  refine t_read rfl (gn rfl) (fun wz hz => vl_load ag145 rfl ((hb.chg0 hz).cell' rfl)) rfl rfl ?_
  refine Tm rfl rfl (Tm rfl rfl ?_)
  refine t_pure rfl (gn rfl) (fun _ => vl_cut_hm sl145 sz177 rfl rfl rfl _ _ rfl rfl (by omega) (by omega)) rfl rfl ?_
  refine Tm rfl rfl (Tm rfl rfl ?_)
  refine t_pure rfl (gn rfl) (fun _ => vl_nilCheck rfl) rfl rfl ?_
  refine t_pure rfl (gn rfl) (fun _ => vl_fieldAddr fo147_0 rfl) rfl rfl ?_
  refine t_read rfl (gn rfl) (fun wz hz => vl_load ag145 rfl ((hb.chg0 hz).cell' rfl)) rfl rfl ?_
  refine Tm rfl rfl ?_
  refine t_pure rfl (gn rfl) (fun _ => vl_cut_l sl145 sz177 rfl rfl _ rfl (by omega)) rfl rfl ?_
  refine t_st rfl (gn rfl) (st_buildSlice ap328 rfl (vs := [_, _, _]) rfl (css := [_, _, _]) ⟨rfl, rfl, rfl, trivial⟩ rfl rfl (cs := [_, _, _]) rfl rfl ?_)
  intro b23 w23 e23 n23 c23 k23
  refine ⟨.inl ((Chg.drew [] w).trans c23), ?_⟩
  refine t_st rfl (gn rfl) (st_call bd159 rfl rfl rfl rfl (f42 _ _ [vs.take fr, nvs, vs.drop un] _ (IsSl.of_blk (n := 3) k23 rfl (by simp [maxLen]) (by intro u hu; simp at hu; rcases hu with rfl | rfl | rfl <;> rfl)) (hS.chg0 ((Chg.drew [] w).trans c23)) (by simp only [List.length_cons, List.length_nil]; rw [hsum]; omega) (by simp)) ?_)
  rintro v24 w24 ⟨i24, n24, c24⟩
  obtain ⟨p24, q24, rfl, _⟩ := i24.val
  refine ⟨.inl (((Chg.drew [] w).trans c23).trans c24), ?_⟩
  refine t_pure rfl (gn rfl) (fun _ => vl_nilCheck rfl) rfl rfl ?_
  refine t_pure rfl (gn rfl) (fun _ => vl_fieldAddr fo147_0 rfl) rfl rfl ?_
  refine t_st rfl (gn rfl) (st_store sz145 rfl rfl rfl rfl (hb.chg0 (((Chg.drew [] w).trans c23).trans c24)) (by simp) (by intro u hu; simp at hu; subst hu; rfl) ?_)
  intro wF nF cF kF
  refine ⟨.inr (by kernel_rfl), ?_⟩
  refine T_endN [] (F' := []) rfl ?_
  have hall : Chg [] w w24 := ((Chg.drew [] w).trans c23).trans c24
  refine end0 rfl ⟨rfl, ⟨_, kF, ?_⟩, (hall.any (S := [p])).transS cF⟩
  have hpg : IsPages w24 (.slice p24 (sumTo 1 [vs.take fr, nvs, vs.drop un] 3) q24) (ls.take fr ++ new ++ ls.drop un) := by
    refine ⟨vs.take fr ++ nvs ++ vs.drop un, ?_, ((hal.take fr).append hnal |>.append (hal.drop un)).chg hall (by simp)⟩
    have hlen : (ls.take fr ++ new ++ ls.drop un).length = sumTo 1 [vs.take fr, nvs, vs.drop un] 3 := by
      rw [hsum]; simp; omega
    rw [hlen]
    simpa using i24
  exact hpg.chg1 (hb.chg0 hall) rfl rfl cF

theorem ex179 : exOf Tryz.prog 179 = some (Extern.SlicesOverlaps.overlaps #[176, 176] #[4]) := by kernel_rfl

set_option maxHeartbeats 1000000 in
theorem f27 (v u : Value) (i n : Nat) (xs ys : List Value) (w : World) (hv : IsSl w 175 2 v n xs) (hu : IsSl w 175 2 u 1 ys) (hi : i ≤ n) (hn : n ≤ 1048576) (hap : ∀ b ∈ blkOf u, b ∉ blkOf v) :
    Ret Tryz.prog 134 #[v, .int .i64 i, u] w fun r w' => IsSl w' 175 2 r (n + 1) (xs.take (i * 2) ++ ys ++ xs.drop (i * 2)) ∧ Chg (blkOf v) w w' ∧ (blkOf r = blkOf v ∨ ∃ b, blkOf r = [b] ∧ w.heap.size ≤ b) := by
  have hlx := hv.len_xs
  have hly := hu.len_xs
  obtain ⟨pv, cv, rfl, hlc⟩ := hv.val
  obtain ⟨pu, cu, rfl, _⟩ := hu.val
  refine Ret.of_W (args := [_, _, _]) Tryz.func134 rfl rfl rfl rfl ?_

  refine Sr (Oa rfl rfl (O_end [0, 1, 2] (F' := [(0, _), (1, _), (2, _)]) rfl (Sr (Om rfl rfl (Om rfl rfl ?_)))))
  refine Og (vl_cut_l sl177 sz175 rfl rfl _ rfl hi) rfl ?_
  refine O_end [0, 1, 2] (F' := [(0, _), (1, _), (2, _)]) rfl (Sr (Om rfl rfl (Og (vl_len sl176 rfl) rfl (Oa rfl rfl (O_end [0, 1, 2, 7] (F' := [(0, _), (1, _), (2, _), (7, _)]) rfl (W_seq (Sr (Om rfl rfl (Og (vl_ieq rfl rfl) rfl (O_end [0, 1, 2, 7, 16] (F' := [(0, _), (1, _), (2, _), (7, _), (16, _)]) rfl ?_))))))))))
  refine W_cond_false rfl (W_skipE (Sr (Om rfl rfl (Og (vl_len sl177 rfl) rfl (Oa rfl rfl (O_end [0, 1, 2, 7, 8] (F' := [(0, _), (1, _), (2, _), (7, _), (8, _)]) rfl (W_seq (Sr (Om rfl rfl (Om rfl rfl (Og (vl_ieq rfl rfl) rfl ?_)))))))))))
  refine O_end [0, 1, 2, 7, 8, 22] (F' := [(0, _), (1, _), (2, _), (7, _), (8, _), (22, _)]) rfl ?_
  refine W_cond rfl (fun hT => ?_) (fun hF => ?_)
  · obtain rfl : i = n := by have := of_decide_eq_true hT; omega
    refine Sr (Om rfl rfl (Om rfl rfl ?_))
    refine O_go (gn rfl) (st_append ap177 sl176 rfl rfl hv hu (by simp only [maxLen]; omega) (by omega) rfl ?_)
    intro v25 w25 i25 c25 o25 z25
    refine Oa rfl rfl (O_end [6] (F' := [(6, _)]) rfl (W_ret ?_))
    refine then_ret ?_
    refine ret1 rfl rfl ?_
    refine ⟨?_, c25, o25⟩
    rw [List.take_of_length_le (by omega), List.drop_of_length_le (by omega), List.append_nil]
    exact i25
  · have hlt : i < n := by have := of_decide_eq_false hF; omega
    refine W_skipE (W_seq (Sr (Om rfl rfl (Om rfl rfl ?_))))
    refine Og (vl_add rfl rfl (by omega)) rfl ?_
    refine Om rfl rfl ?_
    refine Og (vl_cap sl177 rfl) rfl ?_
    refine Og (vl_gtr rfl rfl) rfl ?_
    refine O_end [0, 1, 2, 7, 8, 31] (F' := [(0, _), (1, _), (2, _), (7, _), (8, _), (31, _)]) rfl ?_
    refine W_cond rfl (fun hT => ?_) (fun hF => ?_)
    · have hgr : cv < n + 1 := by have := of_decide_eq_true hT; omega
      refine Sr (Om rfl rfl (Om rfl rfl ?_))
      refine Og (vl_cut_h sl177 sz175 rfl rfl i rfl (by omega)) rfl ?_
      refine Om rfl rfl (Om rfl rfl ?_)
      refine Og (vl_add rfl rfl (by omega)) rfl ?_
      refine Om rfl rfl ?_
      refine Og (vl_eq (v' := .int .i64 ((n + 1 - i : Nat) : Int)) (vl_sub rfl rfl (by omega)) (by congr 1; omega)) rfl ?_
      have hcutA : IsSl w 175 2 (cut pv 0 i cv 2) i (xs.take (i * 2)) := by simpa using hv.cut (l := 0) (h := i) (m := cv) (Nat.zero_le _) (by omega) (Nat.le_refl _) hi
      have hcutB : IsSl w 175 2 (cut pv i n cv 2) (n - i) (xs.drop (i * 2)) := by
        have := hv.cut (l := i) (h := n) (m := cv) hi hlc (Nat.le_refl _) (Nat.le_refl _)
        rw [List.take_of_length_le (by simp; omega)] at this
        exact this
      have hAl : (xs.take (i * 2)).length = i * 2 := by simp; omega
      have hBl : (xs.drop (i * 2)).length = (n - i) * 2 := by simp; omega
      refine O_go (gn rfl) (st_appendMake ap177 it3_i64 rfl rfl rfl hcutA (fun p c he => by obtain ⟨q, hq⟩ := cut_val pv 0 i cv 2; rw [hq] at he; simp only [Value.slice.injEq] at he; omega) (by simp only [maxLen]; omega) (by omega) rfl ?_)
      intro b cap zs w40 hb c40 hge hle hzl hone k40
      refine Og (vl_eq (v' := .slice (some ⟨b, 0, none⟩) (n + 1) cap) (vl_assign rfl) (by congr 1; omega)) rfl ?_
      refine O_end [0, 1, 2, 7, 9] (F' := [(0, _), (1, _), (2, _), (7, _), (9, _)]) rfl (Sr (Om rfl rfl (Om rfl rfl ?_)))
      refine Og (vl_eq (vl_cut_l sl177 sz175 rfl rfl i rfl (by omega)) (cut_ne (by omega))) rfl ?_
      refine Om rfl rfl ?_
      refine O_go (gn rfl) (st_copy (c := 1) sl177 sz175 rfl rfl (hu.chg0 c40) k40 (by omega) (by simp; omega) rfl ?_)
      intro w45 n45 c45 k45
      refine O_end [0, 1, 7, 9] (F' := [(0, _), (1, _), (7, _), (9, _)]) rfl (W_seq ?_)
      have hc2 : Chg [] w w45.drew := (c40.own c45 (by simp [← hb])).trans (Chg.drew [] _)
      have k45' : Blk w45.drew b 175 _ := k45
      rw [show 0 + i * 2 = (xs.take (i * 2)).length by omega, laid_mid, List.take_of_length_le (show ys.length ≤ 1 * 2 by omega)] at k45'
      rw [← List.append_assoc] at k45'
      refine W_draw (fun _ => True) mix (by kernel_rfl) trivial ?_
      refine Tm rfl rfl (Tm rfl rfl (Tm rfl rfl ?_))
      refine t_pure rfl (gn rfl) (fun _ => vl_add rfl rfl (by omega)) rfl rfl ?_
      refine t_pure rfl (gn rfl) (fun _ => vl_eq (vl_cut_l sl177 sz175 rfl rfl (i + 1) rfl (by omega)) (cut_ne (by omega))) rfl rfl ?_
      refine Tm rfl rfl (Tm rfl rfl ?_)
      refine t_pure rfl (gn rfl) (fun _ => vl_cut_l sl177 sz175 rfl rfl i rfl hi) rfl rfl ?_
      refine t_st rfl (gn rfl) (st_copy (c := n - i) sl177 sz175 rfl rfl (hcutB.chg0 hc2) k45' (by omega) (by simp only [List.length_append, List.length_drop, hAl]; omega) rfl ?_)
      intro w54 n54 c54 k54
      refine ⟨.inl trivial, ?_⟩
      refine T_end [9] (F' := [(9, _)]) rfl ?_
      refine Sr (Om rfl rfl (Oa rfl rfl (O_end [6] (F' := [(6, _)]) rfl (W_ret ?_))))
      refine then_ret ?_
      refine ret1 rfl rfl ?_
      rw [show 0 + (i + 1) * 2 = (xs.take (i * 2) ++ ys).length by rw [List.length_append]; omega, laid_mid, List.take_of_length_le (show (xs.drop (i * 2)).length ≤ (n - i) * 2 by omega)] at k54
      refine ⟨.inr ⟨b, 0, cap, _, rfl, k54, (by omega), hle, ?_, ?_, ?_⟩, ((hc2.own c54 (by simp [← hb])).any), .inr ⟨b, rfl, by omega⟩⟩
      · simp only [List.length_append, List.length_drop, hAl]; omega
      · rw [List.drop_zero, ← List.append_assoc, List.take_left' (by simp only [List.length_append]; omega)]
      · intro q hq
        simp only [List.mem_append] at hq hone
        rcases hq with (hq | hq) | hq | hq
        · exact hone q (.inl hq)
        · exact hu.one_xs q hq
        · exact hv.one_xs q (List.mem_of_mem_drop hq)
        · exact hone q (.inr (List.mem_of_mem_drop (List.mem_of_mem_drop hq)))
    · have hroom : n + 1 ≤ cv := by have := of_decide_eq_false hF; omega
      obtain ⟨b, off, c, rfl, hs⟩ : ∃ b off c, pv = some ⟨b, off, none⟩ ∧ SlAt w 175 2 b off n cv c xs := by
        rcases hv with ⟨he, _, _⟩ | ⟨b, off, cap, c, he, hs⟩
        · simp only [Value.slice.injEq] at he; omega
        · simp only [Value.slice.injEq] at he
          obtain ⟨rfl, _, rfl⟩ := he
          exact ⟨b, off, c, rfl, hs⟩
      obtain ⟨bu, ou, cu', rfl, hsu⟩ : ∃ b off c, pu = some ⟨b, off, none⟩ ∧ SlAt w 175 2 b off 1 cu c ys := by
        rcases hu with ⟨_, h1, _⟩ | ⟨b, off, cap, c, he, hs⟩
        · omega
        · simp only [Value.slice.injEq] at he
          obtain ⟨rfl, _, rfl⟩ := he
          exact ⟨b, off, c, rfl, hs⟩
      have hne : bu ≠ b := by have := hap bu (by simp [blkOf]); simpa [blkOf] using this
      have hfit := hs.fit
      have hsn : SlAt w 175 2 b off (n + 1) cv c ((c.drop off).take ((n + 1) * 2)) := ⟨hs.blk, hroom, hs.max, hs.fit, rfl, hs.one⟩
      have hsrc := hsn.cut (l := i) (h := n + 1) (m := cv) (by omega) hroom (Nat.le_refl _)
      rw [cut_ne (by omega)] at hsrc
      refine W_skipE (Sr (Om rfl rfl (Om rfl rfl (Om rfl rfl ?_))))
      refine Og (vl_add rfl rfl (by omega)) rfl ?_
      refine Og (vl_eq (vl_cut_h sl177 sz175 rfl rfl (n + 1) rfl hroom) cut_zero) rfl ?_
      refine Oa rfl rfl (O_end [0, 1, 2, 7, 8] (F' := [(0, _), (1, _), (2, _), (7, _), (8, _)]) rfl (W_seq (Sr (Om rfl rfl (Om rfl rfl (Om rfl rfl (Om rfl rfl ?_)))))))
      refine Og (vl_add rfl rfl (by omega)) rfl ?_
      refine Og (vl_eq (vl_cut_l sl177 sz175 rfl rfl (i + 1) rfl (by omega)) (cut_ne (by omega))) rfl ?_
      refine O_go (gn rfl) (st_ext ex179 rfl rfl (run_overlaps rfl sl176 sz175 hsu.blk hs.blk hne) rfl ?_)
      refine Og (vl_not rfl) rfl (O_end [0, 1, 2, 7, 8, 68] (F' := [(0, _), (1, _), (2, _), (7, _), (8, _), (68, _)]) rfl (W_cond_true rfl (W_seq ?_)))
      refine W_draw (fun _ => True) mix (by kernel_rfl) trivial ?_
      refine Tm rfl rfl (Tm rfl rfl (Tm rfl rfl ?_))
      refine t_pure rfl (gn rfl) (fun _ => vl_add rfl rfl (by omega)) rfl rfl ?_
      refine t_pure rfl (gn rfl) (fun _ => vl_eq (vl_cut_l sl177 sz175 rfl rfl (i + 1) rfl (by omega)) (cut_ne (by omega))) rfl rfl ?_
      refine Tm rfl rfl (Tm rfl rfl ?_)
      refine t_pure rfl (gn rfl) (fun _ => vl_eq (vl_cut_l sl177 sz175 rfl rfl i rfl (by omega)) (cut_ne (by omega))) rfl rfl ?_
      refine t_st rfl (gn rfl) (st_copy (c := n - i) sl177 sz175 rfl rfl (hsrc.chg0 (Chg.drew [] _)) (hs.blk.chg0 (Chg.drew [] _)) (by omega) (by omega) rfl ?_)
      intro w77 n77 c77 k77
      refine ⟨.inl trivial, ?_⟩
      refine T_end [0, 1, 2] (F' := [(0, _), (1, _), (2, _)]) rfl ?_
      have hc77 : Chg [b] w w77 := (Chg.drew [b] w).transS c77
      have hu77 := hu.chg hc77 (by simpa [blkOf] using hne)
      refine Sr (Om rfl rfl (Om rfl rfl ?_))
      refine Og (vl_eq (vl_cut_l sl177 sz175 rfl rfl i rfl (by omega)) (cut_ne (by omega))) rfl ?_
      refine Om rfl rfl ?_
      refine O_go (gn rfl) (st_copy (c := 1) sl177 sz175 rfl rfl hu77 k77 (by omega) (by rw [length_laid (by simp; omega)]; omega) rfl ?_)
      intro w82 n82 c82 k82
      refine O_end [0] (F' := [(0, _)]) rfl (Sr (Om rfl rfl (Oa rfl rfl (O_end [6] (F' := [(6, _)]) rfl (W_ret ?_)))))
      refine then_ret ?_
      refine ret1 rfl rfl ?_
      have hB : ((c.drop (off + i * 2)).take ((n + 1 - i) * 2)).take ((n - i) * 2) = xs.drop (i * 2) := by
        rw [List.take_take, hs.xs, List.drop_take, List.drop_drop]
        congr 1
        omega
      have hsplit : c = c.take (off + i * 2) ++ (xs.drop (i * 2) ++ c.drop (off + n * 2)) := by
        have e1 : c.drop (off + i * 2) = xs.drop (i * 2) ++ c.drop (off + n * 2) := by
          have e2 := List.take_append_drop ((n - i) * 2) (c.drop (off + i * 2))
          rw [List.drop_drop, show off + i * 2 + (n - i) * 2 = off + n * 2 by omega] at e2
          rw [← e2]
          congr 1
          rw [hs.xs, List.drop_take, List.drop_drop]
          congr 1
          omega
        rw [← e1, List.take_append_drop]
      have hAl : (c.take (off + i * 2)).length = off + i * 2 := by simp; omega
      obtain ⟨R, hR, hRm⟩ := laid_shift (c.take (off + i * 2)) (xs.drop (i * 2)) (c.drop (off + n * 2)) ys (by simp; omega)
      rw [hB, List.take_of_length_le (show ys.length ≤ 1 * 2 by omega)] at k82
      rw [← hsplit, hAl, show off + i * 2 + ys.length = off + (i + 1) * 2 by omega] at hR
      rw [hR] at k82
      refine ⟨.inr ⟨b, off, cv, _, rfl, k82, hroom, hs.max, ?_, ?_, ?_⟩, hc77.transS c82, .inl rfl⟩
      · have hcl : c.length = (c.take (off + i * 2) ++ (ys ++ (xs.drop (i * 2) ++ R))).length := by
          rw [← hR, length_laid, length_laid]
          · simp; omega
          · rw [length_laid (by simp; omega)]; omega
        rw [← hcl]; exact hfit
      · have e3 : (c.take (off + i * 2)).drop off = xs.take (i * 2) := by
          rw [List.drop_take, hs.xs, List.take_take]
          congr 1
          omega
        rw [List.drop_append_of_le_length (by omega), e3, ← List.append_assoc, ← List.append_assoc, List.take_left' (by simp; omega)]
      · intro q hq
        simp only [List.mem_append] at hq
        rcases hq with hq | hq | hq | hq
        · exact hs.one q (List.mem_of_mem_take hq)
        · exact hu.one_xs q hq
        · exact hs.one_xs q (List.mem_of_mem_drop hq)
        · rcases hRm q hq with h | h
          · exact hs.one q (List.mem_of_mem_drop h)
          · exact hs.one_xs q (List.mem_of_mem_drop h)
end Go.Wk

namespace Go.Wk
open Go.Proofs
set_option maxRecDepth 10000

theorem f28 (v : Value) (i n : Nat) (xs : List Value) (w : World) (hv : IsSl w 175 2 v n xs) (hi : i < n) (hn : n ≤ 1048576) :
    Ret Tryz.prog 129 #[v, .int .i64 i, .int .i64 ((i : Int) + 1)] w fun r w' => IsSl w' 175 2 r (n - 1) (xs.take (i * 2) ++ xs.drop (i * 2 + 2)) ∧ Chg (blkOf v) w w' ∧ blkOf r = blkOf v := by
  have hlx := hv.len_xs
  obtain ⟨b, off, cv, c, rfl, hs⟩ : ∃ b off cv c, v = .slice (some ⟨b, off, none⟩) n cv ∧ SlAt w 175 2 b off n cv c xs := by
    rcases hv with ⟨_, rfl, _⟩ | ⟨b, off, cap, c, he, hs⟩
    · omega
    · exact ⟨b, off, cap, c, he, hs⟩
  have hfit := hs.fit
  have hlc := hs.le
  refine Ret.of_W (args := [_, _, _]) Tryz.func129 rfl rfl rfl rfl ?_

  refine Sr (Oa rfl rfl (O_end [0, 1, 2] (F' := [(0, _), (1, _), (2, _)]) rfl (Sr (Om rfl rfl (Om rfl rfl (Om rfl rfl (Om rfl rfl (Og (vl_len sl177 rfl) rfl ?_))))))))
  refine Og (vl_cut_lhm sl177 sz175 rfl rfl rfl rfl i (i + 1) n rfl (by omega) rfl (by omega) (by omega) (by omega)) rfl ?_
  refine O_end [0, 1, 2] (F' := [(0, _), (1, _), (2, _)]) rfl (W_seq (Sr (Om rfl rfl (Om rfl rfl ?_))))
  refine Og (vl_is (b' := false) (vl_ieq rfl rfl) (by simp; omega)) rfl ?_
  refine O_end [0, 1, 2, 16] (F' := [(0, _), (1, _), (2, _), (16, _)]) rfl (W_cond_false rfl (W_skipE (Sr (Om rfl rfl (Og (vl_len sl177 rfl) rfl (Oa rfl rfl (O_end [0, 1, 2, 7] (F' := [(0, _), (1, _), (2, _), (7, _)]) rfl (W_seq ?_))))))))
  have hsrc := hs.cut (l := i + 1) (h := n) (m := cv) (by omega) hlc (Nat.le_refl _)
  have hB : (c.drop (off + (i + 1) * 2)).take ((n - (i + 1)) * 2) = xs.drop (i * 2 + 2) := by
    rw [hs.xs, List.drop_take, List.drop_drop]
    congr 1
    · omega
    · congr 1; omega
  rw [hB] at hsrc
  have hBl : (xs.drop (i * 2 + 2)).length = (n - (i + 1)) * 2 := by simp; omega
  refine W_draw (fun _ => True) mix (by kernel_rfl) trivial ?_
  refine Tm rfl rfl (Tm rfl rfl ?_)
  refine t_pure rfl (gn rfl) (fun _ => vl_eq (vl_cut_h sl177 sz175 rfl rfl i rfl (by omega)) cut_zero) rfl rfl ?_
  refine Tm rfl rfl (Tm rfl rfl ?_)
  refine t_pure rfl (gn rfl) (fun _ => vl_cut_l sl177 sz175 rfl rfl (i + 1) (by omega) (by omega)) rfl rfl ?_
  refine t_st rfl (gn rfl) (st_appendRoom sl177 sz175 sl177 rfl rfl (hs.blk.chg0 (Chg.drew [] _)) (hsrc.chg0 (Chg.drew [] _)) (by omega) hfit rfl ?_)
  intro w26 n26 c26 k26
  refine ⟨.inl trivial, ?_⟩
  refine t_pure rfl (gn rfl) (fun _ => vl_eq (v' := .slice (some ⟨b, off, none⟩) (n - 1) cv) (vl_assign rfl) (by congr 1; omega)) rfl rfl ?_
  refine T_end [0, 7] (F' := [(0, _), (7, _)]) rfl ?_
  have hl26 : (laid c (off + i * 2) (xs.drop (i * 2 + 2))).length = c.length := length_laid (by omega)
  refine Sr (Om rfl rfl (Om rfl rfl (Og (vl_len sl177 rfl) rfl (Om rfl rfl ?_))))
  refine Og (vl_eq (vl_cut_lh sl177 sz175 rfl rfl rfl (n - 1) n rfl rfl (by omega) (by omega)) (cut_ne (by omega))) rfl ?_
  refine O_go (gn rfl) (st_clear ap177 rfl k26 (by rw [hl26]; omega) ?_)
  intro w31 zs n31 c31 hzl hzo k31
  refine O_end [0] (F' := [(0, _)]) rfl (Sr (Om rfl rfl (Oa rfl rfl (O_end [6] (F' := [(6, _)]) rfl (W_ret ?_)))))
  refine ret1 rfl rfl ?_
  have hl31 : (laid (laid c (off + i * 2) (xs.drop (i * 2 + 2))) (off + (n - 1) * 2) zs).length = c.length := by rw [length_laid (by rw [hl26, hzl]; omega), hl26]
  refine ⟨.inr ⟨b, off, cv, _, rfl, k31, by omega, hs.max, by rw [hl31]; exact hfit, ?_, ?_⟩, ((Chg.drew [b] w).transS c26).transS c31, rfl⟩
  · have hA : (c.take (off + i * 2)).drop off = xs.take (i * 2) := by
      rw [List.drop_take, hs.xs, List.take_take]
      congr 1
      omega
    have hAl : (c.take (off + i * 2)).length = off + i * 2 := by simp; omega
    have e1 : (laid c (off + i * 2) (xs.drop (i * 2 + 2))).take (off + (n - 1) * 2) = c.take (off + i * 2) ++ xs.drop (i * 2 + 2) := by
      unfold laid
      exact List.take_left' (by simp only [List.length_append, hAl]; omega)
    unfold laid at e1 ⊢
    rw [e1, List.append_assoc, List.append_assoc, List.drop_append_of_le_length (by omega), hA, ← List.append_assoc, List.take_left' (by simp only [List.length_append, List.length_take]; omega)]
  · intro q hq
    simp only [laid, List.mem_append] at hq
    rcases hq with (hq | hq) | hq
    · have := List.mem_of_mem_take hq
      simp only [List.mem_append] at this
      rcases this with (h | h) | h
      · exact hs.one q (List.mem_of_mem_take h)
      · exact hs.one_xs q (List.mem_of_mem_drop h)
      · exact hs.one q (List.mem_of_mem_drop h)
    · exact hzo q hq
    · have := List.mem_of_mem_drop hq
      simp only [List.mem_append] at this
      rcases this with (h | h) | h
      · exact hs.one q (List.mem_of_mem_take h)
      · exact hs.one_xs q (List.mem_of_mem_drop h)
      · exact hs.one q (List.mem_of_mem_drop h)

/-- One page, or two, of one. -/
def joinL (l : List Ent) : List (List Ent) := if l.length ≤ 8 then [l] else [l.take (l.length / 2), l.drop (l.length / 2)]

theorem IsList.cutL {w : World} {p : Option Addr} {c : Nat} {l : List Ent} (h : IsList w (.slice p l.length c) l) {i m : Nat} (hi : i ≤ l.length) (h1 : i ≤ m) (h2 : m ≤ c) : IsList w (cut p 0 i m 2) (l.take i) := by
  have := IsSl.cut h (l := 0) (h := i) (m := m) (Nat.zero_le _) h1 h2 hi
  unfold IsList
  rw [flat_take, List.length_take]
  simpa [show min i l.length = i by omega] using this
theorem IsList.cutR {w : World} {p : Option Addr} {c : Nat} {l : List Ent} (h : IsList w (.slice p l.length c) l) {i : Nat} (hi : i ≤ l.length) (hc : l.length ≤ c) : IsList w (cut p i l.length c 2) (l.drop i) := by
  have := IsSl.cut h (l := i) (h := l.length) (m := c) hi hc (Nat.le_refl _) (Nat.le_refl _)
  unfold IsList
  rw [flat_drop, List.length_drop]
  rw [List.take_of_length_le (by simp [length_flat]; omega)] at this
  exact this
theorem IsPages.one {w : World} {b : Nat} {v : Value} {l : List Ent} (hb : Blk w b 177 [v]) (hl : IsList w v l) : IsPages w (.slice (some ⟨b, 0, none⟩) 1 1) [l] :=
  ⟨[v], IsSl.of_blk (n := 1) hb rfl (by simp [maxLen]) (by intro u hu; simp at hu; subst hu; exact IsSl.one1 hl), hl, trivial⟩
theorem IsPages.two {w : World} {b : Nat} {v u : Value} {l m : List Ent} (hb : Blk w b 177 [v, u]) (hl : IsList w v l) (hm : IsList w u m) : IsPages w (.slice (some ⟨b, 0, none⟩) 2 2) [l, m] :=
  ⟨[v, u], IsSl.of_blk (n := 2) hb rfl (by simp [maxLen]) (by intro x hx; simp at hx; rcases hx with rfl | rfl; exact IsSl.one1 hl; exact IsSl.one1 hm), hl, hm, trivial⟩

theorem f29 (p : Nat) (ls : List (List Ent)) (a b : Value) (la lb : List Ent) (i : Nat) (w : World) (hp : Pg w p ls) (ha : IsList w a la) (hb : IsList w b lb) (hi : i + 2 ≤ ls.length) (hb1 : ls.length ≤ 1048576) (hla : la.length ≤ 1048576) (hlb : lb.length ≤ 1048576) :
    Ret Tryz.prog 132 #[.pointer (some ⟨p, 0, none⟩), .int .i64 i, .agg #[a, b]] w fun r w' => r = .tuple #[] ∧ Pg w' p (ls.take i ++ joinL (la ++ lb) ++ ls.drop (i + 2)) ∧ Chg [p] w w' := by
  have hal := IsSl.len_xs ha
  have hbl := IsSl.len_xs hb
  obtain ⟨pa, ca, rfl, _⟩ := IsSl.val ha
  obtain ⟨pb, cb, rfl, _⟩ := IsSl.val hb
  refine Ret.of_W (args := [_, _, _]) Tryz.func132 rfl rfl rfl rfl ?_

  refine Sr ?_
  refine O_go (gn rfl) (st_box rfl rfl rfl ?_)
  intro b5 w5 e5 n5 c5 k5
  refine O_end [0, 1, 5] (F' := [(0, _), (1, _), (5, _)]) rfl (W_seq ?_)
  have hS : AllS w 175 2 [.slice pa la.length ca, .slice pb lb.length cb] [flat la, flat lb] := ⟨by rw [hal, Nat.mul_div_cancel _ (by omega)]; exact ha, by rw [hbl, Nat.mul_div_cancel _ (by omega)]; exact hb, trivial⟩
  have hsum : sumTo 2 [flat la, flat lb] 2 = (la ++ lb).length := by
    simp only [sumTo, List.take_succ_cons, List.take_zero, List.map_cons, List.map_nil, List.sum_cons, List.sum_nil, hal, hbl, Nat.mul_div_cancel _ (show 0 < 2 by omega), List.length_append]
    omega
  have hll : (la ++ lb).length = la.length + lb.length := by simp
  refine W_region ?_
  refine Og (vl_indexAddrA ar214 sz177 rfl rfl 0 rfl (by omega)) rfl ?_
  refine Og (vl_load ag177 rfl (k5.cell' rfl)) rfl ?_
  refine Og (vl_indexAddrA ar214 sz177 rfl rfl 1 rfl (by omega)) rfl ?_
  refine Og (vl_load ag177 rfl (k5.cell' rfl)) rfl ?_
  refine O_go (gn rfl) (st_buildSlice ap144 rfl (vs := [_, _]) rfl (css := [_, _]) ⟨rfl, rfl, trivial⟩ rfl rfl (cs := [_, _]) rfl rfl ?_)
  intro b12 w12 e12 n12 c12 k12
  refine O_go (gn rfl) (st_call bd160 rfl rfl rfl rfl (f45 _ _ [flat la, flat lb] _ (IsSl.of_blk (n := 2) k12 rfl (by simp [maxLen]) (by intro u hu; simp at hu; rcases hu with rfl | rfl <;> rfl)) (hS.chg0 (c5.trans c12)) (by simp only [List.length_cons, List.length_nil]; rw [hsum]; omega) (by simp)) ?_)
  rintro v13 w13 ⟨i13, n13, c13⟩
  have hboth : IsList w13 v13 (la ++ lb) := by unfold IsList; rw [flat_append]; simpa [hsum] using i13
  clear i13
  generalize la ++ lb = both at *
  obtain ⟨p13, q13, rfl, hq13⟩ := IsSl.val hboth
  refine Oa rfl rfl (O_end [0, 1, 6] (F' := [(0, _), (1, _), (6, _)]) rfl ?_)
  have hc13 : Chg [] w w13 := (c5.trans c12).trans c13
  refine W_seq (Sr (Om rfl rfl (Og (vl_len sl177 rfl) rfl ?_)))
  refine Og (vl_leq rfl rfl) rfl ?_
  refine O_end [0, 1, 6, 16] (F' := [(0, _), (1, _), (6, _), (16, _)]) rfl ?_
  refine W_cond rfl (fun hT => ?_) (fun hF => ?_)
  · have hle : both.length ≤ 8 := by have := of_decide_eq_true hT; omega
    refine Sr (Om rfl rfl (Om rfl rfl (Om rfl rfl ?_)))
    refine Og (vl_eq (v' := .int .i64 ((i + 2 : Nat) : Int)) (vl_add rfl rfl (by omega)) (by congr 1)) rfl ?_
    refine Om rfl rfl ?_
    refine O_go (gn rfl) (st_buildSlice ap144 rfl (vs := [_]) rfl (css := [_]) ⟨rfl, trivial⟩ rfl rfl (cs := [_]) rfl rfl ?_)
    intro b22 w22 e22 n22 c22 k22
    refine O_go (gn rfl) (st_call bd131 rfl rfl rfl rfl (f26 p ls [both] _ i (i + 2) _ (hp.chg0 (hc13.trans c22)) (IsPages.one k22 (hboth.chg0 c22)) (by omega) hi hb1 (by simp)) ?_)
    rintro v23 w23 ⟨rfl, p23, c23⟩
    refine O_end [] (F' := []) rfl (W_ret ?_)
    refine then_ret ?_
    refine ret0 rfl ?_
    refine ⟨rfl, ?_, ((hc13.trans c22).any (S := [p])).transS c23⟩
    rw [joinL, if_pos hle]
    exact p23
  · have hle : ¬ both.length ≤ 8 := by have := of_decide_eq_false hF; omega
    refine W_skipE (Sr (Om rfl rfl (Og (vl_len sl177 rfl) rfl ?_)))
    refine Og (vl_eq (v' := .int .i64 ((both.length / 2 : Nat) : Int)) (vl_quo rfl rfl (by omega) (by omega)) (by congr 1)) rfl ?_
    refine Oa rfl rfl (O_end [0, 1, 6, 7] (F' := [(0, _), (1, _), (6, _), (7, _)]) rfl ?_)
    have hh : both.length / 2 ≤ both.length := Nat.div_le_self _ _
    refine W_draw (fun _ => True) mix (by kernel_rfl) trivial ?_
    refine Tm rfl rfl (Tm rfl rfl (Tm rfl rfl ?_))
    refine t_pure rfl (gn rfl) (fun _ => vl_eq (v' := .int .i64 ((i + 2 : Nat) : Int)) (vl_add rfl rfl (by omega)) (by congr 1)) rfl rfl ?_
    refine Tm rfl rfl (Tm rfl rfl (Tm rfl rfl ?_))
    refine t_pure rfl (gn rfl) (fun _ => vl_cut_hm sl177 sz175 rfl rfl rfl _ _ rfl rfl (Nat.le_refl _) (by omega)) rfl rfl ?_
    refine Tm rfl rfl (Tm rfl rfl ?_)
    refine t_pure rfl (gn rfl) (fun _ => vl_cut_l sl177 sz175 rfl rfl _ rfl hh) rfl rfl ?_
    refine t_st rfl (gn rfl) (st_buildSlice ap144 rfl (vs := [_, _]) rfl (css := [_, _]) ⟨rfl, rfl, trivial⟩ rfl rfl (cs := [_, _]) rfl rfl ?_)
    intro b38 w38 e38 n38 c38 k38
    refine ⟨.inl trivial, ?_⟩
    have hc38 : Chg [] w13 w38 := (Chg.drew [] w13).trans c38
    refine t_st rfl (gn rfl) (st_call bd131 rfl rfl rfl rfl (f26 p ls [both.take (both.length / 2), both.drop (both.length / 2)] _ i (i + 2) _ (hp.chg0 (hc13.trans hc38)) (IsPages.two k38 ((hboth.chg0 hc38).cutL hh (Nat.le_refl _) (by omega)) ((hboth.chg0 hc38).cutR hh hq13)) (by omega) hi hb1 (by simp)) ?_)
    rintro v39 w39 ⟨rfl, p39, c39⟩
    refine ⟨.inl trivial, ?_⟩
    refine T_endN [] (F' := []) rfl ?_
    refine end0 rfl ⟨rfl, ?_, ((hc13.trans hc38).any (S := [p])).transS c39⟩
    rw [joinL, if_neg hle]
    exact p39
end Go.Wk

namespace Go.Wk
open Go.Proofs
set_option maxRecDepth 10000

/-- Pages as they should be: no page is empty, none has more than eight, all keys rise. -/
structure WfP (ls : List (List Ent)) : Prop where
  ne : ∀ l ∈ ls, l ≠ []
  le : ∀ l ∈ ls, l.length ≤ 8
  srt : Srt ls.flatten

theorem WfP.each {ls : List (List Ent)} (h : WfP ls) : ∀ l ∈ ls, Srt l := (List.pairwise_flatten.1 h.srt).1
theorem firstK_mem {l : List Ent} (h : l ≠ []) : ∃ x ∈ l, firstK l = x.1 := by
  cases l with
  | nil => exact absurd rfl h
  | cons x l => exact ⟨x, by simp, rfl⟩
theorem WfP.firsts {ls : List (List Ent)} (h : WfP ls) : SrtF ls := by
  refine List.Pairwise.imp_of_mem ?_ (List.pairwise_flatten.1 h.srt).2
  intro a b ha hb hab
  obtain ⟨x, hx, e1⟩ := firstK_mem (h.ne a ha)
  obtain ⟨y, hy, e2⟩ := firstK_mem (h.ne b hb)
  rw [e1, e2]
  exact hab x hx y hy

def getP (ls : List (List Ent)) (key : ByteArray) : Option ByteArray :=
  match ls[cntN ls key - 1]? with
  | some l => if hasK l key then (l[lbN l key]?).map (·.2) else none
  | none => none
def putL (l : List Ent) (key val : ByteArray) : List Ent := if hasK l key then l.set (lbN l key) (key, val) else l.take (lbN l key) ++ [(key, val)] ++ l.drop (lbN l key)
def splitL (l : List Ent) : List (List Ent) := if 8 < l.length then [l.take 4, l.drop 4] else [l]
def pPut (ls : List (List Ent)) (key val : ByteArray) : List (List Ent) :=
  match ls[cntN ls key - 1]? with
  | some l => ls.take (cntN ls key - 1) ++ splitL (putL l key val) ++ ls.drop (cntN ls key - 1 + 1)
  | none => [[(key, val)]]

theorem hasK_at {l : List Ent} {key : ByteArray} (h : hasK l key = true) : ∃ v, l[lbN l key]? = some (key, v) := by
  unfold hasK hasAt at h
  rw [List.getElem?_map] at h
  cases hx : l[lbN l key]? with
  | none => simp [hx] at h
  | some x => simp [hx] at h; exact ⟨x.2, by rw [← h]⟩
theorem lbN_le (l : List Ent) (key : ByteArray) : lbN l key ≤ l.length := (List.takeWhile_prefix _).length_le

theorem flat_set {es : List Ent} {i : Nat} {x : Ent} (hi : i < es.length) : flat (es.set i x) = flat (es.take i) ++ (.string x.1 :: .string x.2 :: flat (es.drop (i + 1))) := by
  rw [List.set_eq_take_append_cons_drop, if_pos hi, flat_append, flat_cons]

/-- One entry's value is laid anew. -/
theorem IsList.setVal {w : World} {b off cap : Nat} {c : List Value} {es : List Ent} {i : Nat} {k v x : ByteArray} (hs : SlAt w 175 2 b off es.length cap c (flat es)) (hi : es[i]? = some (k, v)) {w' : World} (hb : Blk w' b 175 (laid c (off + i * 2 + 1) [.string x])) :
    IsList w' (.slice (some ⟨b, off, none⟩) es.length cap) (es.set i (k, x)) := by
  have hil : i < es.length := (List.getElem?_eq_some_iff.1 hi).1
  have hfit := hs.fit
  have hle := hs.le
  have hlen : off + i * 2 + 1 + [Value.string x].length ≤ c.length := by simp; omega
  have hfl := hs.xs
  have hfe : flat es = flat (es.take i) ++ (.string k :: .string v :: flat (es.drop (i + 1))) := by
    have : es.set i (k, v) = es := by
      rw [List.getElem?_eq_some_iff] at hi
      obtain ⟨_, h⟩ := hi
      rw [← h]; exact List.set_getElem_self hil
    have h := flat_set (x := (k, v)) hil
    rw [this] at h
    exact h
  have hti : (flat (es.take i)).length = i * 2 := by rw [length_flat, List.length_take]; omega
  have hdi : (flat (es.drop (i + 1))).length = (es.length - (i + 1)) * 2 := by rw [length_flat, List.length_drop]
  -- the block, in parts
  have hc : c = (c.take off ++ flat (es.take i) ++ [.string k]) ++ ([.string v] ++ (flat (es.drop (i + 1)) ++ c.drop (off + es.length * 2))) := by
    have e1 : c.drop off = flat es ++ c.drop (off + es.length * 2) := by
      rw [hfl, ← List.drop_drop]; exact (List.take_append_drop _ _).symm
    have e2 := List.take_append_drop off c
    rw [e1, hfe] at e2
    refine e2.symm.trans ?_
    simp
  have hA : (c.take off ++ flat (es.take i) ++ [Value.string k]).length = off + i * 2 + 1 := by simp only [List.length_append, List.length_take, hti, List.length_singleton]; omega
  have hl : laid c (off + i * 2 + 1) [.string x] = (c.take off ++ flat (es.take i) ++ [.string k]) ++ ([.string x] ++ (flat (es.drop (i + 1)) ++ c.drop (off + es.length * 2))) := by
    conv => lhs; rw [hc, ← hA]
    rw [laid_mid]
    simp
  refine .inr ⟨b, off, cap, _, by rw [List.length_set], ⟨hb, by rw [List.length_set]; exact hle, hs.max, by rw [length_laid hlen]; exact hfit, ?_, ?_⟩⟩
  · rw [hl, flat_set hil, List.length_set]
    have : (c.take off).length = off := by rw [List.length_take]; omega
    have e0 : (c.take off ++ flat (es.take i) ++ [Value.string k]) ++ ([Value.string x] ++ (flat (es.drop (i + 1)) ++ c.drop (off + es.length * 2))) = c.take off ++ ((flat (es.take i) ++ (.string k :: .string x :: flat (es.drop (i + 1)))) ++ c.drop (off + es.length * 2)) := by simp
    rw [e0, List.drop_left' this, List.take_left' (by simp only [List.length_append, List.length_cons, hti, hdi]; omega)]
  · intro u hu
    simp only [laid, List.mem_append] at hu
    rcases hu with (hu | hu) | hu
    · exact hs.one u (List.mem_of_mem_take hu)
    · simp at hu; subst hu; rfl
    · exact hs.one u (List.mem_of_mem_drop hu)

theorem f10_nil (key val : ByteArray) (w : World) : Ret Tryz.prog 85 #[.pointer none, .string key, .string val] w fun r w' => r = .tuple #[.string ⟨#[]⟩, .bool false, .int .i64 1] ∧ w' = w := by
  refine Ret.of_W (args := [_, _, _]) Tryz.func85 rfl rfl rfl rfl ?_

  refine Sr (Oa rfl rfl (Oa rfl rfl (Oa rfl rfl (O_end [0, 1, 2] (F' := [(0, _), (1, _), (2, _)]) rfl (W_seq (W_block (Sr (Om rfl rfl ?_))))))))
  refine Og (vl_pnil pt94 rfl rfl) rfl ?_
  refine Oa rfl rfl (O_end [0, 1, 2, 16] (F' := [(0, _), (1, _), (2, _), (16, _)]) rfl (W_cond_true rfl (Sr (Oa rfl rfl (Oa rfl rfl (Oa rfl rfl (O_end [6, 7, 8] (F' := [(6, _), (7, _), (8, _)]) rfl (W_ret ?_))))))))
  refine block_ret (then_ret ?_)
  refine ret3 rfl rfl rfl rfl ?_
  exact ⟨rfl, rfl⟩

theorem f10_long (p : Nat) (key val : ByteArray) (w : World) (hk : 2000 < key.size) : Ret Tryz.prog 85 #[.pointer (some ⟨p, 0, none⟩), .string key, .string val] w fun r w' => r = .tuple #[.string ⟨#[]⟩, .bool false, .int .i64 3] ∧ w' = w := by
  refine Ret.of_W (args := [_, _, _]) Tryz.func85 rfl rfl rfl rfl ?_

  refine Sr (Oa rfl rfl (Oa rfl rfl (Oa rfl rfl (O_end [0, 1, 2] (F' := [(0, _), (1, _), (2, _)]) rfl (W_seq (W_block (Sr (Om rfl rfl ?_))))))))
  refine Og (vl_pnil pt94 rfl rfl) rfl ?_
  refine Oa rfl rfl (O_end [0, 1, 2, 16] (F' := [(0, _), (1, _), (2, _), (16, _)]) rfl (W_cond_false rfl (Sr (Om rfl rfl ?_))))
  refine Og (vl_slen st9 rfl) rfl ?_
  refine Og (vl_gtr rfl rfl) rfl ?_
  refine Oa rfl rfl (O_end [0, 1, 2, 19] (F' := [(0, _), (1, _), (2, _), (19, _)]) rfl ?_)
  refine W_cond rfl (fun hT => ?_) (fun hF => ?_)
  · refine Sr (Oa rfl rfl (Oa rfl rfl (Oa rfl rfl (O_end [6, 7, 8] (F' := [(6, _), (7, _), (8, _)]) rfl (W_ret ?_)))))
    refine block_ret (then_ret ?_)
    refine ret3 rfl rfl rfl rfl ?_
    exact ⟨rfl, rfl⟩
  · exfalso
    have := of_decide_eq_false hF
    omega

theorem f10 (p : Nat) (ls : List (List Ent)) (key val : ByteArray) (w : World) (hp : Pg w p ls) (hw : WfP ls) (hn : ls.length ≤ 65536) (hk : key.size ≤ 2000) :
    Ret Tryz.prog 85 #[.pointer (some ⟨p, 0, none⟩), .string key, .string val] w fun r w' => r = .tuple #[.string ((getP ls key).getD ⟨#[]⟩), .bool (getP ls key).isSome, .int .i64 0] ∧ Pg w' p (pPut ls key val) ∧ Chg [p] w w' := by
  obtain ⟨v, hb, hpg⟩ := id hp
  obtain ⟨vs, hsl, hal⟩ := id hpg
  obtain ⟨pv, cv, rfl, hlc⟩ := hsl.val
  refine Ret.of_W (args := [_, _, _]) Tryz.func85 rfl rfl rfl rfl ?_

  refine Sr (Oa rfl rfl (Oa rfl rfl (Oa rfl rfl (O_end [0, 1, 2] (F' := [(0, _), (1, _), (2, _)]) rfl (W_seq (W_block (Sr (Om rfl rfl ?_))))))))
  refine Og (vl_pnil pt94 rfl rfl) rfl ?_
  refine Oa rfl rfl (O_end [0, 1, 2, 16] (F' := [(0, _), (1, _), (2, _), (16, _)]) rfl (W_cond_false rfl (Sr (Om rfl rfl ?_))))
  refine Og (vl_slen st9 rfl) rfl ?_
  refine Og (vl_gtr rfl rfl) rfl ?_
  refine Oa rfl rfl (O_end [0, 1, 2, 19] (F' := [(0, _), (1, _), (2, _), (19, _)]) rfl ?_)
  refine W_cond rfl (fun hT => ?_) (fun hF => ?_)
  · exfalso
    have := of_decide_eq_true hT
    omega
  refine Sr (Om rfl rfl (Og (vl_nilCheck rfl) rfl (Og (vl_fieldAddr fo147_0 rfl) rfl ?_)))
  refine Og (vl_load ag145 rfl (hb.cell' rfl)) rfl ?_
  refine Og (vl_len sl145 rfl) rfl (Og (vl_ieq rfl rfl) rfl (Oa rfl rfl (O_end [0, 1, 2, 23] (F' := [(0, _), (1, _), (2, _), (23, _)]) rfl ?_)))
  refine W_cond rfl (fun hT => ?_) (fun hF => ?_)
  · have hls : ls = [] := List.eq_nil_of_length_eq_zero (by have := of_decide_eq_true hT; omega)
    subst hls
    refine Sr (Om rfl rfl (Om rfl rfl (Om rfl rfl ?_)))
    refine Og (vl_build pl175 zr175 rfl (vs := [_, _]) rfl (css := [_, _]) ⟨rfl, rfl, trivial⟩ rfl rfl (cs := [_, _]) rfl) rfl ?_
    refine O_go (gn rfl) (st_buildSlice ap177 rfl (vs := [_]) rfl (css := [_]) ⟨rfl, trivial⟩ rfl rfl (cs := [_, _]) rfl rfl ?_)
    intro b34 w34 e34 n34 c34 k34
    refine O_go (gn rfl) (st_buildSlice ap145 rfl (vs := [_]) rfl (css := [_]) ⟨rfl, trivial⟩ rfl rfl (cs := [_]) rfl rfl ?_)
    intro b35 w35 e35 n35 c35 k35
    refine Og (vl_nilCheck rfl) rfl (Og (vl_fieldAddr fo147_0 rfl) rfl ?_)
    refine O_go (gn rfl) (st_store sz145 rfl rfl rfl rfl (hb.chg0 (c34.trans c35)) (by simp) (by intro u hu; simp at hu; subst hu; rfl) ?_)
    intro wX nX cX kX
    refine O_end [] (F' := []) rfl (Sr (Oa rfl rfl (Oa rfl rfl (Oa rfl rfl (O_end [6, 7, 8] (F' := [(6, _), (7, _), (8, _)]) rfl (W_ret ?_))))))
    refine block_ret (then_ret ?_)
    refine ret3 rfl rfl rfl rfl ?_
    have hl : IsList w35 (.slice (some ⟨b34, 0, none⟩) 1 1) [(key, val)] := (IsSl.of_blk (n := 1) (k34.chg0 c35) rfl (by simp [maxLen]) (flat_one [(key, val)]) : IsSl w35 175 2 _ 1 (flat [(key, val)]))
    have hpp : IsPages w35 (.slice (some ⟨b35, 0, none⟩) 1 1) [[(key, val)]] := IsPages.one k35 hl
    refine ⟨rfl, ⟨_, kX, hpp.chg1 (hb.chg0 (c34.trans c35)) rfl rfl cX⟩, ((c34.trans c35).any (S := [p])).transS cX⟩
  refine W_skip (block_normal ?_)
  have hls : ls ≠ [] := by rintro rfl; simp at hF
  have hat := cntN_lt (key := key) hls
  have hget : ls[cntN ls key - 1]? = some ls[cntN ls key - 1] := by simp [hat]
  have hmem : ls[cntN ls key - 1] ∈ ls := List.getElem_mem hat
  have hspot : spot ls key = (cntN ls key - 1, lbN ls[cntN ls key - 1] key, hasK ls[cntN ls key - 1] key) := by unfold spot; rw [hget]
  have hgp : getP ls key = if hasK ls[cntN ls key - 1] key then (ls[cntN ls key - 1][lbN ls[cntN ls key - 1] key]?).map (·.2) else none := by unfold getP; rw [hget]
  have hpp : pPut ls key val = ls.take (cntN ls key - 1) ++ splitL (putL ls[cntN ls key - 1] key val) ++ ls.drop (cntN ls key - 1 + 1) := by unfold pPut; rw [hget]
  have hl8 := hw.le _ hmem
  rw [hgp, hpp]
  have f24' := f24 (.slice pv ls.length cv) ls key w hpg hw.ne (by omega) hw.firsts hw.each (fun l hl => by have := hw.le l hl; omega)
  rw [hspot] at f24'
  generalize hl : ls[cntN ls key - 1] = l at *
  generalize ha : cntN ls key - 1 = a at *
  clear hspot hgp hpp
  have hlb := lbN_le l key
  refine Sr (Om rfl rfl (Og (vl_nilCheck rfl) rfl (Og (vl_fieldAddr fo147_0 rfl) rfl ?_)))
  refine Og (vl_load ag145 rfl (hb.cell' rfl)) rfl ?_
  refine Om rfl rfl ?_
  refine O_go (gn rfl) (st_call bd97 rfl rfl rfl rfl f24' ?_)
  rintro v44 w44 ⟨rfl, c44⟩
  refine Om rfl rfl (Oe rfl rfl rfl (Oe rfl rfl rfl (Oe rfl rfl rfl (Oa rfl rfl (Oa rfl rfl (Oa rfl rfl (O_end [0, 1, 2, 9, 10, 11] (F' := [(0, _), (1, _), (2, _), (9, _), (10, _), (11, _)]) rfl ?_)))))))
  obtain ⟨bb, off, cap, u, hv, hcell, hlu⟩ := (hpg.chg0 c44).at hget
  simp only [Value.slice.injEq] at hv
  obtain ⟨rfl, _, rfl⟩ := hv
  refine Sr (Om rfl rfl (Og (vl_nilCheck rfl) rfl (Og (vl_fieldAddr fo147_0 rfl) rfl ?_)))
  refine Og (vl_load ag145 rfl ((hb.chg0 c44).cell' rfl)) rfl ?_
  refine Om rfl rfl ?_
  refine Og (vl_indexAddr sl145 sz177 rfl rfl _ rfl hat) rfl ?_
  refine Og (vl_load ag177 rfl hcell) rfl ?_
  refine O_go (gn rfl) (st_call bd130 rfl rfl rfl rfl (f25 _ _ _ _ hlu (by omega)) ?_)
  rintro v55 w55 ⟨i55, n55, c55⟩
  obtain ⟨p55, q55, rfl, hq55⟩ := i55.val
  refine Oa rfl rfl (O_end [0, 1, 2, 9, 10, 11, 12] (F' := [(0, _), (1, _), (2, _), (9, _), (10, _), (11, _), (12, _)]) rfl ?_)
  have hc55 : Chg [] w w55 := c44.trans c55
  refine Sr (Om rfl rfl ?_)
  refine Og (vl_func rfl rfl) rfl ?_
  refine Oa rfl rfl (O_end [1, 2, 9, 10, 11, 12, 13] (F' := [(1, _), (2, _), (9, _), (10, _), (11, _), (12, _), (13, _)]) rfl (W_seq (Sr (Om rfl rfl (O_end [1, 2, 9, 10, 12, 13, 58] (F' := [(1, _), (2, _), (9, _), (10, _), (12, _), (13, _), (58, _)]) rfl ?_)))))
  refine W_cond rfl (fun hT => ?_) (fun hF => ?_)
  · obtain ⟨old, hold⟩ := hasK_at hT
    have hil := (List.getElem?_eq_some_iff.1 hold).1
    obtain ⟨bl, ol, cl, rfl, hsl55⟩ : ∃ b off c, p55 = some ⟨b, off, none⟩ ∧ SlAt w55 175 2 b off l.length q55 c (flat l) := by
      rcases i55 with ⟨_, h1, _⟩ | ⟨b, off, cap, c, he, hs⟩
      · omega
      · simp only [Value.slice.injEq] at he
        obtain ⟨rfl, _, rfl⟩ := he
        exact ⟨b, off, c, rfl, hs⟩
    have hnew : w44.heap.size ≤ bl := n55 bl (by simp [blkOf])
    obtain ⟨_, _, _, hv2, hcl2⟩ := IsList.at' i55 hold
    simp only [Value.slice.injEq, Option.some.injEq, Addr.mk.injEq, and_true] at hv2
    obtain ⟨⟨rfl, rfl⟩, _⟩ := hv2
    have hfit := hsl55.fit
    have hle55 := hsl55.le
    refine Sr (Om rfl rfl (Om rfl rfl ?_))
    refine Og (vl_indexAddr sl177 sz175 rfl rfl _ rfl hil) rfl ?_
    refine Og (vl_fieldAddr fo175_1 rfl) rfl ?_
    refine Og (vl_load ag9 rfl (hcl2 1 _ rfl)) rfl ?_
    refine Oa rfl rfl (O_end [2, 9, 10, 12, 13, 14] (F' := [(2, _), (9, _), (10, _), (12, _), (13, _), (14, _)]) rfl (Sr (Om rfl rfl (Om rfl rfl (Om rfl rfl ?_)))))
    refine Og (vl_indexAddr sl177 sz175 rfl rfl _ rfl hil) rfl ?_
    refine Og (vl_fieldAddr fo175_1 rfl) rfl ?_
    refine O_go (gn rfl) (st_store sz9 rfl rfl rfl rfl hsl55.blk (by simp; omega) (by intro u hu; simp at hu; subst hu; rfl) ?_)
    intro w68 n68 c68 k68
    refine O_end [9, 12, 13, 14] (F' := [(9, _), (12, _), (13, _), (14, _)]) rfl ?_
    have hset := IsList.setVal hsl55 hold k68
    have hc68 : Chg [] w w68 := hc55.own c68 (by intro x hx; simp at hx; subst hx; have := c44.size; omega)
    refine Sr (Om rfl rfl (Om rfl rfl (Om rfl rfl ?_)))
    refine Og (vl_eq (v' := .int .i64 ((a + 1 : Nat) : Int)) (vl_add rfl rfl (by omega)) (by congr 1)) rfl ?_
    refine Om rfl rfl ?_
    refine O_go (gn rfl) (st_buildSlice ap144 rfl (vs := [_]) rfl (css := [_]) ⟨rfl, trivial⟩ rfl rfl (cs := [_]) rfl rfl ?_)
    intro b74 w74 e74 n74 c74 k74
    refine O_go (gn rfl) (st_call bd131 rfl rfl rfl rfl (f26 p ls [l.set (lbN l key) (key, val)] _ a (a + 1) _ (hp.chg0 (hc68.trans c74)) (IsPages.one k74 (hset.chg0 c74)) (by omega) hat (by omega) (by simp)) ?_)
    rintro v75 w75 ⟨rfl, p75, c75⟩
    refine O_end [14] (F' := [(14, _)]) rfl (Sr (Om rfl rfl (Oa rfl rfl (Oa rfl rfl (Oa rfl rfl (O_end [6, 7, 8] (F' := [(6, _), (7, _), (8, _)]) rfl (W_ret ?_)))))))
    refine then_ret ?_
    refine ret3 rfl rfl rfl rfl ?_
    refine ⟨?_, ?_, ((hc68.trans c74).any (S := [p])).transS c75⟩
    · rw [if_pos hT, hold]; rfl
    · rw [putL, if_pos hT, splitL, if_neg (by rw [List.length_set]; omega)]
      exact p75
  · have hF' : ¬ hasK l key = true := by rw [show hasK l key = false from hF]; simp
    refine W_skipE (W_seq ?_)
    have hys : ∀ (wz : World) (b : Nat), Blk wz b 175 [.string key, .string val] → IsSl wz 175 2 (.slice (some ⟨b, 0, none⟩) 1 1) 1 (flat [(key, val)]) := fun wz b hb => IsSl.of_blk (n := 1) hb rfl (by simp [maxLen]) (flat_one [(key, val)])
    refine W_region (Om rfl rfl (Om rfl rfl (Om rfl rfl (Om rfl rfl ?_))))
    refine Og (vl_build pl175 zr175 rfl (vs := [_, _]) rfl (css := [_, _]) ⟨rfl, rfl, trivial⟩ rfl rfl (cs := [_, _]) rfl) rfl ?_
    refine O_go (gn rfl) (st_buildSlice ap176 rfl (vs := [_]) rfl (css := [_]) ⟨rfl, trivial⟩ rfl rfl (cs := [_, _]) rfl rfl ?_)
    intro b82 w82 e82 n82 c82 k82
    refine O_go (gn rfl) (st_call bd134 rfl rfl rfl rfl (f27 _ _ (lbN l key) l.length (flat l) (flat [(key, val)]) _ (i55.chg0 c82) (hys _ _ k82) hlb (by omega) (by intro x hx hy; simp [blkOf] at hx; subst hx; have := i55.lt _ hy; omega)) ?_)
    rintro v83 w83 ⟨i83, c83, o83⟩
    refine Oa rfl rfl (O_end [9, 12, 13] (F' := [(9, _), (12, _), (13, _)]) rfl ?_)
    have hput : putL l key val = l.take (lbN l key) ++ [(key, val)] ++ l.drop (lbN l key) := by rw [putL, if_neg hF']
    have hpl : (putL l key val).length = l.length + 1 := by rw [hput]; simp; omega
    have hlist : IsList w83 v83 (putL l key val) := by
      unfold IsList
      rw [hpl, hput, flat_append, flat_append, flat_take, flat_drop]
      exact i83
    have hc83 : Chg [] w w83 := (hc55.trans c82).own c83 (by intro x hx; have := n55 x hx; have := c44.size; omega)
    clear i83 c83 o83
    rw [if_neg hF']
    clear hput
    generalize putL l key val = l' at *
    obtain ⟨p83, q83, rfl, hq83⟩ := IsSl.val hlist
    refine W_seq (Sr (Om rfl rfl (Og (vl_len sl177 rfl) rfl ?_)))
    refine Og (vl_gtr rfl rfl) rfl ?_
    refine O_end [9, 12, 13, 86] (F' := [(9, _), (12, _), (13, _), (86, _)]) rfl ?_
    refine W_cond rfl (fun hT2 => ?_) (fun hF2 => ?_)
    · have h8 : 8 < l'.length := by have := of_decide_eq_true hT2; omega
      refine Sr (Oa rfl rfl (O_end [9, 12, 13, 15] (F' := [(9, _), (12, _), (13, _), (15, _)]) rfl ?_))
      refine W_draw (fun _ => True) mix (by kernel_rfl) trivial ?_
      refine Tm rfl rfl (Tm rfl rfl (Tm rfl rfl ?_))
      refine t_pure rfl (gn rfl) (fun _ => vl_eq (v' := .int .i64 ((a + 1 : Nat) : Int)) (vl_add rfl rfl (by omega)) (by congr 1)) rfl rfl ?_
      refine Tm rfl rfl (Tm rfl rfl (Tm rfl rfl ?_))
      refine t_pure rfl (gn rfl) (fun _ => vl_cut_hm sl177 sz175 rfl rfl rfl 4 4 rfl rfl (Nat.le_refl _) (by omega)) rfl rfl ?_
      refine Tm rfl rfl (Tm rfl rfl ?_)
      refine t_pure rfl (gn rfl) (fun _ => vl_cut_l sl177 sz175 rfl rfl 4 rfl (by omega)) rfl rfl ?_
      refine t_st rfl (gn rfl) (st_buildSlice ap144 rfl (vs := [_, _]) rfl (css := [_, _]) ⟨rfl, rfl, trivial⟩ rfl rfl (cs := [_, _]) rfl rfl ?_)
      intro b98 w98 e98 n98 c98 k98
      refine ⟨.inl trivial, ?_⟩
      have hc98 : Chg [] w83 w98 := (Chg.drew [] w83).trans c98
      refine t_st rfl (gn rfl) (st_call bd131 rfl rfl rfl rfl (f26 p ls [l'.take 4, l'.drop 4] _ a (a + 1) _ (hp.chg0 (hc83.trans hc98)) (IsPages.two k98 ((hlist.chg0 hc98).cutL (by omega) (Nat.le_refl _) (by omega)) ((hlist.chg0 hc98).cutR (by omega) hq83)) (by omega) hat (by omega) (by simp)) ?_)
      rintro v99 w99 ⟨rfl, p99, c99⟩
      refine ⟨.inl trivial, ?_⟩
      refine T_end [] (F' := []) rfl ?_
      refine Sr (Oa rfl rfl (Oa rfl rfl (Oa rfl rfl (O_end [6, 7, 8] (F' := [(6, _), (7, _), (8, _)]) rfl (W_ret ?_)))))
      refine ret3 rfl rfl rfl rfl ?_
      refine ⟨rfl, ?_, ((hc83.trans hc98).any (S := [p])).transS c99⟩
      rw [splitL, if_pos h8]
      exact p99
    · have h8 : ¬ 8 < l'.length := by have := of_decide_eq_false hF2; omega
      refine W_region (Om rfl rfl (Om rfl rfl (Om rfl rfl ?_)))
      refine Og (vl_eq (v' := .int .i64 ((a + 1 : Nat) : Int)) (vl_add rfl rfl (by omega)) (by congr 1)) rfl ?_
      refine Om rfl rfl ?_
      refine O_go (gn rfl) (st_buildSlice ap144 rfl (vs := [_]) rfl (css := [_]) ⟨rfl, trivial⟩ rfl rfl (cs := [_]) rfl rfl ?_)
      intro b105 w105 e105 n105 c105 k105
      refine O_go (gn rfl) (st_call bd131 rfl rfl rfl rfl (f26 p ls [l'] _ a (a + 1) _ (hp.chg0 (hc83.trans c105)) (IsPages.one k105 (hlist.chg0 c105)) (by omega) hat (by omega) (by simp)) ?_)
      rintro v106 w106 ⟨rfl, p106, c106⟩
      refine O_end [] (F' := []) rfl (Sr (Oa rfl rfl (Oa rfl rfl (Oa rfl rfl (O_end [6, 7, 8] (F' := [(6, _), (7, _), (8, _)]) rfl (W_ret ?_))))))
      refine ret3 rfl rfl rfl rfl ?_
      refine ⟨rfl, ?_, ((hc83.trans c105).any (S := [p])).transS c106⟩
      rw [splitL, if_neg h8]
      exact p106
end Go.Wk
