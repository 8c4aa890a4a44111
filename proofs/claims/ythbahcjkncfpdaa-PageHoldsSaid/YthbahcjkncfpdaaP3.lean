/-
  Where a key is: the page, the place.
-/
import Derived.Test.YthbahcjkncfpdaaP2
namespace Go.Wk
open Go.Proofs
set_option maxRecDepth 10000

def firstK (l : List Ent) : ByteArray := match l with | x :: _ => x.1 | [] => ⟨#[]⟩
def lbN (l : List Ent) (key : ByteArray) : Nat := (l.takeWhile fun x => blt x.1 key).length
def hasK (l : List Ent) (key : ByteArray) : Bool := hasAt (l.map (·.1)) key (lbN l key)
def cntN (ls : List (List Ent)) (key : ByteArray) : Nat := (ls.takeWhile fun l => !blt key (firstK l)).length
def Srt (l : List Ent) : Prop := l.Pairwise fun a b => blt a.1 b.1 = true

theorem takeWhile_len {α : Type} (p : α → Bool) : ∀ (l : List α) (i : Nat), i ≤ l.length → (∀ j k, l[j]? = some k → (p k = true ↔ j < i)) → (l.takeWhile p).length = i
  | [], i, h, _ => by simp at h; simp [h]
  | x :: l, i, h, hp => by
    have h0 := hp 0 x rfl
    cases i with
    | zero =>
      have : p x = false := by
        cases hx : p x with
        | false => rfl
        | true => have := h0.1 hx; omega
      simp [List.takeWhile, this]
    | succ i =>
      have : p x = true := h0.2 (by omega)
      have ih := takeWhile_len p l i (by simpa using h) (fun j k hk => by
        have := hp (j + 1) k (by simpa using hk)
        rw [this]; omega)
      simp [List.takeWhile, this, ih]

theorem IsLb.eq {l : List Ent} {key : ByteArray} {i : Nat} (h : IsLb (l.map (·.1)) key i) : i = lbN l key := by
  refine (takeWhile_len _ l i (by simpa using h.1) (fun j k hk => ?_)).symm
  exact h.2 j k.1 (by rw [List.getElem?_map, hk]; rfl)

theorem Srt.at {l : List Ent} (h : Srt l) {i j : Nat} {a b : Ent} (hij : i < j) (ha : l[i]? = some a) (hb : l[j]? = some b) : blt a.1 b.1 = true := by
  obtain ⟨h1, rfl⟩ := List.getElem?_eq_some_iff.1 ha
  obtain ⟨h2, rfl⟩ := List.getElem?_eq_some_iff.1 hb
  exact List.pairwise_iff_getElem.1 h i j h1 h2 hij
theorem Srt.mono {l : List Ent} (h : Srt l) (key : ByteArray) : Mono (l.map (·.1)) key := by
  intro i j a b hij ha hb hlt
  rw [List.getElem?_map] at ha hb
  cases hx : l[i]? with
  | none => simp [hx] at ha
  | some x =>
    cases hy : l[j]? with
    | none => simp [hy] at hb
    | some y =>
      simp [hx] at ha; simp [hy] at hb
      subst ha hb
      rcases Nat.lt_or_ge i j with h' | h'
      · exact blt_trans (h.at h' hx hy) hlt
      · have : i = j := by omega
        subst this
        rw [hx] at hy
        simp at hy
        subst hy
        exact hlt

/-- First keys, strictly rising. -/
def SrtF (ls : List (List Ent)) : Prop := ls.Pairwise fun a b => blt (firstK a) (firstK b) = true
theorem SrtF.at {ls : List (List Ent)} (h : SrtF ls) {i j : Nat} {a b : List Ent} (hij : i < j) (ha : ls[i]? = some a) (hb : ls[j]? = some b) : blt (firstK a) (firstK b) = true := by
  obtain ⟨h1, rfl⟩ := List.getElem?_eq_some_iff.1 ha
  obtain ⟨h2, rfl⟩ := List.getElem?_eq_some_iff.1 hb
  exact List.pairwise_iff_getElem.1 h i j h1 h2 hij
theorem SrtF.mono {ls : List (List Ent)} (h : SrtF ls) (key : ByteArray) : Mono (ls.map firstK) key := by
  intro i j a b hij ha hb hlt
  rw [List.getElem?_map] at ha hb
  cases hx : ls[i]? with
  | none => simp [hx] at ha
  | some x =>
    cases hy : ls[j]? with
    | none => simp [hy] at hb
    | some y =>
      simp [hx] at ha; simp [hy] at hb
      subst ha hb
      rcases Nat.lt_or_ge i j with h' | h'
      · exact blt_trans (h.at h' hx hy) hlt
      · have : i = j := by omega
        subst this
        rw [hx] at hy
        simp at hy
        subst hy
        exact hlt
/-- The page of a key, by the first place whose first key isn't below. -/
theorem cntN_of {ls : List (List Ent)} {key : ByteArray} {i : Nat} (hs : SrtF ls) (h : IsLb (ls.map firstK) key i) : (cntN ls key - 1 : Nat) = (if hasAt (ls.map firstK) key i then i else i - 1) := by
  have hle : i ≤ ls.length := by simpa using h.1
  have key1 : ∀ j k, ls[j]? = some k → j < i → blt key (firstK k) = false := fun j k hk hj =>
    blt_asymm ((h.2 j (firstK k) (by rw [List.getElem?_map, hk]; rfl)).2 hj)
  have key2 : ∀ j k, ls[j]? = some k → i ≤ j → blt (firstK k) key = false := fun j k hk hj => by
    cases hx : blt (firstK k) key with
    | false => rfl
    | true => have := (h.2 j (firstK k) (by rw [List.getElem?_map, hk]; rfl)).1 hx; omega
  by_cases hh : hasAt (ls.map firstK) key i = true
  · rw [if_pos hh]
    unfold hasAt at hh
    rw [List.getElem?_map] at hh
    cases hx : ls[i]? with
    | none => simp [hx] at hh
    | some x =>
      simp [hx] at hh
      have hil := (List.getElem?_eq_some_iff.1 hx).1
      have : cntN ls key = i + 1 := by
        refine takeWhile_len _ ls (i + 1) (by omega) (fun j k hk => ?_)
        rw [Bool.not_eq_true']
        constructor
        · intro h1
          rcases Nat.lt_or_ge j (i + 1) with h' | h'
          · exact h'
          · have := hs.at (show i < j by omega) hx hk
            rw [hh, h1] at this; cases this
        · intro h1
          rcases Nat.lt_or_ge j i with h' | h'
          · exact key1 j k hk h'
          · have : j = i := by omega
            subst this
            rw [hx] at hk; simp at hk; subst hk
            rw [hh]; exact blt_irrefl _
      rw [this]; simp
  · rw [if_neg hh]
    have : cntN ls key = i := by
      refine takeWhile_len _ ls i hle (fun j k hk => ?_)
      rw [Bool.not_eq_true']
      constructor
      · intro h1
        rcases Nat.lt_or_ge j i with h' | h'
        · exact h'
        · exfalso
          have h2 := key2 j k hk h'
          have he := blt_total h2 h1
          rcases Nat.lt_or_ge i j with h3 | h3
          · have hil : i < ls.length := by have := (List.getElem?_eq_some_iff.1 hk).1; omega
            have hx : ls[i]? = some ls[i] := by simp [hil]
            have h4 := hs.at h3 hx hk
            rw [he] at h4
            rw [key2 i _ hx (Nat.le_refl _)] at h4; cases h4
          · have : j = i := by omega
            subst this
            apply hh
            unfold hasAt
            rw [List.getElem?_map, hk]
            simp [he]
      · intro h1; exact key1 j k hk h1
    rw [this]

/-! ### pages -/
def AllL (w : World) : List Value → List (List Ent) → Prop
  | [], [] => True
  | v :: vs, l :: ls => IsList w v l ∧ AllL w vs ls
  | _, _ => False
theorem AllL.length {w : World} : ∀ {vs : List Value} {ls : List (List Ent)}, AllL w vs ls → vs.length = ls.length
  | [], [], _ => rfl
  | _ :: _, _ :: _, h => by simp [AllL.length h.2]
theorem AllL.at {w : World} : ∀ {vs : List Value} {ls : List (List Ent)} {i : Nat} {l : List Ent}, AllL w vs ls → ls[i]? = some l → ∃ v, vs[i]? = some v ∧ IsList w v l
  | [], [], _, _, _, h => by simp at h
  | v :: vs, l :: ls, 0, l', h, hi => by simp at hi; subst hi; exact ⟨v, rfl, h.1⟩
  | v :: vs, l :: ls, i + 1, l', h, hi => by simpa using h.2.at (by simpa using hi)
theorem AllL.append {w : World} : ∀ {vs us : List Value} {ls ms : List (List Ent)}, AllL w vs ls → AllL w us ms → AllL w (vs ++ us) (ls ++ ms)
  | [], _, [], _, _, h => h
  | _ :: _, _, _ :: _, _, h, h' => ⟨h.1, h.2.append h'⟩
theorem AllL.take {w : World} : ∀ {vs : List Value} {ls : List (List Ent)} (i : Nat), AllL w vs ls → AllL w (vs.take i) (ls.take i)
  | _, _, 0, _ => by simp [AllL]
  | [], [], _ + 1, _ => by simp [AllL]
  | _ :: _, _ :: _, i + 1, h => ⟨h.1, h.2.take i⟩
theorem AllL.drop {w : World} : ∀ {vs : List Value} {ls : List (List Ent)} (i : Nat), AllL w vs ls → AllL w (vs.drop i) (ls.drop i)
  | _, _, 0, h => h
  | [], [], _ + 1, _ => by simp [AllL]
  | _ :: _, _ :: _, i + 1, h => by simpa using h.2.drop i
theorem AllL.chg {S : List Nat} {w w' : World} (hc : Chg S w w') : ∀ {vs : List Value} {ls : List (List Ent)}, (∀ v ∈ vs, ∀ b ∈ blkOf v, b ∉ S) → AllL w vs ls → AllL w' vs ls
  | [], [], _, _ => trivial
  | v :: vs, l :: ls, hb, h => ⟨h.1.chg hc (hb v (by simp)), AllL.chg hc (fun u hu => hb u (by simp [hu])) h.2⟩
theorem AllL.apart {w : World} {b : Nat} {e : TypeId} {c : List Value} (hb : Blk w b e c) (hne : Nat.beq 69 e = false) : ∀ {vs : List Value} {ls : List (List Ent)}, AllL w vs ls → ∀ v ∈ vs, ∀ x ∈ blkOf v, x ∉ [b]
  | [], [], _, v, hv => by simp at hv
  | v :: vs, l :: ls, h, u, hu => by
    rcases List.mem_cons.1 hu with rfl | hu
    · exact IsSl.apart h.1 hb hne
    · exact AllL.apart hb hne h.2 u hu

/-- v are pages with these lists. -/
def IsPages (w : World) (v : Value) (ls : List (List Ent)) : Prop := ∃ vs, IsSl w 71 1 v ls.length vs ∧ AllL w vs ls
theorem IsPages.chg0 {w w' : World} {v : Value} {ls : List (List Ent)} (h : IsPages w v ls) (hc : Chg [] w w') : IsPages w' v ls :=
  let ⟨vs, h1, h2⟩ := h; ⟨vs, h1.chg0 hc, h2.chg hc (by simp)⟩
theorem IsPages.chg1 {w w' : World} {v : Value} {ls : List (List Ent)} (h : IsPages w v ls) {b : Nat} {e : TypeId} {c : List Value} (hb : Blk w b e c) (h1 : Nat.beq 71 e = false) (h2 : Nat.beq 69 e = false) (hc : Chg [b] w w') : IsPages w' v ls :=
  let ⟨vs, g1, g2⟩ := h; ⟨vs, g1.chg hc (g1.apart hb h1), g2.chg hc (g2.apart hb h2)⟩
theorem IsPages.at {w : World} {v : Value} {ls : List (List Ent)} (h : IsPages w v ls) {i : Nat} {l : List Ent} (hi : ls[i]? = some l) : ∃ b off cap u, v = .slice (some ⟨b, off, none⟩) ls.length cap ∧ w.cell? ⟨b, off + i * 1, none⟩ = some u ∧ IsList w u l := by
  obtain ⟨vs, h1, h2⟩ := h
  obtain ⟨b, off, cap, u, hv, hu, hc⟩ := h1.at1 (List.getElem?_eq_some_iff.1 hi).1
  obtain ⟨u', hu', hl⟩ := h2.at hi
  rw [hu] at hu'
  simp at hu'
  subst hu'
  exact ⟨b, off, cap, u, hv, hc, hl⟩

theorem f56 (v : Value) (ls : List (List Ent)) (key : ByteArray) (b : Nat) (w : World) (hl : IsPages w v ls) (hne : ∀ l ∈ ls, l ≠ []) (hn : ls.length ≤ 4611686018427387903) (hb : Blk w b 98 [.func (.func 49) #[] #[]]) (hm : Mono (ls.map firstK) key) :
    Ret Try.prog 56 #[v, .string key, .func (.func 57) #[] #[.pointer (some ⟨b, 0, none⟩)]] w fun r w' => ∃ i : Nat, r = .tuple #[.int .i64 i, .bool (hasAt (ls.map firstK) key i)] ∧ IsLb (ls.map firstK) key i ∧ w' = w := by
  obtain ⟨vs, hsl, hal⟩ := id hl
  obtain ⟨p, c, rfl, _⟩ := hsl.val
  have call : ∀ (i : Nat) (l : List Ent), ls[i]? = some l → ∃ bb off u, p = some ⟨bb, off, none⟩ ∧ w.cell? ⟨bb, off + i * 1, none⟩ = some u ∧ Ret Try.prog 57 #[u, .string key, .pointer (some ⟨b, 0, none⟩)] w fun r w' => r = .int .i64 (scmp (firstK l) key) ∧ w' = w := by
    intro i l hi
    obtain ⟨bb, off, cap, u, hv, hc, hl'⟩ := hl.at hi
    simp only [Value.slice.injEq] at hv
    refine ⟨bb, off, u, hv.1, hc, ?_⟩
    cases l with
    | nil => exact absurd rfl (hne [] (List.mem_of_getElem? hi))
    | cons x l => exact f57 u x.1 x.2 key l b w hl' hb
  refine Ret.of_W (args := [_, _, _]) Try.func56 rfl rfl rfl rfl ?_

  refine W_seq ?_
  refine W_region ?_
  refine O_go (gn rfl) (St.vl (vl_assign rfl) rfl rfl ?_)
  refine O_go (gn rfl) (St.vl (vl_assign rfl) rfl rfl ?_)
  refine O_end [0, 1, 2] (F' := [(0, _), (1, _), (2, _)]) rfl ?_
  refine W_seq ?_
  refine W_region ?_
  refine O_go (gn rfl) (St.vl (vl_move rfl) rfl rfl ?_)
  refine O_go (gn rfl) (St.vl (vl_len sl64 rfl) rfl rfl ?_)
  refine O_go (gn rfl) (St.vl (vl_assign rfl) rfl rfl ?_)
  refine O_end [0, 1, 2, 8] (F' := [(0, _), (1, _), (2, _), (8, _)]) rfl ?_
  refine W_seq ?_
  refine W_region ?_
  refine O_go (gn rfl) (St.vl (vl_move rfl) rfl rfl ?_)
  refine O_go (gn rfl) (St.vl (vl_assign rfl) rfl rfl ?_)
  refine O_go (gn rfl) (St.vl (vl_assign rfl) rfl rfl ?_)
  refine O_end [0, 1, 2, 8, 9, 10] (F' := [(0, _), (1, _), (2, _), (8, _), (9, _), (10, _)]) rfl ?_
  refine W_seq ?_
  refine W_block ?_
  refine W_loop [0, 1, 2, 8, 9, 10] (fun m F wx => wx = w ∧ ∃ lo hi : Nat, m = hi - lo ∧ F = [(0, .slice p ls.length c), (1, .string key), (2, .func (.func 57) #[] #[.pointer (some ⟨b, 0, none⟩)]), (8, .int .i64 ls.length), (9, .int .i64 lo), (10, .int .i64 hi)] ∧ Between (ls.map firstK) key lo hi) (m := ls.length - 0) ⟨rfl, 0, ls.length, rfl, rfl, by simpa using Between.start (ls.map firstK) key⟩ ?_
  rintro m F wx ⟨rfl, lo, hi, rfl, rfl, hbt⟩
  have hle := hbt.2.1
  rw [List.length_map] at hle
  refine W_seq ?_
  refine W_seq ?_
  refine W_region ?_
  refine O_go (gn rfl) (St.vl (vl_move rfl) rfl rfl ?_)
  refine O_go (gn rfl) (St.vl (vl_move rfl) rfl rfl ?_)
  refine O_go (gn rfl) (St.vl (vl_lss rfl rfl) rfl rfl ?_)
  refine O_end [0, 1, 2, 8, 9, 10, 17] (F' := [(0, _), (1, _), (2, _), (8, _), (9, _), (10, _), (17, _)]) rfl ?_
  refine W_cond rfl (fun hT => ?_) (fun hF => ?_)
  · refine W_skipE ?_
    have hlt : lo < hi := by simpa using hT
    have hh := half_lt hlt
    have hk : ls[(lo + hi) / 2]? = some ls[(lo + hi) / 2] := by simp
    obtain ⟨bb, off, u, rfl, hcs, hret⟩ := call _ _ hk
    refine W_block ?_
    refine W_seq ?_
    refine W_region ?_
    refine O_go (gn rfl) (St.vl (vl_move rfl) rfl rfl ?_)
    refine O_go (gn rfl) (St.vl (vl_move rfl) rfl rfl ?_)
    refine O_go (gn rfl) (St.vl (vl_add rfl rfl (by omega)) rfl rfl ?_)
    refine O_go (gn rfl) (St.vl (vl_convn it107_u64 it3_i64 rfl (show IntKind.u64.wrap ((lo : Int) + (hi : Int)) = ((lo + hi : Nat) : Int) from by rw [IntWalk.u64_in _ ⟨by omega, by omega⟩]; omega)) rfl rfl ?_)
    refine O_go (gn rfl) (St.vl (vl_shrn (by decide) rfl rfl (show ((lo + hi : Nat) : Int).fdiv 2 = (((lo + hi) / 2 : Nat) : Int) from by rw [Int.fdiv_eq_ediv_of_nonneg _ (by omega)]; omega)) rfl rfl ?_)
    refine O_go (gn rfl) (St.vl (vl_convn it3_i64 it107_u64 rfl (show IntKind.i64.wrap (((lo + hi) / 2 : Nat) : Int) = (((lo + hi) / 2 : Nat) : Int) from IntWalk.i64_in _ ⟨by omega, by omega⟩)) rfl rfl ?_)
    refine O_go (gn rfl) (St.vl (vl_assign rfl) rfl rfl ?_)
    refine O_end [0, 1, 2, 8, 9, 10, 11] (F' := [(0, _), (1, _), (2, _), (8, _), (9, _), (10, _), (11, _)]) rfl ?_
    refine W_seq ?_
    refine W_region ?_
    refine O_go (gn rfl) (St.vl (vl_move rfl) rfl rfl ?_)
    refine O_go (gn rfl) (St.vl (vl_move rfl) rfl rfl ?_)
    refine O_go (gn rfl) (St.vl (vl_move rfl) rfl rfl ?_)
    refine O_go (gn rfl) (St.vl (vl_indexAddr sl64 sz71 rfl rfl _ rfl (by omega)) rfl rfl ?_)
    refine O_go (gn rfl) (St.vl (vl_load ag71 rfl hcs) rfl rfl ?_)
    refine O_go (gn rfl) (St.vl (vl_move rfl) rfl rfl ?_)
    refine O_go (gn rfl) (st_call bd57 rfl rfl rfl rfl hret ?_)
    rintro v30 w30 ⟨rfl, rfl⟩
    refine O_go (gn rfl) (St.vl (vl_lss rfl rfl) rfl rfl ?_)
    refine O_end [0, 1, 2, 8, 9, 10, 11, 31] (F' := [(0, _), (1, _), (2, _), (8, _), (9, _), (10, _), (11, _), (31, _)]) rfl ?_
    have hkm : (ls.map firstK)[(lo + hi) / 2]? = some (firstK ls[(lo + hi) / 2]) := by rw [List.getElem?_map, hk]; rfl
    refine W_cond rfl (fun hT => ?_) (fun hF => ?_)
    · have hlt2 := (scmp_lt _ _).1 (of_decide_eq_true hT)
      refine W_region ?_
      refine O_go (gn rfl) (St.vl (vl_move rfl) rfl rfl ?_)
      refine O_go (gn rfl) (St.vl (vl_add rfl rfl (by omega)) rfl rfl ?_)
      refine O_go (gn rfl) (St.vl (vl_assign rfl) rfl rfl ?_)
      refine O_endN [0, 1, 2, 8, 9, 10] (F' := [(0, _), (1, _), (2, _), (8, _), (9, _), (10, _)]) rfl ?_
      refine ⟨hi - ((lo + hi) / 2 + 1), by omega, rfl, (lo + hi) / 2 + 1, hi, rfl, rfl, hbt.low hm hh.1 hh.2 hkm hlt2⟩
    · have hlt2 : blt (firstK ls[(lo + hi) / 2]) key = false := by
        cases hx : blt (firstK ls[(lo + hi) / 2]) key with
        | false => rfl
        | true => have := (scmp_lt _ _).2 hx; simp at hF; omega
      refine W_region ?_
      refine O_go (gn rfl) (St.vl (vl_move rfl) rfl rfl ?_)
      refine O_go (gn rfl) (St.vl (vl_assign rfl) rfl rfl ?_)
      refine O_endN [0, 1, 2, 8, 9, 10] (F' := [(0, _), (1, _), (2, _), (8, _), (9, _), (10, _)]) rfl ?_
      refine ⟨(lo + hi) / 2 - lo, by omega, rfl, lo, (lo + hi) / 2, rfl, rfl, hbt.high hm hh.1 hh.2 hkm hlt2⟩
  · refine W_exit ?_
    repeat (first | refine then_exit ?_ | refine blockF_other rfl ?_)
    refine blockF_exit _ ?_
    have hge : hi ≤ lo := by simpa using hF
    have hlb := hbt.done hge
    refine W_seq ?_
    by_cases hlt : lo < ls.length
    · have hk : ls[lo]? = some ls[lo] := by simp
      obtain ⟨bb, off, u, rfl, hcs, hret⟩ := call _ _ hk
      have hhas : hasAt (ls.map firstK) key lo = decide (scmp (firstK ls[lo]) key = 0) := by
        simp only [hasAt, List.getElem?_map, hk, Option.map_some]
        exact decide_eq_decide.2 (scmp_eq _ _).symm
      refine W_region ?_
      refine O_go (gn rfl) (St.vl (vl_move rfl) rfl rfl ?_)
      refine O_go (gn rfl) (St.vl (vl_move rfl) rfl rfl ?_)
      refine O_go (gn rfl) (St.vl (vl_move rfl) rfl rfl ?_)
      refine O_go (gn rfl) (St.vl (vl_is (b' := true) (vl_lss rfl rfl) (by simpa using hlt)) rfl rfl ?_)
      refine O_go (gn rfl) (St.vl (vl_move rfl) rfl rfl ?_)
      refine O_go (gy rfl rfl rfl) (St.vl (vl_move rfl) rfl rfl ?_)
      refine O_go (gy rfl rfl rfl) (St.vl (vl_move rfl) rfl rfl ?_)
      refine O_go (gy rfl rfl rfl) (St.vl (vl_move rfl) rfl rfl ?_)
      refine O_go (gy rfl rfl rfl) (St.vl (vl_indexAddr sl64 sz71 rfl rfl _ rfl hlt) rfl rfl ?_)
      refine O_go (gy rfl rfl rfl) (St.vl (vl_load ag71 rfl hcs) rfl rfl ?_)
      refine O_go (gy rfl rfl rfl) (St.vl (vl_move rfl) rfl rfl ?_)
      refine O_go (gy rfl rfl rfl) (st_call bd57 rfl rfl rfl rfl hret ?_)
      rintro v46 w46 ⟨rfl, rfl⟩
      refine O_go (gy rfl rfl rfl) (St.vl (vl_is (vl_ieq rfl rfl) hhas.symm) rfl rfl ?_)
      refine O_go (gn rfl) (St.vl (vl_pick_t rfl rfl) rfl rfl ?_)
      refine O_go (gn rfl) (St.vl (vl_assign rfl) rfl rfl ?_)
      refine O_go (gn rfl) (St.vl (vl_assign rfl) rfl rfl ?_)
      refine O_end [6, 7] (F' := [(6, _), (7, _)]) rfl ?_
      refine W_ret ?_
      refine ret2 rfl rfl rfl ?_
      exact ⟨lo, rfl, hlb, rfl⟩
    · have hhas : hasAt (ls.map firstK) key lo = false := by
        simp only [hasAt, List.getElem?_map, List.getElem?_eq_none (Nat.not_lt.1 hlt), Option.map_none]
      refine W_region ?_
      refine O_go (gn rfl) (St.vl (vl_move rfl) rfl rfl ?_)
      refine O_go (gn rfl) (St.vl (vl_move rfl) rfl rfl ?_)
      refine O_go (gn rfl) (St.vl (vl_move rfl) rfl rfl ?_)
      refine O_go (gn rfl) (St.vl (vl_is (b' := false) (vl_lss rfl rfl) (by simpa using hlt)) rfl rfl ?_)
      refine O_go (gn rfl) (St.vl (vl_move rfl) rfl rfl ?_)
      iterate 8 refine O_guard_no rfl rfl rfl rfl rfl rfl ?_
      refine O_go (gn rfl) (St.vl (vl_pick_f rfl rfl) rfl rfl ?_)
      refine O_go (gn rfl) (St.vl (vl_assign rfl) rfl rfl ?_)
      refine O_go (gn rfl) (St.vl (vl_assign rfl) rfl rfl ?_)
      refine O_end [6, 7] (F' := [(6, _), (7, _)]) rfl ?_
      refine W_ret ?_
      refine ret2 rfl rfl rfl ?_
      exact ⟨lo, by rw [hhas], hlb, rfl⟩

theorem f40 (v : Value) (es : List Ent) (key : ByteArray) (w : World) (hl : IsList w v es) (hn : es.length ≤ 4611686018427387903) (hs : Srt es) :
    Ret Try.prog 40 #[v, .string key, .func (.func 41) #[] #[]] w fun r w' => r = .tuple #[.int .i64 (lbN es key : Nat), .bool (hasK es key)] ∧ Chg [] w w' := by
  refine Ret.of_W (args := [_, _, _]) Try.func40 rfl rfl rfl rfl ?_

  refine W_seq ?_
  refine W_region ?_
  refine O_go (gn rfl) (st_box rfl rfl rfl ?_)
  intro b5 w5 e5 n5 c5 k5
  refine O_go (gn rfl) (St.vl (vl_assign rfl) rfl rfl ?_)
  refine O_go (gn rfl) (St.vl (vl_assign rfl) rfl rfl ?_)
  refine O_end [0, 1, 5] (F' := [(0, _), (1, _), (5, _)]) rfl ?_
  refine W_seq ?_
  refine W_region ?_
  refine O_go (gn rfl) (St.vl (vl_move rfl) rfl rfl ?_)
  refine O_go (gn rfl) (St.vl (vl_move rfl) rfl rfl ?_)
  refine O_go (gn rfl) (St.vl (vl_func rfl rfl) rfl rfl ?_)
  refine O_go (gn rfl) (st_call bd50 rfl rfl rfl rfl (f50 v es key b5 _ (hl.chg0 c5) hn k5 (hs.mono key)) ?_)
  rintro v11 w11 ⟨i, rfl, hlb, c11⟩
  refine O_go (gn rfl) (St.vl (vl_extract rfl rfl) rfl rfl ?_)
  refine O_go (gn rfl) (St.vl (vl_extract rfl rfl) rfl rfl ?_)
  refine O_go (gn rfl) (St.vl (vl_assign rfl) rfl rfl ?_)
  refine O_go (gn rfl) (St.vl (vl_assign rfl) rfl rfl ?_)
  refine O_end [6, 7] (F' := [(6, _), (7, _)]) rfl ?_
  refine W_ret ?_
  refine ret2 rfl rfl rfl ?_
  have := hlb.eq
  subst this
  exact ⟨rfl, c5.trans c11⟩

theorem f48 (v : Value) (ls : List (List Ent)) (key : ByteArray) (w : World) (hl : IsPages w v ls) (hne : ∀ l ∈ ls, l ≠ []) (hn : ls.length ≤ 4611686018427387903) (hs : SrtF ls) :
    Ret Try.prog 48 #[v, .string key, .func (.func 49) #[] #[]] w fun r w' => ∃ i : Nat, r = .tuple #[.int .i64 i, .bool (hasAt (ls.map firstK) key i)] ∧ IsLb (ls.map firstK) key i ∧ Chg [] w w' := by
  refine Ret.of_W (args := [_, _, _]) Try.func48 rfl rfl rfl rfl ?_

  refine W_seq ?_
  refine W_region ?_
  refine O_go (gn rfl) (st_box rfl rfl rfl ?_)
  intro b5 w5 e5 n5 c5 k5
  refine O_go (gn rfl) (St.vl (vl_assign rfl) rfl rfl ?_)
  refine O_go (gn rfl) (St.vl (vl_assign rfl) rfl rfl ?_)
  refine O_end [0, 1, 5] (F' := [(0, _), (1, _), (5, _)]) rfl ?_
  refine W_seq ?_
  refine W_region ?_
  refine O_go (gn rfl) (St.vl (vl_move rfl) rfl rfl ?_)
  refine O_go (gn rfl) (St.vl (vl_move rfl) rfl rfl ?_)
  refine O_go (gn rfl) (St.vl (vl_func rfl rfl) rfl rfl ?_)
  refine O_go (gn rfl) (st_call bd56 rfl rfl rfl rfl (f56 v ls key b5 _ (hl.chg0 c5) hne hn k5 (hs.mono key)) ?_)
  rintro v11 w11 ⟨i, rfl, hlb, rfl⟩
  refine O_go (gn rfl) (St.vl (vl_extract rfl rfl) rfl rfl ?_)
  refine O_go (gn rfl) (St.vl (vl_extract rfl rfl) rfl rfl ?_)
  refine O_go (gn rfl) (St.vl (vl_assign rfl) rfl rfl ?_)
  refine O_go (gn rfl) (St.vl (vl_assign rfl) rfl rfl ?_)
  refine O_end [6, 7] (F' := [(6, _), (7, _)]) rfl ?_
  refine W_ret ?_
  refine ret2 rfl rfl rfl ?_
  exact ⟨i, rfl, hlb, c5⟩

theorem f39 (v : Value) (ls : List (List Ent)) (key : ByteArray) (w : World) (hl : IsPages w v ls) (hne : ∀ l ∈ ls, l ≠ []) (hn : ls.length ≤ 4611686018427387903) (hs : SrtF ls) :
    Ret Try.prog 39 #[v, .string key] w fun r w' => r = .int .i64 (cntN ls key - 1 : Nat) ∧ Chg [] w w' := by
  refine Ret.of_W (args := [_, _]) Try.func39 rfl rfl rfl rfl ?_

  refine W_seq ?_
  refine W_region ?_
  refine O_go (gn rfl) (St.vl (vl_assign rfl) rfl rfl ?_)
  refine O_end [0, 1] (F' := [(0, _), (1, _)]) rfl ?_
  refine W_seq ?_
  refine W_region ?_
  refine O_go (gn rfl) (St.vl (vl_move rfl) rfl rfl ?_)
  refine O_go (gn rfl) (St.vl (vl_move rfl) rfl rfl ?_)
  refine O_go (gn rfl) (st_call bd48 rfl rfl rfl rfl (f48 v ls key _ hl hne hn hs) ?_)
  rintro v10 w10 ⟨i, rfl, hlb, c10⟩
  refine O_go (gn rfl) (St.vl (vl_move rfl) rfl rfl ?_)
  refine O_go (gn rfl) (St.vl (vl_extract rfl rfl) rfl rfl ?_)
  refine O_go (gn rfl) (St.vl (vl_extract rfl rfl) rfl rfl ?_)
  refine O_go (gn rfl) (St.vl (vl_assign rfl) rfl rfl ?_)
  refine O_go (gn rfl) (St.vl (vl_assign rfl) rfl rfl ?_)
  refine O_end [5, 6] (F' := [(5, _), (6, _)]) rfl ?_
  have hc := cntN_of hs hlb
  have hi : i ≤ ls.length := by simpa using hlb.1
  refine W_seq ?_
  refine W_seq ?_
  refine W_region ?_
  refine O_go (gn rfl) (St.vl (vl_move rfl) rfl rfl ?_)
  refine O_go (gn rfl) (St.vl (vl_not rfl) rfl rfl ?_)
  refine O_end [5, 14] (F' := [(5, _), (14, _)]) rfl ?_
  refine W_cond rfl (fun hT => ?_) (fun hF => ?_)
  · refine W_region ?_
    refine O_go (gn rfl) (St.vl (vl_move rfl) rfl rfl ?_)
    refine O_go (gn rfl) (St.vl (vl_sub rfl rfl (by omega)) rfl rfl ?_)
    refine O_go (gn rfl) (St.vl (vl_assign rfl) rfl rfl ?_)
    refine O_end [5] (F' := [(5, _)]) rfl ?_
    refine W_seq ?_
    refine W_region ?_
    refine O_go (gn rfl) (St.vl (vl_move rfl) rfl rfl ?_)
    refine O_go (gn rfl) (St.vl (vl_max rfl rfl) rfl rfl ?_)
    refine O_go (gn rfl) (St.vl (vl_assign rfl) rfl rfl ?_)
    refine O_end [4] (F' := [(4, _)]) rfl ?_
    refine W_ret ?_
    refine ret1 rfl rfl ?_
    have : hasAt (ls.map firstK) key i = false := by simpa using hT
    rw [this] at hc
    simp at hc
    refine ⟨?_, c10⟩
    rw [hc]
    congr 1
    split <;> omega
  · refine W_skipE ?_
    refine W_seq ?_
    refine W_region ?_
    refine O_go (gn rfl) (St.vl (vl_move rfl) rfl rfl ?_)
    refine O_go (gn rfl) (St.vl (vl_max rfl rfl) rfl rfl ?_)
    refine O_go (gn rfl) (St.vl (vl_assign rfl) rfl rfl ?_)
    refine O_end [4] (F' := [(4, _)]) rfl ?_
    refine W_ret ?_
    refine ret1 rfl rfl ?_
    have : hasAt (ls.map firstK) key i = true := by simpa using hF
    rw [this] at hc
    simp at hc
    refine ⟨?_, c10⟩
    rw [hc]
    congr 1
    split <;> omega

/-- Where a key is: page, place, is it there? -/
def spot (ls : List (List Ent)) (key : ByteArray) : Nat × Nat × Bool :=
  match ls[cntN ls key - 1]? with
  | some l => (cntN ls key - 1, lbN l key, hasK l key)
  | none => (0, 0, false)

theorem cntN_lt {ls : List (List Ent)} {key : ByteArray} (h : ls ≠ []) : cntN ls key - 1 < ls.length := by
  have : cntN ls key ≤ ls.length := (List.takeWhile_prefix _).length_le
  have : 0 < ls.length := List.length_pos_iff.2 h
  omega

theorem f24 (v : Value) (ls : List (List Ent)) (key : ByteArray) (w : World) (hl : IsPages w v ls) (hne : ∀ l ∈ ls, l ≠ []) (hn : ls.length ≤ 4611686018427387903) (hs : SrtF ls) (hsl : ∀ l ∈ ls, Srt l) (hnl : ∀ l ∈ ls, l.length ≤ 4611686018427387903) :
    Ret Try.prog 24 #[v, .string key] w fun r w' => r = .tuple #[.int .i64 ((spot ls key).1 : Nat), .int .i64 ((spot ls key).2.1 : Nat), .bool (spot ls key).2.2] ∧ Chg [] w w' := by
  obtain ⟨vs, hsl', hal⟩ := id hl
  obtain ⟨p, c, rfl, _⟩ := hsl'.val
  refine Ret.of_W (args := [_, _]) Try.func24 rfl rfl rfl rfl ?_

  refine W_seq ?_
  refine W_region ?_
  refine O_go (gn rfl) (St.vl (vl_assign rfl) rfl rfl ?_)
  refine O_go (gn rfl) (St.vl (vl_assign rfl) rfl rfl ?_)
  refine O_go (gn rfl) (St.vl (vl_assign rfl) rfl rfl ?_)
  refine O_end [0, 1] (F' := [(0, _), (1, _)]) rfl ?_
  refine W_seq ?_
  refine W_seq ?_
  refine W_region ?_
  refine O_go (gn rfl) (St.vl (vl_move rfl) rfl rfl ?_)
  refine O_go (gn rfl) (St.vl (vl_len sl65 rfl) rfl rfl ?_)
  refine O_go (gn rfl) (St.vl (vl_ieq rfl rfl) rfl rfl ?_)
  refine O_end [0, 1, 9] (F' := [(0, _), (1, _), (9, _)]) rfl ?_
  refine W_cond rfl (fun hT => ?_) (fun hF => ?_)
  · refine W_seq ?_
    refine W_region ?_
    refine O_go (gn rfl) (St.vl (vl_assign rfl) rfl rfl ?_)
    refine O_go (gn rfl) (St.vl (vl_assign rfl) rfl rfl ?_)
    refine O_go (gn rfl) (St.vl (vl_assign rfl) rfl rfl ?_)
    refine O_end [4, 5, 6] (F' := [(4, _), (5, _), (6, _)]) rfl ?_
    refine W_ret ?_
    refine then_ret ?_
    refine ret3 rfl rfl rfl rfl ?_
    have : ls = [] := List.eq_nil_of_length_eq_zero (by simpa using hT)
    subst this
    exact ⟨rfl, Chg.refl _ _⟩
  · refine W_skipE ?_
    have hls : ls ≠ [] := by rintro rfl; simp at hF
    have hat := cntN_lt (key := key) hls
    have hk : ls[cntN ls key - 1]? = some ls[cntN ls key - 1] := by simp [hat]
    have hmem : ls[cntN ls key - 1] ∈ ls := List.getElem_mem hat
    have hspot : spot ls key = (cntN ls key - 1, lbN ls[cntN ls key - 1] key, hasK ls[cntN ls key - 1] key) := by unfold spot; rw [hk]
    refine W_seq ?_
    refine W_region ?_
    refine O_go (gn rfl) (St.vl (vl_move rfl) rfl rfl ?_)
    refine O_go (gn rfl) (St.vl (vl_move rfl) rfl rfl ?_)
    refine O_go (gn rfl) (st_call bd39 rfl rfl rfl rfl (f39 _ ls key _ hl hne hn hs) ?_)
    rintro v12 w12 ⟨rfl, c12⟩
    refine O_go (gn rfl) (St.vl (vl_assign rfl) rfl rfl ?_)
    refine O_end [0, 1, 4] (F' := [(0, _), (1, _), (4, _)]) rfl ?_
    obtain ⟨bb, off, cap, u, hv, hc, hl'⟩ := (hl.chg0 c12).at hk
    cases hv
    refine W_seq ?_
    refine W_region ?_
    refine O_go (gn rfl) (St.vl (vl_move rfl) rfl rfl ?_)
    refine O_go (gn rfl) (St.vl (vl_move rfl) rfl rfl ?_)
    refine O_go (gn rfl) (St.vl (vl_indexAddr sl65 sz71 rfl rfl _ rfl hat) rfl rfl ?_)
    refine O_go (gn rfl) (St.vl (vl_load ag71 rfl hc) rfl rfl ?_)
    refine O_go (gn rfl) (St.vl (vl_move rfl) rfl rfl ?_)
    refine O_go (gn rfl) (st_call bd40 rfl rfl rfl rfl (f40 u _ key _ hl' (hnl _ hmem) (hsl _ hmem)) ?_)
    rintro v19 w19 ⟨rfl, c19⟩
    refine O_go (gn rfl) (St.vl (vl_move rfl) rfl rfl ?_)
    refine O_go (gn rfl) (St.vl (vl_extract rfl rfl) rfl rfl ?_)
    refine O_go (gn rfl) (St.vl (vl_extract rfl rfl) rfl rfl ?_)
    refine O_go (gn rfl) (St.vl (vl_assign rfl) rfl rfl ?_)
    refine O_go (gn rfl) (St.vl (vl_assign rfl) rfl rfl ?_)
    refine O_end [4, 5, 6] (F' := [(4, _), (5, _), (6, _)]) rfl ?_
    refine W_seq ?_
    refine W_region ?_
    refine O_go (gn rfl) (St.vl (vl_move rfl) rfl rfl ?_)
    refine O_go (gn rfl) (St.vl (vl_move rfl) rfl rfl ?_)
    refine O_go (gn rfl) (St.vl (vl_move rfl) rfl rfl ?_)
    refine O_go (gn rfl) (St.vl (vl_assign rfl) rfl rfl ?_)
    refine O_go (gn rfl) (St.vl (vl_assign rfl) rfl rfl ?_)
    refine O_go (gn rfl) (St.vl (vl_assign rfl) rfl rfl ?_)
    refine O_end [4, 5, 6] (F' := [(4, _), (5, _), (6, _)]) rfl ?_
    refine W_ret ?_
    refine ret3 rfl rfl rfl rfl ?_
    rw [hspot]
    exact ⟨rfl, c12.trans c19⟩
end Go.Wk

