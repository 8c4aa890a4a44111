/-
  The binary searches.
-/
import Derived.Test.YthbahcjkncfpdaaP1
namespace Go.Wk
open Go.Proofs
set_option maxRecDepth 10000

/-- i is the first place whose key isn't below. -/
def IsLb (ks : List ByteArray) (key : ByteArray) (i : Nat) : Prop := i ≤ ks.length ∧ ∀ j k, ks[j]? = some k → (blt k key = true ↔ j < i)
def Mono (ks : List ByteArray) (key : ByteArray) : Prop := ∀ (i j : Nat) (a b : ByteArray), i ≤ j → ks[i]? = some a → ks[j]? = some b → blt b key = true → blt a key = true
def Between (ks : List ByteArray) (key : ByteArray) (lo hi : Nat) : Prop := lo ≤ hi ∧ hi ≤ ks.length ∧ (∀ (j : Nat) (k : ByteArray), j < lo → ks[j]? = some k → blt k key = true) ∧ (∀ (j : Nat) (k : ByteArray), hi ≤ j → ks[j]? = some k → blt k key = false)
def hasAt (ks : List ByteArray) (key : ByteArray) (i : Nat) : Bool := match ks[i]? with | some k => decide (k = key) | none => false

theorem Between.start (ks : List ByteArray) (key : ByteArray) : Between ks key 0 ks.length :=
  ⟨Nat.zero_le _, Nat.le_refl _, fun j k h => by omega, fun j k h hk => by simp [List.getElem?_eq_none h] at hk⟩
theorem Between.low {ks : List ByteArray} {key k : ByteArray} {lo hi h : Nat} (hb : Between ks key lo hi) (hm : Mono ks key) (h1 : lo ≤ h) (h2 : h < hi) (hk : ks[h]? = some k) (hlt : blt k key = true) : Between ks key (h + 1) hi :=
  ⟨by omega, hb.2.1, fun j a hj ha => hm j h a k (by omega) ha hk hlt, hb.2.2.2⟩
theorem Between.high {ks : List ByteArray} {key k : ByteArray} {lo hi h : Nat} (hb : Between ks key lo hi) (hm : Mono ks key) (h1 : lo ≤ h) (h2 : h < hi) (hk : ks[h]? = some k) (hlt : blt k key = false) : Between ks key lo h :=
  ⟨h1, by have := hb.2.1; omega, hb.2.2.1, fun j a hj ha => by
    cases hx : blt a key with
    | false => rfl
    | true => rw [hm h j k a hj hk ha hx] at hlt; cases hlt⟩
theorem Between.done {ks : List ByteArray} {key : ByteArray} {lo hi : Nat} (hb : Between ks key lo hi) (he : hi ≤ lo) : IsLb ks key lo := by
  have : lo = hi := by have := hb.1; omega
  subst this
  refine ⟨hb.2.1, fun j k hk => ⟨fun h => ?_, fun h => hb.2.2.1 j k h hk⟩⟩
  rcases Nat.lt_or_ge j lo with h' | h'
  · exact h'
  · rw [hb.2.2.2 j k h' hk] at h; cases h
theorem half_lt {lo hi : Nat} (h : lo < hi) : lo ≤ (lo + hi) / 2 ∧ (lo + hi) / 2 < hi := by omega

theorem f50 (v : Value) (es : List Ent) (key : ByteArray) (b : Nat) (w : World) (hl : IsList w v es) (hn : es.length ≤ 4611686018427387903) (hb : Blk w b 90 [.func (.func 41) #[] #[]]) (hm : Mono (es.map (·.1)) key) :
    Ret Try.prog 50 #[v, .string key, .func (.func 51) #[] #[.pointer (some ⟨b, 0, none⟩)]] w fun r w' => ∃ i : Nat, r = .tuple #[.int .i64 i, .bool (hasAt (es.map (·.1)) key i)] ∧ IsLb (es.map (·.1)) key i ∧ Chg [] w w' := by
  obtain ⟨p, c, rfl, _⟩ := hl.val
  refine Ret.of_W (args := [_, _, _]) Try.func50 rfl rfl rfl rfl ?_

  refine W_seq ?_
  refine W_region ?_
  refine O_go (gn rfl) (St.vl (vl_assign rfl) rfl rfl ?_)
  refine O_go (gn rfl) (St.vl (vl_assign rfl) rfl rfl ?_)
  refine O_end [0, 1, 2] (F' := [(0, _), (1, _), (2, _)]) rfl ?_
  refine W_seq ?_
  refine W_region ?_
  refine O_go (gn rfl) (St.vl (vl_move rfl) rfl rfl ?_)
  refine O_go (gn rfl) (St.vl (vl_len sl70 rfl) rfl rfl ?_)
  refine O_go (gn rfl) (St.vl (vl_assign rfl) rfl rfl ?_)
  refine O_end [0, 1, 2, 8] (F' := [(0, _), (1, _), (2, _), (8, _)]) rfl ?_
  refine W_seq ?_
  refine W_region ?_
  refine O_go (gn rfl) (St.vl (vl_move rfl) rfl rfl ?_)
  refine O_go (gn rfl) (St.vl (vl_assign rfl) rfl rfl ?_)
  refine O_go (gn rfl) (St.vl (vl_assign rfl) rfl rfl ?_)
  refine O_end [0, 1, 2, 8, 9, 10] (F' := [(0, _), (1, _), (2, _), (8, _), (9, _), (10, _)]) rfl ?_
  refine W_seq ?_
  refine W_block ?_
  refine W_loop [0, 1, 2, 8, 9, 10] (fun m F wx => ∃ lo hi : Nat, m = hi - lo ∧ F = [(0, .slice p es.length c), (1, .string key), (2, .func (.func 51) #[] #[.pointer (some ⟨b, 0, none⟩)]), (8, .int .i64 es.length), (9, .int .i64 lo), (10, .int .i64 hi)] ∧ Between (es.map (·.1)) key lo hi ∧ Chg [] w wx) (m := es.length - 0) ⟨0, es.length, rfl, rfl, by simpa using Between.start (es.map (·.1)) key, Chg.refl _ _⟩ ?_
  rintro m F wx ⟨lo, hi, rfl, rfl, hbt, hcx⟩
  have hle := hbt.2.1
  rw [List.length_map] at hle
  refine W_seq ?_
  refine W_seq ?_
  refine W_region ?_
  refine O_go (gn rfl) (St.vl (vl_move rfl) rfl rfl ?_)
  refine O_go (gn rfl) (St.vl (vl_move rfl) rfl rfl ?_)
  refine O_go (gn rfl) (St.vl (vl_lss rfl rfl) rfl rfl ?_)
  refine O_end [0, 1, 2, 8, 9, 10, 17] (F' := [(0, _), (1, _), (2, _), (8, _), (9, _), (10, _), (17, _)]) rfl ?_
  refine W_cond rfl (fun hT => ?_) (fun hF => ?_)
  · refine W_skipE ?_
    have hlt : lo < hi := by simpa using hT
    have hh := half_lt hlt
    have hk : es[(lo + hi) / 2]? = some es[(lo + hi) / 2] := by simp
    have hlw := hl.chg0 hcx
    obtain ⟨bb, off, cap, hv, hcs⟩ := hlw.at' hk
    cases hv
    refine W_block ?_
    refine W_seq ?_
    refine W_region ?_
    refine O_go (gn rfl) (St.vl (vl_move rfl) rfl rfl ?_)
    refine O_go (gn rfl) (St.vl (vl_move rfl) rfl rfl ?_)
    refine O_go (gn rfl) (St.vl (vl_add rfl rfl (by omega)) rfl rfl ?_)
    refine O_go (gn rfl) (St.vl (vl_convn it107_u64 it3_i64 rfl (show IntKind.u64.wrap ((lo : Int) + (hi : Int)) = ((lo + hi : Nat) : Int) from by rw [IntWalk.u64_in _ ⟨by omega, by omega⟩]; omega)) rfl rfl ?_)
    refine O_go (gn rfl) (St.vl (vl_shrn (by decide) rfl rfl (show ((lo + hi : Nat) : Int).fdiv 2 = (((lo + hi) / 2 : Nat) : Int) from by rw [Int.fdiv_eq_ediv_of_nonneg _ (by omega)]; omega)) rfl rfl ?_)
    refine O_go (gn rfl) (St.vl (vl_convn it3_i64 it107_u64 rfl (show IntKind.i64.wrap (((lo + hi) / 2 : Nat) : Int) = (((lo + hi) / 2 : Nat) : Int) from IntWalk.i64_in _ ⟨by omega, by omega⟩)) rfl rfl ?_)
    refine O_go (gn rfl) (St.vl (vl_assign rfl) rfl rfl ?_)
    refine O_end [0, 1, 2, 8, 9, 10, 11] (F' := [(0, _), (1, _), (2, _), (8, _), (9, _), (10, _), (11, _)]) rfl ?_
    refine W_seq ?_
    refine W_region ?_
    refine O_go (gn rfl) (St.vl (vl_move rfl) rfl rfl ?_)
    refine O_go (gn rfl) (St.vl (vl_move rfl) rfl rfl ?_)
    refine O_go (gn rfl) (St.vl (vl_move rfl) rfl rfl ?_)
    refine O_go (gn rfl) (St.vl (vl_indexAddr sl70 sz69 rfl rfl _ rfl (by omega)) rfl rfl ?_)
    refine O_go (gn rfl) (St.vl (vl_loadAgg ag69 sz69 rfl rfl hcs) rfl rfl ?_)
    refine O_go (gn rfl) (St.vl (vl_move rfl) rfl rfl ?_)
    refine O_go (gn rfl) (st_call bd51 rfl rfl rfl rfl (f51 _ _ key b _ (hb.chg0 hcx)) ?_)
    rintro v30 w30 ⟨rfl, c30⟩
    refine O_go (gn rfl) (St.vl (vl_lss rfl rfl) rfl rfl ?_)
    refine O_end [0, 1, 2, 8, 9, 10, 11, 31] (F' := [(0, _), (1, _), (2, _), (8, _), (9, _), (10, _), (11, _), (31, _)]) rfl ?_
    have hkm : (es.map (·.1))[(lo + hi) / 2]? = some es[(lo + hi) / 2].1 := by rw [List.getElem?_map, hk]; rfl
    refine W_cond rfl (fun hT => ?_) (fun hF => ?_)
    · have hlt2 := (scmp_lt _ _).1 (of_decide_eq_true hT)
      refine W_region ?_
      refine O_go (gn rfl) (St.vl (vl_move rfl) rfl rfl ?_)
      refine O_go (gn rfl) (St.vl (vl_add rfl rfl (by omega)) rfl rfl ?_)
      refine O_go (gn rfl) (St.vl (vl_assign rfl) rfl rfl ?_)
      refine O_endN [0, 1, 2, 8, 9, 10] (F' := [(0, _), (1, _), (2, _), (8, _), (9, _), (10, _)]) rfl ?_
      refine ⟨hi - ((lo + hi) / 2 + 1), by omega, (lo + hi) / 2 + 1, hi, rfl, rfl, hbt.low hm hh.1 hh.2 hkm hlt2, hcx.trans c30⟩
    · have hlt2 : blt es[(lo + hi) / 2].1 key = false := by
        cases hx : blt es[(lo + hi) / 2].1 key with
        | false => rfl
        | true => have := (scmp_lt _ _).2 hx; simp at hF; omega
      refine W_region ?_
      refine O_go (gn rfl) (St.vl (vl_move rfl) rfl rfl ?_)
      refine O_go (gn rfl) (St.vl (vl_assign rfl) rfl rfl ?_)
      refine O_endN [0, 1, 2, 8, 9, 10] (F' := [(0, _), (1, _), (2, _), (8, _), (9, _), (10, _)]) rfl ?_
      refine ⟨(lo + hi) / 2 - lo, by omega, lo, (lo + hi) / 2, rfl, rfl, hbt.high hm hh.1 hh.2 hkm hlt2, hcx.trans c30⟩
  · refine W_exit ?_
    repeat (first | refine then_exit ?_ | refine blockF_other rfl ?_)
    refine blockF_exit _ ?_
    have hge : hi ≤ lo := by simpa using hF
    have hlb := hbt.done hge
    refine W_seq ?_
    by_cases hlt : lo < es.length
    · have hk : es[lo]? = some es[lo] := by simp
      have hlw := hl.chg0 hcx
      obtain ⟨bb, off, cap, hv, hcs⟩ := hlw.at' hk
      cases hv
      have hhas : hasAt (es.map (·.1)) key lo = decide (scmp es[lo].1 key = 0) := by
        simp only [hasAt, List.getElem?_map, hk, Option.map_some]
        exact decide_eq_decide.2 (scmp_eq _ _).symm
      refine W_region ?_
      refine O_go (gn rfl) (St.vl (vl_move rfl) rfl rfl ?_)
      refine O_go (gn rfl) (St.vl (vl_move rfl) rfl rfl ?_)
      refine O_go (gn rfl) (St.vl (vl_move rfl) rfl rfl ?_)
      refine O_go (gn rfl) (St.vl (vl_is (b' := true) (vl_lss rfl rfl) (by simpa using hlt)) rfl rfl ?_)
      refine O_go (gn rfl) (St.vl (vl_move rfl) rfl rfl ?_)
      refine O_go (gy rfl rfl rfl) (St.vl (vl_move rfl) rfl rfl ?_)
      refine O_go (gy rfl rfl rfl) (St.vl (vl_move rfl) rfl rfl ?_)
      refine O_go (gy rfl rfl rfl) (St.vl (vl_move rfl) rfl rfl ?_)
      refine O_go (gy rfl rfl rfl) (St.vl (vl_indexAddr sl70 sz69 rfl rfl _ rfl hlt) rfl rfl ?_)
      refine O_go (gy rfl rfl rfl) (St.vl (vl_loadAgg ag69 sz69 rfl rfl hcs) rfl rfl ?_)
      refine O_go (gy rfl rfl rfl) (St.vl (vl_move rfl) rfl rfl ?_)
      refine O_go (gy rfl rfl rfl) (st_call bd51 rfl rfl rfl rfl (f51 _ _ key b _ (hb.chg0 hcx)) ?_)
      rintro v46 w46 ⟨rfl, c46⟩
      refine O_go (gy rfl rfl rfl) (St.vl (vl_is (vl_ieq rfl rfl) hhas.symm) rfl rfl ?_)
      refine O_go (gn rfl) (St.vl (vl_pick_t rfl rfl) rfl rfl ?_)
      refine O_go (gn rfl) (St.vl (vl_assign rfl) rfl rfl ?_)
      refine O_go (gn rfl) (St.vl (vl_assign rfl) rfl rfl ?_)
      refine O_end [6, 7] (F' := [(6, _), (7, _)]) rfl ?_
      refine W_ret ?_
      refine ret2 rfl rfl rfl ?_
      exact ⟨lo, rfl, hlb, hcx.trans c46⟩
    · have hhas : hasAt (es.map (·.1)) key lo = false := by
        simp only [hasAt, List.getElem?_map, List.getElem?_eq_none (Nat.not_lt.1 hlt), Option.map_none]
      refine W_region ?_
      refine O_go (gn rfl) (St.vl (vl_move rfl) rfl rfl ?_)
      refine O_go (gn rfl) (St.vl (vl_move rfl) rfl rfl ?_)
      refine O_go (gn rfl) (St.vl (vl_move rfl) rfl rfl ?_)
      refine O_go (gn rfl) (St.vl (vl_is (b' := false) (vl_lss rfl rfl) (by simpa using hlt)) rfl rfl ?_)
      refine O_go (gn rfl) (St.vl (vl_move rfl) rfl rfl ?_)
      iterate 8 refine O_guard_no rfl rfl rfl rfl rfl rfl ?_
      refine O_go (gn rfl) (St.vl (vl_pick_f rfl rfl) rfl rfl ?_)
      refine O_go (gn rfl) (St.vl (vl_assign rfl) rfl rfl ?_)
      refine O_go (gn rfl) (St.vl (vl_assign rfl) rfl rfl ?_)
      refine O_end [6, 7] (F' := [(6, _), (7, _)]) rfl ?_
      refine W_ret ?_
      refine ret2 rfl rfl rfl ?_
      exact ⟨lo, by rw [hhas], hlb, hcx⟩
end Go.Wk

