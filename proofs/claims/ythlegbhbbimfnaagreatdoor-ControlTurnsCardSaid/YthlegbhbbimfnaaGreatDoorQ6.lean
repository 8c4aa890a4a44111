/- joined texts -/
import Derived.Test.YthlegbhbbimfnaaGreatDoorQ5
import Derived.Sort.KeysCollected
import Derived.Sort.OwnSorted
set_option linter.all false
namespace Go.Wk
open Go.Proofs
set_option maxRecDepth 10000
def zcR (j : Nat) (b : UInt8) : Bool := zbc b || (!decide (j = 0) && zc7 b)
theorem zij {l : List UInt8} : (match l with | [] => false | b :: r => zbc b && decide (r.length ≤ 23) && r.all fun c => zbc c || zc7 c) = (decide (1 ≤ l.length) && decide (l.length ≤ 24) && (List.range l.length).all fun j => zcR j ((l[j]?).getD 0)) := by
 cases l with
 | nil => rfl
 | cons b r =>
  have e : (List.range (b :: r).length).all (fun j => zcR j (((b :: r)[j]?).getD 0)) = (zbc b && r.all fun c => zbc c || zc7 c) := by
   rw [List.length_cons, List.range_succ_eq_map, List.all_cons, List.all_map]
   have e0 : zcR 0 (((b :: r)[0]?).getD 0) = zbc b := by simp [zcR]
   rw [e0]
   congr 1
   rw [Bool.eq_iff_iff]
   simp only [List.all_eq_true, List.mem_range, Function.comp]
   constructor
   ·intro h c hc
    obtain ⟨i, hi, rfl⟩ := List.mem_iff_getElem.1 hc
    have := h i hi
    simpa [zcR, hi] using this
   intro h i hi
   have := h r[i] (List.getElem_mem hi)
   simpa [zcR, hi] using this
  rw [e]
  have e2 : decide (1 ≤ (b :: r).length) = true := decide_eq_true (by simp)
  have e3 : decide ((b :: r).length ≤ 24) = decide (r.length ≤ 23) := by rw [Bool.eq_iff_iff]; simp
  rw [e2, e3]
  show (zbc b && decide (r.length ≤ 23) && r.all fun c => zbc c || zc7 c) = _
  generalize (r.all fun c => zbc c || zc7 c) = A
  generalize decide (r.length ≤ 23) = B
  generalize zbc b = C
  cases A <;> cases B <;> cases C <;> rfl
theorem zfq (s : ByteArray) : ym s = (decide (1 ≤ s.size) && decide (s.size ≤ 24) && (List.range s.size).all fun j => zcR j ((s.data.toList[j]?).getD 0)) := by
 have h := zij (l := s.data.toList)
 have e : s.data.toList.length = s.size := by simp
 rw [e] at h
 exact h
theorem zkC (s : ByteArray) (w : World) (hs : s.size ≤ 1048576) : zO TP 22 #[.string s] w fun r w' => r = .bool (ym s) ∧ w' = w := by
 refine A1 Tryz.func22 rfl rfl ?_
 refine Sr (Oa rfl (E1 0 rfl ?_))
 have hsz : s.data.toList.length = s.size := by simp
 refine z5 (fun F wx => (∃ f3 f8, F = [(0, .string s), (3, f3), (8, f8)]) ∧ wx = w ∧ (List.range s.size).all (fun j => zcR j ((s.data.toList[j]?).getD 0)) = true) ?_ ?_
 ·refine Sr (Oa rfl (E2 0 3 rfl (zn ?_)))
  refine ye [0, 3] (fun m F wx => ∃ j : Nat, m = s.size - j ∧ j ≤ s.size ∧ F = [(0, .string s), (3, Ii j)] ∧ wx = w ∧ ∀ i, i < j → zcR i ((s.data.toList[i]?).getD 0) = true) (m := s.size - 0) ⟨0, rfl, Nat.zero_le _, rfl, rfl, by omega⟩ ?_
  rintro m F wx ⟨j, rfl, hj, rfl, rfl, hall⟩
  refine zh (zh ?_)
  by_cases hlt : j < s.size
  ·refine zd (Om rfl (Om rfl ?_))
   refine Og (zT st9 rfl) rfl ?_
   refine Og (vt (zE rfl rfl) (by simp; omega)) rfl ?_
   refine E3 0 3 8 rfl (zg rfl (zq ?_))
   have hb : s.data.toList[j]? = some (s.data.toList[j]'(by omega)) := by simp
   generalize s.data.toList[j]'(by omega) = b at hb
   have hb' : s.data[j]? = some b := by rw [← Array.getElem?_toList]; exact hb
   refine zh (zn (Sr (Om rfl (Om rfl ?_))))
   refine Og (zap st9 rfl rfl _ rfl hb') rfl ?_
   refine Og (yw rfl rfl) rfl ?_
   refine Om rfl ?_
   apply zb1 (t := 20)
   case h0 =>
    intro H
    refine Oz rfl rfl (Oz rfl rfl (Oz rfl rfl (Oz rfl rfl (Of rfl ?_))))
    exact yK [16, 17, 18, 19] rfl H
   case h1 =>
    intro hc H
    refine Oj rfl rfl (Oj rfl rfl ?_)
    refine Oy rfl rfl (zap st9 rfl rfl _ rfl hb') ?_
    refine Oy rfl rfl (z0 rfl rfl) ?_
    refine Ot rfl ?_
    exact yK [16, 17, 18, 19] rfl H
   refine Oa rfl (E3 0 3 4 rfl (Sr (Om rfl (Og (zL rfl) rfl (Om rfl ?_)))))
   apply zb1 (t := 44)
   case h0 =>
    intro H
    refine Oz rfl rfl (Oz rfl rfl (Oz rfl rfl ?_))
    refine zt rfl rfl rfl rfl rfl ?_
    refine zt rfl rfl rfl rfl rfl ?_
    refine zt rfl rfl rfl rfl rfl ?_
    refine zt rfl rfl rfl rfl rfl ?_
    refine zt rfl rfl rfl rfl rfl ?_
    refine zt rfl rfl rfl rfl rfl ?_
    refine zt rfl rfl rfl rfl rfl ?_
    refine zt rfl rfl rfl rfl rfl ?_
    refine zt rfl rfl rfl rfl rfl ?_
    refine zt rfl rfl rfl rfl rfl ?_
    refine zt rfl rfl rfl rfl rfl ?_
    refine zt rfl rfl rfl rfl rfl ?_
    refine zt rfl rfl rfl rfl rfl ?_
    refine zt rfl rfl rfl rfl rfl ?_
    refine zt rfl rfl rfl rfl rfl ?_
    refine zt rfl rfl rfl rfl rfl ?_
    refine Oz rfl rfl (Of rfl ?_)
    exact yK [24, 25, 26, 27, 28, 29, 30, 31, 32, 33, 34, 35, 36, 37, 38, 39, 40, 41, 42, 43] rfl H
   case h1 =>
    intro hc H
    refine Oj rfl rfl ?_
    refine Oy rfl rfl (zw rfl rfl) ?_
    refine Oj rfl rfl ?_
    apply zef (t := 43)
    case h0 =>
     intro H
     refine Oz rfl rfl (Oz rfl rfl (Oz rfl rfl (Oz rfl rfl (Oz rfl rfl ?_))))
     refine zt rfl rfl rfl rfl rfl ?_
     refine zt rfl rfl rfl rfl rfl ?_
     refine zt rfl rfl rfl rfl rfl ?_
     refine zt rfl rfl rfl rfl rfl ?_
     refine zt rfl rfl rfl rfl rfl ?_
     refine zt rfl rfl rfl rfl rfl ?_
     refine zt rfl rfl rfl rfl rfl ?_
     refine zt rfl rfl rfl rfl rfl ?_
     refine zt rfl rfl rfl rfl rfl ?_
     refine zt rfl rfl rfl rfl rfl ?_
     refine Oz rfl rfl ?_
     refine Oy rfl rfl (zy rfl rfl) ?_
     exact yK [27, 28, 29, 30, 31, 32, 33, 34, 35, 36, 37, 38, 39, 40, 41, 42] rfl H
    case h1 =>
     intro hc H
     refine Oj rfl rfl (Oj rfl rfl ?_)
     refine Oy rfl rfl (zap st9 rfl rfl _ rfl hb') ?_
     refine Oy rfl rfl (zG rfl rfl) ?_
     refine Oj rfl rfl ?_
     apply zb1 (t := 42)
     case h0 =>
      intro H
      refine Oz rfl rfl (Oz rfl rfl (Oz rfl rfl (Oz rfl rfl (Oz rfl rfl ?_))))
      refine zt rfl rfl rfl rfl rfl ?_
      refine zt rfl rfl rfl rfl rfl ?_
      refine zt rfl rfl rfl rfl rfl ?_
      refine zt rfl rfl rfl rfl rfl ?_
      refine Oz rfl rfl ?_
      refine Oy rfl rfl (zz rfl rfl) ?_
      exact yK [32, 33, 34, 35, 36, 37, 38, 39, 40, 41] rfl H
     case h1 =>
      intro hc H
      refine Oj rfl rfl (Oj rfl rfl ?_)
      refine Oy rfl rfl (zap st9 rfl rfl _ rfl hb') ?_
      refine Oy rfl rfl (zE rfl rfl) ?_
      refine Oj rfl rfl ?_
      apply zef (t := 41)
      case h0 =>
       intro H
       refine Oz rfl rfl (Oz rfl rfl (Oz rfl rfl (Oz rfl rfl ?_)))
       refine Oy rfl rfl (zy rfl rfl) ?_
       exact yK [37, 38, 39, 40] rfl H
      case h1 =>
       intro hc H
       refine Oj rfl rfl (Oj rfl rfl ?_)
       refine Oy rfl rfl (zap st9 rfl rfl _ rfl hb') ?_
       refine Oy rfl rfl (z1 rfl rfl) ?_
       refine Oy rfl rfl (zz rfl rfl) ?_
       exact yK [37, 38, 39, 40] rfl H
      refine Oy rfl rfl (zy rfl rfl) ?_
      exact yK [32, 33, 34, 35, 36, 37, 38, 39, 40, 41] rfl H
     refine Oy rfl rfl (zz rfl rfl) ?_
     exact yK [27, 28, 29, 30, 31, 32, 33, 34, 35, 36, 37, 38, 39, 40, 41, 42] rfl H
    refine Ot rfl ?_
    exact yK [24, 25, 26, 27, 28, 29, 30, 31, 32, 33, 34, 35, 36, 37, 38, 39, 40, 41, 42, 43] rfl H
   refine E3 0 3 44 rfl ?_
   refine yh rfl (fun hT => ?_) (fun hF => ?_)
   ·refine Sr (Oa rfl (E1 2 rfl (zj ?_)))
    repeat first | refine tr ?_ | refine br ?_
    refine zx rfl rfl ?_
    refine ⟨?_, rfl⟩
    have : zcR j b = false := by
     simp only [zcR, zbc, zc7, Bool.and_eq_true, Bool.or_eq_true, Bool.not_eq_true', Bool.and_eq_false_iff, Bool.or_eq_false_iff, Bool.not_eq_false', decide_eq_true_eq, decide_eq_false_iff_not] at hT ⊢
     omega
    rw [zfq]
    have h2 : (List.range s.size).all (fun j => zcR j ((s.data.toList[j]?).getD 0)) = false := by
     rw [List.all_eq_false]
     exact ⟨j, List.mem_range.2 hlt, by simp [hb, this]⟩
    rw [h2]; simp
   refine yd (zk (zd (Om rfl ?_)))
   refine Og (zR rfl rfl (by omega)) rfl ?_
   refine Oa rfl ?_
   refine zdc [0, 3] (F' := [(0, _), (3, _)]) rfl ?_
   refine ⟨s.size - (j + 1), by omega, j + 1, rfl, by omega, rfl, rfl, fun i hi => ?_⟩
   rcases Nat.lt_or_ge i j with h | h
   ·exact hall i h
   have : i = j := by omega
   subst this
   rw [hb]
   show zcR i b = true
   simp only [zcR, zbc, zc7, Bool.and_eq_true, Bool.or_eq_true, Bool.not_eq_true', Bool.and_eq_false_iff, Bool.or_eq_false_iff, Bool.not_eq_false', decide_eq_true_eq, decide_eq_false_iff_not] at hF ⊢
   omega
  refine zd (Om rfl (Om rfl ?_))
  refine Og (zT st9 rfl) rfl ?_
  refine Og (vf (zE rfl rfl) (by simp; omega)) rfl ?_
  refine E3 0 3 8 rfl (zf rfl ?_)
  refine zP ?_
  repeat first | refine te ?_ | refine bo rfl ?_
  refine zp _ ?_
  have : j = s.size := by omega
  subst this
  refine ⟨⟨_, _, rfl⟩, rfl, ?_⟩
  rw [List.all_eq_true]
  exact fun i hi => hall i (List.mem_range.1 hi)
 rintro F wx ⟨⟨f3, f8, rfl⟩, rfl, hall⟩
 refine Sr (Om rfl ?_)
 refine Og (zT st9 rfl) rfl ?_
 refine Og (yw rfl rfl) rfl ?_
 refine Om rfl ?_
 apply zb1 (t := 52)
 case h0 =>
  intro H
  refine Oz rfl rfl (Oz rfl rfl (Oz rfl rfl (Of rfl ?_)))
  exact yK [49, 50, 51] rfl H
 case h1 =>
  intro hc H
  refine Oj rfl rfl ?_
  refine Oy rfl rfl (zT st9 rfl) ?_
  refine Oy rfl rfl (z0 rfl rfl) ?_
  refine Ot rfl ?_
  exact yK [49, 50, 51] rfl H
 refine Oa rfl (E1 2 rfl (zj ?_))
 refine zx rfl rfl ?_
 refine ⟨?_, rfl⟩
 rw [zfq, hall, Bool.and_true]
 congr 2 <;> rw [Bool.eq_iff_iff] <;> simp <;> omega
section
variable {P : Program} {n : Nat} {F : Fr} {w : World} {dst : Option Nat} {ty : TypeId} {pos : String} {af : Array Edge} {gd : Option (Nat × Bool)}
theorem zjj {x y : Operand} {t u : TypeId} {i : Nat} (j : Nat) (hx : ev F x = some (.int .u64 i)) (hy : ev F y = some (.int .u64 j)) (hi : i < 18446744073709551616) (hj : 1 ≤ j) : Vl P n F ⟨dst, .binOp .quo t x y u, ty, pos, af, gd⟩ w (.int .u64 ((i / j : Nat) : Int)) w := by
 intro a ha
 have h0 : (j : Int) ≠ 0 := by omega
 have h1 : (i : Int).tdiv j = ((i / j : Nat) : Int) := by rw [Int.tdiv_eq_ediv_of_nonneg (by omega)]; simp
 have h3 : i / j ≤ i := Nat.div_le_self _ _
 have h4 : IntKind.u64.wrap ((i : Int).tdiv j) = ((i / j : Nat) : Int) := by
  rw [h1]
  generalize i / j = q at h3
  exact IntWalk.u64_in _ ⟨by omega, by omega⟩
 simp only [execOp, ha.eval hx, ha.eval hy, eqGuard, binOp, Op.intDiv, if_neg h0, h4]
 rfl
theorem zjr {x y : Operand} {t u : TypeId} {i : Nat} (j : Nat) (hx : ev F x = some (.int .u64 i)) (hy : ev F y = some (.int .u64 j)) (hi : i < 18446744073709551616) (hj : 1 ≤ j) : Vl P n F ⟨dst, .binOp .rem t x y u, ty, pos, af, gd⟩ w (.int .u64 ((i % j : Nat) : Int)) w := by
 intro a ha
 have h0 : (j : Int) ≠ 0 := by omega
 have h1 : (i : Int).tmod j = ((i % j : Nat) : Int) := by rw [Int.tmod_eq_emod_of_nonneg (by omega)]; simp
 simp only [execOp, ha.eval hx, ha.eval hy, eqGuard, binOp, Op.intDiv, if_neg h0, h1]
 rfl
end
theorem zhH {n : Nat} (hn : n < 18446744073709551616) (h0 : 0 < n) : z7 n = z7 (n / 256) + 1 := by
 have hd : n / 256 < 18446744073709551616 := Nat.lt_of_le_of_lt (Nat.div_le_self _ _) hn
 have key : ∀ k, z7 n ≤ k + 1 ↔ z7 (n / 256) ≤ k := fun k => by
  rw [zaX hn, zaX hd, Nat.pow_succ, Nat.div_lt_iff_lt_mul (by omega)]
 have h1 : 1 ≤ z7 n := by
  rcases Nat.eq_zero_or_pos (z7 n) with h | h
  ·have := (zaX hn (k := 0)).1 (by omega)
   simp at this; omega
  exact h
 have a := (key (z7 (n / 256))).2 (Nat.le_refl _)
 have b := (key (z7 n - 1)).1 (by omega)
 omega
theorem zgN (n : Nat) : ∀ k, be n (k + 1) = be (n / 256) k ++ [UInt8.ofNat (n % 256)]
 | 0 => by simp [be]
 | k + 1 => by
  rw [be, zgN n k, be, List.cons_append, Nat.div_div_eq_div_mul, Nat.pow_succ, Nat.mul_comm]
theorem zll : ∀ (n : Nat) (w : World), n < 18446744073709551616 → zO TP 94 #[.int .u64 n] w fun r w' => zB w' 5 1 r (be n (z7 n)).length (bv (be n (z7 n))) ∧ (∀ b ∈ zC r, w.heap.size ≤ b) ∧ zm [] w w' := by
 intro n
 induction n using Nat.strongRecOn with
 | ind n ih =>
 intro w hn
 refine A1 Tryz.func94 rfl rfl ?_
 refine Sr (Oa rfl (E1 0 rfl (zh (zh ?_))))
 by_cases h0 : n = 0
 ·subst h0
  refine zd (Om rfl ?_)
  refine Og (vt (zw rfl rfl) (decide_eq_true (by omega))) rfl ?_
  refine E2 0 4 rfl (zg rfl (Sr (Oa rfl (E1 2 rfl (zj ?_)))))
  repeat first | refine tr ?_ | refine br ?_
  refine zx rfl rfl ?_
  exact ⟨zB.nil _ _ _, by simp [zC], zm.refl _ _⟩
 refine zd (Om rfl ?_)
 refine Og (vf (zw rfl rfl) (by simp; omega)) rfl ?_
 refine E2 0 4 rfl (zf rfl (zq ?_))
 have hst := zhH hn (by omega)
 have h8 := zdR n
 have hbl := zeK (n / 256) (z7 (n / 256))
 refine Sr (Om rfl ?_)
 refine Og (zjj 256 rfl rfl hn (by omega)) rfl ?_
 refine Oc zlQ rfl rfl rfl (ih (n / 256) (by omega) _ (by omega)) ?_
 rintro v7 w7 ⟨i7, f7, c7⟩
 refine Om rfl ?_
 refine Og (zjr 256 rfl rfl hn (by omega)) rfl ?_
 refine Og (zad zaO zb5 rfl (show IntKind.u8.wrap ((n % 256 : Nat) : Int) = (((UInt8.ofNat (n % 256)).toNat : Nat) : Int) by rw [zeR]; simp)) rfl ?_
 refine zA (gn rfl) (zv zf2 rfl (vs := [_]) rfl (css := [_]) ⟨rfl, trivial⟩ rfl rfl (cs := [_]) rfl rfl ?_)
 intro b11 w11 e11 n11 c11 k11
 refine zA (gn rfl) (yc zf2 zd8 rfl rfl (zB.chg0 i7 c11) (zB.of_blk (n := 1) (c := bv [UInt8.ofNat (n % 256)]) k11 rfl (by simp [maxLen]) (zk3 _)) (by simp only [maxLen]; omega) (by omega) rfl ?_)
 intro v12 w12 i12 c12 o12 z12
 refine Oa rfl (E1 2 rfl (zj ?_))
 refine zx rfl rfl ?_
 have hs7 := c7.size
 refine ⟨?_, zio o12 f7 (by have := c11.size; omega), ((c7.trans c11).own c12 f7)⟩
 have e : be n (z7 n) = be (n / 256) (z7 (n / 256)) ++ [UInt8.ofNat (n % 256)] := by rw [hst, zgN]
 rw [e, List.length_append, zdd]
 exact i12
open Go.WideElems (Fit rg)
variable {H : Type}
theorem zgZ {P : Program} {kt : TypeId} {w : World} {b : Nat} {es : List (ByteArray × Value)} (hk : P.underlying kt = some .string) (h : zZ zbp w b es) (hnd : (es.map (·.1)).Nodup) (hn : es.length ≤ maxLen) (hz : ∀ p ∈ es, p.1.size ≤ maxLen) :
 ∃ D0 : DataW H, w.ownsMap P kt (fun _ => some (.nil, [])) b es.length D0 ∧ (strKeys D0).Perm (es.map (·.1.data.toList)) ∧ Maps.size D0 = es.length := by
 obtain ⟨a, clock, hb, ha, hst⟩ := h
 have hlen : a.size = es.length := by
  have := congrArg List.length ha
  simpa using this
 have hat : ∀ x ∈ a.toList, ∃ p ∈ es, x.key = .string p.1 ∧ x.val = p.2 := fun x hx => by
  have h1 : rd x ∈ a.toList.map rd := List.mem_map.2 ⟨x, hx, rfl⟩
  rw [ha] at h1
  obtain ⟨p, hp, e⟩ := List.mem_map.1 h1
  have e1 := congrArg Prod.fst e
  have e2 := congrArg Prod.snd e
  exact ⟨p, hp, e1.symm, e2.symm⟩
 have hrd : ∀ x ∈ a.toList, ∀ p ∈ es, x.key = .string p.1 → WideElems.rd P kt (fun _ => some (DataW.nil, ([] : List MemPlace))) x = some ((Lit.string p.1.data.toList, (DataW.nil : DataW H))) := fun x hx p hp e => by
  unfold WideElems.rd
  rw [e, WideMaps.keyOf_string_mk hk (hz p hp)]
  rfl
 refine ⟨_, ⟨a, clock, hb, ⟨by omega, ⟨hst.2, hst.1, ?_⟩, fun x hx => ?_⟩, by omega, rfl⟩, ?_, ?_⟩
 ·have e : a.toList.map (·.key) = es.map fun p => Value.string p.1 := by
   have := congrArg (List.map Prod.fst) ha
   simpa [rd, krd, zbp, Function.comp_def] using this
  rw [e]
  have : (es.map fun p => Value.string p.1) = (es.map (·.1)).map Value.string := by simp
  rw [this]
  exact hnd.map Value.string (fun x y hxy he => hxy (by injection he))
 ·obtain ⟨p, hp, e, _⟩ := hat x hx
  exact ⟨_, hrd x hx p hp e⟩
 ·show (List.map (fun p : Lit × DataW H => strOf p.1) _).Perm _
  refine ((WideShapes.sorted_perm _).map _).trans ?_
  rw [List.map_map]
  have e : a.toList.map ((fun p : Lit × DataW H => strOf p.1) ∘ rg P kt (fun _ => some (DataW.nil, ([] : List MemPlace)))) = es.map (·.1.data.toList) := by
   have h1 : a.toList.map ((fun p : Lit × DataW H => strOf p.1) ∘ rg P kt (fun _ => some (DataW.nil, ([] : List MemPlace)))) = (a.toList.map rd).map fun q => match q.1 with | .string s => s.data.toList | _ => [] := by
    rw [List.map_map]
    refine List.map_congr_left fun x hx => ?_
    obtain ⟨p, hp, e, _⟩ := hat x hx
    simp only [Function.comp_apply, WideElems.rg_of (hrd x hx p hp e)]
    show strOf (Lit.string _) = match x.key with | .string s => s.data.toList | _ => []
    rw [e]
    rfl
   rw [h1, ha, List.map_map]
   rfl
  rw [e]
 show (List.foldr DataW.insert [] _).length = _
 rw [length_sorted]
 simp [hlen]
theorem zel {w' : World} {base kt : Nat} {v : Value} {ss : List (List UInt8)} {es : List (ByteArray × Value)} (hp : ss.Perm (es.map (·.1.data.toList))) (hnd : (es.map (·.1)).Nodup)
 (hrow : w'.ownsRow base kt 1 v ss.length ((ss.mergeSort (fun x y => decide (x ≤ y))).map Go.Proofs.encStr)) :
 ∃ ks : List ByteArray, Rd w' 1 v ks.length (ks.map Value.string) ∧ ks.Perm (es.map (·.1)) ∧ ks.Pairwise (fun a b => blt a b = true) ∧ ∀ b ∈ zC v, base ≤ b := by
 have hb : ∀ x : ByteArray, (⟨x.data.toList.toArray⟩ : ByteArray) = x := fun x => by simp
 have hpk : ((ss.mergeSort (fun x y => decide (x ≤ y))).map fun l => (⟨l.toArray⟩ : ByteArray)).Perm (es.map (·.1)) := by
  refine (((List.mergeSort_perm ss _).trans hp).map _).trans ?_
  rw [List.map_map]
  refine List.Perm.of_eq (List.map_congr_left fun p _ => ?_)
  exact hb p.1
 refine ⟨(ss.mergeSort (fun x y => decide (x ≤ y))).map fun l => ⟨l.toArray⟩, ?_, hpk, ?_, ?_⟩
 ·have hl : ((ss.mergeSort (fun x y => decide (x ≤ y))).map fun l => (⟨l.toArray⟩ : ByteArray)).length = ss.length := by simp
  have hm : (((ss.mergeSort (fun x y => decide (x ≤ y))).map fun l => (⟨l.toArray⟩ : ByteArray)).map Value.string) = (ss.mergeSort (fun x y => decide (x ≤ y))).map Go.Proofs.encStr := by
   rw [List.map_map]; rfl
  rw [hl, hm]
  obtain ⟨h1, h2⟩ := hrow
  have ho : ∀ u ∈ (ss.mergeSort (fun x y => decide (x ≤ y))).map Go.Proofs.encStr, u.oneCell' = true := by
   intro u hu
   obtain ⟨x, _, rfl⟩ := List.mem_map.1 hu
   rfl
  rcases h2 with ⟨rfl, h0⟩ | ⟨g, cap, cur, rfl, _, hc, hn, hm2, hs, ht⟩
  ·exact ⟨none, 0, by rw [h0], by omega, by simp [maxLen], by simpa using h1, ho, fun hp => by omega⟩
  refine ⟨_, cap, rfl, hn, hm2, h1, ho, fun _ => ⟨g, 0, rfl, ?_⟩⟩
  intro i u hi
  rw [← ht] at hi
  have hi' : cur.toList[i]? = some u := by
   rw [List.getElem?_take] at hi
   split at hi
   ·exact hi
   cases hi
  rw [Nat.zero_add]
  simpa [World.cell?, hc] using hi'
 ·have h1 := List.pairwise_mergeSort (le := fun x y : List UInt8 => decide (x ≤ y)) (fun a b c hab hbc => decide_eq_true (List.le_trans (of_decide_eq_true hab) (of_decide_eq_true hbc))) (fun a b => by
   rcases List.le_total a b with h | h
   ·simp [h]
   simp [h]) ss
  have hnk : ((ss.mergeSort (fun x y => decide (x ≤ y))).map fun l => (⟨l.toArray⟩ : ByteArray)).Nodup := hpk.nodup_iff.2 hnd
  rw [List.pairwise_map]
  rw [List.Nodup, List.pairwise_map] at hnk
  refine List.Pairwise.imp ?_ (h1.and hnk)
  rintro a b ⟨hab, hne⟩
  rw [zaV]
  have hle : a ≤ b := of_decide_eq_true hab
  show a.toArray.toList < b.toArray.toList
  simp only
  rcases List.le_iff_lt_or_eq.1 hle with h | h
  ·exact h
  exact absurd (by rw [h]) hne
 rcases hrow.2 with ⟨rfl, _⟩ | ⟨g, cap, cur, rfl, hg, _⟩
 ·simp [zC]
 intro b hb'
 simp [zC] at hb'
 omega
def bV (s : ByteArray) : yx := ⟨4, 0, 0, s⟩
def yU (k v : ByteArray) : List yx := [bV k, bV v]
theorem ziw (k v : ByteArray) : fl yx.cs (yU k v) = (bV k).cs ++ (bV v).cs := by simp [fl, yU]
theorem zfA {k v k' v' : ByteArray} (h : yU k v = yU k' v') : k = k' ∧ v = v' := by
 simp only [yU, bV, List.cons.injEq, yx.mk.injEq, true_and, and_true] at h
 exact h
theorem zir {w : World} {b : Nat} {k v : ByteArray} (h : zV w b 62 ((bV k).cs ++ (bV v).cs)) : zU w (.slice (some ⟨b, 0, none⟩) 2 2) (yU k v) :=
 zB.of_blk (n := 2) (c := fl yx.cs (yU k v)) (by rw [ziw]; exact h) (by rw [ziw]; rfl) (by simp [maxLen]) (zc2 yx.one _)
theorem zlv (n : Int) (w : World) : zO TP 10 #[Ii n] w fun r w' => r = Ii n ∧ w' = w := by
 refine A1 Tryz.func10 rfl rfl ?_
 refine Sr (Oa rfl (E1 0 rfl (Sr (Om rfl (Oa rfl (E1 2 rfl (zj ?_)))))))
 refine zx rfl rfl ?_
 exact ⟨rfl, rfl⟩
theorem zlq (k v : ByteArray) (w : World) : zO TP 14 #[.string k, .string v] w fun r w' => zU w' r (yU k v) ∧ (∀ b ∈ zC r, w.heap.size ≤ b) ∧ zm [] w w' := by
 refine A2 Tryz.func14 rfl rfl ?_
 refine Sr (Oa rfl (E2 0 1 rfl (Sr (Om rfl ?_))))
 refine Og (zaq zh1 zdP rfl (qs := [(0, _), (3, _)]) rfl (css := [_, _]) ⟨rfl, rfl, trivial⟩ (cs := [_, _, _, _]) rfl) rfl ?_
 refine Om rfl ?_
 refine Og (zaq zh1 zdP rfl (qs := [(0, _), (3, _)]) rfl (css := [_, _]) ⟨rfl, rfl, trivial⟩ (cs := [_, _, _, _]) rfl) rfl ?_
 refine zA (gn rfl) (zv ziY rfl (vs := [_, _]) rfl (css := [_, _]) ⟨rfl, rfl, trivial⟩ rfl rfl (cs := [_, _, _, _, _, _, _, _]) rfl rfl ?_)
 intro b9 w9 e9 n9 c9 k9
 refine Oa rfl (E1 4 rfl (zj ?_))
 refine zx rfl rfl ?_
 exact ⟨zir k9, by intro b hb; simp [zC] at hb; omega, c9⟩
theorem zbi (s : ByteArray) (w : World) : zO TP 35 #[.string s] w fun r w' => r = (bV s).v ∧ zm [] w w' := by
 refine A1 Tryz.func35 rfl rfl ?_
 refine Sr ?_
 refine zA (gn rfl) (zI zdP rfl rfl ?_)
 intro b2 w2 e2 n2 c2 k2
 refine E2 0 2 rfl (Sr (Om rfl ?_))
 refine Og (zaq zh1 zdP rfl (qs := [(0, _), (3, _)]) rfl (css := [_, _]) ⟨rfl, rfl, trivial⟩ (cs := [_, _, _, _]) rfl) rfl ?_
 refine zA (gn rfl) (zD yM rfl rfl rfl rfl k2 (by simp) (yx.one (bV s)) ?_)
 intro wA nA cA kA
 refine E1 2 rfl (zj ?_)
 refine zcW rfl zbU yM rfl rfl (zu.of_blk0 kA) ?_
 exact ⟨rfl, c2.own cA (by intro y hy; simp at hy; omega)⟩
theorem zfP (k v : ByteArray) (w : World) : zO TP 29 #[.string k, .string v] w fun r w' => zU w' r (yU k v) ∧ (∀ b ∈ zC r, w.heap.size ≤ b) ∧ zm [] w w' := by
 refine A2 Tryz.func29 rfl rfl ?_
 refine Sr (Oa rfl (E2 0 1 rfl (Sr (Om rfl ?_))))
 refine Oc zlo rfl rfl rfl (zbi k _) ?_
 rintro v6 w6 ⟨rfl, c6⟩
 refine Om rfl ?_
 refine Oc zlo rfl rfl rfl (zbi v _) ?_
 rintro v8 w8 ⟨rfl, c8⟩
 refine zA (gn rfl) (zv ziY rfl (vs := [_, _]) rfl (css := [_, _]) ⟨rfl, rfl, trivial⟩ rfl rfl (cs := [_, _, _, _, _, _, _, _]) rfl rfl ?_)
 intro b9 w9 e9 n9 c9 k9
 refine Oa rfl (E1 4 rfl (zj ?_))
 refine zx rfl rfl ?_
 have hcc := (c6.trans c8)
 have hs := hcc.size
 exact ⟨zir k9, by intro b hb; simp [zC] at hb; omega, hcc.trans c9⟩
theorem zbW (s : ByteArray) (w : World) : zO TP 39 #[.string s] w fun r w' => r = (bV s).v ∧ zm [] w w' := by
 refine A1 Tryz.func39 rfl rfl ?_
 refine Sr ?_
 refine zA (gn rfl) (zI zdP rfl rfl ?_)
 intro b2 w2 e2 n2 c2 k2
 refine E2 0 2 rfl (Sr (Om rfl ?_))
 refine Og (zaq zh1 zdP rfl (qs := [(0, _), (3, _)]) rfl (css := [_, _]) ⟨rfl, rfl, trivial⟩ (cs := [_, _, _, _]) rfl) rfl ?_
 refine zA (gn rfl) (zD yM rfl rfl rfl rfl k2 (by simp) (yx.one (bV s)) ?_)
 intro wA nA cA kA
 refine E1 2 rfl (zj ?_)
 refine zcW rfl zbU yM rfl rfl (zu.of_blk0 kA) ?_
 exact ⟨rfl, c2.own cA (by intro y hy; simp at hy; omega)⟩
theorem zhy (k v : ByteArray) (w : World) : zO TP 37 #[.string k, .string v] w fun r w' => zU w' r (yU k v) ∧ (∀ b ∈ zC r, w.heap.size ≤ b) ∧ zm [] w w' := by
 refine A2 Tryz.func37 rfl rfl ?_
 refine Sr (Oa rfl (E2 0 1 rfl (Sr (Om rfl ?_))))
 refine Oc zkY rfl rfl rfl (zbW k _) ?_
 rintro v6 w6 ⟨rfl, c6⟩
 refine Om rfl ?_
 refine Oc zkY rfl rfl rfl (zbW v _) ?_
 rintro v8 w8 ⟨rfl, c8⟩
 refine zA (gn rfl) (zv ziY rfl (vs := [_, _]) rfl (css := [_, _]) ⟨rfl, rfl, trivial⟩ rfl rfl (cs := [_, _, _, _, _, _, _, _]) rfl rfl ?_)
 intro b9 w9 e9 n9 c9 k9
 refine Oa rfl (E1 4 rfl (zj ?_))
 refine zx rfl rfl ?_
 have hcc := (c6.trans c8)
 have hs := hcc.size
 exact ⟨zir k9, by intro b hb; simp [zC] at hb; omega, hcc.trans c9⟩
def zf5 (ops : Array Oper) : Bool := (List.range ops.size).all fun i => match ops[i]? with
 | none => true
 | some oi => oi.after.all fun e => !Region.binds .any e || Nat.blt e.on i
theorem zhU {ops : Array Oper} (hb : zf5 ops = true) {listed : Array Bool} (hs : listed.size = ops.size) (hr : Region.ready .any ops listed = []) : ∀ i, i < ops.size → listed.getD i false = true := by
 intro i
 induction i using Nat.strongRecOn with
 | ind i ih =>
  intro hi
  cases hl : listed.getD i false with
  | true => rfl
  | false =>
   exfalso
   have ho : ops[i]? = some ops[i] := by simp [hi]
   have h1 := List.all_eq_true.1 hb i (List.mem_range.2 hi)
   rw [ho] at h1
   have hm : i ∈ Region.ready .any ops listed := by
    refine mem_ready.2 ⟨?_, ops[i], ho, fun e he hbe => ?_⟩
    ·have hlt : i < listed.size := by omega
     simp [hlt] at hl ⊢
     exact hl
    have h2 := Array.all_eq_true'.1 h1 e he
    rw [hbe] at h2
    have h3 : Nat.blt e.on i = true := by simpa using h2
    have h4 : e.on < i := Nat.lt_of_succ_le (Nat.le_of_ble_eq_true h3)
    exact ih e.on h4 (by omega)
   rw [hr] at hm
   cases hm
theorem zeG {listed : Array Bool} {i : Nat} (h : listed.getD i true = false) : (listed.setIfInBounds i true).toList.count false + 1 = listed.toList.count false := by
 have hlt : i < listed.size := by
  rcases Nat.lt_or_ge i listed.size with h1 | h1
  ·exact h1
  simp [Array.getElem?_eq_none h1] at h
 have hi : listed[i] = false := by simpa [hlt] using h
 rw [Array.toList_setIfInBounds, List.count_set (by simpa using hlt)]
 have hmem : false ∈ listed.toList := by
  rw [← hi]
  exact Array.mem_toList_iff.2 (Array.getElem_mem hlt)
 have hpos := List.count_pos_iff.2 hmem
 have h2 : listed.toList[i]'(by simpa using hlt) = false := by simpa using hi
 rw [h2]
 show listed.toList.count false - 1 + 0 + 1 = listed.toList.count false
 omega
theorem zld {P : Program} {o : Oper} {a : Act} {w : World} {K K' : Act → World → Prop} {Q : Exit → Act → World → Prop} (h1 : o.wp P a w K (fun _ _ _ => False)) (hK : ∀ a w, K a w → K' a w) : o.wp P a w K' Q := by
 unfold Oper.wp at *
 generalize (execOp a.eval o).run P w = r at *
 cases r with
 | ok x w1 =>
  cases x <;> simp only [Oper.upon] at h1 ⊢
  case enter f args =>
   refine Calls.mono h1 ?_
   intro e w2 he
   cases e with
   | returned v => exact hK _ _ he
   | panicked c => exact he.elim
   | outgrown => obtain ⟨_, _, hx⟩ := he; exact hx.elim
  case row row args => exact Rows.mono h1 fun v w2 hv => hK _ _ hv
  all_goals first
   | exact hK _ _ h1
   | exact h1.elim
 | halt x w1 =>
  cases x <;> simp only [Oper.upon] at h1 ⊢
  all_goals exact h1.elim
section
variable {P : Program} {n : Nat} {Q : Exit → Fr → World → Prop} {F : Fr} {w : World}
theorem zkl {ops : Array Oper} (hb : zf5 ops = true) (J : Array Bool → Fr → World → Prop)
 (step : ∀ (listed : Array Bool) (F : Fr) (w : World) (i : Nat) (o : Oper), listed.size = ops.size → ops[i]? = some o → listed.getD i true = false → (∀ e ∈ o.after, Region.binds .any e = true → listed.getD e.on false = true) → J listed F w →
  Wd n F ops o ∧ St P n F o w fun F' w' => J (listed.setIfInBounds i true) F' w')
 (hend : ∀ (listed : Array Bool) (F : Fr) (w : World), (∀ i, i < ops.size → listed.getD i false = true) → J listed F w → Q .normal F w) :
 ∀ (fuel : Nat) (listed : Array Bool) (a : Act) (w : World), listed.size = ops.size → listed.toList.count false ≤ fuel → (∃ F, Rep n F a ∧ J listed F w) → wpAny P .any ops (zkL n Q) fuel listed a w
 | 0, listed, a, w, hs, hf, ⟨F, ha, hJ⟩ => by
  have hall : ∀ i, i < ops.size → listed.getD i false = true := by
   intro i hi
   have hlt : i < listed.size := by omega
   cases hl : listed[i] with
   | true => simp [hlt, hl]
   | false =>
    have hmem : false ∈ listed.toList := by
     rw [← hl]
     exact Array.mem_toList_iff.2 (Array.getElem_mem hlt)
    have := List.count_pos_iff.2 hmem
    omega
  refine ⟨?_, ⟨F, ha, hend listed F w hall hJ⟩⟩
  refine List.eq_nil_iff_forall_not_mem.2 fun i hi => ?_
  obtain ⟨h1, o, ho, _⟩ := mem_ready.1 hi
  have hlt := (Array.getElem?_eq_some_iff.1 ho).1
  have h2 := hall i hlt
  have hlt' : i < listed.size := by omega
  simp [hlt'] at h1 h2
  rw [h1] at h2
  cases h2
 | fuel + 1, listed, a, w, hs, hf, ⟨F, ha, hJ⟩ => by
  refine ⟨fun hr => ⟨F, ha, hend listed F w (zhU hb hs hr) hJ⟩, fun i hi => ?_⟩
  obtain ⟨h1, o, ho, haft⟩ := mem_ready.1 hi
  obtain ⟨hw, hst⟩ := step listed F w i o hs ho h1 haft hJ
  unfold wpOp
  simp only [ho, hw a ha, if_true]
  refine .inl (zld (hst a ha) ?_)
  rintro a' w' ⟨F', hr', _, hJ'⟩
  refine zkl hb J step hend fuel _ a' w' (by simpa using hs) ?_ ⟨F', hr', hJ'⟩
  have := zeG h1
  omega
theorem zjQ (J : Array Bool → Fr → World → Prop) {id : Nat} {l : List Oper} (hm : P.follows .mixedOrders = true) (hb : zf5 l.toArray = true) (h0 : J (Array.replicate l.length false) F w.drew)
 (step : ∀ (listed : Array Bool) (F : Fr) (w : World) (i : Nat) (o : Oper), listed.size = l.length → l[i]? = some o → listed.getD i true = false → (∀ e ∈ o.after, Region.binds .any e = true → listed.getD e.on false = true) → J listed F w →
  Wd n F l.toArray o ∧ St P n F o w fun F' w' => J (listed.setIfInBounds i true) F' w')
 (hend : ∀ (listed : Array Bool) (F : Fr) (w : World), (∀ i, i < l.length → listed.getD i false = true) → J listed F w → Q .normal F w) : W P n (.region id l.toArray true) Q F w := by
 intro a ha
 refine wp_region_any hm (zkl hb J (fun listed F w i o hs ho => step listed F w i o (by simpa using hs) (by simpa using ho)) (fun listed F w h => hend listed F w (by simpa using h)) _ _ a _ (by simp) ?_ ⟨F, ha, by simpa using h0⟩)
 refine Nat.le_trans List.count_le_length ?_
 simp
end
theorem zi3 (n m : Nat) (h : n < 256 ^ m) : ∀ d, be n (m + d) = List.replicate d 0 ++ be n m
 | 0 => rfl
 | d + 1 => by
  have h1 : n / 256 ^ (m + d) = 0 := Nat.div_eq_of_lt (Nat.lt_of_lt_of_le h (Nat.pow_le_pow_right (by omega) (by omega)))
  rw [← Nat.add_assoc, be, h1, zi3 n m h d, List.replicate_succ]
  rfl
theorem zgH : ∀ d, bv (List.replicate d 0) = List.replicate d (.int .u8 0)
 | 0 => rfl
 | d + 1 => by
  rw [List.replicate_succ, List.replicate_succ, ← zgH d]
  rfl
def be8 (n : Int) : ByteArray := ⟨(be n.toNat 8).toArray⟩
theorem zcG (n : Int) : (be8 n).size = 8 := by
 show (be n.toNat 8).toArray.size = 8
 simp [zeK]
theorem zgB {n : Int} (h : 0 ≤ n ∧ n ≤ 1099511627776) : IntKind.u64.wrap n = (n.toNat : Int) := by
 have : (n.toNat : Int) = n := Int.toNat_of_nonneg h.1
 rw [this]
 exact ziV h.1 (by omega)
theorem zhz (n : Nat) (w : World) (hn : n < 18446744073709551616) : zO TP 66 #[.int .u64 n, Ii 8] w fun r w' => ∃ v, r = .tuple #[v, Ii 0] ∧ zB w' 5 1 v 8 (bv (be n 8)) ∧ (∀ b ∈ zC v, w.heap.size ≤ b) ∧ zm [] w w' := by
 have h8 := zdR n
 have hbl := zeK n (z7 n)
 refine A2 Tryz.func66 rfl rfl ?_
 refine Sr (Oa rfl (Oa rfl (E2 0 1 rfl (zh (Sr (Om rfl ?_))))))
 refine Og (vf (zE rfl rfl) (decide_eq_false (by omega))) rfl ?_
 refine Om rfl (Oj rfl rfl ?_)
 refine Oy rfl rfl (vf (z1 rfl rfl) (decide_eq_false (by omega))) ?_
 refine Of rfl (E3 0 1 12 rfl (zf rfl (zq (Sr (Om rfl ?_)))))
 refine Oc zlQ rfl rfl rfl (zll n _ hn) ?_
 rintro v14 w14 ⟨i14, f14, c14⟩
 obtain ⟨p14, q14, rfl, -⟩ := id (zB.val i14)
 refine Oa rfl (E2 1 6 rfl (zh (Sr (Om rfl (On zd8 rfl (Om rfl ?_))))))
 refine Og (vf (z1 rfl rfl) (decide_eq_false (by omega))) rfl ?_
 refine E3 1 6 18 rfl (zf rfl (zq (zh ?_)))
 have hmz : (madeCells (.int .u8 0 : Value).cells ((8 - (be n (z7 n)).length) * 1)).toList = bv (List.replicate (8 - (be n (z7 n)).length) 0) := by
  rw [zgH]
  apply List.ext_getElem
  ·simp [madeCells, Value.cells]
  intro i h1 h2
  simp [madeCells, Value.cells, Nat.mod_one]
 refine zd (Om rfl (Om rfl (On zd8 rfl ?_)))
 refine Og (yJ (v' := Ii ((8 - (be n (z7 n)).length : Nat) : Int)) (zam rfl rfl (by omega)) (by congr 1 <;> omega)) rfl ?_
 refine zA (gn rfl) (zhB (l := 8 - (be n (z7 n)).length) (m := 8 - (be n (z7 n)).length) zf2 rfl rfl (by omega) (by omega) (by omega) (by unfold maxLen; omega) (by omega) rfl ?_)
 intro b23 w23 e23 n23 c23 k23
 refine Om rfl ?_
 refine zA (gn rfl) (yc zf2 zd8 rfl rfl (zB.of_blk (n := 8 - (be n (z7 n)).length) (c := bv (List.replicate (8 - (be n (z7 n)).length) 0)) (by rw [← hmz]; exact k23) (by simp [ziM]) (by unfold maxLen; omega) (by intro u hu; obtain ⟨x, _, rfl⟩ := List.mem_map.1 hu; rfl)) (zB.chg0 i14 c23) (by unfold maxLen; omega) (by omega) rfl ?_)
 intro v25 w25 i25 c25 o25 z25
 refine Oa rfl (Oa rfl (E2 4 5 rfl (zj ?_)))
 refine zbF rfl rfl rfl ?_
 have hpad := zi3 n (z7 n) ((zaX hn).1 (Nat.le_refl _)) (8 - z7 n)
 rw [show z7 n + (8 - z7 n) = 8 by omega] at hpad
 have e : bv (List.replicate (8 - (be n (z7 n)).length) 0) ++ bv (be n (z7 n)) = bv (be n 8) := by rw [hpad, zdd, hbl]
 rw [e, show 8 - (be n (z7 n)).length + (be n (z7 n)).length = 8 by omega] at i25
 have hs := c14.size
 refine ⟨_, rfl, i25, ?_, (c14.trans c23).own c25 (by intro y hy; simp [zC] at hy; omega)⟩
 intro b hb
 rcases o25 with h | ⟨b', h, hb'⟩
 ·rw [h] at hb; simp [zC] at hb; omega
 rw [h] at hb; simp at hb; omega
theorem zc6 (n : Int) (w : World) (h : 0 ≤ n ∧ n ≤ 1099511627776) : zO TP 38 #[Ii n] w fun r w' => r = .string (be8 n) ∧ zm [] w w' := by
 refine A1 Tryz.func38 rfl rfl ?_
 refine Sr (Oa rfl (E1 0 rfl (Sr (Om rfl ?_))))
 refine Og (zad zb5 zdt rfl (zgB h)) rfl ?_
 refine Oc zm0 rfl rfl rfl (zhz n.toNat _ (by omega)) ?_
 rintro v8 w8 ⟨v8, rfl, i8, f8, c8⟩
 refine Om rfl (Oe rfl rfl (Oe rfl rfl (Oa rfl (Oa rfl (E1 3 rfl (Sr (Om rfl ?_)))))))
 refine Og (zb7 (l := be n.toNat 8) zd8 zaO st9 rfl (zB.rd i8)) rfl ?_
 refine Oa rfl (E1 2 rfl (zj ?_))
 refine zx rfl rfl ?_
 exact ⟨rfl, c8⟩
def beL : List Int → ByteArray
 | [] => e0
 | n :: l => be8 n ++ beL l
theorem zfO : ∀ (l : List Int) (n : Int), beL (l ++ [n]) = beL l ++ be8 n
 | [], n => by
  show be8 n ++ e0 = e0 ++ be8 n
  apply ByteArray.ext
  simp [e0]
 | m :: l, n => by
  show be8 m ++ beL (l ++ [n]) = be8 m ++ beL l ++ be8 n
  rw [zfO l n]
  apply ByteArray.ext
  simp [Array.append_assoc]
theorem zfy : ∀ l : List Int, (beL l).size = 8 * l.length
 | [] => rfl
 | n :: l => by
  show (be8 n ++ beL l).size = _
  rw [ByteArray.size_append, zcG, zfy l, List.length_cons]
  omega
theorem zfv (v : Value) (l : List Int) (w : World) (hl : zcw w v l) (hn : l.length ≤ 4) (hr : ∀ n ∈ l, 0 ≤ n ∧ n ≤ 1099511627776) : zO TP 42 #[v] w fun r w' => r = .string (beL l) ∧ zm [] w w' := by
 obtain ⟨pv, cv, rfl, hcv⟩ := yq.val hl
 refine A1 Tryz.func42 rfl rfl ?_
 refine Sr (Oa rfl (E2 0 2 rfl (zh (Sr (Om rfl (On zec rfl (Om rfl (E4 2 7 8 9 rfl (zn ?_)))))))))
 refine ye [2, 7, 8, 9] (fun m F wx => ∃ j : Nat, m = l.length - j ∧ j ≤ l.length ∧ F = [(2, .string (beL (l.take j))), (7, .slice pv l.length cv), (8, Ii l.length), (9, Ii j)] ∧ zm [] w wx) (m := l.length - 0) ⟨0, rfl, Nat.zero_le _, rfl, zm.refl _ _⟩ ?_
 rintro m F wx ⟨j, rfl, hj, rfl, hcx⟩
 refine zh ?_
 by_cases hlt : j < l.length
 ·refine zd ?_
  refine Og (vt (zE rfl rfl) (by simp; omega)) rfl ?_
  refine E5 2 7 8 9 10 rfl (zh (zg rfl (zq ?_)))
  have hx : l[j]? = some l[j] := by simp [hlt]
  have htk := List.take_succ_eq_append_getElem hlt
  have hmem := List.getElem_mem hlt
  generalize l[j] = n at hx htk hmem
  obtain ⟨bo, oo, cp, hve, hcell⟩ := zcw.cell (yq.chg0 hl hcx) hx
  cases hve
  have hsz := zfy (l.take j)
  have htl : (l.take j).length ≤ 4 := by simp; omega
  refine zh (zn (Sr ?_))
  refine Og (ze zec sz3 rfl rfl _ rfl hlt) rfl ?_
  refine Ol ag3 rfl hcell ?_
  refine Oa rfl (E5 2 4 7 8 9 rfl (Sr (Om rfl ?_)))
  refine Og (zad zb5 zdt rfl (zgB (hr n hmem))) rfl ?_
  refine Oc zm3 rfl rfl rfl (zjK n.toNat 8 _ (by have := hr n hmem; omega) (by omega) (by have := hr n hmem; omega)) ?_
  rintro v16 w16 ⟨v16, rfl, i16, f16, c16⟩
  refine Om rfl (Oe rfl rfl (Oe rfl rfl (Oa rfl (Oa rfl (E5 2 5 7 8 9 rfl (zd (Om rfl (Om rfl ?_))))))))
  refine Og (zb7 (l := be n.toNat 8) zd8 zaO st9 rfl (zB.rd i16)) rfl ?_
  refine Og (ze2 rfl rfl (by show (beL (l.take j)).size + (be8 n).size ≤ _; rw [hsz, zcG]; omega)) rfl ?_
  refine Oa rfl (N4 2 7 8 9 rfl (zk (zd ?_)))
  refine Og (yJ (v' := Ii ((j + 1 : Nat) : Int)) (zR rfl rfl (by omega)) (by congr 1)) rfl ?_
  refine Om rfl (N4 2 7 8 9 rfl ?_)
  refine ⟨l.length - (j + 1), by omega, j + 1, rfl, by omega, ?_, hcx.trans c16⟩
  rw [htk, zfO]
  rfl
 refine zd ?_
 refine Og (vf (zE rfl rfl) (by simp; omega)) rfl ?_
 refine E5 2 7 8 9 10 rfl (zh (zf rfl ?_))
 refine zP ?_
 repeat first | refine te ?_ | refine bo rfl ?_
 refine zp _ ?_
 refine Sr (Om rfl (Oa rfl (E1 2 rfl (zj ?_))))
 refine zx rfl rfl ?_
 rw [List.take_of_length_le (by omega)]
 exact ⟨rfl, hcx⟩
def zH : Value := .slice none 0 0
structure StV where
 k : Int
 t : ByteArray
 kv : Value
 rv : Value
def StV.cs (x : StV) : List Value := [Ii x.k, .string x.t, x.kv, x.rv, zH, Ii 0, zH, zH, zH, zH]
structure StT where
 k : Int
 t : ByteArray
 key : List yx
 row : List yx
deriving DecidableEq
def zcg (w : World) (x : StV) (s : StT) : Prop := x.k = s.k ∧ x.t = s.t ∧ zU w x.kv s.key ∧ zU w x.rv s.row
theorem zcg.chg0 {w w' : World} {x : StV} {s : StT} (h : zcg w x s) (hc : zm [] w w') : zcg w' x s := ⟨h.1, h.2.1, zW.chg0 h.2.2.1 hc, zW.chg0 h.2.2.2 hc⟩
theorem zcg.one {w : World} {x : StV} {s : StT} (h : zcg w x s) : ∀ u ∈ x.cs, u.oneCell' = true := by
 intro u hu
 simp only [StV.cs, List.mem_cons, List.not_mem_nil, or_false] at hu
 rcases hu with rfl | rfl | rfl | rfl | rfl | rfl | rfl | rfl | rfl | rfl
 ·rfl
 ·rfl
 ·exact zB.one1 h.2.2.1
 ·exact zB.one1 h.2.2.2
 all_goals rfl
def za8 (t k : ByteArray) : StT := ⟨7, t, [bV k], []⟩
def zbI (t : ByteArray) (row : List yx) : StT := ⟨5, t, [], row⟩
theorem zeH (t k : ByteArray) (w : World) : zO TP 18 #[.string t, .string k] w fun r w' => ∃ x : StV, r = .agg x.cs.toArray ∧ zcg w' x (za8 t k) ∧ zm [] w w' := by
 refine A2 Tryz.func18 rfl rfl ?_
 refine Sr ?_
 refine zA (gn rfl) (zI zc3 rfl rfl ?_)
 intro b4 w4 e4 n4 c4 k4
 refine E3 0 1 4 rfl (Sr (Om rfl (Om rfl ?_)))
 refine Oc zlo rfl rfl rfl (zbi k _) ?_
 rintro v7 w7 ⟨rfl, c7⟩
 refine zA (gn rfl) (zv ziY rfl (vs := [_]) rfl (css := [_]) ⟨rfl, trivial⟩ rfl rfl (cs := [_, _, _, _]) rfl rfl ?_)
 intro b8 w8 e8 n8 c8 k8
 refine Og (zM zhR zc3 rfl (vs := [_, _, _]) rfl (css := [_, _, _]) ⟨rfl, rfl, rfl, trivial⟩ rfl rfl (cs := [_, _, _, _, _, _, _, _, _, _]) rfl) rfl ?_
 refine zA (gn rfl) (zD yf rfl rfl rfl rfl ((k4.chg0 c7).chg0 c8) (by simp) (by simp [Value.oneCell']) ?_)
 intro wA nA cA kA
 refine E1 4 rfl (zj ?_)
 refine zcW rfl zdo yf rfl rfl (zu.of_blk0 kA) ?_
 have h8 := c7.size
 have e1 : fl yx.cs [bV k] = (bV k).cs := by simp [fl]
 have hv : zU w8 (.slice (some ⟨b8, 0, none⟩) 1 1) [bV k] := zB.of_blk (n := 1) (c := fl yx.cs [bV k]) (by rw [e1]; exact k8) (by rw [e1]; rfl) (by simp [maxLen]) (zc2 yx.one _)
 have h4 := k4.lt
 refine ⟨⟨7, t, _, zH⟩, rfl, ⟨rfl, rfl, zW.chg hv cA (by simp [zC]; omega), zW.nil _ _ _ _⟩, ((c4.trans c7).trans c8).own cA (by intro y hy; simp at hy; omega)⟩
theorem zfk (t : ByteArray) (v : Value) (row : List yx) (w : World) (hv : zU w v row) : zO TP 20 #[.string t, v] w fun r w' => ∃ x : StV, r = .agg x.cs.toArray ∧ zcg w' x (zbI t row) ∧ zm [] w w' := by
 obtain ⟨pv, cv, rfl, hcv⟩ := id (zW.val hv)
 refine A2 Tryz.func20 rfl rfl ?_
 refine Sr ?_
 refine zA (gn rfl) (zI zc3 rfl rfl ?_)
 intro b4 w4 e4 n4 c4 k4
 refine E3 0 1 4 rfl (Sr (Om rfl (Om rfl ?_)))
 refine Og (zaq zhR zc3 rfl (qs := [(0, _), (1, _), (3, _)]) rfl (css := [_, _, _]) ⟨rfl, rfl, rfl, trivial⟩ (cs := [_, _, _, _, _, _, _, _, _, _]) rfl) rfl ?_
 refine zA (gn rfl) (zD yf rfl rfl rfl rfl k4 (by simp) (by simp [Value.oneCell']) ?_)
 intro wA nA cA kA
 refine E1 4 rfl (zj ?_)
 refine zcW rfl zdo yf rfl rfl (zu.of_blk0 kA) ?_
 have hcc : zm [] w wA := c4.own cA (by intro y hy; simp at hy; omega)
 exact ⟨⟨5, t, zH, _⟩, rfl, ⟨rfl, rfl, zW.nil _ _ _ _, zW.chg0 hv hcc⟩, hcc⟩
theorem zdG (t k : ByteArray) (w : World) : zO TP 23 #[.string t, .string k] w fun r w' => ∃ x : StV, r = .agg x.cs.toArray ∧ zcg w' x (za8 t k) ∧ zm [] w w' := by
 refine A2 Tryz.func23 rfl rfl ?_
 refine Sr ?_
 refine zA (gn rfl) (zI zc3 rfl rfl ?_)
 intro b4 w4 e4 n4 c4 k4
 refine E3 0 1 4 rfl (Sr (Om rfl (Om rfl ?_)))
 refine Oc zkY rfl rfl rfl (zbW k _) ?_
 rintro v7 w7 ⟨rfl, c7⟩
 refine zA (gn rfl) (zv ziY rfl (vs := [_]) rfl (css := [_]) ⟨rfl, trivial⟩ rfl rfl (cs := [_, _, _, _]) rfl rfl ?_)
 intro b8 w8 e8 n8 c8 k8
 refine Og (zM zhR zc3 rfl (vs := [_, _, _]) rfl (css := [_, _, _]) ⟨rfl, rfl, rfl, trivial⟩ rfl rfl (cs := [_, _, _, _, _, _, _, _, _, _]) rfl) rfl ?_
 refine zA (gn rfl) (zD yf rfl rfl rfl rfl ((k4.chg0 c7).chg0 c8) (by simp) (by simp [Value.oneCell']) ?_)
 intro wA nA cA kA
 refine E1 4 rfl (zj ?_)
 refine zcW rfl zdo yf rfl rfl (zu.of_blk0 kA) ?_
 have h8 := c7.size
 have e1 : fl yx.cs [bV k] = (bV k).cs := by simp [fl]
 have hv : zU w8 (.slice (some ⟨b8, 0, none⟩) 1 1) [bV k] := zB.of_blk (n := 1) (c := fl yx.cs [bV k]) (by rw [e1]; exact k8) (by rw [e1]; rfl) (by simp [maxLen]) (zc2 yx.one _)
 have h4 := k4.lt
 refine ⟨⟨7, t, _, zH⟩, rfl, ⟨rfl, rfl, zW.chg hv cA (by simp [zC]; omega), zW.nil _ _ _ _⟩, ((c4.trans c7).trans c8).own cA (by intro y hy; simp at hy; omega)⟩
theorem zda (t : ByteArray) (v : Value) (row : List yx) (w : World) (hv : zU w v row) : zO TP 24 #[.string t, v] w fun r w' => ∃ x : StV, r = .agg x.cs.toArray ∧ zcg w' x (zbI t row) ∧ zm [] w w' := by
 obtain ⟨pv, cv, rfl, hcv⟩ := id (zW.val hv)
 refine A2 Tryz.func24 rfl rfl ?_
 refine Sr ?_
 refine zA (gn rfl) (zI zc3 rfl rfl ?_)
 intro b4 w4 e4 n4 c4 k4
 refine E3 0 1 4 rfl (Sr (Om rfl (Om rfl ?_)))
 refine Og (zaq zhR zc3 rfl (qs := [(0, _), (1, _), (3, _)]) rfl (css := [_, _, _]) ⟨rfl, rfl, rfl, trivial⟩ (cs := [_, _, _, _, _, _, _, _, _, _]) rfl) rfl ?_
 refine zA (gn rfl) (zD yf rfl rfl rfl rfl k4 (by simp) (by simp [Value.oneCell']) ?_)
 intro wA nA cA kA
 refine E1 4 rfl (zj ?_)
 refine zcW rfl zdo yf rfl rfl (zu.of_blk0 kA) ?_
 have hcc : zm [] w wA := c4.own cA (by intro y hy; simp at hy; omega)
 exact ⟨⟨5, t, zH, _⟩, rfl, ⟨rfl, rfl, zW.nil _ _ _ _, zW.chg0 hv hcc⟩, hcc⟩
def zgt (s : ByteArray) : List Value := [.string s]
theorem zcI (s : ByteArray) : (zgt s).length = 1 := rfl
theorem zig (s : ByteArray) : ∀ u ∈ zgt s, u.oneCell' = true := by intro u hu; simp [zgt] at hu; subst hu; rfl
def zF (w : World) (v : Value) (l : List ByteArray) : Prop := yq w 9 1 zgt v l
theorem ziG (u v : Value) (l m : List ByteArray) (w : World) (hu : zF w u l) (hv : zF w v m) (hn : l.length ≤ 1048576) (hn' : m.length ≤ 1048576) :
 zO TP 25 #[u, v] w fun r w' => r = .bool (decide (l = m)) ∧ zm [] w w' := by
 obtain ⟨pu, cu, rfl, hcu⟩ := yq.val hu
 obtain ⟨pv, cv, rfl, hcv⟩ := yq.val hv
 refine A2 Tryz.func25 rfl rfl ?_
 refine Sr (Oa rfl (E2 0 1 rfl (zh (zh ?_))))
 by_cases he : l.length = m.length
 ·refine zd (Om rfl (On z6 rfl (Om rfl (On z6 rfl ?_))))
  refine Og (vf (zG rfl rfl) (zau (by omega))) rfl ?_
  refine E3 0 1 10 rfl (zf rfl (zq (zh (Sr (Om rfl (On z6 rfl (Om rfl (E4 0 1 12 13 rfl (zn ?_)))))))))
  refine ye [0, 1, 12, 13] (fun n F wx => ∃ j : Nat, n = l.length - j ∧ j ≤ l.length ∧ F = [(0, .slice pu l.length cu), (1, .slice pv m.length cv), (12, Ii l.length), (13, Ii j)] ∧ l.take j = m.take j ∧ zm [] w wx) (m := l.length - 0) ⟨0, rfl, Nat.zero_le _, rfl, by simp, zm.refl _ _⟩ ?_
  rintro n F wx ⟨j, rfl, hj, rfl, heq, hcx⟩
  refine Sr (Og (zE rfl rfl) rfl (E5 0 1 12 13 14 rfl (zh ?_)))
  refine yh rfl (fun hT => ?_) (fun hF => ?_)
  ·refine zq ?_
   have hlt : j < l.length := by have := of_decide_eq_true hT; omega
   have hlt2 : j < m.length := by omega
   have hx : l[j]? = some l[j] := by simp [hlt]
   have hy : m[j]? = some m[j] := by simp [hlt2]
   generalize l[j] = x at hx
   generalize m[j] = y at hy
   obtain ⟨b, off, cap, hve, hc1⟩ := yq.at zcI (yq.chg0 hu hcx) hx
   cases hve
   obtain ⟨b', off', cap', hve, hc2⟩ := yq.at zcI (yq.chg0 hv hcx) hy
   cases hve
   have hd : zm [] wx wx.drew := zm.drew [] _
   refine zh (zn (Sr (Om rfl (Oa rfl (E5 0 1 5 12 13 rfl (zh ?_))))))
   refine W_draw (fun wz => zm [] wx wz) mix (by kernel_rfl) hd ?_
   refine Tm rfl (Tm rfl ?_)
   refine Tp (fun _ => ze z6 sz9 rfl rfl _ rfl hlt) rfl ?_
   refine Tr (fun wz hz => zb yt rfl (hc1.chg0 hz 0 _ rfl)) rfl ?_
   refine Tm rfl (Tm rfl ?_)
   refine Tp (fun _ => ze z6 sz9 rfl rfl _ rfl hlt2) rfl ?_
   refine Tr (fun wz hz => zb yt rfl (hc2.chg0 hz 0 _ rfl)) rfl ?_
   refine Tp (fun _ => zai rfl rfl) rfl ?_
   refine D5 0 1 12 13 24 rfl ?_
   refine yh rfl (fun hT => ?_) (fun hF => ?_)
   ·have hne : x ≠ y := by simpa using hT
    refine Sr (Oa rfl (E1 4 rfl (zj ?_)))
    repeat first | refine tr ?_ | refine br ?_
    refine zx rfl rfl ?_
    refine ⟨?_, hcx.trans hd⟩
    have : l ≠ m := by
     rintro rfl
     rw [hx] at hy
     exact hne (Option.some.inj hy)
    rw [decide_eq_false this]
   have hxy : x = y := by simpa using hF
   refine yd (zk (zd ?_))
   refine Og (zR rfl rfl (by omega)) rfl ?_
   refine Om rfl (N4 0 1 12 13 rfl ?_)
   refine ⟨l.length - (j + 1), by omega, j + 1, rfl, by omega, rfl, ?_, hcx.trans hd⟩
   rw [List.take_add_one, List.take_add_one, hx, hy, heq, hxy]
  refine zP ?_
  repeat first | refine te ?_ | refine bo rfl ?_
  refine zp _ ?_
  have hge : l.length ≤ j := by have := of_decide_eq_false hF; omega
  refine Sr (Oa rfl (E1 4 rfl (zj ?_)))
  repeat first | refine tr ?_ | refine br ?_
  refine zx rfl rfl ?_
  rw [List.take_of_length_le hge, List.take_of_length_le (by omega)] at heq
  exact ⟨by rw [decide_eq_true heq], hcx⟩
 refine zd (Om rfl (On z6 rfl (Om rfl (On z6 rfl ?_))))
 refine Og (vt (zG rfl rfl) (zck (by omega))) rfl ?_
 refine E3 0 1 10 rfl (zg rfl (Sr (Oa rfl (E1 4 rfl (zj ?_)))))
 repeat first | refine tr ?_ | refine br ?_
 refine zx rfl rfl ?_
 have : l ≠ m := fun h => he (by rw [h])
 exact ⟨by rw [decide_eq_false this], zm.refl _ _⟩
theorem zeL (u v : Value) (l m : List yx) (w : World) (hu : y5 w u l) (hv : y5 w v m) (hn : l.length ≤ 1048576) (hn' : m.length ≤ 1048576) :
 zO TP 19 #[u, v] w fun r w' => r = .bool (decide (l = m)) ∧ zm [] w w' := by
 obtain ⟨pu, cu, rfl, hcu⟩ := yq.val hu
 obtain ⟨pv, cv, rfl, hcv⟩ := yq.val hv
 refine A2 Tryz.func19 rfl rfl ?_
 refine Sr (Oa rfl (E2 0 1 rfl (zh (zh ?_))))
 by_cases he : l.length = m.length
 ·refine zd (Om rfl (On yS rfl (Om rfl (On yS rfl ?_))))
  refine Og (vf (zG rfl rfl) (zau (by omega))) rfl ?_
  refine E3 0 1 10 rfl (zf rfl (zq (zh (Sr (Om rfl (On yS rfl (Om rfl (E4 0 1 12 13 rfl (zn ?_)))))))))
  refine ye [0, 1, 12, 13] (fun n F wx => ∃ j : Nat, n = l.length - j ∧ j ≤ l.length ∧ F = [(0, .slice pu l.length cu), (1, .slice pv m.length cv), (12, Ii l.length), (13, Ii j)] ∧ l.take j = m.take j ∧ zm [] w wx) (m := l.length - 0) ⟨0, rfl, Nat.zero_le _, rfl, by simp, zm.refl _ _⟩ ?_
  rintro n F wx ⟨j, rfl, hj, rfl, heq, hcx⟩
  refine Sr (Og (zE rfl rfl) rfl (E5 0 1 12 13 14 rfl (zh ?_)))
  refine yh rfl (fun hT => ?_) (fun hF => ?_)
  ·refine zq ?_
   have hlt : j < l.length := by have := of_decide_eq_true hT; omega
   have hlt2 : j < m.length := by omega
   have hx : l[j]? = some l[j] := by simp [hlt]
   have hy : m[j]? = some m[j] := by simp [hlt2]
   generalize l[j] = x at hx
   generalize m[j] = y at hy
   obtain ⟨b, off, cap, hve, hc1⟩ := yq.at za6 (yq.chg0 hu hcx) hx
   cases hve
   obtain ⟨b', off', cap', hve, hc2⟩ := yq.at za6 (yq.chg0 hv hcx) hy
   cases hve
   have hd : zm [] wx wx.drew := zm.drew [] _
   refine zh (zn (Sr (Om rfl (Oa rfl (E5 0 1 5 12 13 rfl (zh ?_))))))
   refine W_draw (fun wz => zm [] wx wz) mix (by kernel_rfl) hd ?_
   refine Tm rfl (Tm rfl ?_)
   refine Tp (fun _ => ze yS yM rfl rfl _ rfl hlt) rfl ?_
   refine Tr (fun wz hz => zi zbU yM rfl rfl (hc1.chg0 hz)) rfl ?_
   refine Tm rfl (Tm rfl ?_)
   refine Tp (fun _ => ze yS yM rfl rfl _ rfl hlt2) rfl ?_
   refine Tr (fun wz hz => zi zbU yM rfl rfl (hc2.chg0 hz)) rfl ?_
   refine Tp (fun _ => zbO zlm rfl rfl (zgf x y)) rfl ?_
   refine D5 0 1 12 13 24 rfl ?_
   refine yh rfl (fun hT => ?_) (fun hF => ?_)
   ·have hne : x ≠ y := by simpa using hT
    refine Sr (Oa rfl (E1 4 rfl (zj ?_)))
    repeat first | refine tr ?_ | refine br ?_
    refine zx rfl rfl ?_
    refine ⟨?_, hcx.trans hd⟩
    have : l ≠ m := by
     rintro rfl
     rw [hx] at hy
     exact hne (Option.some.inj hy)
    rw [decide_eq_false this]
   have hxy : x = y := by simpa using hF
   refine yd (zk (zd ?_))
   refine Og (zR rfl rfl (by omega)) rfl ?_
   refine Om rfl (N4 0 1 12 13 rfl ?_)
   refine ⟨l.length - (j + 1), by omega, j + 1, rfl, by omega, rfl, ?_, hcx.trans hd⟩
   rw [List.take_add_one, List.take_add_one, hx, hy, heq, hxy]
  refine zP ?_
  repeat first | refine te ?_ | refine bo rfl ?_
  refine zp _ ?_
  have hge : l.length ≤ j := by have := of_decide_eq_false hF; omega
  refine Sr (Oa rfl (E1 4 rfl (zj ?_)))
  repeat first | refine tr ?_ | refine br ?_
  refine zx rfl rfl ?_
  rw [List.take_of_length_le hge, List.take_of_length_le (by omega)] at heq
  exact ⟨by rw [decide_eq_true heq], hcx⟩
 refine zd (Om rfl (On yS rfl (Om rfl (On yS rfl ?_))))
 refine Og (vt (zG rfl rfl) (zck (by omega))) rfl ?_
 refine E3 0 1 10 rfl (zg rfl (Sr (Oa rfl (E1 4 rfl (zj ?_)))))
 repeat first | refine tr ?_ | refine br ?_
 refine zx rfl rfl ?_
 have : l ≠ m := fun h => he (by rw [h])
 exact ⟨by rw [decide_eq_false this], zm.refl _ _⟩
structure PrT where
 ph : Int
 cur : ByteArray
 full : Bool
 seg : Int
 at' : Int
 beat : Int
 park : List ByteArray
deriving DecidableEq
def PrT.cs (p : PrT) (v : Value) : List Value := [Ii p.ph, .string p.cur, .bool p.full, Ii p.seg, Ii p.at', Ii p.beat, v]
def zbv (w : World) (v : Value) (p : PrT) : Prop := zF w v p.park
theorem zcF (a b c d : Int) : zaT [0, 0] [Ii a, Ii b] [Ii c, Ii d] = some (decide (a = c) && decide (b = d)) := by
 simp only [zaT, zeU, if_true, Option.some.injEq]
 rw [Bool.eq_iff_iff]
 simp
theorem zd4 {P : Program} {n : Nat} {F : Fr} {w : World} {dst : Option Nat} {ty : TypeId} {pos : String} {af : Array Edge} {gd : Option (Nat × Bool)} {x y : Operand} {t u : TypeId} {a b : Bool} (hb : ziD P t = true) (hx : ev F x = some (.bool a)) (hy : ev F y = some (.bool b)) : Vl P n F ⟨dst, .binOp .neq t x y u, ty, pos, af, gd⟩ w (.bool (!(a == b))) w := by
 intro c ha
 have hu : P.underlying t = some .bool := by unfold ziD at hb; split at hb <;> simp_all
 have h1 : (Op.equal t (.bool a) (.bool b)).run P w = .ok (a == b) w := zbr fun d => by simp [Op.equalIn, run_underlying hu]
 simp [execOp, ha.eval hx, ha.eval hy, eqGuard, binOp, h1]
theorem zdS (p q : PrT) (u v : Value) (w : World) (hp : zbv w u p) (hq : zbv w v q) (hn : p.park.length ≤ 1048576) (hn' : q.park.length ≤ 1048576) :
 zO TP 11 #[.agg (p.cs u).toArray, .agg (q.cs v).toArray] w fun r w' => r = .bool (decide (p = q)) ∧ zm [] w w' := by
 obtain ⟨pu, cu, rfl, hcu⟩ := Rd.val hp
 obtain ⟨pv, cv, rfl, hcv⟩ := Rd.val hq
 refine A2 Tryz.func11 rfl rfl ?_
 refine Sr ?_
 refine Ob rfl rfl ?_
 intro b2 w2 e2 n2 c2 k2
 refine Ob rfl rfl ?_
 intro b3 w3 e3 n3 c3 k3
 refine Oa rfl (E2 2 3 rfl ?_)
 have k2 : zV w3 b2 27 (p.cs (.slice pu p.park.length cu)) := k2.chg0 c3
 have k3 : zV w3 b3 27 (q.cs (.slice pv q.park.length cv)) := k3
 have hcc := c2.trans c3
 have hp3 : zF w3 _ p.park := Rd.chg0 hp hcc
 have hq3 : zF w3 _ q.park := Rd.chg0 hq hcc
 refine zh ?_
 by_cases h1 : p.ph = q.ph
 case neg =>
  have hne : p ≠ q := fun e => h1 (by rw [e])
  rw [decide_eq_false hne]
  refine zd (Od z3 rfl ?_)
  refine Ol zak rfl (k2.cell' (i := 0) rfl) ?_
  refine Od z3 rfl ?_
  refine Ol zak rfl (k3.cell' (i := 0) rfl) ?_
  refine Og (vf (zw rfl rfl) (decide_eq_false h1)) rfl ?_
  refine Om rfl (Oz rfl rfl (Oz rfl rfl (Oz rfl rfl (Oz rfl rfl (Oz rfl rfl (Of rfl (Om rfl (Oz rfl rfl (Oz rfl rfl (Oz rfl rfl (Oz rfl rfl (Oz rfl rfl (Of rfl ?_)))))))))))))
  refine Om rfl (Oz rfl rfl (Oz rfl rfl (Oz rfl rfl (Oz rfl rfl (Oz rfl rfl (Of rfl (Om rfl (Oz rfl rfl (Oz rfl rfl (Oz rfl rfl (Oz rfl rfl (Oz rfl rfl (Of rfl ?_)))))))))))))
  refine Om rfl (Oz rfl rfl (Oz rfl rfl (Oz rfl rfl (Oz rfl rfl (Oz rfl rfl (Of rfl (Oa rfl (E1 4 rfl (zj ?_)))))))))
  refine zx rfl rfl ?_
  exact ⟨rfl, hcc⟩
 by_cases h2 : p.cur = q.cur
 case neg =>
  have hne : p ≠ q := fun e => h2 (by rw [e])
  rw [decide_eq_false hne]
  refine zd (Od z3 rfl ?_)
  refine Ol zak rfl (k2.cell' (i := 0) rfl) ?_
  refine Od z3 rfl ?_
  refine Ol zak rfl (k3.cell' (i := 0) rfl) ?_
  refine Og (vt (zw rfl rfl) (decide_eq_true h1)) rfl ?_
  refine Om rfl ?_
  refine Oy rfl rfl (za z8 rfl) ?_
  refine Oy rfl rfl (zb yt rfl (k2.cell' (i := 1) rfl)) ?_
  refine Oy rfl rfl (za z8 rfl) ?_
  refine Oy rfl rfl (zb yt rfl (k3.cell' (i := 1) rfl)) ?_
  refine Oy rfl rfl (vf (zcA rfl rfl) (decide_eq_false h2)) ?_
  refine Ot rfl (Om rfl (Oz rfl rfl (Oz rfl rfl (Oz rfl rfl (Oz rfl rfl (Oz rfl rfl (Of rfl (Om rfl (Oz rfl rfl (Oz rfl rfl (Oz rfl rfl (Oz rfl rfl (Oz rfl rfl ?_)))))))))))))
  refine Of rfl (Om rfl (Oz rfl rfl (Oz rfl rfl (Oz rfl rfl (Oz rfl rfl (Oz rfl rfl (Of rfl (Om rfl (Oz rfl rfl (Oz rfl rfl (Oz rfl rfl (Oz rfl rfl (Oz rfl rfl ?_)))))))))))))
  refine Of rfl (Oa rfl (E1 4 rfl (zj ?_)))
  refine zx rfl rfl ?_
  exact ⟨rfl, hcc⟩
 by_cases h3 : p.full = q.full
 case neg =>
  have hne : p ≠ q := fun e => h3 (by rw [e])
  rw [decide_eq_false hne]
  refine zd (Od z3 rfl ?_)
  refine Ol zak rfl (k2.cell' (i := 0) rfl) ?_
  refine Od z3 rfl ?_
  refine Ol zak rfl (k3.cell' (i := 0) rfl) ?_
  refine Og (vt (zw rfl rfl) (decide_eq_true h1)) rfl ?_
  refine Om rfl ?_
  refine Oy rfl rfl (za z8 rfl) ?_
  refine Oy rfl rfl (zb yt rfl (k2.cell' (i := 1) rfl)) ?_
  refine Oy rfl rfl (za z8 rfl) ?_
  refine Oy rfl rfl (zb yt rfl (k3.cell' (i := 1) rfl)) ?_
  refine Oy rfl rfl (vt (zcA rfl rfl) (decide_eq_true h2)) ?_
  refine Ot rfl (Om rfl ?_)
  refine Oy rfl rfl (za yI rfl) ?_
  refine Oy rfl rfl (zb ag4 rfl (k2.cell' (i := 2) rfl)) ?_
  refine Oy rfl rfl (za yI rfl) ?_
  refine Oy rfl rfl (zb ag4 rfl (k3.cell' (i := 2) rfl)) ?_
  refine Oy rfl rfl (vf (zcx bo4 rfl rfl) (by simpa using h3)) ?_
  refine Ot rfl (Om rfl (Oz rfl rfl (Oz rfl rfl (Oz rfl rfl (Oz rfl rfl (Oz rfl rfl (Of rfl (Om rfl (Oz rfl rfl (Oz rfl rfl (Oz rfl rfl (Oz rfl rfl (Oz rfl rfl ?_)))))))))))))
  refine Of rfl (Om rfl (Oz rfl rfl (Oz rfl rfl (Oz rfl rfl (Oz rfl rfl (Oz rfl rfl (Of rfl (Oa rfl (E1 4 rfl (zj ?_))))))))))
  refine zx rfl rfl ?_
  exact ⟨rfl, hcc⟩
 by_cases h4 : p.seg = q.seg ∧ p.at' = q.at'
 case neg =>
  have hne : p ≠ q := fun e => h4 (by rw [e]; exact ⟨rfl, rfl⟩)
  rw [decide_eq_false hne]
  refine zd (Od z3 rfl ?_)
  refine Ol zak rfl (k2.cell' (i := 0) rfl) ?_
  refine Od z3 rfl ?_
  refine Ol zak rfl (k3.cell' (i := 0) rfl) ?_
  refine Og (vt (zw rfl rfl) (decide_eq_true h1)) rfl ?_
  refine Om rfl ?_
  refine Oy rfl rfl (za z8 rfl) ?_
  refine Oy rfl rfl (zb yt rfl (k2.cell' (i := 1) rfl)) ?_
  refine Oy rfl rfl (za z8 rfl) ?_
  refine Oy rfl rfl (zb yt rfl (k3.cell' (i := 1) rfl)) ?_
  refine Oy rfl rfl (vt (zcA rfl rfl) (decide_eq_true h2)) ?_
  refine Ot rfl (Om rfl ?_)
  refine Oy rfl rfl (za yI rfl) ?_
  refine Oy rfl rfl (zb ag4 rfl (k2.cell' (i := 2) rfl)) ?_
  refine Oy rfl rfl (za yI rfl) ?_
  refine Oy rfl rfl (zb ag4 rfl (k3.cell' (i := 2) rfl)) ?_
  refine Oy rfl rfl (vt (zcx bo4 rfl rfl) (by rw [h3]; simp)) ?_
  refine Ot rfl (Om rfl ?_)
  refine Oy rfl rfl (za yp rfl) ?_
  refine Oy rfl rfl (zi zcK zcM rfl rfl (zu.of_blk k2 3 [Ii p.seg, Ii p.at'] ⟨[Ii p.beat, .slice pu p.park.length cu], rfl⟩)) ?_
  refine Oy rfl rfl (za yp rfl) ?_
  refine Oy rfl rfl (zi zcK zcM rfl rfl (zu.of_blk k3 3 [Ii q.seg, Ii q.at'] ⟨[Ii q.beat, .slice pv q.park.length cv], rfl⟩)) ?_
  refine Oy rfl rfl (zgu zgh rfl rfl (show _ = some false by rw [zcF]; simpa using h4)) ?_
  refine Ot rfl (Om rfl (Oz rfl rfl (Oz rfl rfl (Oz rfl rfl (Oz rfl rfl (Oz rfl rfl (Of rfl (Om rfl (Oz rfl rfl (Oz rfl rfl (Oz rfl rfl (Oz rfl rfl (Oz rfl rfl ?_)))))))))))))
  refine Of rfl (Oa rfl (E1 4 rfl (zj ?_)))
  refine zx rfl rfl ?_
  exact ⟨rfl, hcc⟩
 by_cases h5 : p.beat = q.beat
 case neg =>
  have hne : p ≠ q := fun e => h5 (by rw [e])
  rw [decide_eq_false hne]
  refine zd (Od z3 rfl ?_)
  refine Ol zak rfl (k2.cell' (i := 0) rfl) ?_
  refine Od z3 rfl ?_
  refine Ol zak rfl (k3.cell' (i := 0) rfl) ?_
  refine Og (vt (zw rfl rfl) (decide_eq_true h1)) rfl ?_
  refine Om rfl ?_
  refine Oy rfl rfl (za z8 rfl) ?_
  refine Oy rfl rfl (zb yt rfl (k2.cell' (i := 1) rfl)) ?_
  refine Oy rfl rfl (za z8 rfl) ?_
  refine Oy rfl rfl (zb yt rfl (k3.cell' (i := 1) rfl)) ?_
  refine Oy rfl rfl (vt (zcA rfl rfl) (decide_eq_true h2)) ?_
  refine Ot rfl (Om rfl ?_)
  refine Oy rfl rfl (za yI rfl) ?_
  refine Oy rfl rfl (zb ag4 rfl (k2.cell' (i := 2) rfl)) ?_
  refine Oy rfl rfl (za yI rfl) ?_
  refine Oy rfl rfl (zb ag4 rfl (k3.cell' (i := 2) rfl)) ?_
  refine Oy rfl rfl (vt (zcx bo4 rfl rfl) (by rw [h3]; simp)) ?_
  refine Ot rfl (Om rfl ?_)
  refine Oy rfl rfl (za yp rfl) ?_
  refine Oy rfl rfl (zi zcK zcM rfl rfl (zu.of_blk k2 3 [Ii p.seg, Ii p.at'] ⟨[Ii p.beat, .slice pu p.park.length cu], rfl⟩)) ?_
  refine Oy rfl rfl (za yp rfl) ?_
  refine Oy rfl rfl (zi zcK zcM rfl rfl (zu.of_blk k3 3 [Ii q.seg, Ii q.at'] ⟨[Ii q.beat, .slice pv q.park.length cv], rfl⟩)) ?_
  refine Oy rfl rfl (zgu zgh rfl rfl (show _ = some true by rw [zcF, decide_eq_true h4.1, decide_eq_true h4.2]; rfl)) ?_
  refine Ot rfl (Om rfl ?_)
  refine Oy rfl rfl (za zaj rfl) ?_
  refine Oy rfl rfl (zb ag3 rfl (k2.cell' (i := 5) rfl)) ?_
  refine Oy rfl rfl (za zaj rfl) ?_
  refine Oy rfl rfl (zb ag3 rfl (k3.cell' (i := 5) rfl)) ?_
  refine Oy rfl rfl (vf (zw rfl rfl) (decide_eq_false h5)) ?_
  refine Ot rfl (Om rfl (Oz rfl rfl (Oz rfl rfl (Oz rfl rfl (Oz rfl rfl (Oz rfl rfl (Of rfl (Oa rfl (E1 4 rfl (zj ?_))))))))))
  refine zx rfl rfl ?_
  exact ⟨rfl, hcc⟩
 refine zd (Od z3 rfl ?_)
 refine Ol zak rfl (k2.cell' (i := 0) rfl) ?_
 refine Od z3 rfl ?_
 refine Ol zak rfl (k3.cell' (i := 0) rfl) ?_
 refine Og (vt (zw rfl rfl) (decide_eq_true h1)) rfl ?_
 refine Om rfl ?_
 refine Oy rfl rfl (za z8 rfl) ?_
 refine Oy rfl rfl (zb yt rfl (k2.cell' (i := 1) rfl)) ?_
 refine Oy rfl rfl (za z8 rfl) ?_
 refine Oy rfl rfl (zb yt rfl (k3.cell' (i := 1) rfl)) ?_
 refine Oy rfl rfl (vt (zcA rfl rfl) (decide_eq_true h2)) ?_
 refine Ot rfl (Om rfl ?_)
 refine Oy rfl rfl (za yI rfl) ?_
 refine Oy rfl rfl (zb ag4 rfl (k2.cell' (i := 2) rfl)) ?_
 refine Oy rfl rfl (za yI rfl) ?_
 refine Oy rfl rfl (zb ag4 rfl (k3.cell' (i := 2) rfl)) ?_
 refine Oy rfl rfl (vt (zcx bo4 rfl rfl) (by rw [h3]; simp)) ?_
 refine Ot rfl (Om rfl ?_)
 refine Oy rfl rfl (za yp rfl) ?_
 refine Oy rfl rfl (zi zcK zcM rfl rfl (zu.of_blk k2 3 [Ii p.seg, Ii p.at'] ⟨[Ii p.beat, .slice pu p.park.length cu], rfl⟩)) ?_
 refine Oy rfl rfl (za yp rfl) ?_
 refine Oy rfl rfl (zi zcK zcM rfl rfl (zu.of_blk k3 3 [Ii q.seg, Ii q.at'] ⟨[Ii q.beat, .slice pv q.park.length cv], rfl⟩)) ?_
 refine Oy rfl rfl (zgu zgh rfl rfl (show _ = some true by rw [zcF, decide_eq_true h4.1, decide_eq_true h4.2]; rfl)) ?_
 refine Ot rfl (Om rfl ?_)
 refine Oy rfl rfl (za zaj rfl) ?_
 refine Oy rfl rfl (zb ag3 rfl (k2.cell' (i := 5) rfl)) ?_
 refine Oy rfl rfl (za zaj rfl) ?_
 refine Oy rfl rfl (zb ag3 rfl (k3.cell' (i := 5) rfl)) ?_
 refine Oy rfl rfl (vt (zw rfl rfl) (decide_eq_true h5)) ?_
 refine Ot rfl (Om rfl ?_)
 refine Oy rfl rfl (za zN rfl) ?_
 refine Oy rfl rfl (zb yy rfl (k2.cell' (i := 6) rfl)) ?_
 refine Oy rfl rfl (za zN rfl) ?_
 refine Oy rfl rfl (zb yy rfl (k3.cell' (i := 6) rfl)) ?_
 refine Ow rfl rfl zns rfl rfl rfl (ziG _ _ p.park q.park _ hp3 hq3 hn hn') ?_
 rintro v43 w43 ⟨rfl, c43⟩
 refine Ot rfl (Oa rfl (E1 4 rfl (zj ?_)))
 refine zx rfl rfl ?_
 refine ⟨?_, hcc.trans c43⟩
 obtain ⟨a1, a2, a3, a4, a5, a6, a7⟩ := p
 obtain ⟨e1, e2, e3, e4, e5, e6, e7⟩ := q
 simp only at h1 h2 h3 h4 h5
 obtain ⟨h4, h4'⟩ := h4
 subst h1 h2 h3 h4 h4' h5
 simp
theorem zF.at {w : World} {v : Value} {l : List ByteArray} (h : zF w v l) {i : Nat} {x : ByteArray} (hi : l[i]? = some x) : ∃ b off cap, v = .slice (some ⟨b, off, none⟩) l.length cap ∧ w.cell? ⟨b, off + i * 1, none⟩ = some (.string x) := by
 obtain ⟨b, off, cap, hv, hc⟩ := yq.at zcI h hi
 exact ⟨b, off, cap, hv, hc 0 _ rfl⟩
theorem ziL (p q : PrT) (u v : Value) (w : World) (hp : zbv w u p) (hq : zbv w v q) (hn : p.park.length ≤ 1048576) (hn' : q.park.length ≤ 1048576) :
 zO TP 8 #[.agg (p.cs u).toArray, .agg (q.cs v).toArray] w fun r w' => r = .bool (decide (p = q)) ∧ zm [] w w' := by
 obtain ⟨pu, cu, rfl, hcu⟩ := Rd.val hp
 obtain ⟨pv, cv, rfl, hcv⟩ := Rd.val hq
 refine A2 Tryz.func8 rfl rfl ?_
 refine Sr ?_
 refine Ob rfl rfl ?_
 intro b2 w2 e2 n2 c2 k2
 refine Ob rfl rfl ?_
 intro b3 w3 e3 n3 c3 k3
 refine Oa rfl (E2 2 3 rfl ?_)
 have k2 : zV w3 b2 27 (p.cs (.slice pu p.park.length cu)) := k2.chg0 c3
 have k3 : zV w3 b3 27 (q.cs (.slice pv q.park.length cv)) := k3
 have hcc := c2.trans c3
 have hp3 : zF w3 _ p.park := Rd.chg0 hp hcc
 have hq3 : zF w3 _ q.park := Rd.chg0 hq hcc
 refine zh (zh ?_)
 by_cases h1 : p.ph = q.ph
 case neg =>
  have hne : p ≠ q := fun e => h1 (by rw [e])
  rw [decide_eq_false hne]
  refine zd (Od z3 rfl ?_)
  refine Ol zak rfl (k2.cell' (i := 0) rfl) ?_
  refine Od z3 rfl ?_
  refine Ol zak rfl (k3.cell' (i := 0) rfl) ?_
  refine Og (vt (zG rfl rfl) (zck h1)) rfl ?_
  refine Om rfl (Oz rfl rfl (Oz rfl rfl (Oz rfl rfl (Oz rfl rfl (Oz rfl rfl (Ot rfl (Om rfl (Oz rfl rfl (Oz rfl rfl (Oz rfl rfl (Oz rfl rfl (Oz rfl rfl (Ot rfl ?_)))))))))))))
  refine Om rfl (Oz rfl rfl (Oz rfl rfl (Oz rfl rfl (Oz rfl rfl (Oz rfl rfl (Ot rfl (Om rfl (Oz rfl rfl (Oz rfl rfl (Oz rfl rfl (Oz rfl rfl (Oz rfl rfl (Ot rfl ?_)))))))))))))
  refine Om rfl (Oz rfl rfl (Oz rfl rfl (Oz rfl rfl (Oz rfl rfl (Oz rfl rfl (Oz rfl rfl (Oz rfl rfl (Ot rfl (E3 2 3 47 rfl (zg rfl (Sr (Oa rfl ?_))))))))))))
  refine E1 4 rfl (zj ?_)
  repeat first | refine tr ?_ | refine br ?_
  refine zx rfl rfl ?_
  exact ⟨rfl, hcc⟩
 by_cases h2 : p.cur = q.cur
 case neg =>
  have hne : p ≠ q := fun e => h2 (by rw [e])
  rw [decide_eq_false hne]
  refine zd (Od z3 rfl ?_)
  refine Ol zak rfl (k2.cell' (i := 0) rfl) ?_
  refine Od z3 rfl ?_
  refine Ol zak rfl (k3.cell' (i := 0) rfl) ?_
  refine Og (vf (zG rfl rfl) (zau h1)) rfl ?_
  refine Om rfl ?_
  refine Oy rfl rfl (za z8 rfl) ?_
  refine Oy rfl rfl (zb yt rfl (k2.cell' (i := 1) rfl)) ?_
  refine Oy rfl rfl (za z8 rfl) ?_
  refine Oy rfl rfl (zb yt rfl (k3.cell' (i := 1) rfl)) ?_
  refine Oy rfl rfl (vt (zai rfl rfl) (by simp [h2])) ?_
  refine Of rfl (Om rfl (Oz rfl rfl (Oz rfl rfl (Oz rfl rfl (Oz rfl rfl (Oz rfl rfl (Ot rfl (Om rfl (Oz rfl rfl (Oz rfl rfl (Oz rfl rfl (Oz rfl rfl (Oz rfl rfl ?_)))))))))))))
  refine Ot rfl (Om rfl (Oz rfl rfl (Oz rfl rfl (Oz rfl rfl (Oz rfl rfl (Oz rfl rfl (Ot rfl (Om rfl (Oz rfl rfl (Oz rfl rfl (Oz rfl rfl (Oz rfl rfl (Oz rfl rfl ?_)))))))))))))
  refine Oz rfl rfl (Oz rfl rfl (Ot rfl (E3 2 3 47 rfl (zg rfl (Sr (Oa rfl (E1 4 rfl (zj ?_))))))))
  repeat first | refine tr ?_ | refine br ?_
  refine zx rfl rfl ?_
  exact ⟨rfl, hcc⟩
 by_cases h3 : p.full = q.full
 case neg =>
  have hne : p ≠ q := fun e => h3 (by rw [e])
  rw [decide_eq_false hne]
  refine zd (Od z3 rfl ?_)
  refine Ol zak rfl (k2.cell' (i := 0) rfl) ?_
  refine Od z3 rfl ?_
  refine Ol zak rfl (k3.cell' (i := 0) rfl) ?_
  refine Og (vf (zG rfl rfl) (zau h1)) rfl ?_
  refine Om rfl ?_
  refine Oy rfl rfl (za z8 rfl) ?_
  refine Oy rfl rfl (zb yt rfl (k2.cell' (i := 1) rfl)) ?_
  refine Oy rfl rfl (za z8 rfl) ?_
  refine Oy rfl rfl (zb yt rfl (k3.cell' (i := 1) rfl)) ?_
  refine Oy rfl rfl (vf (zai rfl rfl) (by simp [h2])) ?_
  refine Of rfl (Om rfl ?_)
  refine Oy rfl rfl (za yI rfl) ?_
  refine Oy rfl rfl (zb ag4 rfl (k2.cell' (i := 2) rfl)) ?_
  refine Oy rfl rfl (za yI rfl) ?_
  refine Oy rfl rfl (zb ag4 rfl (k3.cell' (i := 2) rfl)) ?_
  refine Oy rfl rfl ((vt (zd4 bo4 rfl rfl) (by simpa using h3))) ?_
  refine Of rfl (Om rfl (Oz rfl rfl (Oz rfl rfl (Oz rfl rfl (Oz rfl rfl (Oz rfl rfl (Ot rfl (Om rfl (Oz rfl rfl (Oz rfl rfl (Oz rfl rfl (Oz rfl rfl (Oz rfl rfl ?_)))))))))))))
  refine Ot rfl (Om rfl (Oz rfl rfl (Oz rfl rfl (Oz rfl rfl (Oz rfl rfl (Oz rfl rfl (Oz rfl rfl (Oz rfl rfl (Ot rfl (E3 2 3 47 rfl (zg rfl (Sr ?_))))))))))))
  refine Oa rfl (E1 4 rfl (zj ?_))
  repeat first | refine tr ?_ | refine br ?_
  refine zx rfl rfl ?_
  exact ⟨rfl, hcc⟩
 by_cases h4 : p.seg = q.seg ∧ p.at' = q.at'
 case neg =>
  have hne : p ≠ q := fun e => h4 (by rw [e]; exact ⟨rfl, rfl⟩)
  rw [decide_eq_false hne]
  refine zd (Od z3 rfl ?_)
  refine Ol zak rfl (k2.cell' (i := 0) rfl) ?_
  refine Od z3 rfl ?_
  refine Ol zak rfl (k3.cell' (i := 0) rfl) ?_
  refine Og (vf (zG rfl rfl) (zau h1)) rfl ?_
  refine Om rfl ?_
  refine Oy rfl rfl (za z8 rfl) ?_
  refine Oy rfl rfl (zb yt rfl (k2.cell' (i := 1) rfl)) ?_
  refine Oy rfl rfl (za z8 rfl) ?_
  refine Oy rfl rfl (zb yt rfl (k3.cell' (i := 1) rfl)) ?_
  refine Oy rfl rfl (vf (zai rfl rfl) (by simp [h2])) ?_
  refine Of rfl (Om rfl ?_)
  refine Oy rfl rfl (za yI rfl) ?_
  refine Oy rfl rfl (zb ag4 rfl (k2.cell' (i := 2) rfl)) ?_
  refine Oy rfl rfl (za yI rfl) ?_
  refine Oy rfl rfl (zb ag4 rfl (k3.cell' (i := 2) rfl)) ?_
  refine Oy rfl rfl ((vf (zd4 bo4 rfl rfl) (by rw [h3]; simp))) ?_
  refine Of rfl (Om rfl ?_)
  refine Oy rfl rfl (za yp rfl) ?_
  refine Oy rfl rfl (zi zcK zcM rfl rfl (zu.of_blk k2 3 [Ii p.seg, Ii p.at'] ⟨[Ii p.beat, .slice pu p.park.length cu], rfl⟩)) ?_
  refine Oy rfl rfl (za yp rfl) ?_
  refine Oy rfl rfl (zi zcK zcM rfl rfl (zu.of_blk k3 3 [Ii q.seg, Ii q.at'] ⟨[Ii q.beat, .slice pv q.park.length cv], rfl⟩)) ?_
  refine Oy rfl rfl (zbO zgh rfl rfl (show _ = some false by rw [zcF]; simpa using h4)) ?_
  refine Of rfl (Om rfl (Oz rfl rfl (Oz rfl rfl (Oz rfl rfl (Oz rfl rfl (Oz rfl rfl (Ot rfl (Om rfl (Oz rfl rfl (Oz rfl rfl (Oz rfl rfl (Oz rfl rfl (Oz rfl rfl ?_)))))))))))))
  refine Oz rfl rfl (Oz rfl rfl (Ot rfl (E3 2 3 47 rfl (zg rfl (Sr (Oa rfl (E1 4 rfl (zj ?_))))))))
  repeat first | refine tr ?_ | refine br ?_
  refine zx rfl rfl ?_
  exact ⟨rfl, hcc⟩
 by_cases h5 : p.beat = q.beat
 case neg =>
  have hne : p ≠ q := fun e => h5 (by rw [e])
  rw [decide_eq_false hne]
  refine zd (Od z3 rfl ?_)
  refine Ol zak rfl (k2.cell' (i := 0) rfl) ?_
  refine Od z3 rfl ?_
  refine Ol zak rfl (k3.cell' (i := 0) rfl) ?_
  refine Og (vf (zG rfl rfl) (zau h1)) rfl ?_
  refine Om rfl ?_
  refine Oy rfl rfl (za z8 rfl) ?_
  refine Oy rfl rfl (zb yt rfl (k2.cell' (i := 1) rfl)) ?_
  refine Oy rfl rfl (za z8 rfl) ?_
  refine Oy rfl rfl (zb yt rfl (k3.cell' (i := 1) rfl)) ?_
  refine Oy rfl rfl (vf (zai rfl rfl) (by simp [h2])) ?_
  refine Of rfl (Om rfl ?_)
  refine Oy rfl rfl (za yI rfl) ?_
  refine Oy rfl rfl (zb ag4 rfl (k2.cell' (i := 2) rfl)) ?_
  refine Oy rfl rfl (za yI rfl) ?_
  refine Oy rfl rfl (zb ag4 rfl (k3.cell' (i := 2) rfl)) ?_
  refine Oy rfl rfl ((vf (zd4 bo4 rfl rfl) (by rw [h3]; simp))) ?_
  refine Of rfl (Om rfl ?_)
  refine Oy rfl rfl (za yp rfl) ?_
  refine Oy rfl rfl (zi zcK zcM rfl rfl (zu.of_blk k2 3 [Ii p.seg, Ii p.at'] ⟨[Ii p.beat, .slice pu p.park.length cu], rfl⟩)) ?_
  refine Oy rfl rfl (za yp rfl) ?_
  refine Oy rfl rfl (zi zcK zcM rfl rfl (zu.of_blk k3 3 [Ii q.seg, Ii q.at'] ⟨[Ii q.beat, .slice pv q.park.length cv], rfl⟩)) ?_
  refine Oy rfl rfl (zbO zgh rfl rfl (show _ = some true by rw [zcF, decide_eq_true h4.1, decide_eq_true h4.2]; rfl)) ?_
  refine Of rfl (Om rfl ?_)
  refine Oy rfl rfl (za zaj rfl) ?_
  refine Oy rfl rfl (zb ag3 rfl (k2.cell' (i := 5) rfl)) ?_
  refine Oy rfl rfl (za zaj rfl) ?_
  refine Oy rfl rfl (zb ag3 rfl (k3.cell' (i := 5) rfl)) ?_
  refine Oy rfl rfl (vt (zG rfl rfl) (zck h5)) ?_
  refine Of rfl (Om rfl (Oz rfl rfl (Oz rfl rfl (Oz rfl rfl (Oz rfl rfl (Oz rfl rfl (Oz rfl rfl (Oz rfl rfl (Ot rfl (E3 2 3 47 rfl (zg rfl (Sr ?_))))))))))))
  refine Oa rfl (E1 4 rfl (zj ?_))
  repeat first | refine tr ?_ | refine br ?_
  refine zx rfl rfl ?_
  exact ⟨rfl, hcc⟩
 by_cases h6 : ((p.park.length : Nat) : Int) = (q.park.length : Nat)
 case neg =>
  have hne : p ≠ q := fun e => h6 (by rw [e])
  rw [decide_eq_false hne]
  refine zd (Od z3 rfl ?_)
  refine Ol zak rfl (k2.cell' (i := 0) rfl) ?_
  refine Od z3 rfl ?_
  refine Ol zak rfl (k3.cell' (i := 0) rfl) ?_
  refine Og (vf (zG rfl rfl) (zau h1)) rfl ?_
  refine Om rfl ?_
  refine Oy rfl rfl (za z8 rfl) ?_
  refine Oy rfl rfl (zb yt rfl (k2.cell' (i := 1) rfl)) ?_
  refine Oy rfl rfl (za z8 rfl) ?_
  refine Oy rfl rfl (zb yt rfl (k3.cell' (i := 1) rfl)) ?_
  refine Oy rfl rfl (vf (zai rfl rfl) (by simp [h2])) ?_
  refine Of rfl (Om rfl ?_)
  refine Oy rfl rfl (za yI rfl) ?_
  refine Oy rfl rfl (zb ag4 rfl (k2.cell' (i := 2) rfl)) ?_
  refine Oy rfl rfl (za yI rfl) ?_
  refine Oy rfl rfl (zb ag4 rfl (k3.cell' (i := 2) rfl)) ?_
  refine Oy rfl rfl ((vf (zd4 bo4 rfl rfl) (by rw [h3]; simp))) ?_
  refine Of rfl (Om rfl ?_)
  refine Oy rfl rfl (za yp rfl) ?_
  refine Oy rfl rfl (zi zcK zcM rfl rfl (zu.of_blk k2 3 [Ii p.seg, Ii p.at'] ⟨[Ii p.beat, .slice pu p.park.length cu], rfl⟩)) ?_
  refine Oy rfl rfl (za yp rfl) ?_
  refine Oy rfl rfl (zi zcK zcM rfl rfl (zu.of_blk k3 3 [Ii q.seg, Ii q.at'] ⟨[Ii q.beat, .slice pv q.park.length cv], rfl⟩)) ?_
  refine Oy rfl rfl (zbO zgh rfl rfl (show _ = some true by rw [zcF, decide_eq_true h4.1, decide_eq_true h4.2]; rfl)) ?_
  refine Of rfl (Om rfl ?_)
  refine Oy rfl rfl (za zaj rfl) ?_
  refine Oy rfl rfl (zb ag3 rfl (k2.cell' (i := 5) rfl)) ?_
  refine Oy rfl rfl (za zaj rfl) ?_
  refine Oy rfl rfl (zb ag3 rfl (k3.cell' (i := 5) rfl)) ?_
  refine Oy rfl rfl (vf (zG rfl rfl) (zau h5)) ?_
  refine Of rfl (Om rfl ?_)
  refine Oy rfl rfl (za zN rfl) ?_
  refine Oy rfl rfl (zb yy rfl (k2.cell' (i := 6) rfl)) ?_
  refine Oy rfl rfl (z4 z6 rfl) ?_
  refine Oy rfl rfl (za zN rfl) ?_
  refine Oy rfl rfl (zb yy rfl (k3.cell' (i := 6) rfl)) ?_
  refine Oy rfl rfl (z4 z6 rfl) ?_
  refine Oy rfl rfl (vt (zG rfl rfl) (zck h6)) ?_
  refine Of rfl (E3 2 3 47 rfl (zg rfl (Sr (Oa rfl (E1 4 rfl (zj ?_))))))
  repeat first | refine tr ?_ | refine br ?_
  refine zx rfl rfl ?_
  exact ⟨rfl, hcc⟩
 refine zd (Od z3 rfl ?_)
 refine Ol zak rfl (k2.cell' (i := 0) rfl) ?_
 refine Od z3 rfl ?_
 refine Ol zak rfl (k3.cell' (i := 0) rfl) ?_
 refine Og (vf (zG rfl rfl) (zau h1)) rfl ?_
 refine Om rfl ?_
 refine Oy rfl rfl (za z8 rfl) ?_
 refine Oy rfl rfl (zb yt rfl (k2.cell' (i := 1) rfl)) ?_
 refine Oy rfl rfl (za z8 rfl) ?_
 refine Oy rfl rfl (zb yt rfl (k3.cell' (i := 1) rfl)) ?_
 refine Oy rfl rfl (vf (zai rfl rfl) (by simp [h2])) ?_
 refine Of rfl (Om rfl ?_)
 refine Oy rfl rfl (za yI rfl) ?_
 refine Oy rfl rfl (zb ag4 rfl (k2.cell' (i := 2) rfl)) ?_
 refine Oy rfl rfl (za yI rfl) ?_
 refine Oy rfl rfl (zb ag4 rfl (k3.cell' (i := 2) rfl)) ?_
 refine Oy rfl rfl ((vf (zd4 bo4 rfl rfl) (by rw [h3]; simp))) ?_
 refine Of rfl (Om rfl ?_)
 refine Oy rfl rfl (za yp rfl) ?_
 refine Oy rfl rfl (zi zcK zcM rfl rfl (zu.of_blk k2 3 [Ii p.seg, Ii p.at'] ⟨[Ii p.beat, .slice pu p.park.length cu], rfl⟩)) ?_
 refine Oy rfl rfl (za yp rfl) ?_
 refine Oy rfl rfl (zi zcK zcM rfl rfl (zu.of_blk k3 3 [Ii q.seg, Ii q.at'] ⟨[Ii q.beat, .slice pv q.park.length cv], rfl⟩)) ?_
 refine Oy rfl rfl (zbO zgh rfl rfl (show _ = some true by rw [zcF, decide_eq_true h4.1, decide_eq_true h4.2]; rfl)) ?_
 refine Of rfl (Om rfl ?_)
 refine Oy rfl rfl (za zaj rfl) ?_
 refine Oy rfl rfl (zb ag3 rfl (k2.cell' (i := 5) rfl)) ?_
 refine Oy rfl rfl (za zaj rfl) ?_
 refine Oy rfl rfl (zb ag3 rfl (k3.cell' (i := 5) rfl)) ?_
 refine Oy rfl rfl (vf (zG rfl rfl) (zau h5)) ?_
 refine Of rfl (Om rfl ?_)
 refine Oy rfl rfl (za zN rfl) ?_
 refine Oy rfl rfl (zb yy rfl (k2.cell' (i := 6) rfl)) ?_
 refine Oy rfl rfl (z4 z6 rfl) ?_
 refine Oy rfl rfl (za zN rfl) ?_
 refine Oy rfl rfl (zb yy rfl (k3.cell' (i := 6) rfl)) ?_
 refine Oy rfl rfl (z4 z6 rfl) ?_
 refine Oy rfl rfl (vf (zG rfl rfl) (zau h6)) ?_
 refine Of rfl (E3 2 3 47 rfl (zf rfl (zq (zh (Sr (Oa rfl (E3 2 3 5 rfl (zn ?_))))))))
 refine ye [2, 3, 5] (fun m F wx => ∃ j : Nat, m = p.park.length - j ∧ j ≤ p.park.length ∧ F = [(2, Pt b2), (3, Pt b3), (5, Ii j)] ∧ p.park.take j = q.park.take j ∧ zm [] w3 wx) (m := p.park.length - 0) ⟨0, rfl, Nat.zero_le _, rfl, by simp, zm.refl _ _⟩ ?_
 rintro m F wx ⟨j, rfl, hj, rfl, heq, hcx⟩
 have k2x := k2.chg0 hcx
 have k3x := k3.chg0 hcx
 have hd : zm [] wx wx.drew := zm.drew [] _
 refine zh (zh ?_)
 by_cases hlt : j < p.park.length
 ·refine zd (Om rfl (Od zN rfl ?_))
  refine Ol yy rfl (k2x.cell' (i := 6) rfl) ?_
  refine On z6 rfl ?_
  refine Og (vt (zE rfl rfl) (by simp; omega)) rfl ?_
  refine E4 2 3 5 52 rfl (zg rfl (zq ?_))
  have hlt2 : j < q.park.length := by omega
  have hx : p.park[j]? = some p.park[j] := by simp [hlt]
  have hy : q.park[j]? = some q.park[j] := by simp [hlt2]
  generalize p.park[j] = x at hx
  generalize q.park[j] = y at hy
  obtain ⟨b, off, cap, hve, hc1⟩ := zF.at (Rd.chg0 hp3 hcx) hx
  cases hve
  obtain ⟨b', off', cap', hve, hc2⟩ := zF.at (Rd.chg0 hq3 hcx) hy
  cases hve
  refine zh (zn (zh ?_))
  by_cases hxy : x = y
  ·refine W_draw (fun wz => zm [] wx wz) mix (by kernel_rfl) hd ?_
   refine Td zN rfl ?_
   refine Tr (fun wz hz => zb yy rfl ((k2x.chg0 hz).cell' (i := 6) rfl)) rfl ?_
   refine Tm rfl ?_
   refine Tp (fun _ => ze z6 sz9 rfl rfl _ rfl hlt) rfl ?_
   refine Tr (fun wz hz => zb yt rfl (hz.cell hc1)) rfl ?_
   refine Td zN rfl ?_
   refine Tr (fun wz hz => zb yy rfl ((k3x.chg0 hz).cell' (i := 6) rfl)) rfl ?_
   refine Tm rfl ?_
   refine Tp (fun _ => ze z6 sz9 rfl rfl _ rfl hlt2) rfl ?_
   refine Tr (fun wz hz => zb yt rfl (hz.cell hc2)) rfl ?_
   refine Tp (fun _ => vf (zai rfl rfl) (by simp [hxy])) rfl ?_
   refine D4 2 3 5 65 rfl (zf rfl (yd (zk (zd (Om rfl ?_)))))
   refine Og (yJ (v' := Ii ((j + 1 : Nat) : Int)) (zR rfl rfl (by omega)) (by congr 1)) rfl ?_
   refine Oa rfl (N3 2 3 5 rfl ?_)
   refine ⟨p.park.length - (j + 1), by omega, j + 1, rfl, by omega, rfl, ?_, hcx.trans hd⟩
   rw [List.take_add_one, List.take_add_one, hx, hy, heq, hxy]
  refine W_draw (fun wz => zm [] wx wz) mix (by kernel_rfl) hd ?_
  refine Td zN rfl ?_
  refine Tr (fun wz hz => zb yy rfl ((k2x.chg0 hz).cell' (i := 6) rfl)) rfl ?_
  refine Tm rfl ?_
  refine Tp (fun _ => ze z6 sz9 rfl rfl _ rfl hlt) rfl ?_
  refine Tr (fun wz hz => zb yt rfl (hz.cell hc1)) rfl ?_
  refine Td zN rfl ?_
  refine Tr (fun wz hz => zb yy rfl ((k3x.chg0 hz).cell' (i := 6) rfl)) rfl ?_
  refine Tm rfl ?_
  refine Tp (fun _ => ze z6 sz9 rfl rfl _ rfl hlt2) rfl ?_
  refine Tr (fun wz hz => zb yt rfl (hz.cell hc2)) rfl ?_
  refine Tp (fun _ => vt (zai rfl rfl) (by simp [hxy])) rfl ?_
  refine D4 2 3 5 65 rfl (zg rfl (Sr (Oa rfl (E1 4 rfl (zj ?_)))))
  repeat first | refine tr ?_ | refine br ?_
  refine zx rfl rfl ?_
  have hne : p ≠ q := fun e => by
   rw [e, hy] at hx
   exact hxy (Option.some.inj hx).symm
  exact ⟨by rw [decide_eq_false hne], (hcc.trans hcx).trans hd⟩
 refine zd (Om rfl (Od zN rfl ?_))
 refine Ol yy rfl (k2x.cell' (i := 6) rfl) ?_
 refine On z6 rfl ?_
 refine Og (vf (zE rfl rfl) (by simp; omega)) rfl ?_
 refine E4 2 3 5 52 rfl (zf rfl ?_)
 refine zP ?_
 repeat first | refine te ?_ | refine bo rfl ?_
 refine zp _ ?_
 refine Sr (Oa rfl (E1 4 rfl (zj ?_)))
 refine zx rfl rfl ?_
 rw [List.take_of_length_le (by omega), List.take_of_length_le (by omega)] at heq
 refine ⟨?_, hcc.trans hcx⟩
 have : p = q := by
  obtain ⟨a1, a2, a3, a4, a5, a6, a7⟩ := p
  obtain ⟨e1, e2, e3, e4, e5, e6, e7⟩ := q
  simp only at h1 h2 h3 h4 h5 heq
  rw [h1, h2, h3, h4.1, h4.2, h5, heq]
 rw [decide_eq_true this]
def zd9 (p : PrT) : Prop := (∀ s ∈ p.park, s.size ≤ 300) ∧ p.park.length ≤ 420 ∧ p.cur.size ≤ 300
instance (p : PrT) : Decidable (zd9 p) := by unfold zd9; infer_instance
theorem zi1 (p : PrT) (u : Value) (w : World) (hp : zbv w u p) : zO TP 4 #[.agg (p.cs u).toArray] w fun r w' => r = .bool (decide (zd9 p)) ∧ zm [] w w' := by
 obtain ⟨pu, cu, rfl, hcu⟩ := Rd.val hp
 have hmx := Rd.max hp
 refine A1 Tryz.func4 rfl rfl ?_
 refine Sr ?_
 refine Ob rfl rfl ?_
 intro b1 w1 e1 n1 c1 k1
 refine Oa rfl (E1 1 rfl ?_)
 have k1 : zV w1 b1 27 (p.cs (.slice pu p.park.length cu)) := k1
 have hp1 : zF w1 _ p.park := Rd.chg0 hp c1
 refine zh (Sr (Oa rfl (E2 1 3 rfl (zn ?_))))
 refine ye [1, 3] (fun m F wx => ∃ j : Nat, m = p.park.length - j ∧ j ≤ p.park.length ∧ j ≤ 421 ∧ F = [(1, Pt b1), (3, Ii j)] ∧ (∀ s ∈ p.park.take j, s.size ≤ 300) ∧ wx = w1) (m := p.park.length - 0) ⟨0, rfl, Nat.zero_le _, by omega, rfl, by simp, rfl⟩ ?_
 rintro m F wx ⟨j, rfl, hj, hj2, rfl, hall, rfl⟩
 refine zh (zh ?_)
 by_cases hlt : j < p.park.length
 ·by_cases h42 : j ≤ 420
  ·refine zd (Om rfl (Od zN rfl ?_))
   refine Ol yy rfl (k1.cell' (i := 6) rfl) ?_
   refine On z6 rfl ?_
   refine Og (vt (zE rfl rfl) (by simp; omega)) rfl ?_
   refine Om rfl (Oj rfl rfl ?_)
   refine Oy rfl rfl (vt (z0 rfl rfl) (by simp; omega)) ?_
   refine Ot rfl (E3 1 3 12 rfl (zg rfl (zq ?_)))
   have hx : p.park[j]? = some p.park[j] := by simp [hlt]
   have htk := List.take_succ_eq_append_getElem hlt
   have hmem := List.getElem_mem hlt
   generalize p.park[j] = x at hx htk hmem
   obtain ⟨b, off, cap, hve, hc1⟩ := zF.at hp1 hx
   cases hve
   refine zh (zn (zh ?_))
   by_cases hs : x.size ≤ 300
   ·refine zd (Od zN rfl ?_)
    refine Ol yy rfl (k1.cell' (i := 6) rfl) ?_
    refine Om rfl ?_
    refine Og (ze z6 sz9 rfl rfl _ rfl hlt) rfl ?_
    refine Ol yt rfl hc1 ?_
    refine Og (zT st9 rfl) rfl ?_
    refine Og (vf (z1 rfl rfl) (by simp; omega)) rfl ?_
    refine E3 1 3 21 rfl (zf rfl (yd (zk (zd (Om rfl ?_)))))
    refine Og (yJ (v' := Ii ((j + 1 : Nat) : Int)) (zR rfl rfl (by omega)) (by congr 1)) rfl ?_
    refine Oa rfl ?_
    refine zdc [1, 3] (F' := [(1, _), (3, _)]) rfl ?_
    refine ⟨p.park.length - (j + 1), by omega, j + 1, rfl, by omega, by omega, rfl, ?_, rfl⟩
    rw [htk]
    intro s hs'
    rcases List.mem_append.1 hs' with h | h
    ·exact hall s h
    simp at h; rw [h]; exact hs
   refine zd (Od zN rfl ?_)
   refine Ol yy rfl (k1.cell' (i := 6) rfl) ?_
   refine Om rfl ?_
   refine Og (ze z6 sz9 rfl rfl _ rfl hlt) rfl ?_
   refine Ol yt rfl hc1 ?_
   refine Og (zT st9 rfl) rfl ?_
   refine Og (vt (z1 rfl rfl) (by simp; omega)) rfl ?_
   refine E3 1 3 21 rfl (zg rfl (Sr (Oa rfl (E1 2 rfl (zj ?_)))))
   repeat first | refine tr ?_ | refine br ?_
   refine zx rfl rfl ?_
   have hne : ¬ zd9 p := fun h => hs (h.1 x hmem)
   exact ⟨by rw [decide_eq_false hne], c1⟩
  refine zd (Om rfl (Od zN rfl ?_))
  refine Ol yy rfl (k1.cell' (i := 6) rfl) ?_
  refine On z6 rfl ?_
  refine Og (vt (zE rfl rfl) (by simp; omega)) rfl ?_
  refine Om rfl (Oj rfl rfl ?_)
  refine Oy rfl rfl (vf (z0 rfl rfl) (by simp; omega)) ?_
  refine Ot rfl (E3 1 3 12 rfl (zf rfl ?_))
  refine zP ?_
  repeat first | refine te ?_ | refine bo rfl ?_
  refine zp _ ?_
  refine Sr (Od zN rfl ?_)
  refine Ol yy rfl (k1.cell' (i := 6) rfl) ?_
  refine On z6 rfl ?_
  refine Og (vf (z0 rfl rfl) (by simp; omega)) rfl ?_
  refine Om rfl (Oz rfl rfl (Oz rfl rfl (Oz rfl rfl (Oz rfl rfl (Of rfl (Oa rfl (E1 2 rfl (zj ?_))))))))
  refine zx rfl rfl ?_
  have hne : ¬ zd9 p := fun h => by have := h.2.1; omega
  exact ⟨by rw [decide_eq_false hne], c1⟩
 refine zd (Om rfl (Od zN rfl ?_))
 refine Ol yy rfl (k1.cell' (i := 6) rfl) ?_
 refine On z6 rfl ?_
 refine Og (vf (zE rfl rfl) (by simp; omega)) rfl ?_
 refine Om rfl (Oz rfl rfl (Oz rfl rfl (Of rfl (E3 1 3 12 rfl (zf rfl ?_)))))
 refine zP ?_
 repeat first | refine te ?_ | refine bo rfl ?_
 refine zp _ ?_
 rw [List.take_of_length_le (by omega)] at hall
 refine zh ?_
 by_cases h1 : p.park.length ≤ 420
 ·by_cases h2 : p.cur.size ≤ 300
  ·refine zd (Od zN rfl ?_)
   refine Ol yy rfl (k1.cell' (i := 6) rfl) ?_
   refine On z6 rfl ?_
   refine Og (vt (z0 rfl rfl) (by simp; omega)) rfl ?_
   refine Om rfl ?_
   refine Oy rfl rfl (za z8 rfl) ?_
   refine Oy rfl rfl (zb yt rfl (k1.cell' (i := 1) rfl)) ?_
   refine Oy rfl rfl (zT st9 rfl) ?_
   refine Oy rfl rfl (vt (z0 rfl rfl) (by simp; omega)) ?_
   refine Ot rfl (Oa rfl (E1 2 rfl (zj ?_)))
   refine zx rfl rfl ?_
   have hh : zd9 p := ⟨hall, h1, h2⟩
   exact ⟨by rw [decide_eq_true hh], c1⟩
  refine zd (Od zN rfl ?_)
  refine Ol yy rfl (k1.cell' (i := 6) rfl) ?_
  refine On z6 rfl ?_
  refine Og (vt (z0 rfl rfl) (by simp; omega)) rfl ?_
  refine Om rfl ?_
  refine Oy rfl rfl (za z8 rfl) ?_
  refine Oy rfl rfl (zb yt rfl (k1.cell' (i := 1) rfl)) ?_
  refine Oy rfl rfl (zT st9 rfl) ?_
  refine Oy rfl rfl (vf (z0 rfl rfl) (by simp; omega)) ?_
  refine Ot rfl (Oa rfl (E1 2 rfl (zj ?_)))
  refine zx rfl rfl ?_
  have hne : ¬ zd9 p := fun h => h2 h.2.2
  exact ⟨by rw [decide_eq_false hne], c1⟩
 refine zd (Od zN rfl ?_)
 refine Ol yy rfl (k1.cell' (i := 6) rfl) ?_
 refine On z6 rfl ?_
 refine Og (vf (z0 rfl rfl) (by simp; omega)) rfl ?_
 refine Om rfl (Oz rfl rfl (Oz rfl rfl (Oz rfl rfl (Oz rfl rfl (Of rfl (Oa rfl (E1 2 rfl (zj ?_))))))))
 refine zx rfl rfl ?_
 have hne : ¬ zd9 p := fun h => h1 h.2.1
 exact ⟨by rw [decide_eq_false hne], c1⟩
def sAt (l : List ByteArray) (i : Nat) : ByteArray := (l[i]?).getD e0
def zbl (l : List ByteArray) (i : Nat) : Bool := decide ((sAt l i).size ≤ 190) && (decide (i = 0) || blt (sAt l (i - 1)) (sAt l i))
def zdz (l : List ByteArray) : Bool := (List.range l.length).all (zbl l)
def hdQ (p : PrT) : Bool := ((((decide (p.ph ≥ 1) && decide (p.ph ≤ 3)) && decide ((p.cur.size : Int) ≤ 190)) && (decide (p.seg ≥ 1) && decide (p.seg ≤ 1099511627776))) && (decide (p.at' ≥ 0) && decide (p.at' ≤ 1099511627776))) && (decide (p.beat ≥ 0) && decide (p.beat ≤ 1099511627776))
def hdP (p : PrT) : Bool := hdQ p && decide ((p.park.length : Int) ≤ 400)
def yN (p : PrT) : Bool := hdP p && zdz p.park
theorem zfZ {f : Nat → Bool} (j : Nat) : (List.range (j + 1)).all f = ((List.range j).all f && f j) := by
 rw [List.range_succ, List.all_append]
 simp
theorem zbT (n m : Int) (w : World) : zO TP 40 #[Ii n, Ii m] w fun r w' => r = .bool (decide (n ≥ m) && decide (n ≤ 1099511627776)) ∧ w' = w := by
 refine A2 Tryz.func40 rfl rfl ?_
 refine Sr (Oa rfl (E2 0 1 rfl (Sr (Om rfl (Om rfl ?_)))))
 refine Og (yw rfl rfl) rfl ?_
 refine Om rfl ?_
 apply zb1 (t := 11)
 case h0 =>
  intro H
  refine Oz rfl rfl (Oz rfl rfl (Of rfl ?_))
  exact yK [9, 10] rfl H
 case h1 =>
  intro hc H
  refine Oj rfl rfl ?_
  refine Oy rfl rfl (z0 rfl rfl) ?_
  refine Ot rfl ?_
  exact yK [9, 10] rfl H
 refine Oa rfl (E1 4 rfl (zj ?_))
 refine zx rfl rfl ?_
 exact ⟨rfl, rfl⟩
theorem zhM (p : PrT) (u : Value) (w : World) (hp : zbv w u p) : zO TP 26 #[.agg (p.cs u).toArray] w fun r w' => r = Ii (if yN p then 0 else 2) ∧ zm [] w w' := by
 obtain ⟨pu, cu, rfl, hcu⟩ := Rd.val hp
 have hmx := Rd.max hp
 simp only [maxLen] at hmx
 refine A1 Tryz.func26 rfl rfl ?_
 refine Sr ?_
 refine Ob rfl rfl ?_
 intro b1 w1 e1 n1 c1 k1
 refine Oa rfl (E1 1 rfl ?_)
 have k1 : zV w1 b1 27 (p.cs (.slice pu p.park.length cu)) := k1
 have hp1 : zF w1 _ p.park := Rd.chg0 hp c1
 refine Sr (Oa rfl (E2 1 3 rfl ?_))
 refine z5 (fun F wx => F = [(1, Pt b1), (4, .bool (hdP p))] ∧ wx = w1) ?_ ?_
 ·refine zd (Od z3 rfl ?_)
  refine Ol zak rfl (k1.cell' (i := 0) rfl) ?_
  refine Og (yw rfl rfl) rfl ?_
  refine Om rfl ?_
  apply zb1 (t := 14)
  case h0 =>
   intro H
   refine Oz rfl rfl (Oz rfl rfl (Oz rfl rfl (Of rfl ?_)))
   exact yK [11, 12, 13] rfl H
  case h1 =>
   intro hc H
   refine Oy rfl rfl (za z3 rfl) ?_
   refine Oy rfl rfl (zb zak rfl (k1.cell' (i := 0) rfl)) ?_
   refine Oy rfl rfl (z0 rfl rfl) ?_
   refine Ot rfl ?_
   exact yK [11, 12, 13] rfl H
  refine Om rfl ?_
  apply zb1 (t := 20)
  case h0 =>
   intro H
   refine Oz rfl rfl (Oz rfl rfl (Oz rfl rfl (Oz rfl rfl (Of rfl ?_))))
   exact yK [16, 17, 18, 19] rfl H
  case h1 =>
   intro hc H
   refine Oy rfl rfl (za z8 rfl) ?_
   refine Oy rfl rfl (zb yt rfl (k1.cell' (i := 1) rfl)) ?_
   refine Oy rfl rfl (zT st9 rfl) ?_
   refine Oy rfl rfl (z0 rfl rfl) ?_
   refine Ot rfl ?_
   exact yK [16, 17, 18, 19] rfl H
  refine Om rfl ?_
  apply zb1 (t := 27)
  case h0 =>
   intro H
   refine Oz rfl rfl (Oz rfl rfl (Oz rfl rfl (Oz rfl rfl (Oz rfl rfl (Of rfl ?_)))))
   exact yK [22, 23, 24, 25, 26] rfl H
  case h1 =>
   intro hc H
   refine Oj rfl rfl ?_
   refine Oy rfl rfl (za yp rfl) ?_
   refine Oy rfl rfl (za zdE rfl) ?_
   refine Oy rfl rfl (zb ag3 rfl (k1.cell' (i := 3) rfl)) ?_
   refine Ow rfl rfl zkK rfl rfl rfl (zbT _ _ _) ?_
   rintro v26 w26 ⟨rfl, rfl⟩
   refine Ot rfl ?_
   exact yK [22, 23, 24, 25, 26] rfl H
  refine Om rfl ?_
  apply zb1 (t := 34)
  case h0 =>
   intro H
   refine Oz rfl rfl (Oz rfl rfl (Oz rfl rfl (Oz rfl rfl (Oz rfl rfl (Of rfl ?_)))))
   exact yK [29, 30, 31, 32, 33] rfl H
  case h1 =>
   intro hc H
   refine Oj rfl rfl ?_
   refine Oy rfl rfl (za yp rfl) ?_
   refine Oy rfl rfl (za zdI rfl) ?_
   refine Oy rfl rfl (zb ag3 rfl (k1.cell' (i := 4) rfl)) ?_
   refine Ow rfl rfl zkK rfl rfl rfl (zbT _ _ _) ?_
   rintro v33 w33 ⟨rfl, rfl⟩
   refine Ot rfl ?_
   exact yK [29, 30, 31, 32, 33] rfl H
  refine Om rfl ?_
  apply zb1 (t := 40)
  case h0 =>
   intro H
   refine Oz rfl rfl (Oz rfl rfl (Oz rfl rfl (Oz rfl rfl (Of rfl ?_))))
   exact yK [36, 37, 38, 39] rfl H
  case h1 =>
   intro hc H
   refine Oj rfl rfl ?_
   refine Oy rfl rfl (za zaj rfl) ?_
   refine Oy rfl rfl (zb ag3 rfl (k1.cell' (i := 5) rfl)) ?_
   refine Ow rfl rfl zkK rfl rfl rfl (zbT _ _ _) ?_
   rintro v39 w39 ⟨rfl, rfl⟩
   refine Ot rfl ?_
   exact yK [36, 37, 38, 39] rfl H
  refine Om rfl ?_
  apply zb1 (t := 46)
  case h0 =>
   intro H
   refine Oz rfl rfl (Oz rfl rfl (Oz rfl rfl (Oz rfl rfl (Of rfl ?_))))
   exact yK [42, 43, 44, 45] rfl H
  case h1 =>
   intro hc H
   refine Oy rfl rfl (za zN rfl) ?_
   refine Oy rfl rfl (zb yy rfl (k1.cell' (i := 6) rfl)) ?_
   refine Oy rfl rfl (z4 z6 rfl) ?_
   refine Oy rfl rfl (z0 rfl rfl) ?_
   refine Ot rfl ?_
   exact yK [42, 43, 44, 45] rfl H
  refine Oa rfl (E2 1 4 rfl ?_)
  exact ⟨rfl, rfl⟩
 rintro F wx ⟨rfl, rfl⟩
 refine zh (Sr (Od zN rfl ?_))
 refine Ol yy rfl (k1.cell' (i := 6) rfl) ?_
 refine On z6 rfl (Om rfl (E5 1 4 48 49 50 rfl (zn ?_)))
 refine ye [1, 4, 48, 49, 50] (fun m F wy => ∃ j : Nat, m = p.park.length - j ∧ j ≤ p.park.length ∧ F = [(1, Pt b1), (4, .bool (hdP p && (List.range j).all (zbl p.park))), (48, .slice pu p.park.length cu), (49, Ii p.park.length), (50, Ii j)] ∧ wy = wx) (m := p.park.length - 0) ⟨0, rfl, Nat.zero_le _, by simp; rfl, rfl⟩ ?_
 rintro m F wy ⟨j, rfl, hj, rfl, rfl⟩
 refine zh ?_
 by_cases hlt : j < p.park.length
 ·refine zd ?_
  refine Og (vt (zE rfl rfl) (by simp; omega)) rfl ?_
  refine E6 1 4 48 49 50 51 rfl (zh (zg rfl (zq ?_)))
  have hx : p.park[j]? = some p.park[j] := by simp [hlt]
  have hsj : sAt p.park j = p.park[j] := by simp [sAt, hlt]
  generalize p.park[j] = x at hx hsj
  obtain ⟨b, off, cap, hve, hc1⟩ := zF.at hp1 hx
  cases hve
  refine zh (zn (Sr (Om rfl ?_)))
  refine Og (ze z6 sz9 rfl rfl _ rfl hlt) rfl ?_
  refine Ol yt rfl hc1 ?_
  refine Oa rfl (Oa rfl (E7 1 4 5 6 48 49 50 rfl ?_))
  have hst := zfZ (f := zbl p.park) j
  cases hf : (hdP p && (List.range j).all (zbl p.park)) with
  | false =>
   refine zd (Om rfl (Om rfl (Oz rfl rfl (Oz rfl rfl (Oz rfl rfl (Of rfl (Om rfl (Oz rfl rfl (Oz rfl rfl (Oz rfl rfl ?_))))))))))
   refine zt rfl rfl rfl rfl rfl ?_
   refine zt rfl rfl rfl rfl rfl ?_
   refine zt rfl rfl rfl rfl rfl ?_
   refine zt rfl rfl rfl rfl rfl ?_
   refine zt rfl rfl rfl rfl rfl ?_
   refine zt rfl rfl rfl rfl rfl ?_
   refine zt rfl rfl rfl rfl rfl ?_
   refine zt rfl rfl rfl rfl rfl ?_
   refine Oz rfl rfl (Of rfl (Oa rfl (N5 1 4 48 49 50 rfl (zk (zd ?_)))))
   refine Og (yJ (v' := Ii ((j + 1 : Nat) : Int)) (zR rfl rfl (by omega)) (by congr 1)) rfl ?_
   refine Om rfl (N5 1 4 48 49 50 rfl ?_)
   refine ⟨p.park.length - (j + 1), by omega, j + 1, rfl, by omega, ?_, rfl⟩
   rw [hst, ← Bool.and_assoc, hf]
   rfl
  | true =>
   by_cases hs : x.size ≤ 190
   ·by_cases h0 : j = 0
    ·refine zd (Om rfl (Om rfl (Oj rfl rfl ?_)))
     refine Oy rfl rfl (zT st9 rfl) ?_
     refine Oy rfl rfl (vt (z0 rfl rfl) (by simp; omega)) ?_
     refine Ot rfl (Om rfl (Oj rfl rfl ?_))
     refine Oy rfl rfl (vt (zw rfl rfl) (by simp; omega)) ?_
     refine Oj rfl rfl (Oz rfl rfl (Oz rfl rfl (Oz rfl rfl (Oz rfl rfl (Oz rfl rfl (Oz rfl rfl (Oz rfl rfl (Oz rfl rfl ?_))))))))
     refine Oy rfl rfl (zy rfl rfl) ?_
     refine Ot rfl (Oa rfl (N5 1 4 48 49 50 rfl (zk (zd ?_))))
     refine Og (yJ (v' := Ii ((j + 1 : Nat) : Int)) (zR rfl rfl (by omega)) (by congr 1)) rfl ?_
     refine Om rfl (N5 1 4 48 49 50 rfl ?_)
     refine ⟨p.park.length - (j + 1), by omega, j + 1, rfl, by omega, ?_, rfl⟩
     rw [hst, ← Bool.and_assoc, hf]
     have : zbl p.park j = true := by subst h0; simp [zbl, hsj, hs]
     rw [this]
     rfl
    have hlt' : j - 1 < p.park.length := by omega
    have hy : p.park[j - 1]? = some p.park[j - 1] := by simp [hlt']
    have hsy : sAt p.park (j - 1) = p.park[j - 1] := by simp [sAt, hlt']
    generalize p.park[j - 1] = y at hy hsy
    obtain ⟨b', off', cap', hve, hc2⟩ := zF.at hp1 hy
    cases hve
    refine zd (Om rfl (Om rfl (Oj rfl rfl ?_)))
    refine Oy rfl rfl (zT st9 rfl) ?_
    refine Oy rfl rfl (vt (z0 rfl rfl) (by simp; omega)) ?_
    refine Ot rfl (Om rfl (Oj rfl rfl ?_))
    refine Oy rfl rfl (vf (zw rfl rfl) (by simp; omega)) ?_
    refine Oj rfl rfl ?_
    refine Oy rfl rfl (za zN rfl) ?_
    refine Oy rfl rfl (zb yy rfl (k1.cell' (i := 6) rfl)) ?_
    refine Oj rfl rfl ?_
    refine Oy rfl rfl (yJ (v' := Ii ((j - 1 : Nat) : Int)) (zam rfl rfl (by omega)) (by congr 1 <;> omega)) ?_
    refine Oy rfl rfl (ze z6 sz9 rfl rfl _ rfl hlt') ?_
    refine Oy rfl rfl (zb yt rfl hc2) ?_
    refine Oj rfl rfl ?_
    refine Oy rfl rfl (zc9 rfl rfl) ?_
    refine Oy rfl rfl (zz rfl rfl) ?_
    refine Ot rfl (Oa rfl (N5 1 4 48 49 50 rfl (zk (zd ?_))))
    refine Og (yJ (v' := Ii ((j + 1 : Nat) : Int)) (zR rfl rfl (by omega)) (by congr 1)) rfl ?_
    refine Om rfl (N5 1 4 48 49 50 rfl ?_)
    refine ⟨p.park.length - (j + 1), by omega, j + 1, rfl, by omega, ?_, rfl⟩
    rw [hst, ← Bool.and_assoc, hf]
    have : zbl p.park j = blt y x := by simp [zbl, hsj, hsy, hs, h0]
    rw [this]
    rfl
   refine zd (Om rfl (Om rfl (Oj rfl rfl ?_)))
   refine Oy rfl rfl (zT st9 rfl) ?_
   refine Oy rfl rfl (vf (z0 rfl rfl) (by simp; omega)) ?_
   refine Ot rfl (Om rfl (Oz rfl rfl (Oz rfl rfl (Oz rfl rfl ?_))))
   refine zt rfl rfl rfl rfl rfl ?_
   refine zt rfl rfl rfl rfl rfl ?_
   refine zt rfl rfl rfl rfl rfl ?_
   refine zt rfl rfl rfl rfl rfl ?_
   refine zt rfl rfl rfl rfl rfl ?_
   refine zt rfl rfl rfl rfl rfl ?_
   refine zt rfl rfl rfl rfl rfl ?_
   refine zt rfl rfl rfl rfl rfl ?_
   refine Oz rfl rfl (Of rfl (Oa rfl (N5 1 4 48 49 50 rfl (zk (zd ?_)))))
   refine Og (yJ (v' := Ii ((j + 1 : Nat) : Int)) (zR rfl rfl (by omega)) (by congr 1)) rfl ?_
   refine Om rfl (N5 1 4 48 49 50 rfl ?_)
   refine ⟨p.park.length - (j + 1), by omega, j + 1, rfl, by omega, ?_, rfl⟩
   rw [hst, ← Bool.and_assoc, hf]
   have : zbl p.park j = false := by simp only [zbl, hsj, decide_eq_false hs, Bool.false_and]
   rw [this]
   rfl
 refine zd ?_
 refine Og (vf (zE rfl rfl) (by simp; omega)) rfl ?_
 refine E6 1 4 48 49 50 51 rfl (zh (zf rfl ?_))
 refine zP ?_
 repeat first | refine te ?_ | refine bo rfl ?_
 refine zp _ ?_
 have hje : j = p.park.length := by omega
 subst hje
 refine zh (zh ?_)
 cases hf : (hdP p && (List.range p.park.length).all (zbl p.park)) with
 | false =>
  have hc : yN p = false := hf
  refine zd (Om rfl (Og (zL rfl) rfl (E1 77 rfl (zg rfl (Sr (Oa rfl (E1 2 rfl (zj ?_))))))))
  repeat first | refine tr ?_ | refine br ?_
  refine zx rfl rfl ?_
  rw [hc]
  exact ⟨rfl, c1⟩
 | true =>
  have hc : yN p = true := hf
  refine zd (Om rfl (Og (zL rfl) rfl (E1 77 rfl (zf rfl (zq (Sr (Oa rfl (E1 2 rfl (zj ?_)))))))))
  refine zx rfl rfl ?_
  rw [hc]
  exact ⟨rfl, c1⟩
theorem zhn (p : PrT) (u : Value) (w : World) (hp : zbv w u p) : zO TP 36 #[.agg (p.cs u).toArray] w fun r w' => r = .bool (yN p) ∧ zm [] w w' := by
 obtain ⟨pu, cu, rfl, hcu⟩ := Rd.val hp
 have hmx := Rd.max hp
 simp only [maxLen] at hmx
 refine A1 Tryz.func36 rfl rfl ?_
 refine Sr ?_
 refine Ob rfl rfl ?_
 intro b1 w1 e1 n1 c1 k1
 refine Oa rfl (E1 1 rfl ?_)
 have k1 : zV w1 b1 27 (p.cs (.slice pu p.park.length cu)) := k1
 have hp1 : zF w1 _ p.park := Rd.chg0 hp c1
 refine Sr (Od z3 rfl ?_)
 refine Ol zak rfl (k1.cell' (i := 0) rfl) ?_
 refine Oa rfl (E2 1 3 rfl (zh ?_))
 refine z5 (fun F wx => ∃ z : Bool, F = [(1, Pt b1), (52, .bool z)] ∧ z = !hdQ p ∧ wx = w1) ?_ ?_
 ·refine zd (Om rfl (Og (zE rfl rfl) rfl (Om rfl ?_)))
  apply zef (t := 12)
  case h0 =>
   intro H
   refine Oz rfl rfl (Oz rfl rfl (Ot rfl ?_))
   exact yK [10, 11] rfl H
  case h1 =>
   intro hc H
   refine Oj rfl rfl ?_
   refine Oy rfl rfl (z1 rfl rfl) ?_
   refine Of rfl ?_
   exact yK [10, 11] rfl H
  refine Om rfl ?_
  apply zef (t := 18)
  case h0 =>
   intro H
   refine Oz rfl rfl (Oz rfl rfl (Oz rfl rfl (Oz rfl rfl (Ot rfl ?_))))
   exact yK [14, 15, 16, 17] rfl H
  case h1 =>
   intro hc H
   refine Oy rfl rfl (za z8 rfl) ?_
   refine Oy rfl rfl (zb yt rfl (k1.cell' (i := 1) rfl)) ?_
   refine Oy rfl rfl (zT st9 rfl) ?_
   refine Oy rfl rfl (z1 rfl rfl) ?_
   refine Of rfl ?_
   exact yK [14, 15, 16, 17] rfl H
  refine Om rfl ?_
  apply zef (t := 24)
  case h0 =>
   intro H
   refine Oz rfl rfl (Oz rfl rfl (Oz rfl rfl (Oz rfl rfl (Ot rfl ?_))))
   exact yK [20, 21, 22, 23] rfl H
  case h1 =>
   intro hc H
   refine Oy rfl rfl (za yp rfl) ?_
   refine Oy rfl rfl (za zdE rfl) ?_
   refine Oy rfl rfl (zb ag3 rfl (k1.cell' (i := 3) rfl)) ?_
   refine Oy rfl rfl (zE rfl rfl) ?_
   refine Of rfl ?_
   exact yK [20, 21, 22, 23] rfl H
  refine Om rfl ?_
  apply zef (t := 30)
  case h0 =>
   intro H
   refine Oz rfl rfl (Oz rfl rfl (Oz rfl rfl (Oz rfl rfl (Ot rfl ?_))))
   exact yK [26, 27, 28, 29] rfl H
  case h1 =>
   intro hc H
   refine Oy rfl rfl (za yp rfl) ?_
   refine Oy rfl rfl (za zdE rfl) ?_
   refine Oy rfl rfl (zb ag3 rfl (k1.cell' (i := 3) rfl)) ?_
   refine Oy rfl rfl (z1 rfl rfl) ?_
   refine Of rfl ?_
   exact yK [26, 27, 28, 29] rfl H
  refine Om rfl ?_
  apply zef (t := 36)
  case h0 =>
   intro H
   refine Oz rfl rfl (Oz rfl rfl (Oz rfl rfl (Oz rfl rfl (Ot rfl ?_))))
   exact yK [32, 33, 34, 35] rfl H
  case h1 =>
   intro hc H
   refine Oy rfl rfl (za yp rfl) ?_
   refine Oy rfl rfl (za zdI rfl) ?_
   refine Oy rfl rfl (zb ag3 rfl (k1.cell' (i := 4) rfl)) ?_
   refine Oy rfl rfl (zE rfl rfl) ?_
   refine Of rfl ?_
   exact yK [32, 33, 34, 35] rfl H
  refine Om rfl ?_
  apply zef (t := 42)
  case h0 =>
   intro H
   refine Oz rfl rfl (Oz rfl rfl (Oz rfl rfl (Oz rfl rfl (Ot rfl ?_))))
   exact yK [38, 39, 40, 41] rfl H
  case h1 =>
   intro hc H
   refine Oy rfl rfl (za yp rfl) ?_
   refine Oy rfl rfl (za zdI rfl) ?_
   refine Oy rfl rfl (zb ag3 rfl (k1.cell' (i := 4) rfl)) ?_
   refine Oy rfl rfl (z1 rfl rfl) ?_
   refine Of rfl ?_
   exact yK [38, 39, 40, 41] rfl H
  refine Om rfl ?_
  apply zef (t := 47)
  case h0 =>
   intro H
   refine Oz rfl rfl (Oz rfl rfl (Oz rfl rfl (Ot rfl ?_)))
   exact yK [44, 45, 46] rfl H
  case h1 =>
   intro hc H
   refine Oy rfl rfl (za zaj rfl) ?_
   refine Oy rfl rfl (zb ag3 rfl (k1.cell' (i := 5) rfl)) ?_
   refine Oy rfl rfl (zE rfl rfl) ?_
   refine Of rfl ?_
   exact yK [44, 45, 46] rfl H
  refine Om rfl ?_
  apply zef (t := 52)
  case h0 =>
   intro H
   refine Oz rfl rfl (Oz rfl rfl (Oz rfl rfl (Ot rfl ?_)))
   exact yK [49, 50, 51] rfl H
  case h1 =>
   intro hc H
   refine Oy rfl rfl (za zaj rfl) ?_
   refine Oy rfl rfl (zb ag3 rfl (k1.cell' (i := 5) rfl)) ?_
   refine Oy rfl rfl (z1 rfl rfl) ?_
   refine Of rfl ?_
   exact yK [49, 50, 51] rfl H
  refine E2 1 52 rfl ?_
  refine ⟨_, rfl, ?_, rfl⟩
  unfold hdQ
  rw [Bool.eq_iff_iff]
  simp only [Bool.or_eq_true, decide_eq_true_eq, Bool.not_eq_true', Bool.and_eq_false_iff, decide_eq_false_iff_not]
  omega
 rintro F wx ⟨z, rfl, rfl, rfl⟩
 cases hq : hdQ p with
 | false =>
  refine zg rfl (Sr (Oa rfl (E1 2 rfl (zj ?_))))
  repeat first | refine tr ?_ | refine br ?_
  refine zx rfl rfl ?_
  have : yN p = false := by simp [yN, hdP, hq]
  exact ⟨by rw [this], c1⟩
 | true =>
  refine zf rfl (zq (zh (Sr (Oa rfl (E2 1 4 rfl (zn ?_))))))
  refine ye [1, 4] (fun m F wy => ∃ j : Nat, m = p.park.length - j ∧ j ≤ p.park.length ∧ j ≤ 401 ∧ F = [(1, Pt b1), (4, Ii j)] ∧ (List.range j).all (zbl p.park) = true ∧ zm [] wx wy) (m := p.park.length - 0) ⟨0, rfl, Nat.zero_le _, by omega, rfl, rfl, zm.refl _ _⟩ ?_
  rintro m F wy ⟨j, rfl, hj, hj4, rfl, hall, hcy⟩
  have k1 := k1.chg0 hcy
  have hp1 : zF wy _ p.park := Rd.chg0 hp1 hcy
  refine zh (zh ?_)
  by_cases hlt : j < p.park.length
  ·by_cases h40 : j ≤ 400
   ·refine zd (Om rfl (Od zN rfl ?_))
    refine Ol yy rfl (k1.cell' (i := 6) rfl) ?_
    refine On z6 rfl ?_
    refine Og (vt (zE rfl rfl) (by simp; omega)) rfl ?_
    refine Om rfl (Oj rfl rfl ?_)
    refine Oy rfl rfl (vt (z0 rfl rfl) (by simp; omega)) ?_
    refine Ot rfl (E3 1 4 61 rfl (zg rfl (zq ?_)))
    have hx : p.park[j]? = some p.park[j] := by simp [hlt]
    have hsj : sAt p.park j = p.park[j] := by simp [sAt, hlt]
    generalize p.park[j] = x at hx hsj
    obtain ⟨b, off, cap, hve, hc1⟩ := zF.at hp1 hx
    cases hve
    have hst := zfZ (f := zbl p.park) j
    have hd : zm [] wy wy.drew := zm.drew [] _
    have hbad : zbl p.park j = false → yN p = false := fun h => by
     have h1 : zdz p.park = false := by
      rw [zdz, List.all_eq_false]
      exact ⟨j, List.mem_range.2 hlt, by rw [h]; simp⟩
     rw [yN, h1, Bool.and_false]
    refine zh (zn (zh ?_))
    by_cases hs : x.size ≤ 190
    ·by_cases h0 : j = 0
     ·refine W_draw (fun wz => zm [] wy wz) mix (yX (by kernel_rfl)) hd ?_
      refine Td zN rfl ?_
      refine Tr (fun wz hz => zb yy rfl ((k1.chg0 hz).cell' (i := 6) rfl)) rfl ?_
      refine Tm rfl ?_
      refine Tp (fun _ => ze z6 sz9 rfl rfl _ rfl hlt) rfl ?_
      refine Tr (fun wz hz => zb yt rfl (hz.cell hc1)) rfl ?_
      refine Tp (fun _ => zT st9 rfl) rfl ?_
      refine Tp (fun _ => vf (z1 rfl rfl) (by simp; omega)) rfl ?_
      refine Tm rfl (Tq rfl rfl rfl ?_)
      refine Tg rfl rfl (fun _ => vf (z1 rfl rfl) (by simp; omega)) rfl ?_
      refine Tq rfl rfl rfl (Tz rfl rfl (Tz rfl rfl (Tz rfl rfl (Tz rfl rfl (Tz rfl rfl (Tz rfl rfl (Tz rfl rfl (Tz rfl rfl (Tz rfl rfl (Tz rfl rfl (Tz rfl rfl (Tz rfl rfl ?_))))))))))))
      refine Tg rfl rfl (fun _ => zz rfl rfl) rfl ?_
      refine Tp (fun _ => zz rfl rfl) rfl ?_
      refine D3 1 4 88 rfl (zf rfl (yd (zk (zd (Om rfl ?_)))))
      refine Og (yJ (v' := Ii ((j + 1 : Nat) : Int)) (zR rfl rfl (by omega)) (by congr 1)) rfl ?_
      refine Oa rfl ?_
      refine zdc [1, 4] (F' := [(1, _), (4, _)]) rfl ?_
      refine ⟨p.park.length - (j + 1), by omega, j + 1, rfl, by omega, by omega, rfl, ?_, hcy.trans hd⟩
      have : zbl p.park j = true := by subst h0; simp [zbl, hsj, hs]
      rw [hst, hall, this]
      rfl
     have hlt' : j - 1 < p.park.length := by omega
     have hy : p.park[j - 1]? = some p.park[j - 1] := by simp [hlt']
     have hsy : sAt p.park (j - 1) = p.park[j - 1] := by simp [sAt, hlt']
     generalize p.park[j - 1] = y at hy hsy
     obtain ⟨b', off', cap', hve, hc2⟩ := zF.at hp1 hy
     cases hve
     have hok : zbl p.park j = blt y x := by simp [zbl, hsj, hsy, hs, h0]
     cases hb : blt y x with
     | true =>
      refine W_draw (fun wz => zm [] wy wz) mix (yX (by kernel_rfl)) hd ?_
      refine Td zN rfl ?_
      refine Tr (fun wz hz => zb yy rfl ((k1.chg0 hz).cell' (i := 6) rfl)) rfl ?_
      refine Tm rfl ?_
      refine Tp (fun _ => ze z6 sz9 rfl rfl _ rfl hlt) rfl ?_
      refine Tr (fun wz hz => zb yt rfl (hz.cell hc1)) rfl ?_
      refine Tp (fun _ => zT st9 rfl) rfl ?_
      refine Tp (fun _ => vf (z1 rfl rfl) (by simp; omega)) rfl ?_
      refine Tm rfl (Tq rfl rfl rfl ?_)
      refine Tg rfl rfl (fun _ => vt (z1 rfl rfl) (by simp; omega)) rfl ?_
      refine Tq rfl rfl rfl ?_
      refine Tg rfl rfl (fun _ => za zN rfl) rfl ?_
      refine Ts rfl rfl (fun wz hz => zb yy rfl ((k1.chg0 hz).cell' (i := 6) rfl)) rfl ?_
      refine Tq rfl rfl rfl ?_
      refine Tg rfl rfl (fun _ => yJ (v' := Ii ((j - 1 : Nat) : Int)) (zam rfl rfl (by omega)) (by congr 1 <;> omega)) rfl ?_
      refine Tg rfl rfl (fun _ => ze z6 sz9 rfl rfl _ rfl hlt') rfl ?_
      refine Ts rfl rfl (fun wz hz => zb yt rfl (hz.cell hc2)) rfl ?_
      refine Tg rfl rfl (fun _ => za zN rfl) rfl ?_
      refine Ts rfl rfl (fun wz hz => zb yy rfl ((k1.chg0 hz).cell' (i := 6) rfl)) rfl ?_
      refine Tq rfl rfl rfl ?_
      refine Tg rfl rfl (fun _ => ze z6 sz9 rfl rfl _ rfl hlt) rfl ?_
      refine Ts rfl rfl (fun wz hz => zb yt rfl (hz.cell hc1)) rfl ?_
      refine Tg rfl rfl (fun _ => vf (ziu rfl rfl) (by rw [hb]; rfl)) rfl ?_
      refine Tg rfl rfl (fun _ => zy rfl rfl) rfl ?_
      refine Tp (fun _ => zz rfl rfl) rfl ?_
      refine D3 1 4 88 rfl (zf rfl (yd (zk (zd (Om rfl ?_)))))
      refine Og (yJ (v' := Ii ((j + 1 : Nat) : Int)) (zR rfl rfl (by omega)) (by congr 1)) rfl ?_
      refine Oa rfl ?_
      refine zdc [1, 4] (F' := [(1, _), (4, _)]) rfl ?_
      refine ⟨p.park.length - (j + 1), by omega, j + 1, rfl, by omega, by omega, rfl, ?_, hcy.trans hd⟩
      rw [hst, hall, hok, hb]
      rfl
     | false =>
      refine W_draw (fun wz => zm [] wy wz) mix (yX (by kernel_rfl)) hd ?_
      refine Td zN rfl ?_
      refine Tr (fun wz hz => zb yy rfl ((k1.chg0 hz).cell' (i := 6) rfl)) rfl ?_
      refine Tm rfl ?_
      refine Tp (fun _ => ze z6 sz9 rfl rfl _ rfl hlt) rfl ?_
      refine Tr (fun wz hz => zb yt rfl (hz.cell hc1)) rfl ?_
      refine Tp (fun _ => zT st9 rfl) rfl ?_
      refine Tp (fun _ => vf (z1 rfl rfl) (by simp; omega)) rfl ?_
      refine Tm rfl (Tq rfl rfl rfl ?_)
      refine Tg rfl rfl (fun _ => vt (z1 rfl rfl) (by simp; omega)) rfl ?_
      refine Tq rfl rfl rfl ?_
      refine Tg rfl rfl (fun _ => za zN rfl) rfl ?_
      refine Ts rfl rfl (fun wz hz => zb yy rfl ((k1.chg0 hz).cell' (i := 6) rfl)) rfl ?_
      refine Tq rfl rfl rfl ?_
      refine Tg rfl rfl (fun _ => yJ (v' := Ii ((j - 1 : Nat) : Int)) (zam rfl rfl (by omega)) (by congr 1 <;> omega)) rfl ?_
      refine Tg rfl rfl (fun _ => ze z6 sz9 rfl rfl _ rfl hlt') rfl ?_
      refine Ts rfl rfl (fun wz hz => zb yt rfl (hz.cell hc2)) rfl ?_
      refine Tg rfl rfl (fun _ => za zN rfl) rfl ?_
      refine Ts rfl rfl (fun wz hz => zb yy rfl ((k1.chg0 hz).cell' (i := 6) rfl)) rfl ?_
      refine Tq rfl rfl rfl ?_
      refine Tg rfl rfl (fun _ => ze z6 sz9 rfl rfl _ rfl hlt) rfl ?_
      refine Ts rfl rfl (fun wz hz => zb yt rfl (hz.cell hc1)) rfl ?_
      refine Tg rfl rfl (fun _ => vt (ziu rfl rfl) (by rw [hb]; rfl)) rfl ?_
      refine Tg rfl rfl (fun _ => zy rfl rfl) rfl ?_
      refine Tp (fun _ => zz rfl rfl) rfl ?_
      refine D3 1 4 88 rfl (zg rfl (Sr (Oa rfl (E1 2 rfl (zj ?_)))))
      repeat first | refine tr ?_ | refine br ?_
      refine zx rfl rfl ?_
      exact ⟨by rw [hbad (hok.trans hb)], (c1.trans hcy).trans hd⟩
    have hok : zbl p.park j = false := by simp only [zbl, hsj, decide_eq_false hs, Bool.false_and]
    refine W_draw (fun wz => zm [] wy wz) mix (yX (by kernel_rfl)) hd ?_
    refine Td zN rfl ?_
    refine Tr (fun wz hz => zb yy rfl ((k1.chg0 hz).cell' (i := 6) rfl)) rfl ?_
    refine Tm rfl ?_
    refine Tp (fun _ => ze z6 sz9 rfl rfl _ rfl hlt) rfl ?_
    refine Tr (fun wz hz => zb yt rfl (hz.cell hc1)) rfl ?_
    refine Tp (fun _ => zT st9 rfl) rfl ?_
    refine Tp (fun _ => vt (z1 rfl rfl) (by simp; omega)) rfl ?_
    refine Tm rfl (Tz rfl rfl (Tz rfl rfl (Tz rfl rfl ?_)))
    refine y8 rfl rfl rfl rfl rfl ?_
    refine y8 rfl rfl rfl rfl rfl ?_
    refine y8 rfl rfl rfl rfl rfl ?_
    refine y8 rfl rfl rfl rfl rfl ?_
    refine y8 rfl rfl rfl rfl rfl ?_
    refine y8 rfl rfl rfl rfl rfl ?_
    refine y8 rfl rfl rfl rfl rfl ?_
    refine y8 rfl rfl rfl rfl rfl ?_
    refine y8 rfl rfl rfl rfl rfl ?_
    refine y8 rfl rfl rfl rfl rfl ?_
    refine y8 rfl rfl rfl rfl rfl ?_
    refine y8 rfl rfl rfl rfl rfl ?_
    refine Tz rfl rfl ?_
    refine Tp (fun _ => zy rfl rfl) rfl ?_
    refine D3 1 4 88 rfl (zg rfl (Sr (Oa rfl (E1 2 rfl (zj ?_)))))
    repeat first | refine tr ?_ | refine br ?_
    refine zx rfl rfl ?_
    exact ⟨by rw [hbad hok], (c1.trans hcy).trans hd⟩
   refine zd (Om rfl (Od zN rfl ?_))
   refine Ol yy rfl (k1.cell' (i := 6) rfl) ?_
   refine On z6 rfl ?_
   refine Og (vt (zE rfl rfl) (by simp; omega)) rfl ?_
   refine Om rfl (Oj rfl rfl ?_)
   refine Oy rfl rfl (vf (z0 rfl rfl) (by simp; omega)) ?_
   refine Ot rfl (E3 1 4 61 rfl (zf rfl ?_))
   refine zP ?_
   repeat first | refine te ?_ | refine bo rfl ?_
   refine zp _ ?_
   refine Sr (Od zN rfl ?_)
   refine Ol yy rfl (k1.cell' (i := 6) rfl) ?_
   refine On z6 rfl ?_
   refine Og (vf (z0 rfl rfl) (by simp; omega)) rfl ?_
   refine Oa rfl (E1 2 rfl (zj ?_))
   refine zx rfl rfl ?_
   have : yN p = false := by
    have h1 : hdP p = false := by rw [hdP, decide_eq_false (by omega), Bool.and_false]
    rw [yN, h1, Bool.false_and]
   exact ⟨by rw [this], c1.trans hcy⟩
  refine zd (Om rfl (Od zN rfl ?_))
  refine Ol yy rfl (k1.cell' (i := 6) rfl) ?_
  refine On z6 rfl ?_
  refine Og (vf (zE rfl rfl) (by simp; omega)) rfl ?_
  refine Om rfl (Oz rfl rfl (Oz rfl rfl (Of rfl (E3 1 4 61 rfl (zf rfl ?_)))))
  refine zP ?_
  repeat first | refine te ?_ | refine bo rfl ?_
  refine zp _ ?_
  have hje : j = p.park.length := by omega
  subst hje
  refine Sr (Od zN rfl ?_)
  refine Ol yy rfl (k1.cell' (i := 6) rfl) ?_
  refine On z6 rfl ?_
  refine Og (z0 rfl rfl) rfl ?_
  refine Oa rfl (E1 2 rfl (zj ?_))
  refine zx rfl rfl ?_
  refine ⟨?_, c1.trans hcy⟩
  have h2 : zdz p.park = true := hall
  rw [yN, h2, hdP, hq, Bool.true_and, Bool.and_true]
end Go.Wk
