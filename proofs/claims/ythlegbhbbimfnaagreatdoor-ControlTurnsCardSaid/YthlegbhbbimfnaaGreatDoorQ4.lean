/- joined texts -/
import Derived.Test.YthlegbhbbimfnaaGreatDoorQ3
import Derived.Laws.RangeString
import Derived.Laws.RangeAny
set_option linter.all false
namespace Go.Wk
open Go.Proofs
set_option maxRecDepth 10000
theorem zeR (n : Nat) : IntKind.u8.wrap (n : Int) = ((n % 256 : Nat) : Int) := by
 simp only [IntKind.wrap, IntKind.bits, IntKind.signed]
 simp
theorem zh0 {n : Nat} (h : n < 9223372036854775808) : IntKind.i64.wrap (n : Int) = (n : Int) := IntWalk.i64_in _ ⟨by omega, by omega⟩
theorem zmI (n m : Nat) : (n : Int).fdiv (m : Int) = ((n / m : Nat) : Int) := by
 rw [Int.fdiv_eq_ediv_of_nonneg _ (by omega)]; omega
theorem zgD (n m : Nat) : (n : Int).fdiv (2 ^ m) = ((n / 2 ^ m : Nat) : Int) := by
 rw [show ((2 : Int) ^ m) = ((2 ^ m : Nat) : Int) by simp]
 exact zmI _ _
def zbs (n L : Nat) : Prop := ∀ k, L ≤ k ↔ n < 2 ^ k
theorem zbs.shift {n L : Nat} (s : Nat) (h : zbs (n / 2 ^ s) L) (hn : 2 ^ s ≤ n) : zbs n (L + s) := by
 intro k
 rcases Nat.lt_or_ge k s with hk | hk
 ·have := Nat.pow_lt_pow_right (a := 2) (by omega) hk
  constructor <;> intro _ <;> omega
 obtain ⟨j, rfl⟩ := Nat.exists_eq_add_of_le hk
 rw [Nat.pow_add, Nat.mul_comm, ← Nat.div_lt_iff_lt_mul (Nat.two_pow_pos s), ← h j]
 omega
theorem zit {n L : Nat} (h1 : n < 2 ^ L) (h2 : L = 0 ∨ 2 ^ (L - 1) ≤ n) : zbs n L := by
 intro k
 constructor
 ·intro h
  exact Nat.lt_of_lt_of_le h1 (Nat.pow_le_pow_right (by omega) h)
 intro h
 rcases Nat.lt_or_ge k L with hk | hk
 ·rcases h2 with rfl | h2
  ·omega
  have : 2 ^ k ≤ 2 ^ (L - 1) := Nat.pow_le_pow_right (by omega) (by omega)
  omega
 exact hk
def z7 (n : Nat) : Nat := if n < 1 then 0 else if n < 256 then 1 else if n < 65536 then 2 else if n < 16777216 then 3 else if n < 4294967296 then 4 else if n < 1099511627776 then 5 else if n < 281474976710656 then 6 else if n < 72057594037927936 then 7 else 8
theorem zdR (n : Nat) : z7 n ≤ 8 := by unfold z7; split <;> (try split) <;> (try split) <;> (try split) <;> (try split) <;> (try split) <;> (try split) <;> (try split) <;> omega
theorem zaX {n k : Nat} (hn : n < 18446744073709551616) : z7 n ≤ k ↔ n < 256 ^ k := by
 have e : ∀ j, 8 ≤ j → n < 256 ^ j := fun j hj => Nat.lt_of_lt_of_le hn (by
  have : 256 ^ 8 ≤ 256 ^ j := Nat.pow_le_pow_right (by omega) hj
  simpa using this)
 rcases Nat.lt_or_ge k 8 with hk | hk
 ·have hc : k = 0 ∨ k = 1 ∨ k = 2 ∨ k = 3 ∨ k = 4 ∨ k = 5 ∨ k = 6 ∨ k = 7 := by omega
  unfold z7
  rcases hc with rfl | rfl | rfl | rfl | rfl | rfl | rfl | rfl <;> simp only [Nat.reducePow] <;> (repeat' split) <;> omega
 have := zdR n
 have := e k hk
 exact ⟨fun _ => this, fun _ => by omega⟩
theorem zfH {n L : Nat} (hn : n < 18446744073709551616) (h : zbs n L) : (L + 8 - 1) / 8 = z7 n := by
 have h1 : ∀ k, (L + 8 - 1) / 8 ≤ k ↔ z7 n ≤ k := fun k => by
  rw [zaX hn, show (256 : Nat) = 2 ^ 8 by rfl, ← Nat.pow_mul, ← h (8 * k)]
  omega
 have h2 := (h1 (z7 n)).2 (Nat.le_refl _)
 have h3 := (h1 ((L + 8 - 1) / 8)).1 (Nat.le_refl _)
 omega
def zgq : List UInt8 := (List.range 256).map fun i => UInt8.ofNat (if i = 0 then 0 else i.log2 + 1)
theorem zkX : ∀ x : Fin 256, x.val < 2 ^ (zgq[x.val]?.getD 0).toNat ∧ ((zgq[x.val]?.getD 0).toNat = 0 ∨ 2 ^ ((zgq[x.val]?.getD 0).toNat - 1) ≤ x.val) ∧ (zgq[x.val]?).isSome = true := by decide
theorem zlt {l : Array UInt8} {x : Nat} {b : UInt8} (h : l.toList = zgq) (ho : zgq[x]? = some b) : l[x]? = some b := by rw [← Array.getElem?_toList, h]; exact ho
theorem zka (n : Nat) (w : World) (hn : n < 18446744073709551616) : zO TP 93 #[.int .u64 n] w fun r w' => ∃ L : Nat, r = Ii L ∧ zbs n L ∧ L ≤ 64 ∧ w' = w := by
 refine A1 Tryz.func93 rfl rfl ?_
 refine Sr (Oa rfl (E2 0 2 rfl ?_))
 refine z5 (fun F wx => wx = w ∧ ∃ x t : Nat, F = [(0, .int .u64 x), (2, Ii t)] ∧ x < 4294967296 ∧ t ≤ 32 ∧ ∀ L, zbs x L → zbs n (L + t)) ?_ ?_
 ·refine Sr (Om rfl ?_)
  refine Og (yw rfl rfl) rfl ?_
  refine E3 0 2 4 rfl ?_
  refine yh rfl (fun hT => ?_) (fun hF => ?_)
  ·have hge : 4294967296 ≤ n := by have := of_decide_eq_true hT; omega
   refine Sr (Om rfl ?_)
   refine Og (zaR 32 rfl rfl (by omega) (by decide) (zgD _ _)) rfl ?_
   refine Oa rfl (E1 0 rfl (zd (Oa rfl (E2 0 2 rfl ?_))))
   exact ⟨rfl, _, 32, rfl, by omega, by omega, fun L hL => hL.shift 32 (by omega)⟩
  have hlt : n < 4294967296 := by have := of_decide_eq_false hF; omega
  refine zbE [0, 2] rfl ?_
  refine zq ?_
  exact ⟨rfl, n, 0, rfl, hlt, by omega, fun L hL => hL⟩
 rintro F wx ⟨hwx, x, t, rfl, hx, ht, hL⟩
 subst wx
 refine z5 (fun F wx' => wx' = w ∧ ∃ x t : Nat, F = [(0, .int .u64 x), (2, Ii t)] ∧ x < 65536 ∧ t ≤ 48 ∧ ∀ L, zbs x L → zbs n (L + t)) ?_ ?_
 ·refine Sr (Om rfl ?_)
  refine Og (yw rfl rfl) rfl ?_
  refine E3 0 2 8 rfl ?_
  refine yh rfl (fun hT => ?_) (fun hF => ?_)
  ·have hge : 65536 ≤ x := by have := of_decide_eq_true hT; omega
   refine Sr (Om rfl ?_)
   refine Og (zaR 16 rfl rfl (by omega) (by decide) (zgD _ _)) rfl ?_
   refine Oa rfl (E2 0 2 rfl (zd (Om rfl ?_)))
   refine Og (yJ (v' := Ii ((t + 16 : Nat) : Int)) (zR rfl rfl (by omega)) (by congr 1)) rfl ?_
   refine Oa rfl (E2 0 2 rfl ?_)
   exact ⟨rfl, _, _, rfl, by omega, by omega, fun L h => by rw [show L + (t + 16) = L + 16 + t by omega]; exact hL _ (h.shift 16 (by omega))⟩
  have hlt : x < 65536 := by have := of_decide_eq_false hF; omega
  refine zbE [0, 2] rfl ?_
  refine zq ?_
  exact ⟨rfl, x, t, rfl, hlt, by omega, hL⟩
 clear hL hx ht
 rintro F wx ⟨hwx, x, t, rfl, hx, ht, hL⟩
 subst wx
 refine z5 (fun F wx' => wx' = w ∧ ∃ x t : Nat, F = [(0, .int .u64 x), (2, Ii t)] ∧ x < 256 ∧ t ≤ 56 ∧ ∀ L, zbs x L → zbs n (L + t)) ?_ ?_
 ·refine Sr (Om rfl ?_)
  refine Og (yw rfl rfl) rfl ?_
  refine E3 0 2 14 rfl ?_
  refine yh rfl (fun hT => ?_) (fun hF => ?_)
  ·have hge : 256 ≤ x := by have := of_decide_eq_true hT; omega
   refine Sr (Om rfl ?_)
   refine Og (zaR 8 rfl rfl (by omega) (by decide) (zgD _ _)) rfl ?_
   refine Oa rfl (E2 0 2 rfl (zd (Om rfl ?_)))
   refine Og (yJ (v' := Ii ((t + 8 : Nat) : Int)) (zR rfl rfl (by omega)) (by congr 1)) rfl ?_
   refine Oa rfl (E2 0 2 rfl ?_)
   exact ⟨rfl, _, _, rfl, by omega, by omega, fun L h => by rw [show L + (t + 8) = L + 8 + t by omega]; exact hL _ (h.shift 8 (by omega))⟩
  have hlt : x < 256 := by have := of_decide_eq_false hF; omega
  refine zbE [0, 2] rfl ?_
  refine zq ?_
  exact ⟨rfl, x, t, rfl, hlt, by omega, hL⟩
 clear hL hx ht
 rintro F wx ⟨hwx, x, t, rfl, hx, ht, hL⟩
 subst wx
 have ht1 := zkX ⟨x, hx⟩
 dsimp only at ht1
 obtain ⟨h1, h2, h3⟩ := ht1
 generalize ho : zgq[x]? = o at h1 h2 h3
 cases o with
 | none => cases h3
 | some b =>
  simp only [Option.getD_some] at h1 h2
  have hb := UInt8.toNat_lt b
  have hlb : zbs x b.toNat := zit h1 h2
  have hb8 : b.toNat ≤ 8 := (hlb 8).2 (by omega)
  refine Sr (Om rfl (Om rfl ?_))
  refine Og (zad zaO zb5 rfl (show IntKind.u8.wrap (x : Int) = (x : Int) by rw [zeR]; congr 1; omega)) rfl ?_
  refine Og (zap st9 rfl rfl _ rfl (zlt (by kernel_rfl) ho)) rfl ?_
  refine Og (zad zdt zaO rfl (zh0 (n := b.toNat) (by omega))) rfl ?_
  refine Og (yJ (v' := Ii ((t + b.toNat : Nat) : Int)) (zR rfl rfl (by omega)) (by congr 1)) rfl ?_
  refine Oa rfl (E1 2 rfl (zj ?_))
  refine zx rfl rfl ?_
  exact ⟨_, rfl, by rw [Nat.add_comm]; exact hL _ hlb, by omega, rfl⟩
theorem zkF (n : Nat) (w : World) (hn : n < 18446744073709551616) : zO TP 95 #[.int .u64 n] w fun r w' => r = Ii (z7 n : Nat) ∧ w' = w := by
 refine A1 Tryz.func95 rfl rfl ?_
 refine Sr (Oa rfl (E1 0 rfl (Sr (Om rfl ?_))))
 refine Oc znk rfl rfl rfl (zka n w hn) ?_
 rintro v4 w4 ⟨L, rfl, hL, h64, rfl⟩
 refine Og (zR rfl rfl (by omega)) rfl ?_
 refine Og (zam rfl rfl (by omega)) rfl ?_
 refine Og (zkW rfl rfl (by omega) (by omega)) rfl ?_
 refine Oa rfl (E1 2 rfl (zj ?_))
 refine zx rfl rfl ?_
 refine ⟨?_, rfl⟩
 rw [← zfH hn hL]
 congr 1
 omega
def be (n : Nat) : Nat → List UInt8
 | 0 => []
 | k + 1 => UInt8.ofNat (n / 256 ^ k % 256) :: be n k
theorem zeK (n : Nat) : ∀ k, (be n k).length = k
 | 0 => rfl
 | k + 1 => by simp [be, zeK n k]
theorem zlU (n i : Nat) (b : Nat) (w : World) (hn : n < 18446744073709551616) (hi : i < 8) (hb : zV w b 60 [.int .u64 n]) : zO TP 123 #[Ii i, Pt b] w fun r w' => r = .int .u8 ((UInt8.ofNat (n / 256 ^ i % 256)).toNat : Nat) ∧ w' = w := by
 refine A2 Tryz.func123 rfl rfl ?_
 refine Sr (Oa rfl (E2 0 1 rfl (Sr ?_)))
 refine Ol zch rfl (hb.cell' rfl) ?_
 refine Om rfl ?_
 refine Og (zbz rfl rfl (by omega)) rfl ?_
 refine Og (zaR (8 * i) rfl rfl (by omega) (show 8 * i ≤ 64 by omega) (zgD _ _)) rfl ?_
 refine Og (zad zaO zb5 rfl (zeR _)) rfl ?_
 refine Oa rfl (E1 3 rfl (zj ?_))
 refine zx rfl rfl ?_
 refine ⟨?_, rfl⟩
 rw [Nat.pow_mul]
 simp
theorem znt (n : Nat) (w : World) : zO TP 97 #[.int .u64 n] w fun r w' => ∃ b, r = .func (.func 123) #[] #[Pt b] ∧ w.heap.size ≤ b ∧ zV w' b 60 [.int .u64 n] ∧ zm [] w w' := by
 refine A1 Tryz.func97 rfl rfl ?_
 refine Sr ?_
 refine Ob rfl rfl ?_
 intro b1 w1 e1 n1 c1 k1
 refine Oa rfl (E1 1 rfl (Sr ?_))
 refine Og (zbf rfl rfl) rfl ?_
 refine Oa rfl (E1 2 rfl (zj ?_))
 refine zx rfl rfl ?_
 exact ⟨b1, rfl, by omega, k1, c1⟩
theorem zk4 (n k : Nat) (v : Value) (len : Nat) (xs : List UInt8) (b : Nat) (w : World) (hn : n < 18446744073709551616) (hk : k ≤ 8) (hl : len ≤ 1048576) (hv : zB w 5 1 v len (bv xs)) (hb : zV w b 60 [.int .u64 n]) :
 zO TP 96 #[v, Ii k, .func (.func 123) #[] #[Pt b]] w fun r w' => zB w' 5 1 r (len + k) (bv (xs ++ be n k)) ∧ zm (zC v) w w' ∧ (zC r = zC v ∨ ∃ b', zC r = [b'] ∧ w.heap.size ≤ b') := by
 refine A3 Tryz.func96 rfl rfl ?_
 refine Sr (Oa rfl (E3 0 1 2 rfl (zh (Sr (Om rfl ?_)))))
 refine Og (zam rfl rfl (by omega)) rfl ?_
 refine Oa rfl (E3 0 2 7 rfl (zn ?_))
 refine ye [0, 2, 7] (fun m F wx => m ≤ k ∧ ∃ u : Value, F = [(0, u), (2, .func (.func 123) #[] #[Pt b]), (7, Ii ((m : Int) - 1))] ∧ ∃ ys, zB wx 5 1 u (len + (k - m)) (bv ys) ∧ ys ++ be n m = xs ++ be n k ∧ zm (zC v) w wx ∧ (zC u = zC v ∨ ∃ b', zC u = [b'] ∧ w.heap.size ≤ b')) (m := k) ⟨Nat.le_refl _, v, rfl, xs, by simpa using hv, rfl, zm.refl _ _, .inl rfl⟩ ?_
 rintro m F wx ⟨hm, u, rfl, ys, hu, hys, hc, ho⟩
 refine zh (Sr (Om rfl ?_))
 refine Og (yw rfl rfl) rfl ?_
 refine E4 0 2 7 11 rfl ?_
 refine yh rfl (fun hT => ?_) (fun hF => ?_)
 ·refine zq ?_
  have hm1 : 1 ≤ m := by have := of_decide_eq_true hT; omega
  obtain ⟨i, rfl⟩ := Nat.exists_eq_add_of_le hm1
  have hbx : zV wx b 60 [.int .u64 n] := hb.chg hc (fun hm => hv.apart hb rfl b hm (by simp))
  refine zh (zn ?_)
  rw [show (((1 + i : Nat) : Int) - 1) = (i : Int) by omega]
  refine zd (Om rfl (Om rfl (Om rfl ?_)))
  refine Oc zl4 rfl rfl rfl (zlU n i b wx hn (by omega) hbx) ?_
  rintro v17 w17 ⟨rfl, rfl⟩
  refine zA (gn rfl) (zv zf2 rfl (vs := [_]) rfl (css := [_]) ⟨rfl, trivial⟩ rfl rfl (cs := [_]) rfl rfl ?_)
  intro b18 w18 e18 n18 c18 k18
  refine zA (gn rfl) (yc zf2 zd8 rfl rfl (hu.chg0 c18) (zB.of_blk k18 rfl (by simp [maxLen]) (by simp [Value.oneCell'])) (by simp only [maxLen]; omega) (by omega) rfl ?_)
  intro v19 w19 i19 c19 o19 z19
  refine Oa rfl (N3 0 2 7 rfl (zk (zd (Om rfl ?_))))
  refine Og (zam rfl rfl (by omega)) rfl ?_
  refine Oa rfl (N3 0 2 7 rfl ?_)
  refine ⟨i, by omega, by omega, v19, rfl, ys ++ [UInt8.ofNat (n / 256 ^ i % 256)], ?_, ?_, ?_, ?_⟩
  ·rw [zdd]
   have e : len + (k - i) = len + (k - (1 + i)) + 1 := by omega
   rw [e]
   exact i19
  ·rw [Nat.add_comm 1 i] at hys
   rw [← hys]
   simp [be]
  ·rcases ho with ho | ⟨b', ho, hb'⟩
   ·exact (hc.trans c18).trans' c19 (fun x hx => .inl (ho ▸ hx))
   exact (hc.trans c18).trans' c19 (fun x hx => .inr (by rw [ho] at hx; simp at hx; omega))
  have := hc.size
  have := c18.size
  rcases o19 with h | ⟨b', h, hb'⟩
  ·rw [h]; exact ho
  exact .inr ⟨b', h, by omega⟩
 refine zP ?_
 repeat first | refine te ?_ | refine bo rfl ?_
 refine zp _ ?_
 have hm0 : m = 0 := by have := of_decide_eq_false hF; omega
 subst hm0
 refine Sr (Om rfl (Oa rfl (E1 6 rfl (zj ?_))))
 refine zx rfl rfl ?_
 rw [be, List.append_nil] at hys
 rw [← hys]
 exact ⟨hu, hc, ho⟩
theorem zjK (n k : Nat) (w : World) (hn : n < 18446744073709551616) (hk : 1 ≤ k ∧ k ≤ 8) (hf : n < 256 ^ k) : zO TP 67 #[.int .u64 n, Ii k] w fun r w' => ∃ v, r = .tuple #[v, Ii 0] ∧ zB w' 5 1 v k (bv (be n k)) ∧ (∀ b ∈ zC v, w.heap.size ≤ b) ∧ zm [] w w' := by
 have hle : z7 n ≤ k := (zaX hn).2 hf
 refine A2 Tryz.func67 rfl rfl ?_
 refine Sr (Oa rfl (Oa rfl (E2 0 1 rfl (zh (zn (Sr (Om rfl ?_)))))))
 refine Og (vf (zE rfl rfl) (decide_eq_false (by omega))) rfl ?_
 refine Om rfl (Oj rfl rfl ?_)
 refine Oy rfl rfl (vf (z1 rfl rfl) (decide_eq_false (by omega))) ?_
 refine Of rfl (Oa rfl (E3 0 1 6 rfl (zf rfl (Sr (Om rfl ?_)))))
 refine Oc znq rfl rfl rfl (zkF n w hn) ?_
 rintro v15 w15 ⟨rfl, rfl⟩
 refine Om rfl ?_
 refine Og (vf (z1 rfl rfl) (decide_eq_false (by omega))) rfl ?_
 refine Oa rfl (E3 0 1 13 rfl (zf rfl (yd (zk (Sr (Om rfl (Om rfl ?_)))))))
 refine Oc znc rfl rfl rfl (znt n _) ?_
 rintro v20 w20 ⟨b20, rfl, h20, k20, c20⟩
 refine Oc znE rfl rfl rfl (zk4 n k (.slice none 0 0) 0 [] b20 _ hn hk.2 (by omega) (zB.nil _ _ _) k20) ?_
 rintro v21 w21 ⟨i21, c21, o21⟩
 refine Oa rfl (Oa rfl (E2 4 5 rfl (zj ?_)))
 refine zbF rfl rfl rfl ?_
 have hs := c20.size
 refine ⟨_, rfl, by rw [Nat.zero_add] at i21; exact i21, ?_, c20.transS c21⟩
 intro b hb
 rcases o21 with h | ⟨b', h, hb'⟩
 ·rw [h] at hb; simp [zC] at hb
 rw [h] at hb; simp at hb; omega
structure yx where
 k : Int
 i : Int
 u : Nat
 b : ByteArray
deriving DecidableEq
abbrev LV := List (List yx)
structure yx.Rng (x : yx) : Prop where
 k : -9223372036854775808 ≤ x.k ∧ x.k ≤ 9223372036854775807
 i : -9223372036854775808 ≤ x.i ∧ x.i ≤ 9223372036854775807
 u : x.u < 18446744073709551616
def yx.cs (x : yx) : List Value := [Ii x.k, Ii x.i, .int .u64 x.u, .string x.b]
def yx.v (x : yx) : Value := .agg x.cs.toArray
def e0 : ByteArray := ⟨#[]⟩
def yx.null : yx := ⟨0, 0, 0, e0⟩
def zdy (x : yx) : yx := ⟨x.k, if x.k = 1 ∨ x.k = 3 then x.i else 0, if x.k = 2 then x.u else 0, if x.k = 4 then x.b else e0⟩
def zjW (x : yx) : Bool := !decide (x.k = 3) || decide (x.i = 0) || decide (x.i = 1)
def zdC (x : yx) : Bool := decide (0 ≤ x.k ∧ x.k ≤ 4)
def zeA (x : yx) : Bool := zdC x && decide (x = zdy x) && zjW x
def zcE (x : yx) : Int := if !zeA x then 2 else if 200 < x.b.size then 3 else 0
structure Col where
 n : ByteArray
 t : Int
 s : Int
 z : Bool
deriving DecidableEq
def Col.cs (c : Col) : List Value := [.string c.n, Ii c.t, Ii c.s, .bool c.z]
def Col.v (c : Col) : Value := .agg c.cs.toArray
structure Sch where
 cols : List Col
 key : List Int
 uq : List (List Int)
deriving DecidableEq
def zbc (b : UInt8) : Bool := decide (97 ≤ b.toNat ∧ b.toNat ≤ 122)
def zc7 (b : UInt8) : Bool := decide (b.toNat = 95) || decide (48 ≤ b.toNat ∧ b.toNat ≤ 57)
def ym (s : ByteArray) : Bool := match s.data.toList with
 | [] => false
 | b :: r => zbc b && decide (r.length ≤ 23) && r.all fun c => zbc c || zc7 c
def zaP (n : Int) : Bool := decide (n = 1) || decide (n = 2) || decide (n = 4) || decide (n = 8)
def zaA (c : Col) : Bool := ym c.n && (if c.t = 1 ∨ c.t = 2 then zaP c.s else if c.t = 3 then decide (c.s = 0) else if c.t = 4 then decide (1 ≤ c.s ∧ c.s ≤ 200) else false)
def zbm (z : Int) : Int := -(2 ^ (8 * z.toNat - 1))
def zaK (c : Col) (x : yx) : Bool :=
 if c.t = 1 then decide (x.i < zbm c.s ∨ -(zbm c.s + 1) < x.i) else if c.t = 2 then decide ((2 : Int) ^ (8 * c.s.toNat) ≤ x.u) else if c.t = 4 then decide (c.s < x.b.size) else false
def zbd (c : Col) (x : yx) : Int :=
 if !zaA c then 2 else if zcE x ≠ 0 then zcE x else if x.k = 0 then (if c.z then 0 else 131) else if x.k ≠ c.t then 132 else if zaK c x then 133 else 0
def zew (f g : Nat) : Value := .agg #[.func (.func f) #[] #[], .func (.func g) #[] #[]]
def zdO : List (Int × Value) := [(0, zew 152 153), (1, zew 154 155), (2, zew 157 158), (3, zew 160 161), (4, zew 163 164)]
theorem zg7 (w : World) : zO TP 114 #[] w fun r w' => ∃ b, r = .map (some b) ∧ w.heap.size ≤ b ∧ zZ (zab .i64) w' b zdO ∧ zm [] w w' := by
 refine zO.of_W (args := []) Tryz.func114 rfl rfl rfl rfl ?_
 refine Sr (Oa rfl (za0 [] (F' := []) rfl (Sr ?_)))
 refine zA (gn rfl) (zaF (zab .i64) rfl ?_)
 intro b1 w1 e1 n1 c1 k1
 refine Og (zM zfj zb0 rfl (vs := [_, _]) rfl (css := [_, _]) ⟨rfl, rfl, trivial⟩ rfl rfl (cs := [_, _]) rfl) rfl ?_
 refine zA (gn rfl) (yj (κ := zab .i64) zdf (zS zaI) rfl rfl rfl k1 ?_)
 intro wA nA cA kA
 refine Og (zM zfj zb0 rfl (vs := [_, _]) rfl (css := [_, _]) ⟨rfl, rfl, trivial⟩ rfl rfl (cs := [_, _]) rfl) rfl ?_
 refine zA (gn rfl) (yj (κ := zab .i64) zdf (zS zaI) rfl rfl rfl kA ?_)
 intro wB nB cB kB
 refine Og (zM zfj zb0 rfl (vs := [_, _]) rfl (css := [_, _]) ⟨rfl, rfl, trivial⟩ rfl rfl (cs := [_, _]) rfl) rfl ?_
 refine zA (gn rfl) (yj (κ := zab .i64) zdf (zS zaI) rfl rfl rfl kB ?_)
 intro wC nC cC kC
 refine Og (zM zfj zb0 rfl (vs := [_, _]) rfl (css := [_, _]) ⟨rfl, rfl, trivial⟩ rfl rfl (cs := [_, _]) rfl) rfl ?_
 refine zA (gn rfl) (yj (κ := zab .i64) zdf (zS zaI) rfl rfl rfl kC ?_)
 intro wD nD cD kD
 refine Og (zM zfj zb0 rfl (vs := [_, _]) rfl (css := [_, _]) ⟨rfl, rfl, trivial⟩ rfl rfl (cs := [_, _]) rfl) rfl ?_
 refine zA (gn rfl) (yj (κ := zab .i64) zdf (zS zaI) rfl rfl rfl kD ?_)
 intro wE nE cE kE
 refine Om rfl (Oa rfl (E1 0 rfl (zj ?_)))
 refine zx rfl rfl ?_
 exact ⟨b1, rfl, by omega, kE, c1.own (((((cA.transS cB).transS cC).transS cD).transS cE)) (by intro x hx; simp at hx; omega)⟩
theorem yx.one (x : yx) : ∀ u ∈ x.cs, u.oneCell' = true := by
 intro u hu; simp [yx.cs] at hu; rcases hu with rfl | rfl | rfl | rfl <;> rfl
theorem ziC (x : yx) (w : World) : zO TP 115 #[x.v] w fun r w' => r = (zdy x).v ∧ zm [] w w' := by
 obtain ⟨k, i, u, b⟩ := x
 refine A1 Tryz.func115 rfl rfl ?_
 refine Sr ?_
 refine Ob rfl rfl ?_
 intro b1 w1 e1 n1 c1 k1
 refine zA (gn rfl) (zI zdP rfl rfl ?_)
 intro b2 w2 e2 n2 c2 k2
 refine E2 1 2 rfl (Sr (Od zag rfl ?_))
 refine Ol zbS rfl ((k1.chg0 c2).cell' rfl) ?_
 refine Og (zM zh1 zdP rfl (vs := [_]) rfl (css := [_]) ⟨rfl, trivial⟩ rfl rfl (cs := [_, _, _, _]) rfl) rfl ?_
 refine zA (gn rfl) (zI zdP rfl rfl ?_)
 intro b3 w3 e3 n3 c3 k3
 refine zA (gn rfl) (zD yM rfl rfl rfl rfl k3 (by simp) (by intro u hu; simp at hu; rcases hu with rfl | rfl | rfl | rfl <;> rfl) ?_)
 intro wA nA cA kA
 refine E3 1 2 3 rfl ?_
 have hk1 : zV wA b1 62 [Ii k, Ii i, .int .u64 u, .string b] := ((k1.chg0 c2).chg0 c3).chg cA (by simp; omega)
 have hk2 := (k2.chg0 c3).chg cA (by simp; omega)
 have hc : zm [] w wA := ((c1.trans c2).trans c3).own cA (by intro y hy; simp at hy; omega)
 have hk3 : zV wA b3 62 [Ii k, Ii 0, .int .u64 0, .string e0] := kA
 clear kA k3 k2 k1
 refine z5 (fun F wx => F = [(2, Pt b2), (3, Pt b3)] ∧ zV wx b3 62 (zdy ⟨k, i, u, b⟩).cs ∧ zm [b3] wA wx) ?_ ?_
 ·refine Sr (Od zag rfl ?_)
  refine Ol zbS rfl (hk1.cell' rfl) ?_
  refine E4 1 2 3 8 rfl (zn (zh (zn (zh (zn (zh (zn (zn (zh (zh (Sr (Og (zw rfl rfl) rfl ?_))))))))))))
  refine Oa rfl (E5 1 2 3 8 9 rfl ?_)
  refine yh rfl (fun hT => ?_) (fun hF => ?_)
  ·have hk : k = 3 := of_decide_eq_true hT
   refine zP ?_
   repeat first | refine te ?_ | refine bo rfl ?_
   refine zp _ ?_
   refine zk (Sr (Od yG rfl ?_))
   refine Ol ag2 rfl (hk1.cell' rfl) ?_
   refine Od yG rfl ?_
   refine zA (gn rfl) (zD sz2 rfl rfl rfl rfl hk3 (by simp) (by intro u hu; simp at hu; subst hu; rfl) ?_)
   intro wB nB cB kB
   refine E2 2 3 rfl ?_
   refine zP ?_
   repeat first | refine te ?_ | refine bo rfl ?_
   refine zp _ ?_
   exact ⟨rfl, by subst hk; exact kB, cB⟩
  have h3 : k ≠ 3 := of_decide_eq_false hF
  clear hF
  refine zq (zh (Sr (Og (zw rfl rfl) rfl (Oa rfl (E5 1 2 3 8 11 rfl ?_)))))
  refine yh rfl (fun hT => ?_) (fun hF => ?_)
  ·have hk : k = 1 := of_decide_eq_true hT
   refine zP ?_
   repeat first | refine te ?_ | refine bo rfl ?_
   refine zp _ ?_
   refine Sr (Od yG rfl ?_)
   refine Ol ag2 rfl (hk1.cell' rfl) ?_
   refine Od yG rfl ?_
   refine zA (gn rfl) (zD sz2 rfl rfl rfl rfl hk3 (by simp) (by intro u hu; simp at hu; subst hu; rfl) ?_)
   intro wB nB cB kB
   refine E2 2 3 rfl ?_
   refine zP ?_
   repeat first | refine te ?_ | refine bo rfl ?_
   refine zp _ ?_
   exact ⟨rfl, by subst hk; exact kB, cB⟩
  have h1 : k ≠ 1 := of_decide_eq_false hF
  clear hF
  refine zq (zh (Sr (Og (zw rfl rfl) rfl (Oa rfl (E5 1 2 3 8 13 rfl ?_)))))
  refine yh rfl (fun hT => ?_) (fun hF => ?_)
  ·have hk : k = 2 := of_decide_eq_true hT
   refine zP ?_
   repeat first | refine te ?_ | refine bo rfl ?_
   refine zp _ ?_
   refine Sr (Od zaa rfl ?_)
   refine Ol zch rfl (hk1.cell' rfl) ?_
   refine Od zaa rfl ?_
   refine zA (gn rfl) (zD znB rfl rfl rfl rfl hk3 (by simp) (by intro u hu; simp at hu; subst hu; rfl) ?_)
   intro wB nB cB kB
   refine E2 2 3 rfl ?_
   refine zP ?_
   repeat first | refine te ?_ | refine bo rfl ?_
   refine zp _ ?_
   exact ⟨rfl, by subst hk; exact kB, cB⟩
  have h2 : k ≠ 2 := of_decide_eq_false hF
  clear hF
  refine zq (Sr (Og (zw rfl rfl) rfl (Oa rfl (E4 1 2 3 15 rfl ?_))))
  refine yh rfl (fun hT => ?_) (fun hF => ?_)
  ·have hk : k = 4 := of_decide_eq_true hT
   refine zP ?_
   repeat first | refine te ?_ | refine bo rfl ?_
   refine zp _ ?_
   refine Sr (Od yv rfl ?_)
   refine Ol yt rfl (hk1.cell' rfl) ?_
   refine Od yv rfl ?_
   refine zA (gn rfl) (zD sz9 rfl rfl rfl rfl hk3 (by simp) (by intro u hu; simp at hu; subst hu; rfl) ?_)
   intro wB nB cB kB
   refine E2 2 3 rfl ?_
   refine zP ?_
   repeat first | refine te ?_ | refine bo rfl ?_
   refine zp _ ?_
   exact ⟨rfl, by subst hk; exact kB, cB⟩
  have h4 : k ≠ 4 := of_decide_eq_false hF
  refine zq ?_
  refine zbE [2, 3] rfl ?_
  refine zP ?_
  repeat first | refine te ?_ | refine bo rfl ?_
  refine zp _ ?_
  exact ⟨rfl, by simpa [zdy, h1, h2, h3, h4, yx.cs] using hk3, zm.refl _ _⟩
 rintro F wx ⟨rfl, hb, hcx⟩
 have hn := c3.size
 refine Sr ?_
 refine Og (zi zbU yM rfl rfl (zu.of_blk0 hb)) rfl ?_
 refine zA (gn rfl) (zD yM rfl rfl rfl rfl (hk2.chg hcx (by simp; omega)) (by simp [yx.cs]) (yx.one _) ?_)
 intro wC nC cC kC
 refine E1 2 rfl (zj ?_)
 refine zcW rfl zbU yM rfl rfl (zu.of_blk0 kC) ?_
 exact ⟨rfl, hc.own ((hcx.weak (S2 := [b2, b3]) (by simp)).transS (cC.weak (by simp))) (by intro y hy; simp at hy; omega)⟩
theorem zle (x : yx) (w : World) : zO TP 152 #[x.v] w fun r w' => r = .bool true ∧ zm [] w w' := by
 refine A1 Tryz.func152 rfl rfl ?_
 refine Sr ?_
 refine Ob rfl rfl ?_
 intro b1 w1 e1 n1 c1 k1
 refine Oa rfl (za0 [] (F' := []) rfl (Sr (Oa rfl (E1 2 rfl (zj ?_)))))
 refine zx rfl rfl ?_
 exact ⟨rfl, c1⟩
theorem zlh (x : yx) (w : World) : zO TP 154 #[x.v] w fun r w' => r = .bool true ∧ zm [] w w' := by
 refine A1 Tryz.func154 rfl rfl ?_
 refine Sr ?_
 refine Ob rfl rfl ?_
 intro b1 w1 e1 n1 c1 k1
 refine Oa rfl (za0 [] (F' := []) rfl (Sr (Oa rfl (E1 2 rfl (zj ?_)))))
 refine zx rfl rfl ?_
 exact ⟨rfl, c1⟩
theorem zkP (x : yx) (w : World) : zO TP 157 #[x.v] w fun r w' => r = .bool true ∧ zm [] w w' := by
 refine A1 Tryz.func157 rfl rfl ?_
 refine Sr ?_
 refine Ob rfl rfl ?_
 intro b1 w1 e1 n1 c1 k1
 refine Oa rfl (za0 [] (F' := []) rfl (Sr (Oa rfl (E1 2 rfl (zj ?_)))))
 refine zx rfl rfl ?_
 exact ⟨rfl, c1⟩
theorem zlx (x : yx) (w : World) : zO TP 163 #[x.v] w fun r w' => r = .bool true ∧ zm [] w w' := by
 refine A1 Tryz.func163 rfl rfl ?_
 refine Sr ?_
 refine Ob rfl rfl ?_
 intro b1 w1 e1 n1 c1 k1
 refine Oa rfl (za0 [] (F' := []) rfl (Sr (Oa rfl (E1 2 rfl (zj ?_)))))
 refine zx rfl rfl ?_
 exact ⟨rfl, c1⟩
theorem zkT (x : yx) (w : World) : zO TP 160 #[x.v] w fun r w' => r = .bool (decide (x.i = 0) || decide (x.i = 1)) ∧ zm [] w w' := by
 obtain ⟨k, i, u, b⟩ := x
 refine A1 Tryz.func160 rfl rfl ?_
 refine Sr ?_
 refine Ob rfl rfl ?_
 intro b1 w1 e1 n1 c1 k1
 refine Oa rfl (E1 1 rfl (zh ?_))
 by_cases h : i = 0
 ·refine zd (Od yG rfl ?_)
  refine Ol ag2 rfl (k1.cell' rfl) ?_
  refine Og (vt (zw rfl rfl) (decide_eq_true (by omega))) rfl ?_
  refine Om rfl (Oz rfl rfl (Oz rfl rfl (Oz rfl rfl (Ot rfl (Oa rfl (E1 2 rfl (zj ?_)))))))
  refine zx rfl rfl ?_
  exact ⟨by simp [h], c1⟩
 refine zd (Od yG rfl ?_)
 refine Ol ag2 rfl (k1.cell' rfl) ?_
 refine Og (vf (zw rfl rfl) (decide_eq_false (by omega))) rfl ?_
 refine Om rfl ?_
 refine Oy rfl rfl (za yG rfl) ?_
 refine Oy rfl rfl (zb ag2 rfl (k1.cell' rfl)) ?_
 refine Oy rfl rfl (zw rfl rfl) ?_
 refine Of rfl (Oa rfl (E1 2 rfl (zj ?_)))
 refine zx rfl rfl ?_
 exact ⟨by simp [h], c1⟩
theorem zd0 {x : yx} (h : zdC x = true) : ∃ f g, yL zdO x.k = some (zew f g) ∧ zl TP f = true ∧ ∀ w, zO TP f #[x.v] w fun r w' => r = .bool (zjW x) ∧ zm [] w w' := by
 obtain ⟨k, i, u, b⟩ := x
 simp only [zdC, decide_eq_true_eq] at h
 rcases (show k = 0 ∨ k = 1 ∨ k = 2 ∨ k = 3 ∨ k = 4 by omega) with rfl | rfl | rfl | rfl | rfl
 ·exact ⟨_, _, rfl, zmh, fun w => zle _ w⟩
 ·exact ⟨_, _, rfl, zl8, fun w => zlh _ w⟩
 ·exact ⟨_, _, rfl, zma, fun w => zkP _ w⟩
 ·exact ⟨_, _, rfl, zmy, fun w => (zkT _ w).mono fun r w' h => ⟨by rw [h.1]; simp [zjW], h.2⟩⟩
 exact ⟨_, _, rfl, zl0, fun w => zlx _ w⟩
theorem zdB {x : yx} (h : zdC x = false) : yL zdO x.k = none := by
 simp only [zdC, decide_eq_false_iff_not] at h
 have h0 : ¬ (0 : Int) = x.k := by omega
 have h1 : ¬ (1 : Int) = x.k := by omega
 have h2 : ¬ (2 : Int) = x.k := by omega
 have h3 : ¬ (3 : Int) = x.k := by omega
 have h4 : ¬ (4 : Int) = x.k := by omega
 simp [zdO, yL, h0, h1, h2, h3, h4]
theorem zgf (x y : yx) : zaT [0, 0, 0, 1] x.cs y.cs = some (decide (x = y)) := by
 obtain ⟨k, i, u, b⟩ := x
 obtain ⟨k', i', u', b'⟩ := y
 simp only [yx.cs, zaT, zeU, if_true, Option.some.injEq, yx.mk.injEq]
 rw [Bool.eq_iff_iff]
 simp
 intro _ _ _
 omega
theorem zjZ (x : yx) (w : World) : zO TP 80 #[x.v] w fun r w' => r = Ii (zcE x) ∧ zm [] w w' := by
 refine A1 Tryz.func80 rfl rfl ?_
 refine Sr ?_
 refine Ob rfl rfl ?_
 intro b1 w1 e1 n1 c1 k1
 refine Oa rfl (E1 1 rfl ?_)
 obtain ⟨g, hg⟩ : ∃ g, yL zdO x.k = g := ⟨_, rfl⟩
 obtain ⟨va, vb, hv⟩ : ∃ va vb, g.getD (.agg #[.nilFunc, .nilFunc]) = .agg #[va, vb] ∧ va.oneCell' = true ∧ vb.oneCell' = true := by
  cases hk : zdC x with
  | false => rw [zdB hk] at hg; subst hg; exact ⟨_, _, rfl, rfl, rfl⟩
  | true => obtain ⟨f, g', h, _⟩ := zd0 hk; rw [h] at hg; subst hg; exact ⟨_, _, rfl, rfl, rfl⟩
 obtain ⟨hv, hva, hvb⟩ := hv
 refine z5 (fun F wA => ∃ b3, F = [(1, Pt b1), (3, Pt b3), (4, .bool g.isSome)] ∧ zV wA b3 175 [va, vb] ∧ zm [] w1 wA) ?_ ?_
 ·have hC := (zm.drew [] w1)
  refine zeY (fun wz => zm [] w1 wz) (zal.seq [1, 2] (.two 0 (zal.seq [] (.two 3 (zal.seq [4, 5, 6, 7, 8, 9] .done) 7 (zal.seq [3, 4, 5, 6, 8, 9] .done))) 7 (zal.seq [0, 3, 4, 5, 6, 8, 9] .done))) mix (by kernel_rfl) hC ?_
  refine ya rfl rfl (gn rfl) (fun _ => za zag rfl) rfl rfl ?_
  refine zgp rfl rfl (gn rfl) (fun wz hz => zb zbS rfl ((k1.chg0 hz).cell' rfl)) rfl rfl ?_
  refine zeE ?_ ?_
  ·refine y9 rfl rfl (gn rfl) (yg zkf rfl rfl rfl rfl (zg7 _) ?_)
   rintro v6 w6 ⟨b6, rfl, h6, k6, c6⟩
   have hN6 := hC.size
   have hC := hC.trans c6
   refine ⟨.inl hC, ?_⟩
   refine zeE ?_ ?_
   ·refine y9 rfl rfl (gn rfl) (St.vl (zay (κ := zab .i64) zdf (zS zaI) zb0 rfl rfl k6 hg hv) rfl rfl ?_)
    refine ⟨.inl hC, ?_⟩
    refine ya rfl rfl (gn rfl) (fun _ => zae rfl) rfl rfl ?_
    refine ya rfl rfl (gn rfl) (fun _ => z2 rfl rfl) rfl rfl ?_
    refine ya rfl rfl (gn rfl) (fun _ => z2 rfl rfl) rfl rfl ?_
    refine y9 rfl rfl (gn rfl) (zI zb0 rfl rfl ?_)
    intro b3 w3 e3 n3 c3 k3
    have hN3 := hC.size
    have hC := hC.trans c3
    have k6 := k6.chg0 c3
    refine ⟨.inl hC, ?_⟩
    refine y9 rfl rfl (gn rfl) (zD ziQ rfl rfl rfl rfl k3 (by simp) (by intro u hu; simp at hu; rcases hu with rfl | rfl; exact hva; exact hvb) ?_)
    intro wA nA cA kA
    have hC := hC.own cA (by intro y hy; simp at hy; omega)
    refine ⟨.inl hC, ?_⟩
    refine ya rfl rfl (gn rfl) (fun _ => yW rfl) rfl rfl ?_
    refine zcJ [1, 3, 4] (F' := [(1, _), (3, _), (4, _)]) rfl ?_
    exact ⟨b3, rfl, kA, hC⟩
   refine y9 rfl rfl (gn rfl) (zI zb0 rfl rfl ?_)
   intro b3 w3 e3 n3 c3 k3
   have hN3 := hC.size
   have hC := hC.trans c3
   have k6 := k6.chg0 c3
   refine ⟨.inl hC, ?_⟩
   refine y9 rfl rfl (gn rfl) (St.vl (zay (κ := zab .i64) zdf (zS zaI) zb0 rfl rfl k6 hg hv) rfl rfl ?_)
   refine ⟨.inl hC, ?_⟩
   refine ya rfl rfl (gn rfl) (fun _ => zae rfl) rfl rfl ?_
   refine ya rfl rfl (gn rfl) (fun _ => z2 rfl rfl) rfl rfl ?_
   refine ya rfl rfl (gn rfl) (fun _ => z2 rfl rfl) rfl rfl ?_
   refine y9 rfl rfl (gn rfl) (zD ziQ rfl rfl rfl rfl k3 (by simp) (by intro u hu; simp at hu; rcases hu with rfl | rfl; exact hva; exact hvb) ?_)
   intro wA nA cA kA
   have hC := hC.own cA (by intro y hy; simp at hy; omega)
   refine ⟨.inl hC, ?_⟩
   refine ya rfl rfl (gn rfl) (fun _ => yW rfl) rfl rfl ?_
   refine zcJ [1, 3, 4] (F' := [(1, _), (3, _), (4, _)]) rfl ?_
   exact ⟨b3, rfl, kA, hC⟩
  refine y9 rfl rfl (gn rfl) (zI zb0 rfl rfl ?_)
  intro b3 w3 e3 n3 c3 k3
  have hN3 := hC.size
  have hC := hC.trans c3
  refine ⟨.inl hC, ?_⟩
  refine y9 rfl rfl (gn rfl) (yg zkf rfl rfl rfl rfl (zg7 _) ?_)
  rintro v6 w6 ⟨b6, rfl, h6, k6, c6⟩
  have hN6 := hC.size
  have hC := hC.trans c6
  have k3 := k3.chg0 c6
  refine ⟨.inl hC, ?_⟩
  refine y9 rfl rfl (gn rfl) (St.vl (zay (κ := zab .i64) zdf (zS zaI) zb0 rfl rfl k6 hg hv) rfl rfl ?_)
  refine ⟨.inl hC, ?_⟩
  refine ya rfl rfl (gn rfl) (fun _ => zae rfl) rfl rfl ?_
  refine ya rfl rfl (gn rfl) (fun _ => z2 rfl rfl) rfl rfl ?_
  refine ya rfl rfl (gn rfl) (fun _ => z2 rfl rfl) rfl rfl ?_
  refine y9 rfl rfl (gn rfl) (zD ziQ rfl rfl rfl rfl k3 (by simp) (by intro u hu; simp at hu; rcases hu with rfl | rfl; exact hva; exact hvb) ?_)
  intro wA nA cA kA
  have hC := hC.own cA (by intro y hy; simp at hy; omega)
  refine ⟨.inl hC, ?_⟩
  refine ya rfl rfl (gn rfl) (fun _ => yW rfl) rfl rfl ?_
  refine zcJ [1, 3, 4] (F' := [(1, _), (3, _), (4, _)]) rfl ?_
  exact ⟨b3, rfl, kA, hC⟩
 rintro F wA ⟨b3, rfl, kA, hcA⟩
 have hk1 := k1.chg0 hcA
 have hdA : zm [] wA wA.drew := zm.drew [] _
 refine zh (zn (zh ?_))
 cases hk : zdC x with
 | false =>
  have hg' : g = none := hg.symm.trans (zdB hk)
  subst hg'
  refine W_draw (fun wz => zm [] wA wz) mix (by kernel_rfl) hdA ?_
  refine Tm rfl ?_
  refine Tp (fun _ => zL rfl) rfl ?_
  refine Tm rfl (Tz rfl rfl (Tz rfl rfl (Tz rfl rfl (Tz rfl rfl ?_))))
  refine Tp (fun _ => zy rfl rfl) rfl ?_
  refine Tm rfl (Tz rfl rfl (Tz rfl rfl (Tz rfl rfl (Tz rfl rfl (Tz rfl rfl ?_)))))
  refine Tp (fun _ => zy rfl rfl) rfl ?_
  refine Ta rfl (D2 1 12 rfl (zg rfl (Sr (Oa rfl (E1 2 rfl (zj ?_))))))
  repeat first | refine tr ?_ | refine br ?_
  refine zx rfl rfl ?_
  exact ⟨by simp [zcE, zeA, hk], (c1.trans hcA).trans hdA⟩
 | true =>
  obtain ⟨f, g', hg', hbf, hmay⟩ := zd0 hk
  rw [hg'] at hg
  subst hg
  cases hv
  by_cases hb : x = zdy x
  ·refine W_draw (fun wz => zm [] wA wz) mix (by kernel_rfl) hdA ?_
   refine Tm rfl ?_
   refine Tp (fun _ => zL rfl) rfl ?_
   refine Tm rfl ?_
   refine Ts rfl rfl (fun wz hz => zi zbU yM rfl rfl (zu.of_blk0 (hk1.chg0 hz))) rfl ?_
   refine Ts rfl rfl (fun wz hz => zi zbU yM rfl rfl (zu.of_blk0 (hk1.chg0 hz))) rfl ?_
   refine Tv rfl rfl zks rfl rfl rfl (ziC x _) ?_
   rintro v18 w18 ⟨rfl, c18⟩
   refine ⟨.inl (hdA.trans c18), ?_⟩
   refine Tg rfl rfl (fun _ => zbO zlm rfl rfl ((zgf x (zdy x)).trans (congrArg some (decide_eq_true hb)))) rfl ?_
   refine Tp (fun _ => zz rfl rfl) rfl ?_
   refine Tm rfl ?_
   refine Tg rfl rfl (fun _ => za zjG rfl) rfl ?_
   refine Ts rfl rfl (fun wz hz => zb zl2 rfl ((kA.chg0 hz).cell' rfl)) rfl ?_
   refine Ts rfl rfl (fun wz hz => zi zbU yM rfl rfl (zu.of_blk0 (hk1.chg0 hz))) rfl ?_
   refine Tv rfl rfl hbf rfl rfl rfl (hmay _) ?_
   rintro v25 w25 ⟨rfl, c25⟩
   refine ⟨.inl ((hdA.trans c18).trans c25), ?_⟩
   refine Tg rfl rfl (fun _ => zL rfl) rfl ?_
   refine Tp (fun _ => zz rfl rfl) rfl ?_
   refine Ta rfl (D2 1 12 rfl ?_)
   cases hm : zjW x with
   | false =>
    refine zg rfl (Sr (Oa rfl (E1 2 rfl (zj ?_))))
    repeat first | refine tr ?_ | refine br ?_
    refine zx rfl rfl ?_
    exact ⟨by simp [zcE, zeA, hm], (((c1.trans hcA).trans hdA).trans c18).trans c25⟩
   | true =>
    refine zf rfl ?_
    have hc : zm [] w w25 := (((c1.trans hcA).trans hdA).trans c18).trans c25
    have hf : zeA x = true := by simp only [zeA, hk, hm, Bool.true_and, Bool.and_true]; exact decide_eq_true hb
    refine Sr (Od yv rfl ?_)
    refine Ol yt rfl ((hk1.chg0 ((hdA.trans c18).trans c25)).cell' rfl) ?_
    refine Og (zT st9 rfl) rfl ?_
    refine Og (z1 rfl rfl) rfl ?_
    refine Oa rfl (E1 28 rfl ?_)
    refine yh rfl (fun hT => ?_) (fun hF => ?_)
    ·refine Sr (Oa rfl (E1 2 rfl (zj ?_)))
     repeat first | refine tr ?_ | refine br ?_
     refine zx rfl rfl ?_
     have h2 : 200 < x.b.size := by have := of_decide_eq_true hT; omega
     exact ⟨by simp [zcE, hf, h2], hc⟩
    refine yd (zk (Sr (Oa rfl (E1 2 rfl (zj ?_)))))
    refine zx rfl rfl ?_
    have h2 : ¬ 200 < x.b.size := by have := of_decide_eq_false hF; omega
    exact ⟨by simp [zcE, hf, h2], hc⟩
  refine W_draw (fun wz => zm [] wA wz) mix (by kernel_rfl) hdA ?_
  refine Tm rfl ?_
  refine Tp (fun _ => zL rfl) rfl ?_
  refine Tm rfl ?_
  refine Ts rfl rfl (fun wz hz => zi zbU yM rfl rfl (zu.of_blk0 (hk1.chg0 hz))) rfl ?_
  refine Ts rfl rfl (fun wz hz => zi zbU yM rfl rfl (zu.of_blk0 (hk1.chg0 hz))) rfl ?_
  refine Tv rfl rfl zks rfl rfl rfl (ziC x _) ?_
  rintro v18 w18 ⟨rfl, c18⟩
  refine ⟨.inl (hdA.trans c18), ?_⟩
  refine Tg rfl rfl (fun _ => zbO zlm rfl rfl ((zgf x (zdy x)).trans (congrArg some (decide_eq_false hb)))) rfl ?_
  refine Tp (fun _ => zz rfl rfl) rfl ?_
  refine Tm rfl (Tz rfl rfl (Tz rfl rfl (Tz rfl rfl (Tz rfl rfl (Tz rfl rfl ?_)))))
  refine Tp (fun _ => zy rfl rfl) rfl ?_
  refine Ta rfl (D2 1 12 rfl (zg rfl (Sr (Oa rfl (E1 2 rfl (zj ?_))))))
  repeat first | refine tr ?_ | refine br ?_
  refine zx rfl rfl ?_
  exact ⟨by simp [zcE, zeA, hb], ((c1.trans hcA).trans hdA).trans c18⟩
theorem zhg (n : Int) (w : World) : zO TP 242 #[Ii n] w fun r w' => r = .bool (zaP n) ∧ w' = w := by
 refine A1 Tryz.func242 rfl rfl ?_
 refine Sr (Oa rfl (E1 0 rfl (zh ?_)))
 by_cases h1 : n = 1
 ·refine zd (Om rfl ?_)
  refine Og (vt (zw rfl rfl) (decide_eq_true (by omega))) rfl ?_
  refine Om rfl (Oz rfl rfl (Oz rfl rfl (Ot rfl (Om rfl (Oz rfl rfl (Oz rfl rfl (Ot rfl (Om rfl (Oz rfl rfl (Oz rfl rfl (Ot rfl (Oa rfl (E1 2 rfl ?_)))))))))))))
  refine zj ?_
  refine zx rfl rfl ?_
  exact ⟨by simp [zaP, h1], rfl⟩
 by_cases h2 : n = 2
 ·refine zd (Om rfl ?_)
  refine Og (vf (zw rfl rfl) (decide_eq_false (by omega))) rfl ?_
  refine Om rfl (Oj rfl rfl ?_)
  refine Oy rfl rfl (vt (zw rfl rfl) (decide_eq_true (by omega))) ?_
  refine Of rfl (Om rfl (Oz rfl rfl (Oz rfl rfl (Ot rfl (Om rfl (Oz rfl rfl (Oz rfl rfl (Ot rfl (Oa rfl (E1 2 rfl (zj ?_)))))))))))
  refine zx rfl rfl ?_
  exact ⟨by simp [zaP, h2], rfl⟩
 by_cases h4 : n = 4
 ·refine zd (Om rfl ?_)
  refine Og (vf (zw rfl rfl) (decide_eq_false (by omega))) rfl ?_
  refine Om rfl (Oj rfl rfl ?_)
  refine Oy rfl rfl (vf (zw rfl rfl) (decide_eq_false (by omega))) ?_
  refine Of rfl (Om rfl (Oj rfl rfl ?_))
  refine Oy rfl rfl (vt (zw rfl rfl) (decide_eq_true (by omega))) ?_
  refine Of rfl (Om rfl (Oz rfl rfl (Oz rfl rfl (Ot rfl (Oa rfl (E1 2 rfl (zj ?_)))))))
  refine zx rfl rfl ?_
  exact ⟨by simp [zaP, h4], rfl⟩
 refine zd (Om rfl ?_)
 refine Og (vf (zw rfl rfl) (decide_eq_false (by omega))) rfl ?_
 refine Om rfl (Oj rfl rfl ?_)
 refine Oy rfl rfl (vf (zw rfl rfl) (decide_eq_false (by omega))) ?_
 refine Of rfl (Om rfl (Oj rfl rfl ?_))
 refine Oy rfl rfl (vf (zw rfl rfl) (decide_eq_false (by omega))) ?_
 refine Of rfl (Om rfl (Oj rfl rfl ?_))
 refine Oy rfl rfl (zw rfl rfl) ?_
 refine Of rfl (Oa rfl (E1 2 rfl (zj ?_)))
 refine zx rfl rfl ?_
 exact ⟨by simp [zaP, h1, h2, h4], rfl⟩
theorem zb6 (x : Int) : IntKind.i64.wrap x = (x + 9223372036854775808) % 18446744073709551616 - 9223372036854775808 := by
 simp only [IntKind.wrap, IntKind.bits, IntKind.signed]
 simp
 omega
theorem zb9 (x : Int) : IntKind.u64.wrap x = x % 18446744073709551616 := by
 simp only [IntKind.wrap, IntKind.bits, IntKind.signed]
 simp
theorem zjS (z : Int) (x : yx) (w : World) (hs : zaP z = true) (hx : x.Rng) : zO TP 243 #[Ii z, x.v] w fun r w' => r = .bool (!zaK ⟨e0, 1, z, false⟩ x) ∧ zm [] w w' := by
 have hi := hx.i
 simp only [zaP, Bool.or_eq_true, decide_eq_true_eq] at hs
 refine A2 Tryz.func243 rfl rfl ?_
 rcases (show z = 1 ∨ z = 2 ∨ z = 4 ∨ z = 8 by omega) with rfl | rfl | rfl | rfl
 ·refine Sr ?_
  refine Ob rfl rfl ?_
  intro b3 w3 e3 n3 c3 k3
  refine Oa rfl (E2 0 3 rfl (Sr (Om rfl ?_)))
  refine Og (zbz rfl rfl (by omega)) rfl ?_
  refine Og (zam rfl rfl (by omega)) rfl ?_
  refine Oa rfl (E2 3 5 rfl (zh ?_))
  refine W_draw (fun wz => zm [] w3 wz) mix (by kernel_rfl) (zm.drew [] _) ?_
  refine Td yG rfl ?_
  refine Tr (fun wz hz => zb ag2 rfl ((k3.chg0 hz).cell' rfl)) rfl ?_
  refine Tm rfl ?_
  refine Tp (fun _ => zbL 56 rfl rfl (by omega) (by decide) rfl) rfl ?_
  refine Tm rfl ?_
  refine Tp (fun _ => zaR 56 rfl rfl (by omega) (by decide) rfl) rfl ?_
  refine Td yG rfl ?_
  refine Tr (fun wz hz => zb ag2 rfl ((k3.chg0 hz).cell' rfl)) rfl ?_
  refine Tp (fun _ => zw rfl rfl) rfl ?_
  refine Ta rfl (D1 4 rfl (zj ?_))
  refine zx rfl rfl ?_
  refine ⟨?_, c3.trans (zm.drew [] _)⟩
  rw [zb6, Int.fdiv_eq_ediv_of_nonneg _ (by decide)]
  congr 1
  rw [Bool.eq_iff_iff]
  simp [zaK, zbm]
  omega
 ·refine Sr ?_
  refine Ob rfl rfl ?_
  intro b3 w3 e3 n3 c3 k3
  refine Oa rfl (E2 0 3 rfl (Sr (Om rfl ?_)))
  refine Og (zbz rfl rfl (by omega)) rfl ?_
  refine Og (zam rfl rfl (by omega)) rfl ?_
  refine Oa rfl (E2 3 5 rfl (zh ?_))
  refine W_draw (fun wz => zm [] w3 wz) mix (by kernel_rfl) (zm.drew [] _) ?_
  refine Td yG rfl ?_
  refine Tr (fun wz hz => zb ag2 rfl ((k3.chg0 hz).cell' rfl)) rfl ?_
  refine Tm rfl ?_
  refine Tp (fun _ => zbL 48 rfl rfl (by omega) (by decide) rfl) rfl ?_
  refine Tm rfl ?_
  refine Tp (fun _ => zaR 48 rfl rfl (by omega) (by decide) rfl) rfl ?_
  refine Td yG rfl ?_
  refine Tr (fun wz hz => zb ag2 rfl ((k3.chg0 hz).cell' rfl)) rfl ?_
  refine Tp (fun _ => zw rfl rfl) rfl ?_
  refine Ta rfl (D1 4 rfl (zj ?_))
  refine zx rfl rfl ?_
  refine ⟨?_, c3.trans (zm.drew [] _)⟩
  rw [zb6, Int.fdiv_eq_ediv_of_nonneg _ (by decide)]
  congr 1
  rw [Bool.eq_iff_iff]
  simp [zaK, zbm]
  omega
 ·refine Sr ?_
  refine Ob rfl rfl ?_
  intro b3 w3 e3 n3 c3 k3
  refine Oa rfl (E2 0 3 rfl (Sr (Om rfl ?_)))
  refine Og (zbz rfl rfl (by omega)) rfl ?_
  refine Og (zam rfl rfl (by omega)) rfl ?_
  refine Oa rfl (E2 3 5 rfl (zh ?_))
  refine W_draw (fun wz => zm [] w3 wz) mix (by kernel_rfl) (zm.drew [] _) ?_
  refine Td yG rfl ?_
  refine Tr (fun wz hz => zb ag2 rfl ((k3.chg0 hz).cell' rfl)) rfl ?_
  refine Tm rfl ?_
  refine Tp (fun _ => zbL 32 rfl rfl (by omega) (by decide) rfl) rfl ?_
  refine Tm rfl ?_
  refine Tp (fun _ => zaR 32 rfl rfl (by omega) (by decide) rfl) rfl ?_
  refine Td yG rfl ?_
  refine Tr (fun wz hz => zb ag2 rfl ((k3.chg0 hz).cell' rfl)) rfl ?_
  refine Tp (fun _ => zw rfl rfl) rfl ?_
  refine Ta rfl (D1 4 rfl (zj ?_))
  refine zx rfl rfl ?_
  refine ⟨?_, c3.trans (zm.drew [] _)⟩
  rw [zb6, Int.fdiv_eq_ediv_of_nonneg _ (by decide)]
  congr 1
  rw [Bool.eq_iff_iff]
  simp [zaK, zbm]
  omega
 refine Sr ?_
 refine Ob rfl rfl ?_
 intro b3 w3 e3 n3 c3 k3
 refine Oa rfl (E2 0 3 rfl (Sr (Om rfl ?_)))
 refine Og (zbz rfl rfl (by omega)) rfl ?_
 refine Og (zam rfl rfl (by omega)) rfl ?_
 refine Oa rfl (E2 3 5 rfl (zh ?_))
 refine W_draw (fun wz => zm [] w3 wz) mix (by kernel_rfl) (zm.drew [] _) ?_
 refine Td yG rfl ?_
 refine Tr (fun wz hz => zb ag2 rfl ((k3.chg0 hz).cell' rfl)) rfl ?_
 refine Tm rfl ?_
 refine Tp (fun _ => zbL 0 rfl rfl (by omega) (by decide) rfl) rfl ?_
 refine Tm rfl ?_
 refine Tp (fun _ => zaR 0 rfl rfl (by omega) (by decide) rfl) rfl ?_
 refine Td yG rfl ?_
 refine Tr (fun wz hz => zb ag2 rfl ((k3.chg0 hz).cell' rfl)) rfl ?_
 refine Tp (fun _ => zw rfl rfl) rfl ?_
 refine Ta rfl (D1 4 rfl (zj ?_))
 refine zx rfl rfl ?_
 refine ⟨?_, c3.trans (zm.drew [] _)⟩
 rw [zb6, Int.fdiv_eq_ediv_of_nonneg _ (by decide)]
 congr 1
 rw [Bool.eq_iff_iff]
 simp [zaK, zbm]
 omega
theorem zjV (z : Int) (x : yx) (w : World) (hs : zaP z = true) (hx : x.Rng) : zO TP 244 #[Ii z, x.v] w fun r w' => r = .bool (!zaK ⟨e0, 2, z, false⟩ x) ∧ zm [] w w' := by
 have hi := hx.u
 simp only [zaP, Bool.or_eq_true, decide_eq_true_eq] at hs
 refine A2 Tryz.func244 rfl rfl ?_
 rcases (show z = 1 ∨ z = 2 ∨ z = 4 ∨ z = 8 by omega) with rfl | rfl | rfl | rfl
 ·refine Sr ?_
  refine Ob rfl rfl ?_
  intro b3 w3 e3 n3 c3 k3
  refine Oa rfl (E2 0 3 rfl (Sr (Om rfl ?_)))
  refine Og (zbz rfl rfl (by omega)) rfl ?_
  refine Og (zam rfl rfl (by omega)) rfl ?_
  refine Oa rfl (E2 3 5 rfl (zh ?_))
  refine W_draw (fun wz => zm [] w3 wz) mix (by kernel_rfl) (zm.drew [] _) ?_
  refine Td zaa rfl ?_
  refine Tr (fun wz hz => zb zch rfl ((k3.chg0 hz).cell' rfl)) rfl ?_
  refine Tm rfl ?_
  refine Tp (fun _ => zbL 56 rfl rfl (by omega) (by decide) rfl) rfl ?_
  refine Tm rfl ?_
  refine Tp (fun _ => zaR 56 rfl rfl (by omega) (by decide) rfl) rfl ?_
  refine Td zaa rfl ?_
  refine Tr (fun wz hz => zb zch rfl ((k3.chg0 hz).cell' rfl)) rfl ?_
  refine Tp (fun _ => zw rfl rfl) rfl ?_
  refine Ta rfl (D1 4 rfl (zj ?_))
  refine zx rfl rfl ?_
  refine ⟨?_, c3.trans (zm.drew [] _)⟩
  rw [zb9, Int.fdiv_eq_ediv_of_nonneg _ (by decide)]
  congr 1
  rw [Bool.eq_iff_iff]
  simp [zaK, zbm]
  omega
 ·refine Sr ?_
  refine Ob rfl rfl ?_
  intro b3 w3 e3 n3 c3 k3
  refine Oa rfl (E2 0 3 rfl (Sr (Om rfl ?_)))
  refine Og (zbz rfl rfl (by omega)) rfl ?_
  refine Og (zam rfl rfl (by omega)) rfl ?_
  refine Oa rfl (E2 3 5 rfl (zh ?_))
  refine W_draw (fun wz => zm [] w3 wz) mix (by kernel_rfl) (zm.drew [] _) ?_
  refine Td zaa rfl ?_
  refine Tr (fun wz hz => zb zch rfl ((k3.chg0 hz).cell' rfl)) rfl ?_
  refine Tm rfl ?_
  refine Tp (fun _ => zbL 48 rfl rfl (by omega) (by decide) rfl) rfl ?_
  refine Tm rfl ?_
  refine Tp (fun _ => zaR 48 rfl rfl (by omega) (by decide) rfl) rfl ?_
  refine Td zaa rfl ?_
  refine Tr (fun wz hz => zb zch rfl ((k3.chg0 hz).cell' rfl)) rfl ?_
  refine Tp (fun _ => zw rfl rfl) rfl ?_
  refine Ta rfl (D1 4 rfl (zj ?_))
  refine zx rfl rfl ?_
  refine ⟨?_, c3.trans (zm.drew [] _)⟩
  rw [zb9, Int.fdiv_eq_ediv_of_nonneg _ (by decide)]
  congr 1
  rw [Bool.eq_iff_iff]
  simp [zaK, zbm]
  omega
 ·refine Sr ?_
  refine Ob rfl rfl ?_
  intro b3 w3 e3 n3 c3 k3
  refine Oa rfl (E2 0 3 rfl (Sr (Om rfl ?_)))
  refine Og (zbz rfl rfl (by omega)) rfl ?_
  refine Og (zam rfl rfl (by omega)) rfl ?_
  refine Oa rfl (E2 3 5 rfl (zh ?_))
  refine W_draw (fun wz => zm [] w3 wz) mix (by kernel_rfl) (zm.drew [] _) ?_
  refine Td zaa rfl ?_
  refine Tr (fun wz hz => zb zch rfl ((k3.chg0 hz).cell' rfl)) rfl ?_
  refine Tm rfl ?_
  refine Tp (fun _ => zbL 32 rfl rfl (by omega) (by decide) rfl) rfl ?_
  refine Tm rfl ?_
  refine Tp (fun _ => zaR 32 rfl rfl (by omega) (by decide) rfl) rfl ?_
  refine Td zaa rfl ?_
  refine Tr (fun wz hz => zb zch rfl ((k3.chg0 hz).cell' rfl)) rfl ?_
  refine Tp (fun _ => zw rfl rfl) rfl ?_
  refine Ta rfl (D1 4 rfl (zj ?_))
  refine zx rfl rfl ?_
  refine ⟨?_, c3.trans (zm.drew [] _)⟩
  rw [zb9, Int.fdiv_eq_ediv_of_nonneg _ (by decide)]
  congr 1
  rw [Bool.eq_iff_iff]
  simp [zaK, zbm]
  omega
 refine Sr ?_
 refine Ob rfl rfl ?_
 intro b3 w3 e3 n3 c3 k3
 refine Oa rfl (E2 0 3 rfl (Sr (Om rfl ?_)))
 refine Og (zbz rfl rfl (by omega)) rfl ?_
 refine Og (zam rfl rfl (by omega)) rfl ?_
 refine Oa rfl (E2 3 5 rfl (zh ?_))
 refine W_draw (fun wz => zm [] w3 wz) mix (by kernel_rfl) (zm.drew [] _) ?_
 refine Td zaa rfl ?_
 refine Tr (fun wz hz => zb zch rfl ((k3.chg0 hz).cell' rfl)) rfl ?_
 refine Tm rfl ?_
 refine Tp (fun _ => zbL 0 rfl rfl (by omega) (by decide) rfl) rfl ?_
 refine Tm rfl ?_
 refine Tp (fun _ => zaR 0 rfl rfl (by omega) (by decide) rfl) rfl ?_
 refine Td zaa rfl ?_
 refine Tr (fun wz hz => zb zch rfl ((k3.chg0 hz).cell' rfl)) rfl ?_
 refine Tp (fun _ => zw rfl rfl) rfl ?_
 refine Ta rfl (D1 4 rfl (zj ?_))
 refine zx rfl rfl ?_
 refine ⟨?_, c3.trans (zm.drew [] _)⟩
 rw [zb9, Int.fdiv_eq_ediv_of_nonneg _ (by decide)]
 congr 1
 rw [Bool.eq_iff_iff]
 simp [zaK, zbm]
 omega
theorem zju (z : Int) (x : yx) (w : World) : zO TP 246 #[Ii z, x.v] w fun r w' => r = .bool true ∧ zm [] w w' := by
 refine A2 Tryz.func246 rfl rfl ?_
 refine Sr ?_
 refine Ob rfl rfl ?_
 intro b3 w3 e3 n3 c3 k3
 refine Oa rfl (za0 [] (F' := []) rfl (Sr (Oa rfl (E1 4 rfl (zj ?_)))))
 refine zx rfl rfl ?_
 exact ⟨rfl, c3⟩
theorem zj8 (z : Int) (x : yx) (w : World) : zO TP 248 #[Ii z, x.v] w fun r w' => r = .bool (!zaK ⟨e0, 4, z, false⟩ x) ∧ zm [] w w' := by
 refine A2 Tryz.func248 rfl rfl ?_
 refine Sr ?_
 refine Ob rfl rfl ?_
 intro b3 w3 e3 n3 c3 k3
 refine Oa rfl (E2 0 3 rfl (Sr (Od yv rfl ?_)))
 refine Ol yt rfl (k3.cell' rfl) ?_
 refine Og (zT st9 rfl) rfl ?_
 refine Om rfl ?_
 refine Og (z0 rfl rfl) rfl ?_
 refine Oa rfl (E1 4 rfl (zj ?_))
 refine zx rfl rfl ?_
 refine ⟨?_, c3⟩
 congr 1
 rw [Bool.eq_iff_iff]
 simp [zaK]
theorem zjz (n : Int) (w : World) : zO TP 245 #[Ii n] w fun r w' => r = .bool (decide (n = 0)) ∧ w' = w := by
 refine A1 Tryz.func245 rfl rfl ?_
 refine Sr (Oa rfl (E1 0 rfl (Sr (Om rfl (Og (zw rfl rfl) rfl (Oa rfl (E1 2 rfl (zj ?_))))))))
 refine zx rfl rfl ?_
 exact ⟨rfl, rfl⟩
theorem zjR (n : Int) (w : World) : zO TP 247 #[Ii n] w fun r w' => r = .bool (decide (1 ≤ n ∧ n ≤ 200)) ∧ w' = w := by
 refine A1 Tryz.func247 rfl rfl ?_
 refine Sr (Oa rfl (E1 0 rfl (zh ?_)))
 by_cases h : 1 ≤ n
 ·refine zd (Om rfl ?_)
  refine Og (vt (yw rfl rfl) (decide_eq_true (by omega))) rfl ?_
  refine Om rfl (Oj rfl rfl ?_)
  refine Oy rfl rfl (z0 rfl rfl) ?_
  refine Ot rfl (Oa rfl (E1 2 rfl (zj ?_)))
  refine zx rfl rfl ?_
  exact ⟨by simp [h], rfl⟩
 refine zd (Om rfl ?_)
 refine Og (vf (yw rfl rfl) (decide_eq_false (by omega))) rfl ?_
 refine Om rfl (Oz rfl rfl (Oz rfl rfl (Of rfl (Oa rfl (E1 2 rfl (zj ?_))))))
 refine zx rfl rfl ?_
 exact ⟨by simp [h], rfl⟩
def zc0 (c : Int) : Bool := decide (97 ≤ c ∧ c ≤ 122)
def zdD (c : Int) : Bool := decide (c = 95) || decide (48 ≤ c ∧ c ≤ 57) || zc0 c
theorem zd2 (f : Bool) (w : World) : zO TP 250 #[.bool f] w fun r w' => ∃ b, r = .func (.func 258) #[] #[Pt b] ∧ w.heap.size ≤ b ∧ zV w' b 4 [.bool f] ∧ zm [] w w' := by
 refine A1 Tryz.func250 rfl rfl ?_
 refine Sr ?_
 refine Ob rfl rfl ?_
 intro b1 w1 e1 n1 c1 k1
 refine Oa rfl (E1 1 rfl (Sr ?_))
 refine Og (zbf rfl rfl) rfl ?_
 refine Oa rfl (E1 2 rfl (zj ?_))
 refine zx rfl rfl ?_
 exact ⟨b1, rfl, by omega, k1, c1⟩
theorem zgr (c : Int) (f : Bool) (b : Nat) (w : World) (hb : zV w b 4 [.bool f]) : zO TP 258 #[.int .i32 c, Pt b] w fun r w' => r = .bool (if f then zc0 c else zdD c) ∧ w' = w := by
 refine A2 Tryz.func258 rfl rfl ?_
 refine Sr (Oa rfl (E2 0 1 rfl (zh (zn (zh (zn ?_))))))
 refine z5 (fun F wx => wx = w ∧ (decide (c = 95) || decide (48 ≤ c ∧ c ≤ 57)) = true ∧ F = [(1, Pt b)]) ?_ ?_
 ·refine zn (zh (zh ?_))
  refine z5 (fun F wx => wx = w ∧ F = [(0, .int .i32 c), (1, Pt b), (4, .bool (decide (c = 95) || decide (48 ≤ c ∧ c ≤ 57)))]) ?_ ?_
  ·refine Sr (Om rfl (Og (zw rfl rfl) rfl (Oa rfl (E3 0 1 4 rfl ?_))))
   refine yh rfl (fun hT => ?_) (fun hF => ?_)
   ·refine zq ?_
    exact ⟨rfl, by simp [of_decide_eq_true hT]⟩
   have h := of_decide_eq_false hF
   by_cases h1 : 48 ≤ c
   ·refine zd (Om rfl ?_)
    refine Og (vt (yw rfl rfl) (decide_eq_true (by omega))) rfl ?_
    refine Om rfl (Oj rfl rfl ?_)
    refine Oy rfl rfl (z0 rfl rfl) ?_
    refine Ot rfl (Oa rfl (E3 0 1 4 rfl ?_))
    exact ⟨rfl, by simp [h, h1]⟩
   refine zd (Om rfl ?_)
   refine Og (vf (yw rfl rfl) (decide_eq_false (by omega))) rfl ?_
   refine Om rfl (Oz rfl rfl (Oz rfl rfl (Of rfl (Oa rfl (E3 0 1 4 rfl ?_)))))
   exact ⟨rfl, by simp [h, h1]⟩
  rintro F wx ⟨rfl, rfl⟩
  refine yh rfl (fun hT => ?_) (fun hF => ?_)
  ·refine zbE [1] rfl ?_
   refine zP ?_
   repeat first | refine te ?_ | refine bo rfl ?_
   refine zp _ ?_
   exact ⟨rfl, hT, rfl⟩
  refine zq (zh ?_)
  have ho : (decide (c = 95) || decide (48 ≤ c ∧ c ≤ 57)) = false := hF
  by_cases h1 : 97 ≤ c
  ·refine zd (Om rfl ?_)
   refine Og (vt (yw rfl rfl) (decide_eq_true (by omega))) rfl ?_
   refine Om rfl (Oj rfl rfl ?_)
   refine Oy rfl rfl (z0 rfl rfl) ?_
   refine Ot rfl (Oa rfl (E1 13 rfl ?_))
   refine yh rfl (fun hT => ?_) (fun hF => ?_)
   ·refine zP ?_
    repeat first | refine te ?_ | refine bo rfl ?_
    refine zp _ ?_
    refine zh (Sr (Oa rfl (E1 3 rfl (zj ?_))))
    repeat first | refine tr ?_ | refine br ?_
    refine zx rfl rfl ?_
    have h2 : c ≤ 122 := of_decide_eq_true hT
    exact ⟨by cases f <;> simp [zdD, zc0, h1, h2], rfl⟩
   refine zq ?_
   refine zP ?_
   repeat first | refine te ?_ | refine bo rfl ?_
   refine zp _ ?_
   refine Sr (Oa rfl (E1 3 rfl (zj ?_)))
   repeat first | refine tr ?_ | refine br ?_
   refine zx rfl rfl ?_
   have h2 : ¬ c ≤ 122 := of_decide_eq_false hF
   refine ⟨?_, rfl⟩
   unfold zdD
   rw [ho]
   cases f <;> simp [zc0, h2]
  refine zd (Om rfl ?_)
  refine Og (vf (yw rfl rfl) (decide_eq_false (by omega))) rfl ?_
  refine Om rfl (Oz rfl rfl (Oz rfl rfl (Of rfl (Oa rfl (E1 13 rfl (zf rfl (zq ?_)))))))
  refine zP ?_
  repeat first | refine te ?_ | refine bo rfl ?_
  refine zp _ ?_
  refine Sr (Oa rfl (E1 3 rfl (zj ?_)))
  repeat first | refine tr ?_ | refine br ?_
  refine zx rfl rfl ?_
  refine ⟨?_, rfl⟩
  unfold zdD
  rw [ho]
  cases f <;> simp [zc0, h1]
 rintro F wx ⟨rfl, ho, rfl⟩
 refine Sr ?_
 refine Ol ag4 rfl (hb.cell' rfl) ?_
 refine E1 20 rfl ?_
 cases f with
 | true =>
  refine zg rfl (Sr (Oa rfl (E1 3 rfl (zj ?_))))
  repeat first | refine tr ?_ | refine br ?_
  refine zx rfl rfl ?_
  refine ⟨?_, rfl⟩
  simp only [Bool.or_eq_true, decide_eq_true_eq] at ho
  have : zc0 c = false := by simp [zc0]; omega
  simp [this]
 | false =>
  refine zf rfl (yd (zk (zh (Sr (Oa rfl (E1 3 rfl (zj ?_)))))))
  repeat first | refine tr ?_ | refine br ?_
  refine zx rfl rfl ?_
  refine ⟨?_, rfl⟩
  unfold zdD
  rw [ho]
  rfl
theorem zis (c : Int) (b q : Nat) (w : World) (hb : zV w b 4 [.bool false]) (hq : zV w q 309 [.func (.func 258) #[] #[Pt b]]) :
 zO TP 252 #[.int .i32 c, Pt q] w fun r w' => r = .bool (!zdD c) ∧ w' = w := by
 refine A2 Tryz.func252 rfl rfl ?_
 refine Sr (Oa rfl (E2 0 1 rfl (Sr ?_)))
 refine Ol zlH rfl (hq.cell' rfl) ?_
 refine Om rfl ?_
 refine Oc zjd rfl rfl rfl (zgr c false b _ hb) ?_
 rintro v6 w6 ⟨rfl, rfl⟩
 refine Og (zL rfl) rfl (Oa rfl (E1 3 rfl (zj ?_)))
 refine zx rfl rfl ?_
 exact ⟨rfl, rfl⟩
def zaw (b : UInt8) : Bool := zbc b || zc7 b
theorem zhX (b : UInt8) : zdD (b.toNat : Int) = zaw b := by
 unfold zdD zc0 zaw zbc zc7
 rw [Bool.eq_iff_iff]
 simp
 omega
theorem zhq {c : Nat} (h : 128 ≤ c) : zdD (c : Int) = false := by
 unfold zdD zc0
 simp
 omega
theorem zhP {b : UInt8} (h : zaw b = true) : b.toNat < 128 := by
 simp [zaw, zbc, zc7] at h
 omega
theorem zih {s : ByteArray} {p : Nat} {b : UInt8} (h : s.data.toList[p]? = some b) : zdD ((Utf8.decode s p).1 : Int) = zaw b ∧ (zaw b = true → (Utf8.decode s p).2 = 1) := by
 obtain ⟨hl, hb⟩ := List.getElem?_eq_some_iff.1 h
 have hp : p < s.size := by simpa using hl
 have e : s[p]'hp = b := by rw [← hb]; rfl
 by_cases hh : b.toNat < 128
 ·have := decode_ascii s p hp (by rw [e]; exact hh)
  rw [this, e]
  exact ⟨zhX b, fun _ => rfl⟩
 have := (decode_high s p hp (by rw [e]; omega)).1
 rw [zhq this]
 have : zaw b = false := by
  cases hn : zaw b with
  | false => rfl
  | true => exact absurd (zhP hn) hh
 exact ⟨this.symm, fun h => by rw [this] at h; cases h⟩
theorem zfn (s : ByteArray) (b q : Nat) (w : World) (hb : zV w b 4 [.bool false]) (hq : zV w q 309 [.func (.func 258) #[] #[Pt b]]) :
 zO TP 260 #[.string s, .func (.func 252) #[] #[Pt q], .bool true] w fun r w' => ∃ i : Int, r = Ii i ∧ decide (0 ≤ i) = !(s.data.toList.all zaw) ∧ zm [] w w' := by
 refine A3 Tryz.func260 rfl rfl ?_
 refine Sr (Oa rfl (E3 0 1 2 rfl (zh (Sr (Om rfl ?_)))))
 refine zA (gn rfl) (zhC st9 rfl rfl ?_)
 intro b10 w10 e10 n10 c10 k10
 refine E3 1 2 10 rfl (zn ?_)
 refine ye [1, 2, 10] (fun m F wx => ∃ j, m = s.size - j ∧ j ≤ s.size ∧ F = [(1, .func (.func 252) #[] #[Pt q]), (2, .bool true), (10, Pt b10)] ∧ zjN wx b10 s j ∧ zm [b10] w10 wx ∧ (s.data.toList.take j).all zaw = true) (m := s.size - 0) ⟨0, rfl, Nat.zero_le _, rfl, k10, zm.refl _ _, by simp⟩ ?_
 rintro m F wx ⟨j, rfl, hj, rfl, hit, hc, hall⟩
 have hn10 := c10.size
 have hbx : zV wx b 4 [.bool false] := (hb.chg0 c10).chg hc (by simp; have := hb.lt; omega)
 have hqx := (hq.chg0 c10).chg hc (by simp; have := hq.lt; omega)
 have hcw : zm [] w wx := c10.own hc (by intro y hy; simp at hy; omega)
 have hsz : s.data.toList.length = s.size := by simp
 rcases Nat.lt_or_ge j s.size with hlt | hge
 ·have hx : s.data.toList[j]? = some s.data.toList[j] := by simp [hlt]
  generalize s.data.toList[j] = x at hx
  obtain ⟨hd1, hd2⟩ := zih hx
  refine Sr ?_
  refine zA (gn rfl) (zfg rfl hit rfl (fun h => absurd h (by omega)) ?_)
  intro w11 hp11 n11 c11 i11
  refine Oe rfl rfl (E5 1 2 10 11 12 rfl (zh (zg rfl (zq (zn (Sr (Oe rfl rfl (Oe rfl rfl (Oa rfl (Oa rfl (E5 1 2 7 8 10 rfl (zh ?_))))))))))))
  have hb11 := hbx.chg c11 (by simp; have := hb.lt; omega)
  have hq11 := hqx.chg c11 (by simp; have := hq.lt; omega)
  refine zd (Om rfl (Om rfl ?_))
  refine Oc zmV rfl rfl rfl (zis _ b q _ hb11 hq11) ?_
  rintro v17 w17 ⟨rfl, rfl⟩
  refine Om rfl ?_
  refine Og (zcx bo4 rfl rfl) rfl ?_
  refine E5 1 2 7 10 19 rfl ?_
  have hcw11 : zm [] w w17 := hcw.own c11 (by intro y hy; simp at hy; omega)
  rw [hd1]
  cases hbx' : zaw x with
  | false =>
   refine zg rfl (Sr (Om rfl (Oa rfl (E1 6 rfl (zj ?_)))))
   repeat first | refine tr ?_ | refine br ?_
   refine zx rfl rfl ?_
   refine ⟨_, rfl, ?_, hcw11⟩
   have h0 : s.data.toList.all zaw = false := by
    cases ha : s.data.toList.all zaw with
    | false => rfl
    | true => have := List.all_eq_true.1 ha x (List.mem_of_getElem? hx); rw [hbx'] at this; cases this
   rw [h0]
   simp
  | true =>
   refine zf rfl (yd (zk ?_))
   rw [hd2 hbx'] at i11
   refine ⟨s.size - (j + 1), by omega, j + 1, rfl, by omega, rfl, i11, hc.transS c11, ?_⟩
   rw [List.take_add_one, hx, List.all_append, hall]
   simp [hbx']
 refine Sr ?_
 refine zA (gn rfl) (zfg rfl hit rfl (fun _ => ?_) (fun _ h => absurd h (by omega)))
 skip
 refine Oe rfl rfl (E5 1 2 10 11 12 rfl (zh (zf rfl ?_)))
 refine zP ?_
 repeat first | refine te ?_ | refine bo rfl ?_
 refine zp _ ?_
 refine Sr (Oa rfl (E1 6 rfl (zj ?_)))
 repeat first | refine tr ?_ | refine br ?_
 refine zx rfl rfl ?_
 refine ⟨_, rfl, ?_, hcw⟩
 rw [List.take_of_length_le (by omega)] at hall
 rw [hall]
 rfl
theorem zfa (s : ByteArray) (b q : Nat) (w : World) (hb : zV w b 4 [.bool false]) (hq : zV w q 309 [.func (.func 258) #[] #[Pt b]]) :
 zO TP 259 #[.string s, .func (.func 252) #[] #[Pt q]] w fun r w' => ∃ i : Int, r = Ii i ∧ decide (0 ≤ i) = !(s.data.toList.all zaw) ∧ zm [] w w' := by
 refine A2 Tryz.func259 rfl rfl ?_
 refine Sr (Oa rfl (E2 0 1 rfl (Sr (Om rfl (Om rfl ?_)))))
 refine Oc zmO rfl rfl rfl (zfn s b q _ hb hq) ?_
 rintro v7 w7 ⟨i, rfl, hi, c7⟩
 refine Oa rfl (E1 4 rfl (zj ?_))
 refine zx rfl rfl ?_
 exact ⟨i, rfl, hi, c7⟩
theorem zd5 (s : ByteArray) (b q : Nat) (w : World) (hb : zV w b 4 [.bool false]) (hq : zV w q 309 [.func (.func 258) #[] #[Pt b]]) :
 zO TP 251 #[.string s, .func (.func 252) #[] #[Pt q]] w fun r w' => r = .bool (!(s.data.toList.all zaw)) ∧ zm [] w w' := by
 refine A2 Tryz.func251 rfl rfl ?_
 refine Sr (Oa rfl (E2 0 1 rfl (Sr (Om rfl (Om rfl ?_)))))
 refine Oc zmb rfl rfl rfl (zfa s b q _ hb hq) ?_
 rintro v7 w7 ⟨i, rfl, hi, c7⟩
 refine Og (yw rfl rfl) rfl ?_
 refine Oa rfl (E1 4 rfl (zj ?_))
 refine zx rfl rfl ?_
 exact ⟨by rw [← hi], c7⟩
theorem zgi (s : ByteArray) : ym s = (decide (1 ≤ s.size) && decide (s.size ≤ 24) && (match s.data.toList with | [] => false | b :: _ => zc0 b.toNat) && s.data.toList.all zaw) := by
 have hsz : s.data.toList.length = s.size := by simp
 unfold ym
 cases h : s.data.toList with
 | nil => simp
 | cons b r =>
  rw [h] at hsz
  simp only [List.length_cons] at hsz
  simp only [List.all_cons]
  have e1 : zc0 (b.toNat : Int) = zbc b := by
   unfold zc0 zbc
   rw [Bool.eq_iff_iff]
   simp
   omega
  rw [e1]
  have e2 : decide (1 ≤ s.size) = true := by simp; omega
  have e3 : decide (s.size ≤ 24) = decide (r.length ≤ 23) := by rw [Bool.eq_iff_iff]; simp; omega
  rw [e2, e3]
  have e4 : zaw b = (zbc b || zc7 b) := rfl
  rw [e4]
  have e5 : (r.all fun c => zbc c || zc7 c) = r.all zaw := rfl
  rw [e5]
  cases zbc b <;> cases decide (r.length ≤ 23) <;> simp
theorem zfx (x : UInt8) : IntKind.i32.wrap (x.toNat : Int) = (x.toNat : Int) := by
 have := UInt8.toNat_lt x
 simp only [IntKind.wrap, IntKind.bits, IntKind.signed]
 simp
 omega
theorem zg4 (s : ByteArray) (w : World) : zO TP 227 #[.string s] w fun r w' => r = .bool (ym s) ∧ zm [] w w' := by
 rw [zgi]
 refine A1 Tryz.func227 rfl rfl ?_
 refine Sr (Oa rfl (E1 0 rfl (Sr ?_)))
 refine Oc ziR rfl rfl rfl (zd2 false _) ?_
 rintro v4 w4 ⟨b4, rfl, h4, k4, c4⟩
 refine zA (gn rfl) (zI zmv rfl rfl ?_)
 intro b3 w3 e3 n3 c3 k3
 refine zA (gn rfl) (zD zmx rfl rfl rfl rfl k3 (by simp) (by intro u hu; simp at hu; subst hu; rfl) ?_)
 intro wA nA cA kA
 refine E2 0 3 rfl ?_
 have hcA : zm [] w wA := (c4.trans c3).own cA (by intro y hy; simp at hy; have := c4.size; omega)
 have hk4 := (k4.chg0 c3).chg cA (by simp; have := k4.lt; omega)
 have hd : zm [] wA wA.drew := zm.drew [] _
 refine zh ?_
 have hsz : s.data.toList.length = s.size := by simp
 by_cases h1 : 1 ≤ s.size
 ·by_cases h2 : s.size ≤ 24
  ·obtain ⟨x, r, hxr⟩ : ∃ x r, s.data.toList = x :: r := by
    cases h : s.data.toList with
    | nil => rw [h] at hsz; simp at hsz; omega
    | cons x r => exact ⟨x, r, rfl⟩
   have hat : s.data[0]? = some x := by rw [← Array.getElem?_toList, hxr]; rfl
   cases hf : zc0 (x.toNat : Int) with
   | false =>
    refine W_draw (fun wz => zm [] wA wz) mix (by kernel_rfl) hd ?_
    refine Tm rfl ?_
    refine Tp (fun _ => zT st9 rfl) rfl ?_
    refine Tp (fun _ => vt (yw rfl rfl) (decide_eq_true (by omega))) rfl ?_
    refine Tm rfl (Tq rfl rfl rfl ?_)
    refine Tg rfl rfl (fun _ => zT st9 rfl) rfl ?_
    refine Tg rfl rfl (fun _ => vt (z0 rfl rfl) (decide_eq_true (by omega))) rfl ?_
    refine Tp (fun _ => zy rfl rfl) rfl ?_
    refine Tm rfl ?_
    refine Tv rfl rfl ziR rfl rfl rfl (zd2 true _) ?_
    rintro v14 w14 ⟨b14, rfl, h14, k14, c14⟩
    refine ⟨.inl (hd.trans c14), ?_⟩
    refine Tq rfl rfl rfl ?_
    refine Tg rfl rfl (fun _ => zap st9 rfl rfl _ rfl hat) rfl ?_
    refine Tg rfl rfl (fun _ => zad zfb zaO rfl rfl) rfl ?_
    refine Tv rfl rfl zjd rfl rfl rfl (zgr _ true b14 _ k14) ?_
    rintro v18 w18 ⟨h18, rfl⟩
    rw [if_pos rfl, show IntKind.i32.wrap (x.toNat : Int) = (x.toNat : Int) from zfx x, hf] at h18
    subst h18
    refine ⟨.inl (hd.trans c14), ?_⟩
    refine Tp (fun _ => zy rfl rfl) rfl ?_
    refine Tm rfl (Tz rfl rfl (Tz rfl rfl (Tz rfl rfl (Tz rfl rfl ?_))))
    refine Tp (fun _ => zz rfl rfl) rfl ?_
    refine Ta rfl (D1 2 rfl (zj ?_))
    refine zx rfl rfl ?_
    exact ⟨by rw [hxr]; simp [hf], (hcA.trans hd).trans c14⟩
   | true =>
    refine W_draw (fun wz => zm [] wA wz) mix (by kernel_rfl) hd ?_
    refine Tm rfl ?_
    refine Tp (fun _ => zT st9 rfl) rfl ?_
    refine Tp (fun _ => vt (yw rfl rfl) (decide_eq_true (by omega))) rfl ?_
    refine Tm rfl (Tq rfl rfl rfl ?_)
    refine Tg rfl rfl (fun _ => zT st9 rfl) rfl ?_
    refine Tg rfl rfl (fun _ => vt (z0 rfl rfl) (decide_eq_true (by omega))) rfl ?_
    refine Tp (fun _ => zy rfl rfl) rfl ?_
    refine Tm rfl ?_
    refine Tv rfl rfl ziR rfl rfl rfl (zd2 true _) ?_
    rintro v14 w14 ⟨b14, rfl, h14, k14, c14⟩
    refine ⟨.inl (hd.trans c14), ?_⟩
    refine Tq rfl rfl rfl ?_
    refine Tg rfl rfl (fun _ => zap st9 rfl rfl _ rfl hat) rfl ?_
    refine Tg rfl rfl (fun _ => zad zfb zaO rfl rfl) rfl ?_
    refine Tv rfl rfl zjd rfl rfl rfl (zgr _ true b14 _ k14) ?_
    rintro v18 w18 ⟨h18, rfl⟩
    rw [if_pos rfl, show IntKind.i32.wrap (x.toNat : Int) = (x.toNat : Int) from zfx x, hf] at h18
    subst h18
    refine ⟨.inl (hd.trans c14), ?_⟩
    refine Tp (fun _ => zy rfl rfl) rfl ?_
    refine Tm rfl (Tq rfl rfl rfl ?_)
    refine Tg rfl rfl (fun _ => zbf rfl rfl) rfl ?_
    refine Tv rfl rfl zlV rfl rfl rfl (zd5 s b4 b3 _ ((hk4.chg0 hd).chg0 c14) ((kA.chg0 hd).chg0 c14)) ?_
    rintro v23 w23 ⟨rfl, c23⟩
    refine ⟨.inl ((hd.trans c14).trans c23), ?_⟩
    refine Tg rfl rfl (fun _ => zL rfl) rfl ?_
    refine Tp (fun _ => zy rfl rfl) rfl ?_
    refine Ta rfl (D1 2 rfl (zj ?_))
    refine zx rfl rfl ?_
    exact ⟨by rw [hxr]; simp [hf, h1, h2], ((hcA.trans hd).trans c14).trans c23⟩
  refine W_draw (fun wz => zm [] wA wz) mix (by kernel_rfl) hd ?_
  refine Tm rfl ?_
  refine Tp (fun _ => zT st9 rfl) rfl ?_
  refine Tp (fun _ => vt (yw rfl rfl) (decide_eq_true (by omega))) rfl ?_
  refine Tm rfl (Tq rfl rfl rfl ?_)
  refine Tg rfl rfl (fun _ => zT st9 rfl) rfl ?_
  refine Tg rfl rfl (fun _ => vf (z0 rfl rfl) (decide_eq_false (by omega))) rfl ?_
  refine Tp (fun _ => zy rfl rfl) rfl ?_
  refine Tm rfl (Tz rfl rfl (Tz rfl rfl (Tz rfl rfl (Tz rfl rfl (Tz rfl rfl ?_)))))
  refine Tp (fun _ => zz rfl rfl) rfl ?_
  refine Tm rfl (Tz rfl rfl (Tz rfl rfl (Tz rfl rfl (Tz rfl rfl ?_))))
  refine Tp (fun _ => zz rfl rfl) rfl ?_
  refine Ta rfl (D1 2 rfl (zj ?_))
  refine zx rfl rfl ?_
  exact ⟨by simp [h2], hcA.trans hd⟩
 refine W_draw (fun wz => zm [] wA wz) mix (by kernel_rfl) hd ?_
 refine Tm rfl ?_
 refine Tp (fun _ => zT st9 rfl) rfl ?_
 refine Tp (fun _ => vf (yw rfl rfl) (decide_eq_false (by omega))) rfl ?_
 refine Tm rfl (Tz rfl rfl (Tz rfl rfl (Tz rfl rfl ?_)))
 refine Tp (fun _ => zz rfl rfl) rfl ?_
 refine Tm rfl (Tz rfl rfl (Tz rfl rfl (Tz rfl rfl (Tz rfl rfl (Tz rfl rfl ?_)))))
 refine Tp (fun _ => zz rfl rfl) rfl ?_
 refine Tm rfl (Tz rfl rfl (Tz rfl rfl (Tz rfl rfl (Tz rfl rfl ?_))))
 refine Tp (fun _ => zz rfl rfl) rfl ?_
 refine Ta rfl (D1 2 rfl (zj ?_))
 refine zx rfl rfl ?_
 exact ⟨by simp [h1], hcA.trans hd⟩
def fl {α : Type} (f : α → List Value) (l : List α) : List Value := l.flatMap f
section
variable {α : Type} {f : α → List Value} {k : Nat}
theorem zcf (x : α) (l : List α) : fl f (x :: l) = f x ++ fl f l := rfl
theorem zhT (l m : List α) : fl f (l ++ m) = fl f l ++ fl f m := by simp [fl]
theorem zi5 (hf : ∀ x, (f x).length = k) : ∀ l : List α, (fl f l).length = l.length * k
 | [] => by simp [fl]
 | x :: l => by rw [zcf, List.length_append, hf, zi5 hf l, List.length_cons, Nat.add_mul]; omega
theorem zgV (hf : ∀ x, (f x).length = k) : ∀ (i : Nat) (l : List α), fl f (l.drop i) = (fl f l).drop (i * k)
 | 0, l => by simp
 | i + 1, [] => by simp [fl]
 | i + 1, x :: l => by
  rw [List.drop_succ_cons, zgV hf i l, zcf, List.drop_append, hf, Nat.add_mul]
  have : (f x).drop (i * k + 1 * k) = [] := List.drop_eq_nil_of_le (by rw [hf]; omega)
  rw [this, List.nil_append]
  congr 1
  omega
theorem zgA (hf : ∀ x, (f x).length = k) : ∀ (i : Nat) (l : List α), fl f (l.take i) = (fl f l).take (i * k)
 | 0, l => by simp [fl]
 | i + 1, [] => by simp [fl]
 | i + 1, x :: l => by
  rw [List.take_succ_cons, zcf, zgA hf i l, zcf, List.take_append, hf, Nat.add_mul]
  have : (f x).take (i * k + 1 * k) = f x := List.take_of_length_le (by rw [hf]; omega)
  rw [this]
  congr 2
  omega
theorem zmP (hf : ∀ x, (f x).length = k) {l : List α} {i : Nat} {x : α} (h : l[i]? = some x) : ((fl f l).drop (i * k)).take k = f x := by
 rw [← zgV hf]
 obtain ⟨hl, rfl⟩ := List.getElem?_eq_some_iff.1 h
 rw [List.drop_eq_getElem_cons hl, zcf]
 exact List.take_left' (hf _)
theorem zc2 (h1 : ∀ x, ∀ u ∈ f x, u.oneCell' = true) (l : List α) : ∀ u ∈ fl f l, u.oneCell' = true := by
 intro u hu
 obtain ⟨x, _, hx⟩ := List.mem_flatMap.1 hu
 exact h1 x u hx
end
def zW {α : Type} (w : World) (e k : Nat) (f : α → List Value) (v : Value) (l : List α) : Prop := zB w e k v l.length (fl f l)
section
variable {α : Type} {f : α → List Value} {w w' : World} {e k : Nat} {v : Value} {l : List α}
theorem zW.chg0 (h : zW w e k f v l) (hc : zm [] w w') : zW w' e k f v l := zB.chg0 h hc
theorem zW.chg {S : List Nat} (h : zW w e k f v l) (hc : zm S w w') (hb : ∀ b ∈ zC v, b ∉ S) : zW w' e k f v l := zB.chg h hc hb
theorem zW.nil (w : World) (e k : Nat) (f : α → List Value) : zW w e k f (.slice none 0 0) [] := zB.nil w e k
theorem zW.val (h : zW w e k f v l) : ∃ p c, v = .slice p l.length c ∧ l.length ≤ c := zB.val h
end
def yq {α : Type} (w : World) (_e k : Nat) (f : α → List Value) (v : Value) (l : List α) : Prop := Rd w k v l.length (fl f l)
section
variable {α : Type} {f : α → List Value} {w w' : World} {e k : Nat} {v : Value} {l : List α}
theorem zB.arr (h : zB w e k v l.length (fl f l)) : yq w e k f v l := h.toRd
theorem zW.arr (h : zW w e k f v l) : yq w e k f v l := zB.toRd h
theorem yq.chg0 (h : yq w e k f v l) (hc : zm [] w w') : yq w' e k f v l := Rd.chg0 h hc
theorem yq.chg {S : List Nat} (h : yq w e k f v l) (hc : zm S w w') (hb : ∀ b ∈ zC v, b ∉ S) : yq w' e k f v l := Rd.chg h hc hb
theorem yq.nil (w : World) (e k : Nat) (f : α → List Value) : yq w e k f (.slice none 0 0) [] := Rd.nil w k
theorem yq.val (h : yq w e k f v l) : ∃ p c, v = .slice p l.length c ∧ l.length ≤ c := Rd.val h
theorem yq.at (hf : ∀ x, (f x).length = k) (h : yq w e k f v l) {i : Nat} {x : α} (hi : l[i]? = some x) : ∃ b off cap, v = .slice (some ⟨b, off, none⟩) l.length cap ∧ zu w b (off + i * k) (f x) := by
 have hl := (List.getElem?_eq_some_iff.1 hi).1
 obtain ⟨b, off, cap, hv, hc⟩ := Rd.atk h hl
 rw [zmP hf hi] at hc
 exact ⟨b, off, cap, hv, hc⟩
theorem yq.take (hf : ∀ x, (f x).length = k) {p : Option Addr} {c n : Nat} (h : yq w e k f (.slice p l.length c) l) (hn : n ≤ l.length) {m : Nat} (h1 : n ≤ m) (h2 : m ≤ c) : yq w e k f (cut p 0 n m k) (l.take n) := by
 have := Rd.cut h (l := 0) (h := n) (m := m) (by omega) h1 h2 hn
 unfold yq
 rw [zgA hf, List.length_take, Nat.min_eq_left hn]
 simpa using this
theorem yq.of_blk {b : Nat} {e' : TypeId} (hf : ∀ x, (f x).length = k) (h1 : ∀ x, ∀ u ∈ f x, u.oneCell' = true) (hb : zV w b e' (fl f l)) (hn : l.length ≤ maxLen) : yq w e k f (.slice (some ⟨b, 0, none⟩) l.length l.length) l :=
 (zB.of_blk hb (zi5 hf l) hn (zc2 h1 l)).toRd
end
theorem za6 (x : yx) : x.cs.length = 4 := rfl
theorem zg8 (c : Col) : c.cs.length = 4 := rfl
def ics (i : Int) : List Value := [Ii i]
theorem ze1 (i : Int) : (ics i).length = 1 := rfl
theorem zg9 (i : Int) : ∀ u ∈ ics i, u.oneCell' = true := by intro u hu; simp [ics] at hu; subst hu; rfl
def y5 (w : World) (v : Value) (l : List yx) : Prop := yq w 62 4 yx.cs v l
def zf8 (w : World) (v : Value) (l : List Col) : Prop := yq w 163 4 Col.cs v l
def zcw (w : World) (v : Value) (l : List Int) : Prop := yq w 3 1 ics v l
theorem zcw.cell {w : World} {v : Value} {l : List Int} (h : zcw w v l) {i : Nat} {x : Int} (hi : l[i]? = some x) : ∃ b off cap, v = .slice (some ⟨b, off, none⟩) l.length cap ∧ w.cell? ⟨b, off + i * 1, none⟩ = some (Ii x) := by
 obtain ⟨b, off, cap, hv, hc⟩ := yq.at ze1 h hi
 exact ⟨b, off, cap, hv, hc 0 _ rfl⟩
def zdn {α : Type} (w : World) (e k : Nat) (f : α → List Value) : List Value → List (List α) → Prop
 | [], [] => True
 | v :: vs, l :: ls => yq w e k f v l ∧ zdn w e k f vs ls
 | _, _ => False
section
variable {α : Type} {f : α → List Value} {w w' : World} {e k : Nat}
theorem zdn.at : ∀ {vs : List Value} {ls : List (List α)} {i : Nat} {l : List α}, zdn w e k f vs ls → ls[i]? = some l → ∃ v, vs[i]? = some v ∧ yq w e k f v l
 | [], [], _, _, _, h => by simp at h
 | v :: vs, l :: ls, 0, l', h, hi => by simp at hi; subst hi; exact ⟨v, rfl, h.1⟩
 | v :: vs, l :: ls, i + 1, l', h, hi => by simpa using h.2.at (by simpa using hi)
theorem zdn.chg {S : List Nat} (hc : zm S w w') : ∀ {vs : List Value} {ls : List (List α)}, (∀ v ∈ vs, ∀ b ∈ zC v, b ∉ S) → zdn w e k f vs ls → zdn w' e k f vs ls
 | [], [], _, _ => trivial
 | v :: vs, l :: ls, hb, h => ⟨h.1.chg hc (hb v (by simp)), zdn.chg hc (fun u hu => hb u (by simp [hu])) h.2⟩
theorem zdn.chg0 {vs : List Value} {ls : List (List α)} (h : zdn w e k f vs ls) (hc : zm [] w w') : zdn w' e k f vs ls := zdn.chg hc (by simp) h
end
def zU (w : World) (v : Value) (l : List yx) : Prop := zW w 62 4 yx.cs v l
def yP {α : Type} (w : World) (e k : Nat) (f : α → List Value) : List Value → List (List α) → Prop
 | [], [] => True
 | v :: vs, l :: ls => zW w e k f v l ∧ yP w e k f vs ls
 | _, _ => False
section
variable {α : Type} {f : α → List Value} {w w' : World} {e k : Nat}
theorem yP.at : ∀ {vs : List Value} {ls : List (List α)} {i : Nat} {l : List α}, yP w e k f vs ls → ls[i]? = some l → ∃ v, vs[i]? = some v ∧ zW w e k f v l
 | [], [], _, _, _, h => by simp at h
 | v :: vs, l :: ls, 0, l', h, hi => by simp at hi; subst hi; exact ⟨v, rfl, h.1⟩
 | v :: vs, l :: ls, i + 1, l', h, hi => by simpa using h.2.at (by simpa using hi)
theorem yP.append : ∀ {vs us : List Value} {ls ms : List (List α)}, yP w e k f vs ls → yP w e k f us ms → yP w e k f (vs ++ us) (ls ++ ms)
 | [], _, [], _, _, h => h
 | _ :: _, _, _ :: _, _, h, h' => ⟨h.1, h.2.append h'⟩
theorem yP.chg {S : List Nat} (hc : zm S w w') : ∀ {vs : List Value} {ls : List (List α)}, (∀ v ∈ vs, ∀ b ∈ zC v, b ∉ S) → yP w e k f vs ls → yP w' e k f vs ls
 | [], [], _, _ => trivial
 | v :: vs, l :: ls, hb, h => ⟨h.1.chg hc (hb v (by simp)), yP.chg hc (fun u hu => hb u (by simp [hu])) h.2⟩
theorem yP.chg0 {vs : List Value} {ls : List (List α)} (h : yP w e k f vs ls) (hc : zm [] w w') : yP w' e k f vs ls := yP.chg hc (by simp) h
theorem yP.one : ∀ {vs : List Value} {ls : List (List α)}, yP w e k f vs ls → ∀ u ∈ vs, u.oneCell' = true
 | [], [], _, u, hu => by simp at hu
 | v :: vs, l :: ls, h, u, hu => by
  rcases List.mem_cons.1 hu with rfl | hu
  ·exact zB.one1 h.1
  exact h.2.one u hu
theorem yP.apartSl {e' k' n : Nat} {v : Value} {xs : List Value} (hv : zB w e' k' v n xs) (hne : Nat.beq e e' = false) : ∀ {vs : List Value} {ls : List (List α)}, yP w e k f vs ls → ∀ u ∈ vs, ∀ x ∈ zC u, x ∉ zC v
 | [], [], _, u, hu => by simp at hu
 | u :: vs, l :: ls, h, u', hu => by
  rcases List.mem_cons.1 hu with rfl | hu
  ·exact zB.apartSl h.1 hv hne
  exact h.2.apartSl hv hne u' hu
end
def okT (E e : Nat) : Bool := Nat.beq E e || (Nat.beq E 49 && !Nat.beq e 44)
def Ou (w : World) (E : Nat) (v : Value) (len : Nat) (vs : List Value) : Prop :=
 Rd w 1 v len vs ∧ (0 < len → ∃ b off cap e c fr, v = .slice (some ⟨b, off, none⟩) len cap ∧ w.heap[b]? = some (.cells c e fr) ∧ okT E e = true)
section
variable {w w' : World} {E len : Nat} {v : Value} {vs : List Value}
def Nt (w : World) (E : Nat) (S : List Nat) : Prop := ∀ b ∈ S, ∀ c e fr, w.heap[b]? = some (.cells c e fr) → okT E e = false
theorem Ou.chgS {S : List Nat} (h : Ou w E v len vs) (hc : zm S w w') (hS : Nt w E S) : Ou w' E v len vs := by
 obtain ⟨h1, h2⟩ := h
 rcases Nat.eq_zero_or_pos len with hz | hp
 ·subst hz
  obtain ⟨p, cap, rfl, g2, g3, g4, g5, g6⟩ := h1
  exact ⟨⟨p, cap, rfl, g2, g3, g4, g5, fun h => absurd h (by omega)⟩, fun h => absurd h (by omega)⟩
 obtain ⟨b, off, cap, e, c, fr, rfl, hb, hk⟩ := h2 hp
 have hn : b ∉ S := fun hm => by
  have := hS b hm _ _ _ hb
  rw [hk] at this; cases this
 refine ⟨Rd.chg h1 hc (by intro x hx; simp [zC] at hx; subst hx; exact hn), fun _ => ⟨b, off, cap, e, c, fr, rfl, ?_, hk⟩⟩
 exact (hc.block b (Array.getElem?_eq_some_iff.1 hb).1 hn).trans hb
theorem Ou.chg0 (h : Ou w E v len vs) (hc : zm [] w w') : Ou w' E v len vs := h.chgS hc (fun _ hx => by simp at hx)
theorem Ou.nil (w : World) (E : Nat) : Ou w E (.slice none 0 0) 0 [] := ⟨Rd.nil w 1, fun h => absurd h (by omega)⟩
end
def zci {α : Type} (w : World) (E e k : Nat) (f : α → List Value) (v : Value) (ls : List (List α)) : Prop := ∃ vs, Ou w E v ls.length vs ∧ zdn w e k f vs ls
section
variable {α : Type} {f : α → List Value} {w w' : World} {E e k : Nat} {v : Value} {ls : List (List α)}
theorem zci.chg0 (h : zci w E e k f v ls) (hc : zm [] w w') : zci w' E e k f v ls := let ⟨vs, h1, h2⟩ := h; ⟨vs, h1.chg0 hc, h2.chg0 hc⟩
theorem zci.nil (w : World) (E e k : Nat) (f : α → List Value) : zci w E e k f (.slice none 0 0) [] := ⟨[], Ou.nil w E, trivial⟩
theorem zci.val (h : zci w E e k f v ls) : ∃ p c, v = .slice p ls.length c ∧ ls.length ≤ c := let ⟨_, h1, _⟩ := h; Rd.val h1.1
theorem zci.at (h : zci w E e k f v ls) {i : Nat} {l : List α} (hi : ls[i]? = some l) : ∃ b off cap u, v = .slice (some ⟨b, off, none⟩) ls.length cap ∧ w.cell? ⟨b, off + i * 1, none⟩ = some u ∧ yq w e k f u l := by
 obtain ⟨vs, h1, h2⟩ := h
 obtain ⟨u, hu, ha⟩ := h2.at hi
 obtain ⟨b, off, cap, u', hv, hu', hc⟩ := Rd.at1 h1.1 (List.getElem?_eq_some_iff.1 hi).1
 rw [hu] at hu'
 cases hu'
 exact ⟨b, off, cap, u, hv, hc, ha⟩
end
def zcS (w : World) (v : Value) (ls : List (List Int)) : Prop := zci w 49 3 1 ics v ls
structure zei (w : World) (c k u : Value) (s : Sch) : Prop where
 cols : zf8 w c s.cols
 key : zcw w k s.key
 uq : zcS w u s.uq
theorem zei.chg0 {w w' : World} {c k u : Value} {s : Sch} (h : zei w c k u s) (hc : zm [] w w') : zei w' c k u s := ⟨yq.chg0 h.cols hc, yq.chg0 h.key hc, zci.chg0 h.uq hc⟩
end Go.Wk
