/- joined texts -/
import Derived.Test.YtcnkdoecfljnlaaGreatDoorQ10
import Derived.Test.YtcnkdoecfljnlaaGreatDoorRows
import Derived.ProofKit
import Derived.OpenShut
import Derived.Deep.Slices
import Derived.LaidMore
import Derived.ChangeSame
import Derived.LaidHandle
import Derived.Stop.Joined
set_option linter.all false
namespace Go.Wk
open Go.Proofs
set_option maxRecDepth 10000
end Go.Wk
namespace Go.Proofs.YtcnkdoecfljnlaaGreatDoor
open Go.ChangeShapes Go.WideShapes Go.ChangeAt Go.RowKit Go.Deep
set_option maxRecDepth 100000
theorem zxi : ownKnob Tryz.prog.godebug = none := by kernel_rfl
theorem zf9 : laidOutB Tryz.prog = true := by kernel_rfl
abbrev ziQ : List (String × DataW Unit) := [("math/bits.deBruijn32tab", Rows.laid_math_bits_deBruijn32tab), ("math/bits.deBruijn64tab", Rows.laid_math_bits_deBruijn64tab), ("internal/strconv.uint64pow10", Rows.laid_internal_strconv_uint64pow10), ("errors.errorType", Rows.laid_errors_errorType)]
theorem etT : Tryz.prog.globalNamed "errors.errorType" = some 0 := by kernel_rfl
theorem rtT : (Tryz.prog.cutTypes.find? (·.1 == "internal/reflectlite.rtype")).map (·.2) = some 247 := by kernel_rfl
theorem zvS : Tryz.prog.types.size = 403 := by kernel_rfl
theorem zqE : ((List.range 403).filter fun t => Tryz.prog.rowNamed t [101, 114, 114, 111, 114]) = [106] := by kernel_rfl
theorem zpT (os : Os) (args : Array Value) : laidMetH Tryz.prog ziQ ((World.doorLaid Tryz.prog 31 os).forCall (fun _ _ => 0) ⟨#[], args, []⟩).memory :=
 laidMetH_of_parts3 (fuel := 8) (laidMet_of_run' 8 (by kernel_rfl) (by kernel_rfl)) (by kernel_rfl) (by kernel_rfl)
theorem zjQ {W : World} (h : laidMetH Tryz.prog ziQ W) : Wk.EOk W := by
 have h' : laidMet Tryz.prog (ziQ.filter fun x => x.2.handleName?.isNone) W ∧ handlesMet Tryz.prog [("errors.errorType", Rows.laid_errors_errorType)] W := h
 obtain ⟨name, u, ty, e1, e2, e3, e4, e5⟩ := h'.2 _ (List.mem_singleton.2 rfl)
 have en : name = [101, 114, 114, 111, 114] := (Option.some.inj e1).symm
 subst en
 obtain rfl := Option.some.inj (rtT.symm.trans e2)
 have hm : ty ∈ (List.range 403).filter fun t => Tryz.prog.rowNamed t [101, 114, 114, 111, 114] := List.mem_filter.2 ⟨List.mem_range.2 (by rw [← zvS]; exact e3), e4⟩
 rw [zqE] at hm
 obtain rfl := List.mem_singleton.1 hm
 have hh : typeHandle Tryz.prog 106 = Wk.hnd 106 := by kernel_rfl
 rw [hh] at e5
 have h0 := World.var?_cell etT e5 0
 have h1 : W.cell? ⟨0, 0, none⟩ = some (Value.iface 247 (Value.agg #[Wk.hnd 106])) := by simpa using h0
 exact h1
end Go.Proofs.YtcnkdoecfljnlaaGreatDoor
namespace Go.Proofs.YtcnkdoecfljnlaaGreatDoor
open Go.ChangeShapes Go.WideShapes Go.ChangeAt Go.RowKit Go.Deep
set_option maxRecDepth 100000
theorem zmT {α : Type} {R : Nat → α → Prop} : ∀ n : Nat, (∀ i, i < n → ∃ y, R i y) → ∃ l : List α, l.length = n ∧ ∀ i y, l[i]? = some y → R i y
 | 0, _ => ⟨[], rfl, fun i y h => by simp at h⟩
 | n + 1, h => by
  obtain ⟨l, hl, hr⟩ := zmT n fun i hi => h i (by omega)
  obtain ⟨y, hy⟩ := h n (by omega)
  refine ⟨l ++ [y], by simp [hl], fun i z hz => ?_⟩
  rcases Nat.lt_or_ge i l.length with hi | hi
  ·rw [List.getElem?_append_left hi] at hz
   exact hr i z hz
  rw [List.getElem?_append_right hi] at hz
  have : i - l.length = 0 := by
   rcases Nat.eq_zero_or_pos (i - l.length) with h0 | h0
   ·exact h0
   rw [List.getElem?_eq_none (by simp; omega)] at hz; cases hz
  rw [this] at hz
  simp at hz
  subst hz
  have : i = n := by omega
  subst this; exact hy
section
variable {P : Program} {H : Type} {enc : TypeId × Value → H} {W : World} {b : Nat} {sp : Nat → Bool} {hd : Bool}
theorem zf4 {t e : TypeId} {k : Nat} {α : Type} {f : α → List Value} {Q : α → Prop} (ht : P.underlying t = some (.slice e)) (hk : P.cellsOf e = k) (hk0 : 0 < k) (hf : ∀ x, (f x).length = k) (ho : ∀ x, Q x → ∀ u ∈ f x, u.oneCell' = true)
 (each : ∀ n cs x, DataW.trod enc P W b sp hd n e cs = some x → ∃ y, cs = f y ∧ Q y) {fuel : Nat} {cs : List Value} {x : DataW H × List MemPlace} (h : DataW.trod enc P W b sp hd fuel t cs = some x) :
 ∃ v l, cs = [v] ∧ Wk.ya W e k f v l ∧ ∀ y ∈ l, Q y := by
 rcases open_slice ht h with ⟨rfl, _⟩ | ⟨a, len, cap, m, n, D, Pl, rfl, _, hl, hcm, hm, _, hx⟩
 ·exact ⟨_, [], rfl, Wk.ya.nil _ _ _ _, by simp⟩
 have hlm : len ≤ m := by rw [hm]; split <;> omega
 obtain ⟨l, hll, hR⟩ := zmT (R := fun i y => W.cells? b (a.add (i * k)) k = some (f y) ∧ Q y) len fun i hi => by
  obtain ⟨cs', h1, h2⟩ := hx i (by omega)
  rw [hk] at h1
  obtain ⟨y, rfl, hq⟩ := each _ _ _ h2
  exact ⟨y, h1, hq⟩
 have hQ : ∀ y ∈ l, Q y := fun y hy => by
  obtain ⟨i, hi⟩ := List.getElem?_of_mem hy
  exact (hR i y hi).2
 refine ⟨_, l, rfl, ?_, hQ⟩
 subst hll
 refine ⟨some a, cap, rfl, hl, hcm, Wk.zjf hf l, fun u hu => ?_, fun hp => ?_⟩
 ·obtain ⟨y, hy, hu'⟩ := List.mem_flatMap.1 hu
  exact ho y (hQ y hy) u hu'
 have hspot : a.spot = none := by
  have h0 : l[0]? = some l[0] := by simp [hp]
  obtain ⟨h1, _⟩ := hR 0 _ h0
  obtain ⟨_, hl3, hcell⟩ := World.cells?_some h1
  have h3 := hcell 0 hk0
  have h4 : (f l[0])[0]? = some ((f l[0])[0]'(by rw [hf]; exact hk0)) := by simp [hf, hk0]
  rw [h4] at h3
  simpa [Addr.add] using World.cell?_spot h3
 obtain ⟨bb, oo, ss⟩ := a
 dsimp only at hspot
 subst hspot
 refine ⟨bb, oo, rfl, fun j u hj => ?_⟩
 have hlen := Wk.zjf (k := k) hf l
 have hjl : j < l.length * k := by have := (List.getElem?_eq_some_iff.1 hj).1; omega
 have hi : j / k < l.length := (Nat.div_lt_iff_lt_mul hk0).2 hjl
 have hr : j % k < k := Nat.mod_lt _ hk0
 have hy : l[j / k]? = some l[j / k] := by simp [hi]
 generalize l[j / k] = y at hy
 obtain ⟨h1, _⟩ := hR _ _ hy
 rw [Addr.add_lit] at h1
 obtain ⟨_, _, hcell⟩ := World.cells?_some h1
 have h3 := hcell (j % k) hr
 rw [Addr.add_lit] at h3
 have hdm : j / k * k + j % k = j := Nat.div_add_mod' j k
 have h5 : (f y)[j % k]? = some u := by
  rw [← Wk.zog hf hy, List.getElem?_take, if_pos hr, List.getElem?_drop, hdm]
  exact hj
 rw [h5] at h3
 rw [← h3]
 congr 2
 omega
end
section
variable {H : Type} {enc : TypeId × Value → H} {W : World} {b : Nat} {sp : Nat → Bool} {hd : Bool}
theorem cV : Tryz.prog.cellsOf 40 = 4 := by kernel_rfl
theorem cA : Tryz.prog.cellsOf 50 = 4 := by kernel_rfl
theorem c1a : Tryz.prog.cellsOf 3 = 1 := by kernel_rfl
theorem c1b : Tryz.prog.cellsOf 2 = 1 := by kernel_rfl
theorem c1c : Tryz.prog.cellsOf 38 = 1 := by kernel_rfl
theorem c1d : Tryz.prog.cellsOf 9 = 1 := by kernel_rfl
theorem c1e : Tryz.prog.cellsOf 37 = 1 := by kernel_rfl
theorem c1f : Tryz.prog.cellsOf 48 = 1 := by kernel_rfl
theorem ztG {n : Int} (h : (Lit.int .i64 n).wf = true) : -9223372036854775808 ≤ n ∧ n ≤ 9223372036854775807 := by
 simp only [Lit.wf, Bool.and_eq_true, decide_eq_true_eq] at h
 have e1 : IntKind.i64.min = -9223372036854775808 := by decide
 have e2 : IntKind.i64.max = 9223372036854775807 := by decide
 rw [e1, e2] at h
 exact h
theorem zvP {n : Int} (h : (Lit.int .u64 n).wf = true) : 0 ≤ n ∧ n < 18446744073709551616 := by
 simp only [Lit.wf, Bool.and_eq_true, decide_eq_true_eq] at h
 have e1 : IntKind.u64.min = 0 := by decide
 have e2 : IntKind.u64.max = 18446744073709551615 := by decide
 rw [e1, e2] at h
 omega
theorem zpq {n : Nat} {cs : List Value} {x : DataW H × List MemPlace} (h : DataW.trod enc Tryz.prog W b sp hd n 40 cs = some x) : ∃ y : Wk.zN, cs = y.cs ∧ y.Rng := by
 obtain ⟨xs, m, _, _, hlen, hxl, hf⟩ := DataW.trod_struct Tryz.underlying40 h
 rw [cV] at hlen
 match cs, hlen with
 | [c0, c1, c2, c3], _ =>
  have g0 : DataW.trod enc Tryz.prog W b sp hd m 37 (([c0, c1, c2, c3].drop 0).take (Tryz.prog.cellsOf 37)) = xs[0]? := hf 0 _ rfl
  have g1 : DataW.trod enc Tryz.prog W b sp hd m 2 (([c0, c1, c2, c3].drop 1).take (Tryz.prog.cellsOf 2)) = xs[1]? := hf 1 _ rfl
  have g2 : DataW.trod enc Tryz.prog W b sp hd m 38 (([c0, c1, c2, c3].drop 2).take (Tryz.prog.cellsOf 38)) = xs[2]? := hf 2 _ rfl
  have g3 : DataW.trod enc Tryz.prog W b sp hd m 9 (([c0, c1, c2, c3].drop 3).take (Tryz.prog.cellsOf 9)) = xs[3]? := hf 3 _ rfl
  rw [c1e] at g0
  rw [c1b] at g1
  rw [c1c] at g2
  rw [c1d] at g3
  have hx4 : xs.length = 4 := hxl
  match xs, hx4 with
  | [y0, y1, y2, y3], _ =>
   have g0 : DataW.trod enc Tryz.prog W b sp hd m 37 [c0] = some y0 := g0
   have g1 : DataW.trod enc Tryz.prog W b sp hd m 2 [c1] = some y1 := g1
   have g2 : DataW.trod enc Tryz.prog W b sp hd m 38 [c2] = some y2 := g2
   have g3 : DataW.trod enc Tryz.prog W b sp hd m 9 [c3] = some y3 := g3
   obtain ⟨i0, e0, _, w0⟩ := DataW.trod_int (k := .i64) (by kernel_rfl) g0
   obtain ⟨i1, e1, _, w1⟩ := DataW.trod_int (k := .i64) (by kernel_rfl) g1
   obtain ⟨i2, e2, _, w2⟩ := DataW.trod_int (k := .u64) (by kernel_rfl) g2
   obtain ⟨s, e3, _, _⟩ := DataW.trod_string (by kernel_rfl) g3
   simp only [List.cons.injEq, and_true] at e0 e1 e2 e3
   subst e0 e1 e2 e3
   have h2 := zvP w2
   obtain ⟨u, rfl⟩ := Int.eq_ofNat_of_zero_le h2.1
   exact ⟨⟨i0, i1, u, s⟩, rfl, ztG w0, ztG w1, by have := h2.2; simp only at this ⊢; omega⟩
theorem zn1 {n : Nat} {cs : List Value} {x : DataW H × List MemPlace} (h : DataW.trod enc Tryz.prog W b sp hd n 48 cs = some x) : ∃ v l, cs = [v] ∧ Wk.zJ W v l ∧ ∀ y ∈ l, y.Rng :=
 zf4 (f := Wk.zN.cs) (Q := Wk.zN.Rng) Tryz.underlying48 cV (by decide) Wk.zbc (fun x _ => Wk.zN.one x) (fun _ _ _ h => zpq h) h
theorem zk5 {n : Nat} {cs : List Value} {x : DataW H × List MemPlace} (h : DataW.trod enc Tryz.prog W b sp hd n 50 cs = some x) : ∃ y : Wk.zb2, cs = y.cs ∧ ∃ a, Wk.zbJ W y a := by
 obtain ⟨xs, m, _, _, hlen, hxl, hf⟩ := DataW.trod_struct Tryz.underlying50 h
 rw [cA] at hlen
 match cs, hlen with
 | [c0, c1, c2, c3], _ =>
  have g0 : DataW.trod enc Tryz.prog W b sp hd m 3 (([c0, c1, c2, c3].drop 0).take (Tryz.prog.cellsOf 3)) = xs[0]? := hf 0 _ rfl
  have g1 : DataW.trod enc Tryz.prog W b sp hd m 3 (([c0, c1, c2, c3].drop 1).take (Tryz.prog.cellsOf 3)) = xs[1]? := hf 1 _ rfl
  have g2 : DataW.trod enc Tryz.prog W b sp hd m 48 (([c0, c1, c2, c3].drop 2).take (Tryz.prog.cellsOf 48)) = xs[2]? := hf 2 _ rfl
  have g3 : DataW.trod enc Tryz.prog W b sp hd m 9 (([c0, c1, c2, c3].drop 3).take (Tryz.prog.cellsOf 9)) = xs[3]? := hf 3 _ rfl
  rw [c1a] at g0 g1
  rw [c1f] at g2
  rw [c1d] at g3
  have hx4 : xs.length = 4 := hxl
  match xs, hx4 with
  | [y0, y1, y2, y3], _ =>
   have g0 : DataW.trod enc Tryz.prog W b sp hd m 3 [c0] = some y0 := g0
   have g1 : DataW.trod enc Tryz.prog W b sp hd m 3 [c1] = some y1 := g1
   have g2 : DataW.trod enc Tryz.prog W b sp hd m 48 [c2] = some y2 := g2
   have g3 : DataW.trod enc Tryz.prog W b sp hd m 9 [c3] = some y3 := g3
   obtain ⟨i0, e0, _, w0⟩ := DataW.trod_int (k := .i64) (by kernel_rfl) g0
   obtain ⟨i1, e1, _, w1⟩ := DataW.trod_int (k := .i64) (by kernel_rfl) g1
   obtain ⟨v, l, e2, hv, hr⟩ := zn1 g2
   obtain ⟨s, e3, _, _⟩ := DataW.trod_string (by kernel_rfl) g3
   simp only [List.cons.injEq, and_true] at e0 e1 e2 e3
   subst e0 e1 e2 e3
   exact ⟨⟨i0, i1, c2, s⟩, rfl, ⟨i0, i1, l, s⟩, rfl, rfl, rfl, hv, hr, ztG w1⟩
end
end Go.Proofs.YtcnkdoecfljnlaaGreatDoor
namespace Go.Wk
open Go.Proofs
set_option maxRecDepth 10000
theorem zjU (x : zN) : zbD x = true ↔ ((0 ≤ x.k ∧ x.k ≤ 4) ∧ ((x.k ≠ 1 ∧ x.k ≠ 3) → x.i = 0) ∧ (x.k ≠ 2 → x.u = 0) ∧ (x.k ≠ 4 → x.b = e0) ∧ (x.k = 3 → x.i = 0 ∨ x.i = 1)) := by
 obtain ⟨k, i, u, b⟩ := x
 simp only [zbD, zfM, zeo, znC, Bool.and_eq_true, Bool.or_eq_true, decide_eq_true_eq, Bool.not_eq_true', decide_eq_false_iff_not, zN.mk.injEq, true_and]
 constructor
 ·rintro ⟨⟨h0, h1, h2, h3⟩, h4⟩
  refine ⟨h0, fun h => ?_, fun h => ?_, fun h => ?_, fun h => ?_⟩
  ·rw [if_neg (by omega)] at h1; exact h1
  ·rw [if_neg h] at h2; exact h2
  ·rw [if_neg h] at h3; exact h3
  omega
 rintro ⟨h0, h1, h2, h3, h4⟩
 refine ⟨⟨h0, ?_, ?_, ?_⟩, by omega⟩
 ·split
  ·rfl
  exact h1 (by omega)
 ·split
  ·rfl
  exact h2 (by assumption)
 split
 ·rfl
 exact h3 (by assumption)
theorem zqm (x : zN) (w : World) : z0 TP 93 #[x.v] w fun r w' => r = Ii (zaY x) ∧ zj [] w w' := by
 refine A1 Tryz.func93 rfl rfl ?_
 refine Sr ?_
 refine Ob rfl rfl ?_
 intro b1 w1 e1 n1 c1 k1
 refine Oa rfl (E1 1 rfl ?_)
 have k1 : zQ w1 b1 40 x.cs := k1
 refine Sr (Od zao rfl ?_)
 refine Ol zch rfl (k1.cell' (i := 0) rfl) ?_
 refine Oa rfl (E2 1 3 rfl (ze (Sr (Om rfl (Og (zB rfl rfl) rfl (Om rfl ?_))))))
 apply zga (t := 11)
 case h0 =>
  intro H
  refine Oz rfl rfl (Oz rfl rfl (Ot rfl ?_))
  exact zaa [9, 10] rfl H
 case h1 =>
  intro hc H
  refine Oj rfl rfl ?_
  refine Oy rfl rfl (yc rfl rfl) ?_
  refine Of rfl ?_
  exact zaa [9, 10] rfl H
 refine Om rfl ?_
 apply zga (t := 24)
 case h0 =>
  intro H
  refine Oz rfl rfl (Oz rfl rfl (Oz rfl rfl ?_))
  refine zF rfl rfl rfl rfl rfl ?_
  refine zF rfl rfl rfl rfl rfl ?_
  refine Oz rfl rfl (Oz rfl rfl ?_)
  refine zF rfl rfl rfl rfl rfl ?_
  refine zF rfl rfl rfl rfl rfl ?_
  refine zF rfl rfl rfl rfl rfl ?_
  refine Oz rfl rfl (Ot rfl ?_)
  exact zaa [13, 14, 15, 16, 17, 18, 19, 20, 21, 22, 23] rfl H
 case h1 =>
  intro hc H
  refine Oj rfl rfl ?_
  refine Oy rfl rfl (zY rfl rfl) ?_
  refine Oj rfl rfl ?_
  apply zcx (t := 18)
  case h0 =>
   intro H
   refine Oz rfl rfl (Oz rfl rfl ?_)
   refine Oy rfl rfl (zP rfl rfl) ?_
   exact zaa [16, 17] rfl H
  case h1 =>
   intro hc H
   refine Oj rfl rfl ?_
   refine Oy rfl rfl (zY rfl rfl) ?_
   refine Oy rfl rfl (zI rfl rfl) ?_
   exact zaa [16, 17] rfl H
  refine Oj rfl rfl ?_
  apply zcx (t := 23)
  case h0 =>
   intro H
   refine Oz rfl rfl (Oz rfl rfl (Oz rfl rfl ?_))
   refine Oy rfl rfl (zP rfl rfl) ?_
   exact zaa [20, 21, 22] rfl H
  case h1 =>
   intro hc H
   refine Oy rfl rfl (zl yW rfl) ?_
   refine Oy rfl rfl (zh ag2 rfl (k1.cell' (i := 1) rfl)) ?_
   refine Oy rfl rfl (zY rfl rfl) ?_
   refine Oy rfl rfl (zI rfl rfl) ?_
   exact zaa [20, 21, 22] rfl H
  refine Of rfl ?_
  exact zaa [13, 14, 15, 16, 17, 18, 19, 20, 21, 22, 23] rfl H
 refine Om rfl ?_
 apply zga (t := 33)
 case h0 =>
  intro H
  refine Oz rfl rfl (Oz rfl rfl (Oz rfl rfl ?_))
  refine zF rfl rfl rfl rfl rfl ?_
  refine zF rfl rfl rfl rfl rfl ?_
  refine zF rfl rfl rfl rfl rfl ?_
  refine Oz rfl rfl (Ot rfl ?_)
  exact zaa [26, 27, 28, 29, 30, 31, 32] rfl H
 case h1 =>
  intro hc H
  refine Oj rfl rfl ?_
  refine Oy rfl rfl (zY rfl rfl) ?_
  refine Oj rfl rfl ?_
  apply zcx (t := 32)
  case h0 =>
   intro H
   refine Oz rfl rfl (Oz rfl rfl (Oz rfl rfl ?_))
   refine Oy rfl rfl (zP rfl rfl) ?_
   exact zaa [29, 30, 31] rfl H
  case h1 =>
   intro hc H
   refine Oy rfl rfl (zl zaO rfl) ?_
   refine Oy rfl rfl (zh zcV rfl (k1.cell' (i := 2) rfl)) ?_
   refine Oy rfl rfl (zY rfl rfl) ?_
   refine Oy rfl rfl (zI rfl rfl) ?_
   exact zaa [29, 30, 31] rfl H
  refine Of rfl ?_
  exact zaa [26, 27, 28, 29, 30, 31, 32] rfl H
 refine Om rfl ?_
 apply zga (t := 42)
 case h0 =>
  intro H
  refine Oz rfl rfl (Oz rfl rfl (Oz rfl rfl ?_))
  refine zF rfl rfl rfl rfl rfl ?_
  refine zF rfl rfl rfl rfl rfl ?_
  refine zF rfl rfl rfl rfl rfl ?_
  refine Oz rfl rfl (Ot rfl ?_)
  exact zaa [35, 36, 37, 38, 39, 40, 41] rfl H
 case h1 =>
  intro hc H
  refine Oj rfl rfl ?_
  refine Oy rfl rfl (zY rfl rfl) ?_
  refine Oj rfl rfl ?_
  apply zcx (t := 41)
  case h0 =>
   intro H
   refine Oz rfl rfl (Oz rfl rfl (Oz rfl rfl ?_))
   refine Oy rfl rfl (zP rfl rfl) ?_
   exact zaa [38, 39, 40] rfl H
  case h1 =>
   intro hc H
   refine Oy rfl rfl (zl zaE rfl) ?_
   refine Oy rfl rfl (zh ag9 rfl (k1.cell' (i := 3) rfl)) ?_
   refine Oy rfl rfl (zcC rfl rfl) ?_
   refine Oy rfl rfl (zI rfl rfl) ?_
   exact zaa [38, 39, 40] rfl H
  refine Of rfl ?_
  exact zaa [35, 36, 37, 38, 39, 40, 41] rfl H
 refine Om rfl ?_
 apply zga (t := 56)
 case h0 =>
  intro H
  refine Oz rfl rfl (Oz rfl rfl (Oz rfl rfl ?_))
  refine zF rfl rfl rfl rfl rfl ?_
  refine zF rfl rfl rfl rfl rfl ?_
  refine zF rfl rfl rfl rfl rfl ?_
  refine Oz rfl rfl (Oz rfl rfl ?_)
  refine zF rfl rfl rfl rfl rfl ?_
  refine zF rfl rfl rfl rfl rfl ?_
  refine zF rfl rfl rfl rfl rfl ?_
  refine Oz rfl rfl (Ot rfl ?_)
  exact zaa [44, 45, 46, 47, 48, 49, 50, 51, 52, 53, 54, 55] rfl H
 case h1 =>
  intro hc H
  refine Oj rfl rfl ?_
  refine Oy rfl rfl (zw rfl rfl) ?_
  refine Oj rfl rfl ?_
  apply zcx (t := 50)
  case h0 =>
   intro H
   refine Oz rfl rfl (Oz rfl rfl (Oz rfl rfl ?_))
   refine Oy rfl rfl (zP rfl rfl) ?_
   exact zaa [47, 48, 49] rfl H
  case h1 =>
   intro hc H
   refine Oy rfl rfl (zl yW rfl) ?_
   refine Oy rfl rfl (zh ag2 rfl (k1.cell' (i := 1) rfl)) ?_
   refine Oy rfl rfl (zY rfl rfl) ?_
   refine Oy rfl rfl (zI rfl rfl) ?_
   exact zaa [47, 48, 49] rfl H
  refine Oj rfl rfl ?_
  apply zcx (t := 55)
  case h0 =>
   intro H
   refine Oz rfl rfl (Oz rfl rfl (Oz rfl rfl ?_))
   refine Oy rfl rfl (zP rfl rfl) ?_
   exact zaa [52, 53, 54] rfl H
  case h1 =>
   intro hc H
   refine Oy rfl rfl (zl yW rfl) ?_
   refine Oy rfl rfl (zh ag2 rfl (k1.cell' (i := 1) rfl)) ?_
   refine Oy rfl rfl (zY rfl rfl) ?_
   refine Oy rfl rfl (zI rfl rfl) ?_
   exact zaa [52, 53, 54] rfl H
  refine Of rfl ?_
  exact zaa [44, 45, 46, 47, 48, 49, 50, 51, 52, 53, 54, 55] rfl H
 refine E2 1 56 rfl ?_
 refine zR rfl (fun hT => ?_) (fun hF => ?_)
 ·refine Sr (Oa rfl (E1 2 rfl (zi ?_)))
  repeat first | refine tr ?_ | refine br ?_
  refine zD rfl rfl ?_
  have hff : zbD x = false := by
   cases hf : zbD x with
   | false => rfl
   | true =>
    exfalso
    obtain ⟨h0, h1, h2, h3, h4⟩ := (zjU x).1 hf
    have e : (⟨#[]⟩ : ByteArray) = e0 := rfl
    simp only [e, Bool.or_eq_true, Bool.and_eq_true, decide_eq_true_eq, Bool.not_eq_true', decide_eq_false_iff_not] at hT
    by_cases hb : x.b = e0
    ·simp only [hb, not_true, and_false, or_false] at hT; omega
    have : x.k = 4 := by
     rcases Classical.em (x.k = 4) with h | h
     ·exact h
     exact absurd (h3 h) hb
    simp only [hb, not_false_iff, and_true] at hT; omega
  refine ⟨?_, c1⟩
  rw [zaY, hff]; rfl
 refine zm ?_
 have hff : zbD x = true := by
  rw [zjU]
  have e : (⟨#[]⟩ : ByteArray) = e0 := rfl
  simp only [e, Bool.or_eq_false_iff, Bool.and_eq_false_iff, decide_eq_false_iff_not, Bool.not_eq_false', decide_eq_true_eq] at hF
  refine ⟨by omega, fun h => by omega, fun h => by omega, fun h => ?_, fun h => by omega⟩
  by_cases hb : x.b = e0
  ·exact hb
  simp only [hb, or_false] at hF; omega
 refine ze (ze ?_)
 by_cases hl : 200 < x.b.size
 ·refine za (Od zaE rfl ?_)
  refine Ol ag9 rfl (k1.cell' (i := 3) rfl) ?_
  refine Og (yN st9 rfl) rfl ?_
  refine Og (vt (yc rfl rfl) (by simp; omega)) rfl ?_
  refine E1 60 rfl (zd rfl (Sr (Oa rfl (E1 2 rfl (zi ?_)))))
  repeat first | refine tr ?_ | refine br ?_
  refine zD rfl rfl ?_
  refine ⟨?_, c1⟩
  rw [zaY, hff, if_neg (by simp), if_pos hl]
 refine za (Od zaE rfl ?_)
 refine Ol ag9 rfl (k1.cell' (i := 3) rfl) ?_
 refine Og (yN st9 rfl) rfl ?_
 refine Og (vf (yc rfl rfl) (by simp; omega)) rfl ?_
 refine E1 60 rfl (zb rfl (zm (Sr (Oa rfl (E1 2 rfl (zi ?_))))))
 refine zD rfl rfl ?_
 refine ⟨?_, c1⟩
 rw [zaY, hff, if_neg (by simp), if_neg hl]
def zfY (j : Nat) (b : UInt8) : Bool := zdz b || (!decide (j = 0) && zgu b)
theorem zpE {l : List UInt8} : (match l with | [] => false | b :: r => zdz b && decide (r.length ≤ 23) && r.all fun c => zdz c || zgu c) = (decide (1 ≤ l.length) && decide (l.length ≤ 24) && (List.range l.length).all fun j => zfY j ((l[j]?).getD 0)) := by
 cases l with
 | nil => rfl
 | cons b r =>
  have e : (List.range (b :: r).length).all (fun j => zfY j (((b :: r)[j]?).getD 0)) = (zdz b && r.all fun c => zdz c || zgu c) := by
   rw [List.length_cons, List.range_succ_eq_map, List.all_cons, List.all_map]
   have e0 : zfY 0 (((b :: r)[0]?).getD 0) = zdz b := by simp [zfY]
   rw [e0]
   congr 1
   rw [Bool.eq_iff_iff]
   simp only [List.all_eq_true, List.mem_range, Function.comp]
   constructor
   ·intro h c hc
    obtain ⟨i, hi, rfl⟩ := List.mem_iff_getElem.1 hc
    have := h i hi
    simpa [zfY, hi] using this
   intro h i hi
   have := h r[i] (List.getElem_mem hi)
   simpa [zfY, hi] using this
  rw [e]
  have e2 : decide (1 ≤ (b :: r).length) = true := decide_eq_true (by simp)
  have e3 : decide ((b :: r).length ≤ 24) = decide (r.length ≤ 23) := by rw [Bool.eq_iff_iff]; simp
  rw [e2, e3]
  show (zdz b && decide (r.length ≤ 23) && r.all fun c => zdz c || zgu c) = _
  generalize (r.all fun c => zdz c || zgu c) = A
  generalize decide (r.length ≤ 23) = B
  generalize zdz b = C
  cases A <;> cases B <;> cases C <;> rfl
theorem zkG (s : ByteArray) : zg1 s = (decide (1 ≤ s.size) && decide (s.size ≤ 24) && (List.range s.size).all fun j => zfY j ((s.data.toList[j]?).getD 0)) := by
 have h := zpE (l := s.data.toList)
 have e : s.data.toList.length = s.size := by simp
 rw [e] at h
 exact h
theorem zjy (s : ByteArray) (w : World) (hs : s.size ≤ 1048576) : z0 TP 87 #[.string s] w fun r w' => r = .bool (zg1 s) ∧ w' = w := by
 refine A1 Tryz.func87 rfl rfl ?_
 refine Sr (Oa rfl (E1 0 rfl ?_))
 have hsz : s.data.toList.length = s.size := by simp
 refine ye (fun F wx => (∃ f3 f8, F = [(0, .string s), (3, f3), (8, f8)]) ∧ wx = w ∧ (List.range s.size).all (fun j => zfY j ((s.data.toList[j]?).getD 0)) = true) ?_ ?_
 ·refine Sr (Oa rfl (E2 0 3 rfl (zq ?_)))
  refine zZ [0, 3] (fun m F wx => ∃ j : Nat, m = s.size - j ∧ j ≤ s.size ∧ F = [(0, .string s), (3, Ii j)] ∧ wx = w ∧ ∀ i, i < j → zfY i ((s.data.toList[i]?).getD 0) = true) (m := s.size - 0) ⟨0, rfl, Nat.zero_le _, rfl, rfl, by omega⟩ ?_
  rintro m F wx ⟨j, rfl, hj, rfl, rfl, hall⟩
  refine ze (ze ?_)
  by_cases hlt : j < s.size
  ·refine za (Om rfl (Om rfl ?_))
   refine Og (yN st9 rfl) rfl ?_
   refine Og (vt (zB rfl rfl) (by simp; omega)) rfl ?_
   refine E3 0 3 8 rfl (zd rfl (zm ?_))
   have hb : s.data.toList[j]? = some (s.data.toList[j]'(by omega)) := by simp
   generalize s.data.toList[j]'(by omega) = b at hb
   have hb' : s.data[j]? = some b := by rw [← Array.getElem?_toList]; exact hb
   refine ze (zq (Sr (Om rfl (Om rfl ?_))))
   refine Og (zb8 st9 rfl rfl _ rfl hb') rfl ?_
   refine Og (yl rfl rfl) rfl ?_
   refine Om rfl ?_
   apply zcx (t := 20)
   case h0 =>
    intro H
    refine Oz rfl rfl (Oz rfl rfl (Oz rfl rfl (Oz rfl rfl (Of rfl ?_))))
    exact zaa [16, 17, 18, 19] rfl H
   case h1 =>
    intro hc H
    refine Oj rfl rfl (Oj rfl rfl ?_)
    refine Oy rfl rfl (zb8 st9 rfl rfl _ rfl hb') ?_
    refine Oy rfl rfl (za1 rfl rfl) ?_
    refine Ot rfl ?_
    exact zaa [16, 17, 18, 19] rfl H
   refine Oa rfl (E3 0 3 4 rfl (Sr (Om rfl (Og (zS rfl) rfl (Om rfl ?_)))))
   apply zcx (t := 44)
   case h0 =>
    intro H
    refine Oz rfl rfl (Oz rfl rfl (Oz rfl rfl ?_))
    refine zF rfl rfl rfl rfl rfl ?_
    refine zF rfl rfl rfl rfl rfl ?_
    refine zF rfl rfl rfl rfl rfl ?_
    refine zF rfl rfl rfl rfl rfl ?_
    refine zF rfl rfl rfl rfl rfl ?_
    refine zF rfl rfl rfl rfl rfl ?_
    refine zF rfl rfl rfl rfl rfl ?_
    refine zF rfl rfl rfl rfl rfl ?_
    refine zF rfl rfl rfl rfl rfl ?_
    refine zF rfl rfl rfl rfl rfl ?_
    refine zF rfl rfl rfl rfl rfl ?_
    refine zF rfl rfl rfl rfl rfl ?_
    refine zF rfl rfl rfl rfl rfl ?_
    refine zF rfl rfl rfl rfl rfl ?_
    refine zF rfl rfl rfl rfl rfl ?_
    refine zF rfl rfl rfl rfl rfl ?_
    refine Oz rfl rfl (Of rfl ?_)
    exact zaa [24, 25, 26, 27, 28, 29, 30, 31, 32, 33, 34, 35, 36, 37, 38, 39, 40, 41, 42, 43] rfl H
   case h1 =>
    intro hc H
    refine Oj rfl rfl ?_
    refine Oy rfl rfl (zw rfl rfl) ?_
    refine Oj rfl rfl ?_
    apply zga (t := 43)
    case h0 =>
     intro H
     refine Oz rfl rfl (Oz rfl rfl (Oz rfl rfl (Oz rfl rfl (Oz rfl rfl ?_))))
     refine zF rfl rfl rfl rfl rfl ?_
     refine zF rfl rfl rfl rfl rfl ?_
     refine zF rfl rfl rfl rfl rfl ?_
     refine zF rfl rfl rfl rfl rfl ?_
     refine zF rfl rfl rfl rfl rfl ?_
     refine zF rfl rfl rfl rfl rfl ?_
     refine zF rfl rfl rfl rfl rfl ?_
     refine zF rfl rfl rfl rfl rfl ?_
     refine zF rfl rfl rfl rfl rfl ?_
     refine zF rfl rfl rfl rfl rfl ?_
     refine Oz rfl rfl ?_
     refine Oy rfl rfl (zI rfl rfl) ?_
     exact zaa [27, 28, 29, 30, 31, 32, 33, 34, 35, 36, 37, 38, 39, 40, 41, 42] rfl H
    case h1 =>
     intro hc H
     refine Oj rfl rfl (Oj rfl rfl ?_)
     refine Oy rfl rfl (zb8 st9 rfl rfl _ rfl hb') ?_
     refine Oy rfl rfl (zY rfl rfl) ?_
     refine Oj rfl rfl ?_
     apply zcx (t := 42)
     case h0 =>
      intro H
      refine Oz rfl rfl (Oz rfl rfl (Oz rfl rfl (Oz rfl rfl (Oz rfl rfl ?_))))
      refine zF rfl rfl rfl rfl rfl ?_
      refine zF rfl rfl rfl rfl rfl ?_
      refine zF rfl rfl rfl rfl rfl ?_
      refine zF rfl rfl rfl rfl rfl ?_
      refine Oz rfl rfl ?_
      refine Oy rfl rfl (zP rfl rfl) ?_
      exact zaa [32, 33, 34, 35, 36, 37, 38, 39, 40, 41] rfl H
     case h1 =>
      intro hc H
      refine Oj rfl rfl (Oj rfl rfl ?_)
      refine Oy rfl rfl (zb8 st9 rfl rfl _ rfl hb') ?_
      refine Oy rfl rfl (zB rfl rfl) ?_
      refine Oj rfl rfl ?_
      apply zga (t := 41)
      case h0 =>
       intro H
       refine Oz rfl rfl (Oz rfl rfl (Oz rfl rfl (Oz rfl rfl ?_)))
       refine Oy rfl rfl (zI rfl rfl) ?_
       exact zaa [37, 38, 39, 40] rfl H
      case h1 =>
       intro hc H
       refine Oj rfl rfl (Oj rfl rfl ?_)
       refine Oy rfl rfl (zb8 st9 rfl rfl _ rfl hb') ?_
       refine Oy rfl rfl (yc rfl rfl) ?_
       refine Oy rfl rfl (zP rfl rfl) ?_
       exact zaa [37, 38, 39, 40] rfl H
      refine Oy rfl rfl (zI rfl rfl) ?_
      exact zaa [32, 33, 34, 35, 36, 37, 38, 39, 40, 41] rfl H
     refine Oy rfl rfl (zP rfl rfl) ?_
     exact zaa [27, 28, 29, 30, 31, 32, 33, 34, 35, 36, 37, 38, 39, 40, 41, 42] rfl H
    refine Ot rfl ?_
    exact zaa [24, 25, 26, 27, 28, 29, 30, 31, 32, 33, 34, 35, 36, 37, 38, 39, 40, 41, 42, 43] rfl H
   refine E3 0 3 44 rfl ?_
   refine zR rfl (fun hT => ?_) (fun hF => ?_)
   ·refine Sr (Oa rfl (E1 2 rfl (zi ?_)))
    repeat first | refine tr ?_ | refine br ?_
    refine zD rfl rfl ?_
    refine ⟨?_, rfl⟩
    have : zfY j b = false := by
     simp only [zfY, zdz, zgu, Bool.and_eq_true, Bool.or_eq_true, Bool.not_eq_true', Bool.and_eq_false_iff, Bool.or_eq_false_iff, Bool.not_eq_false', decide_eq_true_eq, decide_eq_false_iff_not] at hT ⊢
     omega
    rw [zkG]
    have h2 : (List.range s.size).all (fun j => zfY j ((s.data.toList[j]?).getD 0)) = false := by
     rw [List.all_eq_false]
     exact ⟨j, List.mem_range.2 hlt, by simp [hb, this]⟩
    rw [h2]; simp
   refine yf (zk (za (Om rfl ?_)))
   refine Og (zH rfl rfl (by omega)) rfl ?_
   refine Oa rfl ?_
   refine zaN [0, 3] (F' := [(0, _), (3, _)]) rfl ?_
   refine ⟨s.size - (j + 1), by omega, j + 1, rfl, by omega, rfl, rfl, fun i hi => ?_⟩
   rcases Nat.lt_or_ge i j with h | h
   ·exact hall i h
   have : i = j := by omega
   subst this
   rw [hb]
   show zfY i b = true
   simp only [zfY, zdz, zgu, Bool.and_eq_true, Bool.or_eq_true, Bool.not_eq_true', Bool.and_eq_false_iff, Bool.or_eq_false_iff, Bool.not_eq_false', decide_eq_true_eq, decide_eq_false_iff_not] at hF ⊢
   omega
  refine za (Om rfl (Om rfl ?_))
  refine Og (yN st9 rfl) rfl ?_
  refine Og (vf (zB rfl rfl) (by simp; omega)) rfl ?_
  refine E3 0 3 8 rfl (zb rfl ?_)
  refine zM ?_
  repeat first | refine te ?_ | refine bo rfl ?_
  refine zt _ ?_
  have : j = s.size := by omega
  subst this
  refine ⟨⟨_, _, rfl⟩, rfl, ?_⟩
  rw [List.all_eq_true]
  exact fun i hi => hall i (List.mem_range.1 hi)
 rintro F wx ⟨⟨f3, f8, rfl⟩, rfl, hall⟩
 refine Sr (Om rfl ?_)
 refine Og (yN st9 rfl) rfl ?_
 refine Og (yl rfl rfl) rfl ?_
 refine Om rfl ?_
 apply zcx (t := 52)
 case h0 =>
  intro H
  refine Oz rfl rfl (Oz rfl rfl (Oz rfl rfl (Of rfl ?_)))
  exact zaa [49, 50, 51] rfl H
 case h1 =>
  intro hc H
  refine Oj rfl rfl ?_
  refine Oy rfl rfl (yN st9 rfl) ?_
  refine Oy rfl rfl (za1 rfl rfl) ?_
  refine Ot rfl ?_
  exact zaa [49, 50, 51] rfl H
 refine Oa rfl (E1 2 rfl (zi ?_))
 refine zD rfl rfl ?_
 refine ⟨?_, rfl⟩
 rw [zkG, hall, Bool.and_true]
 congr 2 <;> rw [Bool.eq_iff_iff] <;> simp <;> omega
theorem zf8 (c : Col) (w : World) (hs : c.n.size ≤ 1048576) : z0 TP 55 #[c.v] w fun r w' => r = .bool (yZ c) ∧ zj [] w w' := by
 refine A1 Tryz.func55 rfl rfl ?_
 refine Sr ?_
 refine Ob rfl rfl ?_
 intro b1 w1 e1 n1 c1 k1
 refine Oa rfl (E1 1 rfl ?_)
 have k1 : zQ w1 b1 25 c.cs := k1
 refine Sr (Od zbz rfl ?_)
 refine Ol ag3 rfl (k1.cell' (i := 2) rfl) ?_
 refine Oa rfl (E2 1 3 rfl (ze (Sr (Od zfE rfl ?_))))
 refine Ol zl6 rfl (k1.cell' (i := 1) rfl) ?_
 refine E3 1 3 7 rfl (zq (ze (ze ?_)))
 by_cases h1 : c.t = 1
 ·refine za ?_
  refine Og (vt (zw rfl rfl) (decide_eq_true (by omega))) rfl ?_
  refine Oa rfl (E4 1 3 7 8 rfl (zd rfl (zm (zd rfl (Sr (Od zbB rfl ?_))))))
  refine Ol ag9 rfl (k1.cell' (i := 0) rfl) ?_
  refine Oc zqT rfl rfl rfl (zjy c.n _ hs) ?_
  rintro v13 w13 ⟨rfl, rfl⟩
  refine Om rfl ?_
  apply zcx (t := 29)
  case h0 =>
   intro H
   refine Oz rfl rfl (Oz rfl rfl (Oz rfl rfl ?_))
   refine zF rfl rfl rfl rfl rfl ?_
   refine zF rfl rfl rfl rfl rfl ?_
   refine Oz rfl rfl (Oz rfl rfl ?_)
   refine zF rfl rfl rfl rfl rfl ?_
   refine zF rfl rfl rfl rfl rfl ?_
   refine Oz rfl rfl (Oz rfl rfl ?_)
   refine zF rfl rfl rfl rfl rfl ?_
   refine zF rfl rfl rfl rfl rfl ?_
   refine Oz rfl rfl (Of rfl ?_)
   exact zaa [15, 16, 17, 18, 19, 20, 21, 22, 23, 24, 25, 26, 27, 28] rfl H
  case h1 =>
   intro hc H
   refine Oj rfl rfl ?_
   refine Oy rfl rfl (zw rfl rfl) ?_
   refine Oj rfl rfl ?_
   apply zga (t := 20)
   case h0 =>
    intro H
    refine Oz rfl rfl (Oz rfl rfl ?_)
    refine Oy rfl rfl (zI rfl rfl) ?_
    exact zaa [18, 19] rfl H
   case h1 =>
    intro hc H
    refine Oj rfl rfl ?_
    refine Oy rfl rfl (zw rfl rfl) ?_
    refine Oy rfl rfl (zP rfl rfl) ?_
    exact zaa [18, 19] rfl H
   refine Oj rfl rfl ?_
   apply zga (t := 24)
   case h0 =>
    intro H
    refine Oz rfl rfl (Oz rfl rfl ?_)
    refine Oy rfl rfl (zI rfl rfl) ?_
    exact zaa [22, 23] rfl H
   case h1 =>
    intro hc H
    refine Oj rfl rfl ?_
    refine Oy rfl rfl (zw rfl rfl) ?_
    refine Oy rfl rfl (zP rfl rfl) ?_
    exact zaa [22, 23] rfl H
   refine Oj rfl rfl ?_
   apply zga (t := 28)
   case h0 =>
    intro H
    refine Oz rfl rfl (Oz rfl rfl ?_)
    refine Oy rfl rfl (zI rfl rfl) ?_
    exact zaa [26, 27] rfl H
   case h1 =>
    intro hc H
    refine Oj rfl rfl ?_
    refine Oy rfl rfl (zw rfl rfl) ?_
    refine Oy rfl rfl (zP rfl rfl) ?_
    exact zaa [26, 27] rfl H
   refine Ot rfl ?_
   exact zaa [15, 16, 17, 18, 19, 20, 21, 22, 23, 24, 25, 26, 27, 28] rfl H
  refine Oa rfl (E1 2 rfl (zi ?_))
  repeat first | refine tr ?_ | refine br ?_
  refine zD rfl rfl ?_
  exact ⟨by rw [yZ, if_pos (.inl h1)]; rfl, c1⟩
 by_cases h2 : c.t = 2
 ·refine za ?_
  refine Og (vf (zw rfl rfl) (decide_eq_false (by omega))) rfl ?_
  refine Oa rfl (E4 1 3 7 8 rfl (zb rfl (za ?_)))
  refine Og (vt (zw rfl rfl) (decide_eq_true (by omega))) rfl ?_
  refine Oa rfl (E4 1 3 7 8 rfl (zd rfl (Sr (Od zbB rfl ?_))))
  refine Ol ag9 rfl (k1.cell' (i := 0) rfl) ?_
  refine Oc zqT rfl rfl rfl (zjy c.n _ hs) ?_
  rintro v13 w13 ⟨rfl, rfl⟩
  refine Om rfl ?_
  apply zcx (t := 29)
  case h0 =>
   intro H
   refine Oz rfl rfl (Oz rfl rfl (Oz rfl rfl ?_))
   refine zF rfl rfl rfl rfl rfl ?_
   refine zF rfl rfl rfl rfl rfl ?_
   refine Oz rfl rfl (Oz rfl rfl ?_)
   refine zF rfl rfl rfl rfl rfl ?_
   refine zF rfl rfl rfl rfl rfl ?_
   refine Oz rfl rfl (Oz rfl rfl ?_)
   refine zF rfl rfl rfl rfl rfl ?_
   refine zF rfl rfl rfl rfl rfl ?_
   refine Oz rfl rfl (Of rfl ?_)
   exact zaa [15, 16, 17, 18, 19, 20, 21, 22, 23, 24, 25, 26, 27, 28] rfl H
  case h1 =>
   intro hc H
   refine Oj rfl rfl ?_
   refine Oy rfl rfl (zw rfl rfl) ?_
   refine Oj rfl rfl ?_
   apply zga (t := 20)
   case h0 =>
    intro H
    refine Oz rfl rfl (Oz rfl rfl ?_)
    refine Oy rfl rfl (zI rfl rfl) ?_
    exact zaa [18, 19] rfl H
   case h1 =>
    intro hc H
    refine Oj rfl rfl ?_
    refine Oy rfl rfl (zw rfl rfl) ?_
    refine Oy rfl rfl (zP rfl rfl) ?_
    exact zaa [18, 19] rfl H
   refine Oj rfl rfl ?_
   apply zga (t := 24)
   case h0 =>
    intro H
    refine Oz rfl rfl (Oz rfl rfl ?_)
    refine Oy rfl rfl (zI rfl rfl) ?_
    exact zaa [22, 23] rfl H
   case h1 =>
    intro hc H
    refine Oj rfl rfl ?_
    refine Oy rfl rfl (zw rfl rfl) ?_
    refine Oy rfl rfl (zP rfl rfl) ?_
    exact zaa [22, 23] rfl H
   refine Oj rfl rfl ?_
   apply zga (t := 28)
   case h0 =>
    intro H
    refine Oz rfl rfl (Oz rfl rfl ?_)
    refine Oy rfl rfl (zI rfl rfl) ?_
    exact zaa [26, 27] rfl H
   case h1 =>
    intro hc H
    refine Oj rfl rfl ?_
    refine Oy rfl rfl (zw rfl rfl) ?_
    refine Oy rfl rfl (zP rfl rfl) ?_
    exact zaa [26, 27] rfl H
   refine Ot rfl ?_
   exact zaa [15, 16, 17, 18, 19, 20, 21, 22, 23, 24, 25, 26, 27, 28] rfl H
  refine Oa rfl (E1 2 rfl (zi ?_))
  repeat first | refine tr ?_ | refine br ?_
  refine zD rfl rfl ?_
  exact ⟨by rw [yZ, if_pos (.inr h2)]; rfl, c1⟩
 refine za ?_
 refine Og (vf (zw rfl rfl) (decide_eq_false (by omega))) rfl ?_
 refine Oa rfl (E4 1 3 7 8 rfl (zb rfl (za ?_)))
 refine Og (vf (zw rfl rfl) (decide_eq_false (by omega))) rfl ?_
 refine Oa rfl (E4 1 3 7 8 rfl (zb rfl (ze ?_)))
 have h12 : ¬ (c.t = 1 ∨ c.t = 2) := by omega
 by_cases h3 : c.t = 3
 ·refine za ?_
  refine Og (vt (zw rfl rfl) (decide_eq_true (by omega))) rfl ?_
  refine Oa rfl (E4 1 3 7 30 rfl (zd rfl (Sr (Od zbB rfl ?_))))
  refine Ol ag9 rfl (k1.cell' (i := 0) rfl) ?_
  refine Oc zqT rfl rfl rfl (zjy c.n _ hs) ?_
  rintro v34 w34 ⟨rfl, rfl⟩
  refine Om rfl ?_
  apply zcx (t := 38)
  case h0 =>
   intro H
   refine Oz rfl rfl (Oz rfl rfl (Of rfl ?_))
   exact zaa [36, 37] rfl H
  case h1 =>
   intro hc H
   refine Oj rfl rfl ?_
   refine Oy rfl rfl (zw rfl rfl) ?_
   refine Ot rfl ?_
   exact zaa [36, 37] rfl H
  refine Oa rfl (E1 2 rfl (zi ?_))
  repeat first | refine tr ?_ | refine br ?_
  refine zD rfl rfl ?_
  exact ⟨by rw [yZ, if_neg h12, if_pos h3], c1⟩
 refine za ?_
 refine Og (vf (zw rfl rfl) (decide_eq_false (by omega))) rfl ?_
 refine Oa rfl (E4 1 3 7 30 rfl (zb rfl (ze ?_)))
 by_cases h4 : c.t = 4
 ·refine za ?_
  refine Og (vt (zw rfl rfl) (decide_eq_true (by omega))) rfl ?_
  refine Oa rfl (E3 1 3 39 rfl (zd rfl (Sr (Od zbB rfl ?_))))
  refine Ol ag9 rfl (k1.cell' (i := 0) rfl) ?_
  refine Oc zqT rfl rfl rfl (zjy c.n _ hs) ?_
  rintro v43 w43 ⟨rfl, rfl⟩
  refine Om rfl ?_
  apply zcx (t := 47)
  case h0 =>
   intro H
   refine Oz rfl rfl (Oz rfl rfl (Of rfl ?_))
   exact zaa [45, 46] rfl H
  case h1 =>
   intro hc H
   refine Oj rfl rfl ?_
   refine Oy rfl rfl (yl rfl rfl) ?_
   refine Ot rfl ?_
   exact zaa [45, 46] rfl H
  refine Om rfl ?_
  apply zcx (t := 51)
  case h0 =>
   intro H
   refine Oz rfl rfl (Oz rfl rfl (Of rfl ?_))
   exact zaa [49, 50] rfl H
  case h1 =>
   intro hc H
   refine Oj rfl rfl ?_
   refine Oy rfl rfl (za1 rfl rfl) ?_
   refine Ot rfl ?_
   exact zaa [49, 50] rfl H
  refine Oa rfl (E1 2 rfl (zi ?_))
  repeat first | refine tr ?_ | refine br ?_
  refine zD rfl rfl ?_
  refine ⟨?_, c1⟩
  rw [yZ, if_neg h12, if_neg h3, if_pos h4, Bool.and_assoc]
  congr 2
  rw [Bool.eq_iff_iff]; simp
 refine za ?_
 refine Og (vf (zw rfl rfl) (decide_eq_false (by omega))) rfl ?_
 refine Oa rfl (E3 1 3 39 rfl (zb rfl (yf (zk (Sr (Oa rfl (E1 2 rfl (zi ?_))))))))
 refine zD rfl rfl ?_
 exact ⟨by rw [yZ, if_neg h12, if_neg h3, if_neg h4, Bool.and_false], c1⟩
theorem zjo (v : Value) (l : List Int) (n : Nat) (w : World) (hv : yQ w v l) (hn : n ≤ 1048576) : z0 TP 54 #[v, Ii n] w fun r w' => r = .bool (zc5 l n) ∧ zj [] w w' := by
 obtain ⟨pv, cv, rfl, hcv⟩ := ya.val hv
 have hmx := ya.max hv
 refine A2 Tryz.func54 rfl rfl ?_
 refine Sr (Oa rfl (E2 0 1 rfl ?_))
 refine ye (fun F wx => (∃ f5 f14, F = [(0, .slice pv l.length cv), (1, Ii n), (5, f5), (14, f14)]) ∧ zj [] w wx ∧ (l.length ≤ 4 → (∀ x ∈ l, 0 ≤ x ∧ x < n) ∧ l.Nodup)) ?_ ?_
 ·refine Sr (Oa rfl (E3 0 1 5 rfl (zq ?_)))
  refine zZ [0, 1, 5] (fun m F wx => ∃ j : Nat, m = l.length - j ∧ j ≤ l.length ∧ j ≤ 5 ∧ F = [(0, .slice pv l.length cv), (1, Ii n), (5, Ii j)] ∧ zj [] w wx ∧ (∀ x ∈ l.take j, 0 ≤ x ∧ x < n) ∧ (l.take j).Nodup) (m := l.length - 0) ⟨0, rfl, Nat.zero_le _, Nat.zero_le _, rfl, zj.refl _ _, by simp, by simp⟩ ?_
  rintro m F wx ⟨j, rfl, hj, hj5, rfl, hcx, hall, hnd⟩
  have hvx := ya.chg0 hv hcx
  refine ze (Sr (Om rfl (Om rfl (On zaz rfl (Og (zB rfl rfl) rfl (Om rfl ?_))))))
  apply zcx (t := 14)
  case h0 =>
   intro H
   refine Oz rfl rfl (Oz rfl rfl (Of rfl ?_))
   exact zaa [12, 13] rfl H
  case h1 =>
   intro hc H
   refine Oj rfl rfl ?_
   refine Oy rfl rfl (zB rfl rfl) ?_
   refine Ot rfl ?_
   exact zaa [12, 13] rfl H
  refine E4 0 1 5 14 rfl ?_
  refine zR rfl (fun hT => ?_) (fun hF => ?_)
  ·refine zm ?_
   simp only [Bool.and_eq_true, decide_eq_true_eq] at hT
   have hlt : j < l.length := by omega
   have hx : l[j]? = some l[j] := by simp [hlt]
   generalize l[j] = x at hx
   obtain ⟨b, off, cap, hve, hcell⟩ := yQ.cell hvx hx
   cases hve
   refine ze (zq (ze (Sr (Om rfl (Om rfl ?_)))))
   refine Og (zf zaz sz3 rfl rfl _ rfl hlt) rfl ?_
   refine Ol ag3 rfl hcell ?_
   refine Og (zB rfl rfl) rfl (Om rfl ?_)
   apply zga (t := 29)
   case h0 =>
    intro H
    refine Oz rfl rfl (Oz rfl rfl (Oz rfl rfl (Oz rfl rfl (Oz rfl rfl (Oz rfl rfl (Ot rfl ?_))))))
    exact zaa [23, 24, 25, 26, 27, 28] rfl H
   case h1 =>
    intro hc H
    refine Oj rfl rfl (Oj rfl rfl ?_)
    refine Oy rfl rfl (zf zaz sz3 rfl rfl _ rfl hlt) ?_
    refine Oy rfl rfl (zh ag3 rfl hcell) ?_
    refine Oj rfl rfl ?_
    refine Oy rfl rfl (yl rfl rfl) ?_
    refine Of rfl ?_
    exact zaa [23, 24, 25, 26, 27, 28] rfl H
   refine E4 0 1 5 29 rfl ?_
   refine zR rfl (fun hT2 => ?_) (fun hF2 => ?_)
   ·refine Sr (Oa rfl (E1 4 rfl (zi ?_)))
    repeat first | refine tr ?_ | refine br ?_
    refine zD rfl rfl ?_
    refine ⟨?_, hcx⟩
    simp only [Bool.or_eq_true, decide_eq_true_eq] at hT2
    rw [zfJ hx (.inl (by omega))]
   refine zm ?_
   simp only [Bool.or_eq_false_iff, decide_eq_false_iff_not] at hF2
   refine Sr (Oa rfl (E4 0 1 5 6 rfl (zq ?_)))
   refine zZ [0, 1, 5, 6] (fun m F wy => ∃ i : Nat, m = j - i ∧ i ≤ j ∧ F = [(0, .slice (some ⟨b, off, none⟩) l.length cv), (1, Ii n), (5, Ii j), (6, Ii i)] ∧ zj [] w wy ∧ x ∉ l.take i) (m := j - 0) ⟨0, rfl, Nat.zero_le _, rfl, hcx, by simp⟩ ?_
   rintro m F wy ⟨i, rfl, hi, rfl, hcy, hni⟩
   refine ze (ze ?_)
   by_cases hij : i < j
   ·refine za (Om rfl (Om rfl ?_))
    refine Og (vt (zB rfl rfl) (by simp; omega)) rfl ?_
    refine E5 0 1 5 6 32 rfl (zd rfl (zm ?_))
    have hli : i < l.length := by omega
    have hy : l[i]? = some l[i] := by simp [hli]
    generalize l[i] = y at hy
    have hce : ∀ {wz : World}, zj [] wy wz → wz.cell? ⟨b, off + i * 1, none⟩ = some (Ii y) ∧ wz.cell? ⟨b, off + j * 1, none⟩ = some (Ii x) := fun hc => by
     obtain ⟨b1, o1, c1, he, h1⟩ := yQ.cell (ya.chg0 hv (hcy.trans hc)) hy
     obtain ⟨b2, o2, c2, he2, h2⟩ := yQ.cell (ya.chg0 hv (hcy.trans hc)) hx
     cases he; cases he2
     exact ⟨h1, h2⟩
    refine ze (zq (ze ?_))
    refine zK (fun wz => zj [] wy wz) mix (by kernel_rfl) (zj.drew [] wy) ?_
    refine Tm rfl (Tm rfl ?_)
    refine Tp (fun _ => zf zaz sz3 rfl rfl _ rfl hli) rfl ?_
    refine Tr (fun wz hz => zh ag3 rfl (hce hz).1) rfl ?_
    refine Tm rfl (Tm rfl ?_)
    refine Tp (fun _ => zf zaz sz3 rfl rfl _ rfl hlt) rfl ?_
    refine Tr (fun wz hz => zh ag3 rfl (hce hz).2) rfl ?_
    refine Tp (fun _ => zw rfl rfl) rfl ?_
    refine D5 0 1 5 6 43 rfl ?_
    refine zR rfl (fun hT3 => ?_) (fun hF3 => ?_)
    ·refine Sr (Oa rfl (E1 4 rfl (zi ?_)))
     repeat first | refine tr ?_ | refine br ?_
     refine zD rfl rfl ?_
     refine ⟨?_, hcy.trans (zj.drew [] _)⟩
     have e : y = x := of_decide_eq_true hT3
     subst e
     rw [zfJ hx (.inr ?_)]
     exact List.mem_of_getElem? (i := i) (by rw [List.getElem?_take, if_pos hij]; exact hy)
    refine yf (zk (za (Om rfl ?_)))
    refine Og (zH rfl rfl (by omega)) rfl ?_
    refine Oa rfl (N4 0 1 5 6 rfl ?_)
    refine ⟨j - (i + 1), by omega, i + 1, rfl, by omega, rfl, hcy.trans (zj.drew [] _), ?_⟩
    rw [yt hy]
    have : y ≠ x := of_decide_eq_false hF3
    simp [hni, this.symm]
   refine za (Om rfl (Om rfl ?_))
   refine Og (vf (zB rfl rfl) (by simp; omega)) rfl ?_
   refine E5 0 1 5 6 32 rfl (zb rfl ?_)
   refine zM ?_
   repeat first | refine te ?_ | refine bo rfl ?_
   refine zt _ ?_
   refine zk ?_
   have : i = j := by omega
   subst this
   refine za (Om rfl ?_)
   refine Og (zH rfl rfl (by omega)) rfl ?_
   refine Oa rfl (N3 0 1 5 rfl ?_)
   refine ⟨l.length - (i + 1), by omega, i + 1, rfl, by omega, by omega, rfl, hcy, ?_, ?_⟩
   ·rw [yt hx]
    intro z hz
    rcases List.mem_append.1 hz with hz | hz
    ·exact hall z hz
    simp at hz; subst hz; omega
   rw [yt hx, List.nodup_append]
   refine ⟨hnd, by simp, fun a ha y hy => ?_⟩
   simp at hy; subst hy
   exact fun e => hni (e ▸ ha)
  refine zM ?_
  repeat first | refine te ?_ | refine bo rfl ?_
  refine zt _ ?_
  refine ⟨⟨_, _, rfl⟩, hcx, fun h4 => ?_⟩
  simp only [Bool.and_eq_false_iff, decide_eq_false_iff_not] at hF
  rw [List.take_of_length_le (by omega)] at hall hnd
  exact ⟨hall, hnd⟩
 rintro F wx ⟨⟨f5, f14, rfl⟩, hcx, hend⟩
 refine Sr (Om rfl (On zaz rfl ?_))
 refine Og (yl rfl rfl) rfl ?_
 refine Om rfl ?_
 apply zcx (t := 51)
 case h0 =>
  intro H
  refine Oz rfl rfl (Oz rfl rfl (Oz rfl rfl (Of rfl ?_)))
  exact zaa [48, 49, 50] rfl H
 case h1 =>
  intro hc H
  refine Oj rfl rfl ?_
  refine Oy rfl rfl (yd zaz rfl) ?_
  refine Oy rfl rfl (za1 rfl rfl) ?_
  refine Ot rfl ?_
  exact zaa [48, 49, 50] rfl H
 refine Oa rfl (E1 4 rfl (zi ?_))
 refine zD rfl rfl ?_
 refine ⟨?_, hcx⟩
 by_cases h4 : 1 ≤ l.length ∧ l.length ≤ 4
 ·obtain ⟨ha, hd⟩ := hend h4.2
  have e : zc5 l n = true := by
   simp only [zc5, Bool.and_eq_true, decide_eq_true_eq, List.all_eq_true]
   exact ⟨⟨h4, fun x hx => ha x hx⟩, hd⟩
  rw [e]
  congr 1
  simp only [Bool.and_eq_true, decide_eq_true_eq]
  omega
 rw [zhn h4]
 congr 1
 simp only [Bool.and_eq_false_iff, decide_eq_false_iff_not]
 omega
theorem zdF {a : Bool} (h : a = true → False) : a = false := by cases a with | false => rfl | true => exact (h rfl).elim
theorem zdc.cell {w : World} {v : Value} {ls : List (List Int)} (h : zdc w v ls) {i : Nat} {l : List Int} (hi : ls[i]? = some l) : ∃ b off cap u, v = .slice (some ⟨b, off, none⟩) ls.length cap ∧ w.cell? ⟨b, off + i * 1, none⟩ = some u ∧ yQ w u l := zaU.at h hi
set_option maxHeartbeats 1000000 in
theorem zd8 (c k u : Value) (s : ym) (w : World) (hs : yV w c k u s) (hn : ∀ c ∈ s.cols, c.n.size ≤ 1048576) : z0 TP 17 #[.agg #[c, k, u]] w fun r w' => r = .bool (yJ s) ∧ zj [] w w' := by
 obtain ⟨pc, dc, rfl, hdc⟩ := ya.val hs.cols
 obtain ⟨pk, dk, rfl, hdk⟩ := ya.val hs.key
 obtain ⟨pu, du, rfl, hdu⟩ := zaU.val hs.uq
 have hmc := ya.max hs.cols
 have hmk := ya.max hs.key
 have hmu := zaU.max hs.uq
 refine A1 Tryz.func17 rfl rfl ?_
 refine Sr ?_
 refine Ob rfl rfl ?_
 intro b1 w1 e1 n1 c1 k1
 refine Oa rfl (E1 1 rfl ?_)
 have hs1 := hs.chg0 c1
 refine Sr (Od yM rfl ?_)
 refine Ol zbg rfl (k1.cell' (i := 0) rfl) ?_
 refine On zaV rfl (Oa rfl (E2 1 3 rfl (ze (ze ?_))))
 by_cases h1 : s.cols.length < 1
 ·refine za (Om rfl ?_)
  refine Og (vt (zB rfl rfl) (by simp; omega)) rfl ?_
  refine Om rfl (Oz rfl rfl (Oz rfl rfl (Ot rfl (Om rfl (Oz rfl rfl (Oz rfl rfl (Oz rfl rfl (Oz rfl rfl (Ot rfl (Om rfl (Oz rfl rfl (Oz rfl rfl (Oz rfl rfl ?_)))))))))))))
  refine Oz rfl rfl (Oz rfl rfl (Ot rfl (E3 1 3 29 rfl (zd rfl (Sr (Oa rfl (E1 2 rfl (zi ?_))))))))
  repeat first | refine tr ?_ | refine br ?_
  refine zD rfl rfl ?_
  exact ⟨by rw [zdF (a := yJ s) (fun h => by have := (zW h).1; omega)], c1⟩
 by_cases h8 : 8 < s.cols.length
 ·refine za (Om rfl ?_)
  refine Og (vf (zB rfl rfl) (by simp; omega)) rfl ?_
  refine Om rfl (Oj rfl rfl ?_)
  refine Oy rfl rfl (vt (yc rfl rfl) (by simp; omega)) ?_
  refine Of rfl (Om rfl (Oz rfl rfl (Oz rfl rfl (Oz rfl rfl (Oz rfl rfl (Ot rfl (Om rfl (Oz rfl rfl (Oz rfl rfl (Oz rfl rfl (Oz rfl rfl (Oz rfl rfl (Ot rfl ?_)))))))))))))
  refine E3 1 3 29 rfl (zd rfl (Sr (Oa rfl (E1 2 rfl (zi ?_)))))
  repeat first | refine tr ?_ | refine br ?_
  refine zD rfl rfl ?_
  exact ⟨by rw [zdF (a := yJ s) (fun h => by have := (zW h).1; omega)], c1⟩
 by_cases h3 : 3 < s.uq.length
 ·refine za (Om rfl ?_)
  refine Og (vf (zB rfl rfl) (by simp; omega)) rfl ?_
  refine Om rfl (Oj rfl rfl ?_)
  refine Oy rfl rfl (vf (yc rfl rfl) (by simp; omega)) ?_
  refine Of rfl (Om rfl ?_)
  refine Oy rfl rfl (zl zbe rfl) ?_
  refine Oy rfl rfl (zh zdJ rfl (k1.cell' (i := 2) rfl)) ?_
  refine Oy rfl rfl (yd zbd rfl) ?_
  refine Oy rfl rfl (vt (yc rfl rfl) (by simp; omega)) ?_
  refine Of rfl (Om rfl (Oz rfl rfl (Oz rfl rfl (Oz rfl rfl (Oz rfl rfl (Oz rfl rfl (Ot rfl (E3 1 3 29 rfl (zd rfl (Sr (Oa rfl (E1 2 rfl ?_))))))))))))
  refine zi ?_
  repeat first | refine tr ?_ | refine br ?_
  refine zD rfl rfl ?_
  exact ⟨by rw [zdF (a := yJ s) (fun h => by have := (zW h).2.1; omega)], c1⟩
 cases hset : zc5 s.key s.cols.length with
 | false =>
  refine za (Om rfl ?_)
  refine Og (vf (zB rfl rfl) (by simp; omega)) rfl ?_
  refine Om rfl (Oj rfl rfl ?_)
  refine Oy rfl rfl (vf (yc rfl rfl) (by simp; omega)) ?_
  refine Of rfl (Om rfl ?_)
  refine Oy rfl rfl (zl zbe rfl) ?_
  refine Oy rfl rfl (zh zdJ rfl (k1.cell' (i := 2) rfl)) ?_
  refine Oy rfl rfl (yd zbd rfl) ?_
  refine Oy rfl rfl (vf (yc rfl rfl) (by simp; omega)) ?_
  refine Of rfl (Om rfl ?_)
  refine Oy rfl rfl (zl zbM rfl) ?_
  refine Oy rfl rfl (zh zcc rfl (k1.cell' (i := 1) rfl)) ?_
  refine Oj rfl rfl ?_
  refine Ow rfl rfl zp4 rfl rfl rfl (zjo _ s.key s.cols.length _ hs1.key (by omega)) ?_
  rintro v27 w27 ⟨h27, c27⟩
  rw [hset] at h27
  subst h27
  refine Oy rfl rfl (zS rfl) ?_
  refine Of rfl (E3 1 3 29 rfl (zd rfl (Sr (Oa rfl (E1 2 rfl (zi ?_))))))
  repeat first | refine tr ?_ | refine br ?_
  refine zD rfl rfl ?_
  exact ⟨by rw [zdF (a := yJ s) (fun h => by have := (zW h).2.2.1; rw [hset] at this; cases this)], c1.trans c27⟩
 | true =>
 refine za (Om rfl ?_)
 refine Og (vf (zB rfl rfl) (by simp; omega)) rfl ?_
 refine Om rfl (Oj rfl rfl ?_)
 refine Oy rfl rfl (vf (yc rfl rfl) (by simp; omega)) ?_
 refine Of rfl (Om rfl ?_)
 refine Oy rfl rfl (zl zbe rfl) ?_
 refine Oy rfl rfl (zh zdJ rfl (k1.cell' (i := 2) rfl)) ?_
 refine Oy rfl rfl (yd zbd rfl) ?_
 refine Oy rfl rfl (vf (yc rfl rfl) (by simp; omega)) ?_
 refine Of rfl (Om rfl ?_)
 refine Oy rfl rfl (zl zbM rfl) ?_
 refine Oy rfl rfl (zh zcc rfl (k1.cell' (i := 1) rfl)) ?_
 refine Oj rfl rfl ?_
 refine Ow rfl rfl zp4 rfl rfl rfl (zjo _ s.key s.cols.length _ hs1.key (by omega)) ?_
 rintro v27 w27 ⟨h27, c27⟩
 rw [hset] at h27
 subst h27
 refine Oy rfl rfl (zS rfl) ?_
 refine Of rfl (E3 1 3 29 rfl (zb rfl (zm ?_)))
 obtain ⟨hk4, hkr, _⟩ := zan hset
 have hc27 : zj [] w w27 := c1.trans c27
 have k1 := k1.chg0 c27
 refine ye (fun F wx => (∃ f4 f32, F = [(1, Pt b1), (3, Ii s.cols.length), (4, f4), (32, f32)]) ∧ zj [] w27 wx ∧ (∀ c ∈ s.cols, yZ c = true) ∧ (s.cols.map (·.n)).Nodup) ?_ ?_
 ·refine Sr (Oa rfl (E3 1 3 4 rfl (zq ?_)))
  refine zZ [1, 3, 4] (fun m F wx => ∃ j : Nat, m = s.cols.length - j ∧ j ≤ s.cols.length ∧ F = [(1, Pt b1), (3, Ii s.cols.length), (4, Ii j)] ∧ zj [] w27 wx ∧ (∀ c ∈ s.cols.take j, yZ c = true) ∧ ((s.cols.take j).map (·.n)).Nodup) (m := s.cols.length - 0) ⟨0, rfl, Nat.zero_le _, rfl, zj.refl _ _, by simp, by simp⟩ ?_
  rintro m F wx ⟨j, rfl, hj, rfl, hcx, hall, hnd⟩
  have k1x := k1.chg0 hcx
  have hsx := (hs.chg0 hc27).chg0 hcx
  refine ze (ze ?_)
  by_cases hlt : j < s.cols.length
  ·refine za (Om rfl (Om rfl ?_))
   refine Og (vt (zB rfl rfl) (by simp; omega)) rfl ?_
   refine E4 1 3 4 32 rfl (zd rfl (zm ?_))
   have hx : s.cols[j]? = some s.cols[j] := by simp [hlt]
   generalize s.cols[j] = x at hx
   obtain ⟨b, off, cap, hve, hcell⟩ := ya.at zaT hsx.cols hx
   cases hve
   refine ze (zq (ze (ze ?_)))
   cases hrc : yZ x with
   | false =>
    refine za (Od yM rfl ?_)
    refine Ol zbg rfl (k1x.cell' (i := 0) rfl) ?_
    refine Om rfl ?_
    refine Og (zf zaV zbi rfl rfl _ rfl hlt) rfl ?_
    refine Og (zg zeX zbi rfl rfl hcell) rfl ?_
    refine Oc zq5 rfl rfl rfl (zf8 x _ (hn x (List.mem_of_getElem? hx))) ?_
    rintro v40 w40 ⟨h40, c40⟩
    rw [hrc] at h40
    subst h40
    refine Og (zS rfl) rfl (E4 1 3 4 41 rfl (zd rfl (Sr (Oa rfl (E1 2 rfl (zi ?_))))))
    repeat first | refine tr ?_ | refine br ?_
    refine zD rfl rfl ?_
    exact ⟨by rw [zdF (a := yJ s) (fun h => by have := (zW h).2.2.2.1 x (List.mem_of_getElem? hx); rw [hrc] at this; cases this)], (hc27.trans hcx).trans c40⟩
   | true =>
    refine za (Od yM rfl ?_)
    refine Ol zbg rfl (k1x.cell' (i := 0) rfl) ?_
    refine Om rfl ?_
    refine Og (zf zaV zbi rfl rfl _ rfl hlt) rfl ?_
    refine Og (zg zeX zbi rfl rfl hcell) rfl ?_
    refine Oc zq5 rfl rfl rfl (zf8 x _ (hn x (List.mem_of_getElem? hx))) ?_
    rintro v40 w40 ⟨h40, c40⟩
    rw [hrc] at h40
    subst h40
    refine Og (zS rfl) rfl (E4 1 3 4 41 rfl (zb rfl (zm ?_)))
    have hcx40 := hcx.trans c40
    refine Sr (Oa rfl (E4 1 3 4 5 rfl (zq ?_)))
    refine zZ [1, 3, 4, 5] (fun m F wy => ∃ i : Nat, m = j - i ∧ i ≤ j ∧ F = [(1, Pt b1), (3, Ii s.cols.length), (4, Ii j), (5, Ii i)] ∧ zj [] w27 wy ∧ x.n ∉ (s.cols.take i).map (·.n)) (m := j - 0) ⟨0, rfl, Nat.zero_le _, rfl, hcx40, by simp⟩ ?_
    rintro m F wy ⟨i, rfl, hi, rfl, hcy, hni⟩
    refine ze (ze ?_)
    by_cases hij : i < j
    ·refine za (Om rfl (Om rfl ?_))
     refine Og (vt (zB rfl rfl) (by simp; omega)) rfl ?_
     refine E5 1 3 4 5 44 rfl (zd rfl (zm ?_))
     have hli : i < s.cols.length := by omega
     have hy : s.cols[i]? = some s.cols[i] := by simp [hli]
     generalize s.cols[i] = y at hy
     have hce : ∀ {wz : World}, zj [] wy wz → wz.cell? ⟨b1, 0, none⟩ = some (.slice (some ⟨b, off, none⟩) s.cols.length dc) ∧ wz.cell? ⟨b, off + i * 4 + 0, none⟩ = some (.string y.n) ∧ wz.cell? ⟨b, off + j * 4 + 0, none⟩ = some (.string x.n) := fun hc => by
      obtain ⟨b1', o1, c1', he, h1⟩ := ya.at zaT (ya.chg0 (hs.chg0 hc27).cols (hcy.trans hc)) hy
      obtain ⟨b2, o2, c2, he2, h2⟩ := ya.at zaT (ya.chg0 (hs.chg0 hc27).cols (hcy.trans hc)) hx
      cases he; cases he2
      exact ⟨(k1.chg0 (hcy.trans hc)).cell' (i := 0) rfl, h1 0 _ rfl, h2 0 _ rfl⟩
     refine ze (zq (ze ?_))
     refine zK (fun wz => zj [] wy wz) mix (by kernel_rfl) (zj.drew [] wy) ?_
     refine Td yM rfl ?_
     refine Tr (fun wz hz => zh zbg rfl (hce hz).1) rfl ?_
     refine Tm rfl ?_
     refine Tp (fun _ => zf zaV zbi rfl rfl _ rfl hli) rfl ?_
     refine Td zbB rfl ?_
     refine Tr (fun wz hz => zh ag9 rfl (hce hz).2.1) rfl ?_
     refine Td yM rfl ?_
     refine Tr (fun wz hz => zh zbg rfl (hce hz).1) rfl ?_
     refine Tm rfl ?_
     refine Tp (fun _ => zf zaV zbi rfl rfl _ rfl hlt) rfl ?_
     refine Td zbB rfl ?_
     refine Tr (fun wz hz => zh ag9 rfl (hce hz).2.2) rfl ?_
     refine Tp (fun _ => zjs rfl rfl) rfl ?_
     refine D5 1 3 4 5 59 rfl ?_
     refine zR rfl (fun hT3 => ?_) (fun hF3 => ?_)
     ·refine Sr (Oa rfl (E1 2 rfl (zi ?_)))
      repeat first | refine tr ?_ | refine br ?_
      refine zD rfl rfl ?_
      refine ⟨?_, (hc27.trans hcy).trans (zj.drew [] _)⟩
      have e : y.n = x.n := of_decide_eq_true hT3
      rw [zdF (a := yJ s) (fun h => ?_)]
      have hd := (zW h).2.2.2.2.1
      have h9 := List.pairwise_iff_getElem.1 hd i j (by simpa using hli) (by simpa using hlt) hij
      have e1 : s.cols[i] = y := Option.some.inj ((List.getElem?_eq_getElem hli).symm.trans hy)
      have e2 : s.cols[j] = x := Option.some.inj ((List.getElem?_eq_getElem hlt).symm.trans hx)
      simp only [List.getElem_map, e1, e2] at h9
      exact h9 e
     refine yf (zk (za (Om rfl ?_)))
     refine Og (zH rfl rfl (by omega)) rfl ?_
     refine Oa rfl (N4 1 3 4 5 rfl ?_)
     refine ⟨j - (i + 1), by omega, i + 1, rfl, by omega, rfl, hcy.trans (zj.drew [] _), ?_⟩
     rw [yt hy]
     have : y.n ≠ x.n := of_decide_eq_false hF3
     simpa [this.symm] using hni
    refine za (Om rfl (Om rfl ?_))
    refine Og (vf (zB rfl rfl) (by simp; omega)) rfl ?_
    refine E5 1 3 4 5 44 rfl (zb rfl ?_)
    refine zM ?_
    repeat first | refine te ?_ | refine bo rfl ?_
    refine zt _ ?_
    refine zk ?_
    have : i = j := by omega
    subst this
    refine za (Om rfl ?_)
    refine Og (zH rfl rfl (by omega)) rfl ?_
    refine Oa rfl (N3 1 3 4 rfl ?_)
    refine ⟨s.cols.length - (i + 1), by omega, i + 1, rfl, by omega, rfl, hcy, ?_, ?_⟩
    ·rw [yt hx]
     intro z hz
     rcases List.mem_append.1 hz with hz | hz
     ·exact hall z hz
     simp at hz; subst hz; exact hrc
    rw [yt hx, List.map_append, List.nodup_append]
    refine ⟨hnd, by simp, fun a ha y hy => ?_⟩
    simp at hy; subst hy
    exact fun e => hni (e ▸ ha)
  refine za (Om rfl (Om rfl ?_))
  refine Og (vf (zB rfl rfl) (by simp; omega)) rfl ?_
  refine E4 1 3 4 32 rfl (zb rfl ?_)
  refine zM ?_
  repeat first | refine te ?_ | refine bo rfl ?_
  refine zt _ ?_
  rw [List.take_of_length_le (by omega)] at hall hnd
  exact ⟨⟨_, _, rfl⟩, hcx, hall, hnd⟩
 rintro F wx ⟨⟨f4, f32, rfl⟩, hcx, hall, hnd⟩
 refine ye (fun F wy => (∃ f6 f64, F = [(1, Pt b1), (3, Ii s.cols.length), (6, f6), (64, f64)]) ∧ zj [] w27 wy ∧ (∀ i ∈ s.key, (zd0 s i).z = false)) ?_ ?_
 ·refine Sr (Oa rfl (E3 1 3 6 rfl (zq ?_)))
  refine zZ [1, 3, 6] (fun m F wy => ∃ j : Nat, m = s.key.length - j ∧ j ≤ s.key.length ∧ F = [(1, Pt b1), (3, Ii s.cols.length), (6, Ii j)] ∧ zj [] w27 wy ∧ (∀ i ∈ s.key.take j, (zd0 s i).z = false)) (m := s.key.length - 0) ⟨0, rfl, Nat.zero_le _, rfl, hcx, by simp⟩ ?_
  rintro m F wy ⟨j, rfl, hj, rfl, hcy, hky⟩
  have k1y := k1.chg0 hcy
  refine ze (ze ?_)
  by_cases hlt : j < s.key.length
  ·refine za (Om rfl (Od zbM rfl ?_))
   refine Ol zcc rfl (k1y.cell' (i := 1) rfl) ?_
   refine On zaz rfl ?_
   refine Og (vt (zB rfl rfl) (by simp; omega)) rfl ?_
   refine E4 1 3 6 64 rfl (zd rfl (zm ?_))
   have hx : s.key[j]? = some s.key[j] := by simp [hlt]
   generalize s.key[j] = x at hx
   have hxr := hkr x (List.mem_of_getElem? hx)
   obtain ⟨i, rfl⟩ := Int.eq_ofNat_of_zero_le hxr.1
   have hli : i < s.cols.length := by omega
   have hy : s.cols[i]? = some s.cols[i] := by simp [hli]
   generalize s.cols[i] = y at hy
   have hca : zd0 s (i : Int) = y := by unfold zd0; simp [hy]
   obtain ⟨bk, ok', ck, hve, -⟩ := yQ.cell (hs.chg0 hc27).key hx
   cases hve
   obtain ⟨bc, oc, cc, hve, -⟩ := ya.at zaT (hs.chg0 hc27).cols hy
   cases hve
   have hce : ∀ {wz : World}, zj [] wy wz → wz.cell? ⟨b1, 0, none⟩ = some (.slice (some ⟨bc, oc, none⟩) s.cols.length dc) ∧ wz.cell? ⟨b1, 1, none⟩ = some (.slice (some ⟨bk, ok', none⟩) s.key.length dk) ∧ wz.cell? ⟨bk, ok' + j * 1, none⟩ = some (Ii i) ∧ wz.cell? ⟨bc, oc + i * 4 + 3, none⟩ = some (.bool y.z) := fun hc => by
    obtain ⟨b1', o1, c1', he, h1⟩ := yQ.cell (ya.chg0 (hs.chg0 hc27).key (hcy.trans hc)) hx
    obtain ⟨b2, o2, c2, he2, h2⟩ := ya.at zaT (ya.chg0 (hs.chg0 hc27).cols (hcy.trans hc)) hy
    cases he; cases he2
    exact ⟨(k1.chg0 (hcy.trans hc)).cell' (i := 0) rfl, (k1.chg0 (hcy.trans hc)).cell' (i := 1) rfl, h1, h2 3 _ rfl⟩
   refine ze (zq (ze ?_))
   cases hz : y.z with
   | true =>
    rw [hz] at hce
    refine zK (fun wz => zj [] wy wz) mix (by kernel_rfl) (zj.drew [] wy) ?_
    refine Td yM rfl ?_
    refine Tr (fun wz hz => zh zbg rfl (hce hz).1) rfl ?_
    refine Td zbM rfl ?_
    refine Tr (fun wz hz => zh zcc rfl (hce hz).2.1) rfl ?_
    refine Tm rfl ?_
    refine Tp (fun _ => zf zaz sz3 rfl rfl _ rfl hlt) rfl ?_
    refine Tr (fun wz hz => zh ag3 rfl (hce hz).2.2.1) rfl ?_
    refine Tp (fun _ => zf zaV zbi rfl rfl _ rfl hli) rfl ?_
    refine Td zfA rfl ?_
    refine Tr (fun wz hz => zh ag4 rfl (hce hz).2.2.2) rfl ?_
    refine D4 1 3 6 76 rfl (zd rfl (Sr (Oa rfl (E1 2 rfl (zi ?_)))))
    repeat first | refine tr ?_ | refine br ?_
    refine zD rfl rfl ?_
    refine ⟨?_, (hc27.trans hcy).trans (zj.drew [] _)⟩
    rw [zdF (a := yJ s) (fun h => ?_)]
    have hd := (zW h).2.2.2.2.2.1 _ (List.mem_of_getElem? hx)
    rw [hca, hz] at hd; cases hd
   | false =>
    rw [hz] at hce
    refine zK (fun wz => zj [] wy wz) mix (by kernel_rfl) (zj.drew [] wy) ?_
    refine Td yM rfl ?_
    refine Tr (fun wz hz => zh zbg rfl (hce hz).1) rfl ?_
    refine Td zbM rfl ?_
    refine Tr (fun wz hz => zh zcc rfl (hce hz).2.1) rfl ?_
    refine Tm rfl ?_
    refine Tp (fun _ => zf zaz sz3 rfl rfl _ rfl hlt) rfl ?_
    refine Tr (fun wz hz => zh ag3 rfl (hce hz).2.2.1) rfl ?_
    refine Tp (fun _ => zf zaV zbi rfl rfl _ rfl hli) rfl ?_
    refine Td zfA rfl ?_
    refine Tr (fun wz hz => zh ag4 rfl (hce hz).2.2.2) rfl ?_
    refine D4 1 3 6 76 rfl (zb rfl (yf (zk (za (Om rfl ?_)))))
    refine Og (zH rfl rfl (by omega)) rfl ?_
    refine Oa rfl (N3 1 3 6 rfl ?_)
    refine ⟨s.key.length - (j + 1), by omega, j + 1, rfl, by omega, rfl, hcy.trans (zj.drew [] _), ?_⟩
    rw [yt hx]
    intro z hz'
    rcases List.mem_append.1 hz' with hz' | hz'
    ·exact hky z hz'
    simp at hz'; subst hz'; rw [hca]; exact hz
  refine za (Om rfl (Od zbM rfl ?_))
  refine Ol zcc rfl (k1y.cell' (i := 1) rfl) ?_
  refine On zaz rfl ?_
  refine Og (vf (zB rfl rfl) (by simp; omega)) rfl ?_
  refine E4 1 3 6 64 rfl (zb rfl ?_)
  refine zM ?_
  repeat first | refine te ?_ | refine bo rfl ?_
  refine zt _ ?_
  rw [List.take_of_length_le (by omega)] at hky
  exact ⟨⟨_, _, rfl⟩, hcy, hky⟩
 rintro F wy ⟨⟨f6, f64, rfl⟩, hcy, hkn⟩
 refine ye (fun F wz => (∃ f7 f81, F = [(1, Pt b1), (3, Ii s.cols.length), (7, f7), (81, f81)]) ∧ zj [] w27 wz ∧ (∀ l ∈ s.uq, zc5 l s.cols.length = true)) ?_ ?_
 ·refine Sr (Oa rfl (E3 1 3 7 rfl (zq ?_)))
  refine zZ [1, 3, 7] (fun m F wz => ∃ j : Nat, m = s.uq.length - j ∧ j ≤ s.uq.length ∧ F = [(1, Pt b1), (3, Ii s.cols.length), (7, Ii j)] ∧ zj [] w27 wz ∧ (∀ l ∈ s.uq.take j, zc5 l s.cols.length = true)) (m := s.uq.length - 0) ⟨0, rfl, Nat.zero_le _, rfl, hcy, by simp⟩ ?_
  rintro m F wz ⟨j, rfl, hj, rfl, hcz, huz⟩
  have k1z := k1.chg0 hcz
  refine ze (ze ?_)
  by_cases hlt : j < s.uq.length
  ·refine za (Om rfl (Od zbe rfl ?_))
   refine Ol zdJ rfl (k1z.cell' (i := 2) rfl) ?_
   refine On zbd rfl ?_
   refine Og (vt (zB rfl rfl) (by simp; omega)) rfl ?_
   refine E4 1 3 7 81 rfl (zd rfl (zm ?_))
   have hx : s.uq[j]? = some s.uq[j] := by simp [hlt]
   generalize s.uq[j] = x at hx
   obtain ⟨bu, ou, cu, vu, hve, hcu, hiu⟩ := zdc.cell ((hs.chg0 hc27).chg0 hcz).uq hx
   cases hve
   refine ze (zq (ze ?_))
   cases hst : zc5 x s.cols.length with
   | false =>
    refine za (Od zbe rfl ?_)
    refine Ol zdJ rfl (k1z.cell' (i := 2) rfl) ?_
    refine Om rfl ?_
    refine Og (zf zbd zgH rfl rfl _ rfl hlt) rfl ?_
    refine Ol zcc rfl hcu ?_
    refine Om rfl ?_
    refine Oc zp4 rfl rfl rfl (zjo _ x s.cols.length _ hiu (by omega)) ?_
    rintro v90 w90 ⟨h90, c90⟩
    rw [hst] at h90
    subst h90
    refine Og (zS rfl) rfl (E4 1 3 7 91 rfl (zd rfl (Sr (Oa rfl (E1 2 rfl (zi ?_))))))
    repeat first | refine tr ?_ | refine br ?_
    refine zD rfl rfl ?_
    refine ⟨?_, (hc27.trans hcz).trans c90⟩
    rw [zdF (a := yJ s) (fun h => ?_)]
    have hd := (zW h).2.2.2.2.2.2 _ (List.mem_of_getElem? hx)
    rw [hst] at hd; cases hd
   | true =>
    refine za (Od zbe rfl ?_)
    refine Ol zdJ rfl (k1z.cell' (i := 2) rfl) ?_
    refine Om rfl ?_
    refine Og (zf zbd zgH rfl rfl _ rfl hlt) rfl ?_
    refine Ol zcc rfl hcu ?_
    refine Om rfl ?_
    refine Oc zp4 rfl rfl rfl (zjo _ x s.cols.length _ hiu (by omega)) ?_
    rintro v90 w90 ⟨h90, c90⟩
    rw [hst] at h90
    subst h90
    refine Og (zS rfl) rfl (E4 1 3 7 91 rfl (zb rfl (yf (zk (za (Om rfl ?_))))))
    refine Og (zH rfl rfl (by omega)) rfl ?_
    refine Oa rfl (N3 1 3 7 rfl ?_)
    refine ⟨s.uq.length - (j + 1), by omega, j + 1, rfl, by omega, rfl, hcz.trans c90, ?_⟩
    rw [yt hx]
    intro z hz'
    rcases List.mem_append.1 hz' with hz' | hz'
    ·exact huz z hz'
    simp at hz'; subst hz'; exact hst
  refine za (Om rfl (Od zbe rfl ?_))
  refine Ol zdJ rfl (k1z.cell' (i := 2) rfl) ?_
  refine On zbd rfl ?_
  refine Og (vf (zB rfl rfl) (by simp; omega)) rfl ?_
  refine E4 1 3 7 81 rfl (zb rfl ?_)
  refine zM ?_
  repeat first | refine te ?_ | refine bo rfl ?_
  refine zt _ ?_
  rw [List.take_of_length_le (by omega)] at huz
  exact ⟨⟨_, _, rfl⟩, hcz, huz⟩
 rintro F wz ⟨⟨f7, f81, rfl⟩, hcz, huq⟩
 refine Sr (Oa rfl (E1 2 rfl (zi ?_)))
 refine zD rfl rfl ?_
 refine ⟨?_, hc27.trans hcz⟩
 have e : yJ s = true := by
  simp only [yJ, Bool.and_eq_true, decide_eq_true_eq, List.all_eq_true, Bool.not_eq_true']
  exact ⟨⟨⟨⟨⟨⟨⟨by omega, by omega⟩, by omega⟩, hset⟩, hall⟩, hnd⟩, hkn⟩, huq⟩
 rw [e]
theorem zpO {P : Program} {n : Nat} {F : Fr} {w : World} {dst : Option Nat} {ty : TypeId} {pos : String} {af : Array Edge} {gd : Option (Nat × Bool)} {x : Operand} {t : TypeId} {i : Int} (hx : ev F x = some (Ii i)) (h : -9223372036854775808 ≤ 0 - i ∧ 0 - i ≤ 9223372036854775807) : Vl P n F ⟨dst, .unOp .neg t x, ty, pos, af, gd⟩ w (Ii (0 - i)) w :=
 fun a ha => by simp only [execOp, ha.eval hx, Op.unary, Op.intArith, IntWalk.i64_in _ h]; rfl
theorem zf1 (z : Int) (w : World) (hz : z = 1 ∨ z = 2 ∨ z = 4 ∨ z = 8) : z0 TP 94 #[Ii z] w fun r w' => r = Ii (zbs z) ∧ zj [] w w' := by
 refine A1 Tryz.func94 rfl rfl ?_
 refine Sr (Oa rfl (E1 0 rfl (ze ?_)))
 rcases hz with rfl | rfl | rfl | rfl
 ·refine za ?_
  refine zC (gn rfl) (zy zmE rfl (vs := [_, _, _, _, _, _, _, _, _]) rfl (css := [_, _, _, _, _, _, _, _, _]) ⟨rfl, rfl, rfl, rfl, rfl, rfl, rfl, rfl, rfl, trivial⟩ rfl rfl (cs := [_, _, _, _, _, _, _, _, _]) rfl rfl ?_)
  intro b3 w3 e3 n3 c3 k3
  refine Om rfl ?_
  refine Og (zf zka sz2 rfl rfl _ rfl (by decide : 1 < 9)) rfl ?_
  refine Ol ag2 rfl (k3.cell' (i := 1) rfl) ?_
  refine Oa rfl (E1 2 rfl (zi ?_))
  refine zD rfl rfl ?_
  exact ⟨rfl, c3⟩
 ·refine za ?_
  refine zC (gn rfl) (zy zmE rfl (vs := [_, _, _, _, _, _, _, _, _]) rfl (css := [_, _, _, _, _, _, _, _, _]) ⟨rfl, rfl, rfl, rfl, rfl, rfl, rfl, rfl, rfl, trivial⟩ rfl rfl (cs := [_, _, _, _, _, _, _, _, _]) rfl rfl ?_)
  intro b3 w3 e3 n3 c3 k3
  refine Om rfl ?_
  refine Og (zf zka sz2 rfl rfl _ rfl (by decide : 2 < 9)) rfl ?_
  refine Ol ag2 rfl (k3.cell' (i := 2) rfl) ?_
  refine Oa rfl (E1 2 rfl (zi ?_))
  refine zD rfl rfl ?_
  exact ⟨rfl, c3⟩
 ·refine za ?_
  refine zC (gn rfl) (zy zmE rfl (vs := [_, _, _, _, _, _, _, _, _]) rfl (css := [_, _, _, _, _, _, _, _, _]) ⟨rfl, rfl, rfl, rfl, rfl, rfl, rfl, rfl, rfl, trivial⟩ rfl rfl (cs := [_, _, _, _, _, _, _, _, _]) rfl rfl ?_)
  intro b3 w3 e3 n3 c3 k3
  refine Om rfl ?_
  refine Og (zf zka sz2 rfl rfl _ rfl (by decide : 4 < 9)) rfl ?_
  refine Ol ag2 rfl (k3.cell' (i := 4) rfl) ?_
  refine Oa rfl (E1 2 rfl (zi ?_))
  refine zD rfl rfl ?_
  exact ⟨rfl, c3⟩
 refine za ?_
 refine zC (gn rfl) (zy zmE rfl (vs := [_, _, _, _, _, _, _, _, _]) rfl (css := [_, _, _, _, _, _, _, _, _]) ⟨rfl, rfl, rfl, rfl, rfl, rfl, rfl, rfl, rfl, trivial⟩ rfl rfl (cs := [_, _, _, _, _, _, _, _, _]) rfl rfl ?_)
 intro b3 w3 e3 n3 c3 k3
 refine Om rfl ?_
 refine Og (zf zka sz2 rfl rfl _ rfl (by decide : 8 < 9)) rfl ?_
 refine Ol ag2 rfl (k3.cell' (i := 8) rfl) ?_
 refine Oa rfl (E1 2 rfl (zi ?_))
 refine zD rfl rfl ?_
 exact ⟨rfl, c3⟩
theorem zph (z : Int) (w : World) (hz : z = 1 ∨ z = 2 ∨ z = 4 ∨ z = 8) : z0 TP 95 #[Ii z] w fun r w' => r = .int .u64 ((2 : Int) ^ (8 * z.toNat) - 1) ∧ zj [] w w' := by
 refine A1 Tryz.func95 rfl rfl ?_
 refine Sr (Oa rfl (E1 0 rfl (ze ?_)))
 rcases hz with rfl | rfl | rfl | rfl
 ·refine za ?_
  refine zC (gn rfl) (zy zmk rfl (vs := [_, _, _, _, _, _, _, _, _]) rfl (css := [_, _, _, _, _, _, _, _, _]) ⟨rfl, rfl, rfl, rfl, rfl, rfl, rfl, rfl, rfl, trivial⟩ rfl rfl (cs := [_, _, _, _, _, _, _, _, _]) rfl rfl ?_)
  intro b3 w3 e3 n3 c3 k3
  refine Om rfl ?_
  refine Og (zf zjI znn rfl rfl _ rfl (by decide : 1 < 9)) rfl ?_
  refine Ol zcV rfl (k3.cell' (i := 1) rfl) ?_
  refine Oa rfl (E1 2 rfl (zi ?_))
  refine zD rfl rfl ?_
  exact ⟨rfl, c3⟩
 ·refine za ?_
  refine zC (gn rfl) (zy zmk rfl (vs := [_, _, _, _, _, _, _, _, _]) rfl (css := [_, _, _, _, _, _, _, _, _]) ⟨rfl, rfl, rfl, rfl, rfl, rfl, rfl, rfl, rfl, trivial⟩ rfl rfl (cs := [_, _, _, _, _, _, _, _, _]) rfl rfl ?_)
  intro b3 w3 e3 n3 c3 k3
  refine Om rfl ?_
  refine Og (zf zjI znn rfl rfl _ rfl (by decide : 2 < 9)) rfl ?_
  refine Ol zcV rfl (k3.cell' (i := 2) rfl) ?_
  refine Oa rfl (E1 2 rfl (zi ?_))
  refine zD rfl rfl ?_
  exact ⟨rfl, c3⟩
 ·refine za ?_
  refine zC (gn rfl) (zy zmk rfl (vs := [_, _, _, _, _, _, _, _, _]) rfl (css := [_, _, _, _, _, _, _, _, _]) ⟨rfl, rfl, rfl, rfl, rfl, rfl, rfl, rfl, rfl, trivial⟩ rfl rfl (cs := [_, _, _, _, _, _, _, _, _]) rfl rfl ?_)
  intro b3 w3 e3 n3 c3 k3
  refine Om rfl ?_
  refine Og (zf zjI znn rfl rfl _ rfl (by decide : 4 < 9)) rfl ?_
  refine Ol zcV rfl (k3.cell' (i := 4) rfl) ?_
  refine Oa rfl (E1 2 rfl (zi ?_))
  refine zD rfl rfl ?_
  exact ⟨rfl, c3⟩
 refine za ?_
 refine zC (gn rfl) (zy zmk rfl (vs := [_, _, _, _, _, _, _, _, _]) rfl (css := [_, _, _, _, _, _, _, _, _]) ⟨rfl, rfl, rfl, rfl, rfl, rfl, rfl, rfl, rfl, trivial⟩ rfl rfl (cs := [_, _, _, _, _, _, _, _, _]) rfl rfl ?_)
 intro b3 w3 e3 n3 c3 k3
 refine Om rfl ?_
 refine Og (zf zjI znn rfl rfl _ rfl (by decide : 8 < 9)) rfl ?_
 refine Ol zcV rfl (k3.cell' (i := 8) rfl) ?_
 refine Oa rfl (E1 2 rfl (zi ?_))
 refine zD rfl rfl ?_
 exact ⟨rfl, c3⟩
theorem zs2 (c : Col) (x : zN) (w : World) (hn : c.n.size ≤ 1048576) : z0 TP 63 #[c.v, x.v] w fun r w' => r = Ii (y7 c x) ∧ zj [] w w' := by
 refine A2 Tryz.func63 rfl rfl ?_
 refine Sr ?_
 refine Ob rfl rfl ?_
 intro b2 w2 e2 n2 c2 k2
 refine Ob rfl rfl ?_
 intro b3 w3 e3 n3 c3 k3
 refine Oa rfl (E2 2 3 rfl ?_)
 have k2 : zQ w3 b2 25 c.cs := k2.chg0 c3
 have k3 : zQ w3 b3 40 x.cs := k3
 have hc3 : zj [] w w3 := c2.trans c3
 refine ze (ze ?_)
 cases hr : yZ c with
 | false =>
  refine za ?_
  refine Og (zg zeX zbi rfl rfl (zz.of_blk0 k2)) rfl ?_
  refine Oc zq5 rfl rfl rfl (zf8 c _ hn) ?_
  rintro v8 w8 ⟨h8, c8⟩
  rw [hr] at h8
  subst h8
  refine Og (zS rfl) rfl (E3 2 3 9 rfl (zd rfl (Sr (Oa rfl (E1 4 rfl (zi ?_))))))
  repeat first | refine tr ?_ | refine br ?_
  refine zD rfl rfl ?_
  exact ⟨by simp [y7, hr], hc3.trans c8⟩
 | true =>
 refine za ?_
 refine Og (zg zeX zbi rfl rfl (zz.of_blk0 k2)) rfl ?_
 refine Oc zq5 rfl rfl rfl (zf8 c _ hn) ?_
 rintro v8 w8 ⟨h8, c8⟩
 rw [hr] at h8
 subst h8
 refine Og (zS rfl) rfl (E3 2 3 9 rfl (zb rfl (zm ?_)))
 have k2 := k2.chg0 c8
 have k3 := k3.chg0 c8
 refine ze (Sr ?_)
 refine Og (zg za9 yY rfl rfl (zz.of_blk0 k3)) rfl ?_
 refine Oc zw9 rfl rfl rfl (zqm x _) ?_
 rintro v11 w11 ⟨rfl, c11⟩
 refine Oa rfl (E3 2 3 5 rfl ?_)
 have k2 := k2.chg0 c11
 have k3 := k3.chg0 c11
 have hc11 : zj [] w w11 := (hc3.trans c8).trans c11
 refine ze ?_
 by_cases h0 : zaY x ≠ 0
 ·refine za (Om rfl ?_)
  refine Og (vt (zY rfl rfl) (by simp [h0])) rfl ?_
  refine E4 2 3 5 13 rfl (zd rfl (Sr (Om rfl (Oa rfl (E1 4 rfl (zi ?_))))))
  repeat first | refine tr ?_ | refine br ?_
  refine zD rfl rfl ?_
  exact ⟨by simp [y7, hr, h0], hc11⟩
 have h0 : zaY x = 0 := by omega
 refine za (Om rfl ?_)
 refine Og (vf (zY rfl rfl) (by simp [h0])) rfl ?_
 refine E4 2 3 5 13 rfl (zb rfl (zm (Sr (Od zao rfl ?_))))
 refine Ol zch rfl (k3.cell' (i := 0) rfl) ?_
 refine Oa rfl (E3 2 3 6 rfl ?_)
 obtain ⟨z1, z2, z3, z4⟩ := zec hr
 refine ze (zq (ze ?_))
 by_cases hk : x.k = 0
 ·cases hz : c.z with
  | true =>
   refine za (Om rfl ?_)
   refine Og (vt (zw rfl rfl) (decide_eq_true (by omega))) rfl ?_
   refine Om rfl ?_
   refine Oy rfl rfl (zl zfA rfl) ?_
   refine Oy rfl rfl (zh ag4 rfl (k2.cell' (i := 3) (show _ = some (Value.bool true) by rw [← hz]; rfl))) ?_
   refine Ot rfl (Oa rfl (E4 2 3 6 17 rfl (zd rfl (Sr (Oa rfl (E1 4 rfl (zi ?_)))))))
   repeat first | refine tr ?_ | refine br ?_
   refine zD rfl rfl ?_
   exact ⟨by simp [y7, hr, h0, hk, hz], hc11⟩
  | false =>
   refine za (Om rfl ?_)
   refine Og (vt (zw rfl rfl) (decide_eq_true (by omega))) rfl ?_
   refine Om rfl ?_
   refine Oy rfl rfl (zl zfA rfl) ?_
   refine Oy rfl rfl (zh ag4 rfl (k2.cell' (i := 3) (show _ = some (Value.bool false) by rw [← hz]; rfl))) ?_
   refine Ot rfl (Oa rfl (E4 2 3 6 17 rfl (zb rfl (Sr (Om rfl ?_)))))
   refine Og (vt (zw rfl rfl) (decide_eq_true (by omega))) rfl ?_
   refine Oa rfl (E4 2 3 6 24 rfl (zd rfl (Sr (Oa rfl (E1 4 rfl (zi ?_))))))
   repeat first | refine tr ?_ | refine br ?_
   refine zD rfl rfl ?_
   exact ⟨by simp [y7, hr, h0, hk, hz], hc11⟩
 refine za (Om rfl ?_)
 refine Og (vf (zw rfl rfl) (decide_eq_false (by omega))) rfl ?_
 refine Om rfl (Oz rfl rfl (Oz rfl rfl (Of rfl (Oa rfl (E4 2 3 6 17 rfl (zb rfl (Sr (Om rfl ?_))))))))
 refine Og (vf (zw rfl rfl) (decide_eq_false (by omega))) rfl ?_
 refine Oa rfl (E4 2 3 6 24 rfl (zb rfl (ze ?_)))
 by_cases ht : x.k ≠ c.t
 ·refine za (Om rfl (Od zfE rfl ?_))
  refine Ol zl6 rfl (k2.cell' (i := 1) rfl) ?_
  refine Og (vt (zY rfl rfl) (by simp [ht])) rfl ?_
  refine Oa rfl (E4 2 3 6 27 rfl (zd rfl (Sr (Oa rfl (E1 4 rfl (zi ?_))))))
  repeat first | refine tr ?_ | refine br ?_
  refine zD rfl rfl ?_
  exact ⟨by simp [y7, hr, h0, hk, ht], hc11⟩
 have ht : x.k = c.t := by omega
 have hfit : y7 c x = if za3 c x then 133 else 0 := by
  unfold y7
  rw [hr, if_neg (by simp), if_neg (by simp [h0]), if_neg hk, if_neg (by simp [ht])]
 refine za (Om rfl (Od zfE rfl ?_))
 refine Ol zl6 rfl (k2.cell' (i := 1) rfl) ?_
 refine Og (vf (zY rfl rfl) (by simp [ht])) rfl ?_
 refine Oa rfl (E4 2 3 6 27 rfl (zb rfl (ze ?_)))
 by_cases t1 : x.k = 1
 ·have hz := z1 (.inl (by omega))
  have hL : -9223372036854775808 ≤ zbs c.s ∧ zbs c.s ≤ -128 := by rcases hz with e | e | e | e <;> rw [e] <;> decide
  have hw : za3 c x = decide (x.i < zbs c.s ∨ -(zbs c.s + 1) < x.i) := by simp [za3, ← ht, t1]
  generalize hLL : zbs c.s = L at hL hw
  by_cases hlo : x.i < L
  ·refine zK (fun wz => zj [] w11 wz) mix (by kernel_rfl) (zj.drew [] _) ?_
   refine Tm rfl ?_
   refine Tp (fun _ => vt (zw rfl rfl) (decide_eq_true (by omega))) rfl ?_
   refine Tm rfl ?_
   refine Tg rfl rfl (fun _ => zl yW rfl) rfl ?_
   refine Ts rfl rfl (fun wz hz => zh ag2 rfl ((k3.chg0 hz).cell' (i := 1) rfl)) rfl ?_
   refine Tg rfl rfl (fun _ => zl zbz rfl) rfl ?_
   refine Ts rfl rfl (fun wz hz => zh ag3 rfl ((k2.chg0 hz).cell' (i := 2) rfl)) rfl ?_
   refine Tv rfl rfl zoO rfl rfl rfl (zf1 c.s _ hz) ?_
   rintro v40 w40 ⟨h40, c40⟩
   rw [hLL] at h40
   subst h40
   refine ⟨.inl ((zj.drew [] _).trans c40), ?_⟩
   refine Tg rfl rfl (fun _ => vt (zB rfl rfl) (decide_eq_true (by omega))) rfl ?_
   refine Tq rfl rfl rfl (Tz rfl rfl (Tz rfl rfl (Tz rfl rfl (Tz rfl rfl (Tz rfl rfl (Tz rfl rfl (Tz rfl rfl (Tz rfl rfl ?_))))))))
   refine Tg rfl rfl (fun _ => zI rfl rfl) rfl ?_
   refine Tp (fun _ => zI rfl rfl) rfl ?_
   refine Ta rfl (D4 2 3 6 32 rfl (zd rfl (Sr (Oa rfl (E1 4 rfl (zi ?_))))))
   repeat first | refine tr ?_ | refine br ?_
   refine zD rfl rfl ?_
   refine ⟨?_, (hc11.trans (zj.drew [] _)).trans c40⟩
   rw [hfit, hw, decide_eq_true (.inl hlo)]; rfl
  by_cases hhi : -(L + 1) < x.i
  ·refine zK (fun wz => zj [] w11 wz) mix (by kernel_rfl) (zj.drew [] _) ?_
   refine Tm rfl ?_
   refine Tp (fun _ => vt (zw rfl rfl) (decide_eq_true (by omega))) rfl ?_
   refine Tm rfl ?_
   refine Tg rfl rfl (fun _ => zl yW rfl) rfl ?_
   refine Ts rfl rfl (fun wz hz => zh ag2 rfl ((k3.chg0 hz).cell' (i := 1) rfl)) rfl ?_
   refine Tg rfl rfl (fun _ => zl zbz rfl) rfl ?_
   refine Ts rfl rfl (fun wz hz => zh ag3 rfl ((k2.chg0 hz).cell' (i := 2) rfl)) rfl ?_
   refine Tv rfl rfl zoO rfl rfl rfl (zf1 c.s _ hz) ?_
   rintro v40 w40 ⟨h40, c40⟩
   rw [hLL] at h40
   subst h40
   refine ⟨.inl ((zj.drew [] _).trans c40), ?_⟩
   refine Tg rfl rfl (fun _ => vf (zB rfl rfl) (decide_eq_false (by omega))) rfl ?_
   refine Tq rfl rfl rfl ?_
   refine Tg rfl rfl (fun _ => zl yW rfl) rfl ?_
   refine Ts rfl rfl (fun wz hz => zh ag2 rfl ((k3.chg0 hz).cell' (i := 1) rfl)) rfl ?_
   refine Tg rfl rfl (fun _ => zl zbz rfl) rfl ?_
   refine Ts rfl rfl (fun wz hz => zh ag3 rfl ((k2.chg0 hz).cell' (i := 2) rfl)) rfl ?_
   refine Tv rfl rfl zoO rfl rfl rfl (zf1 c.s _ hz) ?_
   rintro v47 w47 ⟨h47, c47⟩
   rw [hLL] at h47
   subst h47
   refine ⟨.inl (((zj.drew [] _).trans c40).trans c47), ?_⟩
   refine Tg rfl rfl (fun _ => zH rfl rfl (by omega)) rfl ?_
   refine Tg rfl rfl (fun _ => zpO rfl (by omega)) rfl ?_
   refine Tg rfl rfl (fun _ => vt (yc rfl rfl) (by simp; omega)) rfl ?_
   refine Tg rfl rfl (fun _ => zP rfl rfl) rfl ?_
   refine Tp (fun _ => zI rfl rfl) rfl ?_
   refine Ta rfl (D4 2 3 6 32 rfl (zd rfl (Sr (Oa rfl (E1 4 rfl (zi ?_))))))
   repeat first | refine tr ?_ | refine br ?_
   refine zD rfl rfl ?_
   refine ⟨?_, ((hc11.trans (zj.drew [] _)).trans c40).trans c47⟩
   rw [hfit, hw, decide_eq_true (.inr hhi)]; rfl
  refine zK (fun wz => zj [] w11 wz) mix (by kernel_rfl) (zj.drew [] _) ?_
  refine Tm rfl ?_
  refine Tp (fun _ => vt (zw rfl rfl) (decide_eq_true (by omega))) rfl ?_
  refine Tm rfl ?_
  refine Tg rfl rfl (fun _ => zl yW rfl) rfl ?_
  refine Ts rfl rfl (fun wz hz => zh ag2 rfl ((k3.chg0 hz).cell' (i := 1) rfl)) rfl ?_
  refine Tg rfl rfl (fun _ => zl zbz rfl) rfl ?_
  refine Ts rfl rfl (fun wz hz => zh ag3 rfl ((k2.chg0 hz).cell' (i := 2) rfl)) rfl ?_
  refine Tv rfl rfl zoO rfl rfl rfl (zf1 c.s _ hz) ?_
  rintro v40 w40 ⟨h40, c40⟩
  rw [hLL] at h40
  subst h40
  refine ⟨.inl ((zj.drew [] _).trans c40), ?_⟩
  refine Tg rfl rfl (fun _ => vf (zB rfl rfl) (decide_eq_false (by omega))) rfl ?_
  refine Tq rfl rfl rfl ?_
  refine Tg rfl rfl (fun _ => zl yW rfl) rfl ?_
  refine Ts rfl rfl (fun wz hz => zh ag2 rfl ((k3.chg0 hz).cell' (i := 1) rfl)) rfl ?_
  refine Tg rfl rfl (fun _ => zl zbz rfl) rfl ?_
  refine Ts rfl rfl (fun wz hz => zh ag3 rfl ((k2.chg0 hz).cell' (i := 2) rfl)) rfl ?_
  refine Tv rfl rfl zoO rfl rfl rfl (zf1 c.s _ hz) ?_
  rintro v47 w47 ⟨h47, c47⟩
  rw [hLL] at h47
  subst h47
  refine ⟨.inl (((zj.drew [] _).trans c40).trans c47), ?_⟩
  refine Tg rfl rfl (fun _ => zH rfl rfl (by omega)) rfl ?_
  refine Tg rfl rfl (fun _ => zpO rfl (by omega)) rfl ?_
  refine Tg rfl rfl (fun _ => vf (yc rfl rfl) (by simp; omega)) rfl ?_
  refine Tg rfl rfl (fun _ => zP rfl rfl) rfl ?_
  refine Tp (fun _ => zI rfl rfl) rfl ?_
  refine Ta rfl (D4 2 3 6 32 rfl (zb rfl (ze ?_)))
  refine zK (fun wz => zj [] w47 wz) mix (by kernel_rfl) (zj.drew [] _) ?_
  refine Tm rfl ?_
  refine Tp (fun _ => vf (zw rfl rfl) (decide_eq_false (by omega))) rfl ?_
  refine Tm rfl (Tz rfl rfl (Tz rfl rfl (Tz rfl rfl (Tz rfl rfl (Tz rfl rfl (Tz rfl rfl ?_))))))
  refine Tp (fun _ => zP rfl rfl) rfl ?_
  refine Ta rfl (D4 2 3 6 53 rfl (zb rfl (Sr (Om rfl ?_))))
  refine Og (vf (zw rfl rfl) (decide_eq_false (by omega))) rfl ?_
  refine Om rfl (Oz rfl rfl (Oz rfl rfl (Oz rfl rfl (Oz rfl rfl (Oz rfl rfl (Oz rfl rfl (Of rfl (Oa rfl (E1 64 rfl (zb rfl (yf (zk (ze ?_)))))))))))))
  refine za (Oa rfl (E1 4 rfl (zi ?_)))
  refine zD rfl rfl ?_
  refine ⟨?_, (((hc11.trans (zj.drew [] _)).trans c40).trans c47).trans (zj.drew [] _)⟩
  rw [hfit, hw, decide_eq_false (by omega)]; rfl
 refine zK (fun wz => zj [] w11 wz) mix (by kernel_rfl) (zj.drew [] _) ?_
 refine Tm rfl ?_
 refine Tp (fun _ => vf (zw rfl rfl) (decide_eq_false (by omega))) rfl ?_
 refine Tm rfl (Tz rfl rfl (Tz rfl rfl (Tz rfl rfl (Tz rfl rfl (Tz rfl rfl (Tz rfl rfl (Tz rfl rfl ?_)))))))
 refine zlb rfl rfl rfl rfl rfl ?_
 refine zlb rfl rfl rfl rfl rfl ?_
 refine zlb rfl rfl rfl rfl rfl ?_
 refine zlb rfl rfl rfl rfl rfl ?_
 refine zlb rfl rfl rfl rfl rfl ?_
 refine zlb rfl rfl rfl rfl rfl ?_
 refine zlb rfl rfl rfl rfl rfl ?_
 refine zlb rfl rfl rfl rfl rfl ?_
 refine Tz rfl rfl ?_
 refine Tp (fun _ => zP rfl rfl) rfl ?_
 refine Ta rfl (D4 2 3 6 32 rfl (zb rfl ?_))
 have hc13 := hc11.trans (zj.drew [] w11)
 have k2 := k2.chg0 (zj.drew [] w11)
 have k3 := k3.chg0 (zj.drew [] w11)
 refine ze ?_
 by_cases t2 : x.k = 2
 ·have hz := z1 (.inr (by omega))
  have hw : za3 c x = decide ((2 : Int) ^ (8 * c.s.toNat) ≤ x.u) := by simp [za3, ← ht, t2]
  generalize hLL : (2 : Int) ^ (8 * c.s.toNat) = M at hw
  by_cases hhi : M ≤ x.u
  ·refine zK (fun wz => zj [] w11.drew wz) mix (by kernel_rfl) (zj.drew [] _) ?_
   refine Tm rfl ?_
   refine Tp (fun _ => vt (zw rfl rfl) (decide_eq_true (by omega))) rfl ?_
   refine Tm rfl ?_
   refine Tg rfl rfl (fun _ => zl zaO rfl) rfl ?_
   refine Ts rfl rfl (fun wz hz => zh zcV rfl ((k3.chg0 hz).cell' (i := 2) rfl)) rfl ?_
   refine Tg rfl rfl (fun _ => zl zbz rfl) rfl ?_
   refine Ts rfl rfl (fun wz hz => zh ag3 rfl ((k2.chg0 hz).cell' (i := 2) rfl)) rfl ?_
   refine Tv rfl rfl zuI rfl rfl rfl (zph c.s _ hz) ?_
   rintro v61 w61 ⟨h61, c61⟩
   rw [hLL] at h61
   subst h61
   refine ⟨.inl ((zj.drew [] _).trans c61), ?_⟩
   refine Tg rfl rfl (fun _ => vt (yc rfl rfl) (by simp; omega)) rfl ?_
   refine Tp (fun _ => zI rfl rfl) rfl ?_
   refine Ta rfl (D4 2 3 6 53 rfl (zd rfl (Sr (Oa rfl (E1 4 rfl (zi ?_))))))
   repeat first | refine tr ?_ | refine br ?_
   refine zD rfl rfl ?_
   refine ⟨?_, (hc13.trans (zj.drew [] _)).trans c61⟩
   rw [hfit, hw, decide_eq_true hhi]; rfl
  refine zK (fun wz => zj [] w11.drew wz) mix (by kernel_rfl) (zj.drew [] _) ?_
  refine Tm rfl ?_
  refine Tp (fun _ => vt (zw rfl rfl) (decide_eq_true (by omega))) rfl ?_
  refine Tm rfl ?_
  refine Tg rfl rfl (fun _ => zl zaO rfl) rfl ?_
  refine Ts rfl rfl (fun wz hz => zh zcV rfl ((k3.chg0 hz).cell' (i := 2) rfl)) rfl ?_
  refine Tg rfl rfl (fun _ => zl zbz rfl) rfl ?_
  refine Ts rfl rfl (fun wz hz => zh ag3 rfl ((k2.chg0 hz).cell' (i := 2) rfl)) rfl ?_
  refine Tv rfl rfl zuI rfl rfl rfl (zph c.s _ hz) ?_
  rintro v61 w61 ⟨h61, c61⟩
  rw [hLL] at h61
  subst h61
  refine ⟨.inl ((zj.drew [] _).trans c61), ?_⟩
  refine Tg rfl rfl (fun _ => vf (yc rfl rfl) (by simp; omega)) rfl ?_
  refine Tp (fun _ => zI rfl rfl) rfl ?_
  refine Ta rfl (D4 2 3 6 53 rfl (zb rfl (Sr (Om rfl ?_))))
  refine Og (vf (zw rfl rfl) (decide_eq_false (by omega))) rfl ?_
  refine Om rfl (Oz rfl rfl (Oz rfl rfl (Oz rfl rfl (Oz rfl rfl (Oz rfl rfl (Oz rfl rfl (Of rfl (Oa rfl (E1 64 rfl (zb rfl (yf (zk (ze ?_)))))))))))))
  refine za (Oa rfl (E1 4 rfl (zi ?_)))
  refine zD rfl rfl ?_
  refine ⟨?_, (hc13.trans (zj.drew [] _)).trans c61⟩
  rw [hfit, hw, decide_eq_false hhi]; rfl
 refine zK (fun wz => zj [] w11.drew wz) mix (by kernel_rfl) (zj.drew [] _) ?_
 refine Tm rfl ?_
 refine Tp (fun _ => vf (zw rfl rfl) (decide_eq_false (by omega))) rfl ?_
 refine Tm rfl (Tz rfl rfl (Tz rfl rfl (Tz rfl rfl (Tz rfl rfl (Tz rfl rfl (Tz rfl rfl ?_))))))
 refine Tp (fun _ => zP rfl rfl) rfl ?_
 refine Ta rfl (D4 2 3 6 53 rfl (zb rfl ?_))
 have hc15 := hc13.trans (zj.drew [] w11.drew)
 have k2 := k2.chg0 (zj.drew [] w11.drew)
 have k3 := k3.chg0 (zj.drew [] w11.drew)
 refine Sr (Om rfl (Og (zw rfl rfl) rfl (Om rfl ?_)))
 apply zcx (t := 74)
 case h0 =>
  intro H
  refine Oz rfl rfl (Oz rfl rfl (Oz rfl rfl (Oz rfl rfl (Oz rfl rfl (Oz rfl rfl (Of rfl ?_))))))
  exact zaa [68, 69, 70, 71, 72, 73] rfl H
 case h1 =>
  intro hc H
  refine Oy rfl rfl (zl zaE rfl) ?_
  refine Oy rfl rfl (zh ag9 rfl (k3.cell' (i := 3) rfl)) ?_
  refine Oy rfl rfl (yN st9 rfl) ?_
  refine Oy rfl rfl (zl zbz rfl) ?_
  refine Oy rfl rfl (zh ag3 rfl (k2.cell' (i := 2) rfl)) ?_
  refine Oy rfl rfl (yc rfl rfl) ?_
  refine Ot rfl ?_
  exact zaa [68, 69, 70, 71, 72, 73] rfl H
 refine Oa rfl (E1 64 rfl ?_)
 have hw : za3 c x = (decide (x.k = 4) && decide ((x.b.size : Int) > c.s)) := by
  unfold za3
  rw [if_neg (by omega), if_neg (by omega)]
  by_cases h4 : x.k = 4
  ·rw [if_pos (by omega), decide_eq_true h4, Bool.true_and]
  rw [if_neg (by omega), decide_eq_false h4, Bool.false_and]
 refine zR rfl (fun hT => ?_) (fun hF => ?_)
 ·refine Sr (Oa rfl (E1 4 rfl (zi ?_)))
  repeat first | refine tr ?_ | refine br ?_
  refine zD rfl rfl ?_
  refine ⟨?_, hc15⟩
  rw [hfit, hw, hT]; rfl
 refine yf (zk (Sr (Oa rfl (E1 4 rfl (zi ?_)))))
 refine zD rfl rfl ?_
 refine ⟨?_, hc15⟩
 rw [hfit, hw, hF]; rfl
end Go.Wk
