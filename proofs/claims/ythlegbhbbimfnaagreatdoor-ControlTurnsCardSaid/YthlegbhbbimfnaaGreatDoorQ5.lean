/- joined texts -/
import Derived.Test.YthlegbhbbimfnaaGreatDoorQ4
set_option linter.all false
namespace Go.Wk
open Go.Proofs
set_option maxRecDepth 10000
theorem zgC {α : Type} {p : α → Bool} {l : List α} {j : Nat} {x : α} (hx : l[j]? = some x) (h : p x = true) : l.any p = true := List.any_eq_true.2 ⟨x, List.mem_of_getElem? hx, h⟩
theorem zfe {α : Type} {p : α → Bool} {l : List α} {j : Nat} {x : α} (hx : l[j]? = some x) (h : p x = false) (ha : (l.take j).any p = false) : (l.take (j + 1)).any p = false := by
 rw [List.take_add_one, hx, List.any_append, ha]
 simp [h]
theorem zkZ {α : Type} {f : α → List Value} (hf : ∀ x, (f x).length = 4) (v : Value) (l : List α) (p : α → Bool) (g : Nat) (lb : List Value) (w : World) (hl : yq w 62 4 f v l) (hn : l.length ≤ 1048576) (hg : zl TP g = true)
 (hp : ∀ x ∈ l, ∀ w1, zm [] w w1 → zO TP g (Value.agg (f x).toArray :: lb).toArray w1 fun r w2 => r = .bool (p x) ∧ zm [] w1 w2) :
 zO TP 113 #[v, .func (.func g) #[] lb.toArray] w fun r w' => ∃ i : Int, r = Ii i ∧ decide (0 ≤ i) = l.any p ∧ zm [] w w' := by
 obtain ⟨pv, cv, hval, hle⟩ := yq.val hl
 refine A2 Tryz.func113 rfl rfl ?_
 refine Sr (Oa rfl (E2 0 1 rfl (zh (zh ?_))))
 subst hval
 refine zd (Om rfl (On yS rfl (Om rfl (E4 0 1 7 8 rfl (zn ?_)))))
 refine ye [0, 1, 7, 8] (fun m F wx => ∃ j : Nat, m = l.length - j ∧ j ≤ l.length ∧ F = [(0, .slice pv l.length cv), (1, .func (.func g) #[] lb.toArray), (7, Ii l.length), (8, Ii j)] ∧ zm [] w wx ∧ (l.take j).any p = false) (m := l.length - 0) ⟨0, rfl, Nat.zero_le _, rfl, zm.refl _ _, by simp⟩ ?_
 rintro m F wx ⟨j, rfl, hj, rfl, hcx, hno⟩
 refine Sr (Og (zE rfl rfl) rfl (E5 0 1 7 8 9 rfl (zh ?_)))
 refine yh rfl (fun hT => ?_) (fun hF => ?_)
 ·refine zq ?_
  have hlt : j < l.length := by have := of_decide_eq_true hT; omega
  have hx : l[j]? = some l[j] := by simp [hlt]
  generalize l[j] = x at hx
  obtain ⟨b, off, cap, hv, hcell⟩ := yq.at hf (yq.chg0 hl hcx) hx
  cases hv
  refine zh (zn (Sr (Om rfl (Oa rfl (E5 0 1 5 7 8 rfl (Sr (Om rfl (Om rfl (Om rfl ?_)))))))))
  refine Og (ze yS yM rfl rfl _ rfl hlt) rfl ?_
  refine Og (zi zbU yM rfl (hf _) hcell) rfl ?_
  refine Oc hg rfl rfl rfl (hp x (List.mem_of_getElem? hx) _ hcx) ?_
  rintro v16 w16 ⟨rfl, c16⟩
  refine E6 0 1 5 7 8 16 rfl ?_
  cases hpx : p x with
  | true =>
   refine zg rfl (Sr (Om rfl (Oa rfl (E1 4 rfl (zj ?_)))))
   repeat first | refine tr ?_ | refine br ?_
   refine zx rfl rfl ?_
   exact ⟨_, rfl, by rw [zgC hx hpx]; simp, hcx.trans c16⟩
  | false =>
   refine zf rfl (yd (zk (zd ?_)))
   refine Og (zR rfl rfl (by omega)) rfl ?_
   refine Om rfl (N4 0 1 7 8 rfl ?_)
   exact ⟨l.length - (j + 1), by omega, j + 1, rfl, by omega, rfl, hcx.trans c16, zfe hx hpx hno⟩
 refine zP ?_
 repeat first | refine te ?_ | refine bo rfl ?_
 refine zp _ ?_
 have he : l.length ≤ j := by have := of_decide_eq_false hF; omega
 refine Sr (Oa rfl (E1 4 rfl (zj ?_)))
 repeat first | refine tr ?_ | refine br ?_
 refine zx rfl rfl ?_
 rw [List.take_of_length_le he] at hno
 exact ⟨_, rfl, by rw [hno]; rfl, hcx⟩
theorem zkU {α : Type} {f : α → List Value} (hf : ∀ x, (f x).length = 4) (v : Value) (l : List α) (p : α → Bool) (g : Nat) (lb : List Value) (w : World) (hl : yq w 62 4 f v l) (hn : l.length ≤ 1048576) (hg : zl TP g = true)
 (hp : ∀ x ∈ l, ∀ w1, zm [] w w1 → zO TP g (Value.agg (f x).toArray :: lb).toArray w1 fun r w2 => r = .bool (p x) ∧ zm [] w1 w2) :
 zO TP 78 #[v, .func (.func g) #[] lb.toArray] w fun r w' => r = .bool (l.any p) ∧ zm [] w w' := by
 refine A2 Tryz.func78 rfl rfl ?_
 refine Sr (Oa rfl (E2 0 1 rfl (Sr (Om rfl (Om rfl ?_)))))
 refine Oc zmc rfl rfl rfl (zkZ hf v l p g lb _ hl hn hg hp) ?_
 rintro v7 w7 ⟨i, rfl, hi, c7⟩
 refine Og (yw rfl rfl) rfl ?_
 refine Oa rfl (E1 4 rfl (zj ?_))
 refine zx rfl rfl ?_
 exact ⟨by rw [← hi], c7⟩
def zfC (s k f : Nat) : Value := .agg #[.func (.func s) #[] #[], Ii k, .func (.func f) #[] #[]]
def zc8 : List (Int × Value) := [(1, zfC 242 1 243), (2, zfC 242 2 244), (3, zfC 245 3 246), (4, zfC 247 4 248)]
theorem zds (w : World) : zO TP 225 #[] w fun r w' => ∃ b, r = .map (some b) ∧ w.heap.size ≤ b ∧ zZ (zab .i64) w' b zc8 ∧ zm [] w w' := by
 refine zO.of_W (args := []) Tryz.func225 rfl rfl rfl rfl ?_
 refine Sr (Oa rfl (za0 [] (F' := []) rfl (Sr ?_)))
 refine zA (gn rfl) (zaF (zab .i64) rfl ?_)
 intro b1 w1 e1 n1 c1 k1
 refine Og (zM zgS zaU rfl (vs := [_, _, _]) rfl (css := [_, _, _]) ⟨rfl, rfl, rfl, trivial⟩ rfl rfl (cs := [_, _, _]) rfl) rfl ?_
 refine zA (gn rfl) (yj (κ := zab .i64) zcl (zS yV) rfl rfl rfl k1 ?_)
 intro wA nA cA kA
 refine Og (zM zgS zaU rfl (vs := [_, _, _]) rfl (css := [_, _, _]) ⟨rfl, rfl, rfl, trivial⟩ rfl rfl (cs := [_, _, _]) rfl) rfl ?_
 refine zA (gn rfl) (yj (κ := zab .i64) zcl (zS yV) rfl rfl rfl kA ?_)
 intro wB nB cB kB
 refine Og (zM zgS zaU rfl (vs := [_, _, _]) rfl (css := [_, _, _]) ⟨rfl, rfl, rfl, trivial⟩ rfl rfl (cs := [_, _, _]) rfl) rfl ?_
 refine zA (gn rfl) (yj (κ := zab .i64) zcl (zS yV) rfl rfl rfl kB ?_)
 intro wC nC cC kC
 refine Og (zM zgS zaU rfl (vs := [_, _, _]) rfl (css := [_, _, _]) ⟨rfl, rfl, rfl, trivial⟩ rfl rfl (cs := [_, _, _]) rfl) rfl ?_
 refine zA (gn rfl) (yj (κ := zab .i64) zcl (zS yV) rfl rfl rfl kC ?_)
 intro wD nD cD kD
 refine Om rfl (Oa rfl (E1 0 rfl (zj ?_)))
 refine zx rfl rfl ?_
 exact ⟨b1, rfl, by omega, kD, c1.own ((((cA.transS cB).transS cC).transS cD)) (by intro x hx; simp at hx; omega)⟩
def zcm (c : Col) : Bool := decide (1 ≤ c.t ∧ c.t ≤ 4)
def zfw (c : Col) : Bool := if c.t = 1 ∨ c.t = 2 then zaP c.s else if c.t = 3 then decide (c.s = 0) else if c.t = 4 then decide (1 ≤ c.s ∧ c.s ≤ 200) else false
theorem zbg (c : Col) : zaA c = (zcm c && ym c.n && zfw c) := by
 unfold zaA
 rw [show (if c.t = 1 ∨ c.t = 2 then zaP c.s else if c.t = 3 then decide (c.s = 0) else if c.t = 4 then decide (1 ≤ c.s ∧ c.s ≤ 200) else false) = zfw c from rfl]
 cases ht : zcm c with
 | true => simp
 | false =>
  simp only [zcm, decide_eq_false_iff_not] at ht
  have : zfw c = false := by
   unfold zfw
   rw [if_neg (by omega), if_neg (by omega), if_neg (by omega)]
  simp [this]
theorem zbK {c : Col} (h : zcm c = true) : ∃ (s f : Nat) (k : Nat), yL zc8 c.t = some (zfC s k f) ∧ (k : Int) = c.t ∧ zl TP s = true ∧ zl TP f = true ∧ (∀ w, zO TP s #[Ii c.s] w fun r w' => r = .bool (zfw c) ∧ w' = w) ∧
 (zaA c = true → ∀ (x : yx) w, x.Rng → zO TP f #[Ii c.s, x.v] w fun r w' => r = .bool (!zaK c x) ∧ zm [] w w') := by
 obtain ⟨n, t, z, nl⟩ := c
 simp only [zcm, decide_eq_true_eq] at h
 rcases (show t = 1 ∨ t = 2 ∨ t = 3 ∨ t = 4 by omega) with rfl | rfl | rfl | rfl
 ·refine ⟨_, _, 1, rfl, rfl, zkk, zms, fun w => zhg z w, fun hr x w hx => zjS z x w ?_ hx⟩
  rw [zbg] at hr; simp only [Bool.and_eq_true] at hr; exact hr.2
 ·refine ⟨_, _, 2, rfl, rfl, zkk, zmt, fun w => zhg z w, fun hr x w hx => zjV z x w ?_ hx⟩
  rw [zbg] at hr; simp only [Bool.and_eq_true] at hr; exact hr.2
 ·exact ⟨_, _, 3, rfl, rfl, zmR, zmL, fun w => zjz z w, fun hr x w hx => zju z x w⟩
 exact ⟨_, _, 4, rfl, rfl, zmS, zmU, fun w => zjR z w, fun hr x w hx => zj8 z x w⟩
theorem zdl {c : Col} (h : zcm c = false) : yL zc8 c.t = none := by
 simp only [zcm, decide_eq_false_iff_not] at h
 have h1 : ¬ (1 : Int) = c.t := by omega
 have h2 : ¬ (2 : Int) = c.t := by omega
 have h3 : ¬ (3 : Int) = c.t := by omega
 have h4 : ¬ (4 : Int) = c.t := by omega
 simp [zc8, yL, h1, h2, h3, h4]
theorem zgs {c : Col} {g : Option Value} (hg : yL zc8 c.t = g) : ∃ va vb vc, g.getD (.agg #[.nilFunc, Ii 0, .nilFunc]) = .agg #[va, vb, vc] ∧ va.oneCell' = true ∧ vb.oneCell' = true ∧ vc.oneCell' = true := by
 cases hk : zcm c with
 | false => rw [zdl hk] at hg; subst hg; exact ⟨_, _, _, rfl, rfl, rfl, rfl⟩
 | true => obtain ⟨s, f, k, h, _⟩ := zbK hk; rw [h] at hg; subst hg; exact ⟨_, _, _, rfl, rfl, rfl, rfl⟩
theorem zg3 (c : Col) (w : World) : zO TP 209 #[c.v] w fun r w' => r = .bool (zaA c) ∧ zm [] w w' := by
 rw [zbg]
 refine A1 Tryz.func209 rfl rfl ?_
 refine Sr ?_
 refine Ob rfl rfl ?_
 intro b1 w1 e1 n1 c1 k1
 refine Oa rfl (E1 1 rfl ?_)
 obtain ⟨g, hg⟩ : ∃ g, yL zc8 c.t = g := ⟨_, rfl⟩
 obtain ⟨va, vb, vc, hv, hva, hvb, hvc⟩ := zgs hg
 refine z5 (fun F wA => ∃ b3, F = [(1, Pt b1), (3, Pt b3), (4, .bool g.isSome)] ∧ zV wA b3 283 [va, vb, vc] ∧ zm [] w1 wA) ?_ ?_
 ·have hC := (zm.drew [] w1)
  refine zeY (fun wz => zm [] w1 wz) (zal.seq [1, 2] (.two 0 (zal.seq [] (.two 3 (zal.seq [4, 5, 6, 7, 8, 9] .done) 7 (zal.seq [3, 4, 5, 6, 8, 9] .done))) 7 (zal.seq [0, 3, 4, 5, 6, 8, 9] .done))) mix (by kernel_rfl) hC ?_
  refine ya rfl rfl (gn rfl) (fun _ => za zgY rfl) rfl rfl ?_
  refine zgp rfl rfl (gn rfl) (fun wz hz => zb zkn rfl ((k1.chg0 hz).cell' rfl)) rfl rfl ?_
  refine zeE ?_ ?_
  ·refine y9 rfl rfl (gn rfl) (yg zgO rfl rfl rfl rfl (zds _) ?_)
   rintro v6 w6 ⟨b6, rfl, h6, k6, c6⟩
   have hN6 := hC.size
   have hC := hC.trans c6
   refine ⟨.inl hC, ?_⟩
   refine zeE ?_ ?_
   ·refine y9 rfl rfl (gn rfl) (St.vl (zay (κ := zab .i64) zcl (zS yV) zaU rfl rfl k6 hg hv) rfl rfl ?_)
    refine ⟨.inl hC, ?_⟩
    refine ya rfl rfl (gn rfl) (fun _ => zae rfl) rfl rfl ?_
    refine ya rfl rfl (gn rfl) (fun _ => z2 rfl rfl) rfl rfl ?_
    refine ya rfl rfl (gn rfl) (fun _ => z2 rfl rfl) rfl rfl ?_
    refine y9 rfl rfl (gn rfl) (zI zaU rfl rfl ?_)
    intro b3 w3 e3 n3 c3 k3
    have hN3 := hC.size
    have hC := hC.trans c3
    have k6 := k6.chg0 c3
    refine ⟨.inl hC, ?_⟩
    refine y9 rfl rfl (gn rfl) (zD zet rfl rfl rfl rfl k3 (by simp) (by intro u hu; simp at hu; rcases hu with rfl | rfl | rfl; exact hva; exact hvb; exact hvc) ?_)
    intro wA nA cA kA
    have hC := hC.own cA (by intro y hy; simp at hy; omega)
    refine ⟨.inl hC, ?_⟩
    refine ya rfl rfl (gn rfl) (fun _ => yW rfl) rfl rfl ?_
    refine zcJ [1, 3, 4] (F' := [(1, _), (3, _), (4, _)]) rfl ?_
    exact ⟨b3, rfl, kA, hC⟩
   refine y9 rfl rfl (gn rfl) (zI zaU rfl rfl ?_)
   intro b3 w3 e3 n3 c3 k3
   have hN3 := hC.size
   have hC := hC.trans c3
   have k6 := k6.chg0 c3
   refine ⟨.inl hC, ?_⟩
   refine y9 rfl rfl (gn rfl) (St.vl (zay (κ := zab .i64) zcl (zS yV) zaU rfl rfl k6 hg hv) rfl rfl ?_)
   refine ⟨.inl hC, ?_⟩
   refine ya rfl rfl (gn rfl) (fun _ => zae rfl) rfl rfl ?_
   refine ya rfl rfl (gn rfl) (fun _ => z2 rfl rfl) rfl rfl ?_
   refine ya rfl rfl (gn rfl) (fun _ => z2 rfl rfl) rfl rfl ?_
   refine y9 rfl rfl (gn rfl) (zD zet rfl rfl rfl rfl k3 (by simp) (by intro u hu; simp at hu; rcases hu with rfl | rfl | rfl; exact hva; exact hvb; exact hvc) ?_)
   intro wA nA cA kA
   have hC := hC.own cA (by intro y hy; simp at hy; omega)
   refine ⟨.inl hC, ?_⟩
   refine ya rfl rfl (gn rfl) (fun _ => yW rfl) rfl rfl ?_
   refine zcJ [1, 3, 4] (F' := [(1, _), (3, _), (4, _)]) rfl ?_
   exact ⟨b3, rfl, kA, hC⟩
  refine y9 rfl rfl (gn rfl) (zI zaU rfl rfl ?_)
  intro b3 w3 e3 n3 c3 k3
  have hN3 := hC.size
  have hC := hC.trans c3
  refine ⟨.inl hC, ?_⟩
  refine y9 rfl rfl (gn rfl) (yg zgO rfl rfl rfl rfl (zds _) ?_)
  rintro v6 w6 ⟨b6, rfl, h6, k6, c6⟩
  have hN6 := hC.size
  have hC := hC.trans c6
  have k3 := k3.chg0 c6
  refine ⟨.inl hC, ?_⟩
  refine y9 rfl rfl (gn rfl) (St.vl (zay (κ := zab .i64) zcl (zS yV) zaU rfl rfl k6 hg hv) rfl rfl ?_)
  refine ⟨.inl hC, ?_⟩
  refine ya rfl rfl (gn rfl) (fun _ => zae rfl) rfl rfl ?_
  refine ya rfl rfl (gn rfl) (fun _ => z2 rfl rfl) rfl rfl ?_
  refine ya rfl rfl (gn rfl) (fun _ => z2 rfl rfl) rfl rfl ?_
  refine y9 rfl rfl (gn rfl) (zD zet rfl rfl rfl rfl k3 (by simp) (by intro u hu; simp at hu; rcases hu with rfl | rfl | rfl; exact hva; exact hvb; exact hvc) ?_)
  intro wA nA cA kA
  have hC := hC.own cA (by intro y hy; simp at hy; omega)
  refine ⟨.inl hC, ?_⟩
  refine ya rfl rfl (gn rfl) (fun _ => yW rfl) rfl rfl ?_
  refine zcJ [1, 3, 4] (F' := [(1, _), (3, _), (4, _)]) rfl ?_
  exact ⟨b3, rfl, kA, hC⟩
 rintro F wA ⟨b3, rfl, kA, hcA⟩
 have hk1 := k1.chg0 hcA
 refine zh ?_
 cases hk : zcm c with
 | false =>
  have hg' : g = none := hg.symm.trans (zdl hk)
  subst hg'
  refine zd (Om rfl (Om rfl (Oz rfl rfl (Oz rfl rfl (Oz rfl rfl (Of rfl (Om rfl (Oz rfl rfl (Oz rfl rfl (Oz rfl rfl (Oz rfl rfl (Oz rfl rfl (Of rfl ?_)))))))))))))
  refine Oa rfl (E1 2 rfl (zj ?_))
  refine zx rfl rfl ?_
  exact ⟨by simp, c1.trans hcA⟩
 | true =>
  obtain ⟨s, f, k, hg', _, hbs, _, hs, _⟩ := zbK hk
  rw [hg'] at hg
  subst hg
  cases hv
  cases hnm : ym c.n with
  | false =>
   refine zd (Om rfl (Om rfl ?_))
   refine Oy rfl rfl (za zbA rfl) ?_
   refine Oy rfl rfl (zb yt rfl (hk1.cell' rfl)) ?_
   refine Ow rfl rfl zkp rfl rfl rfl (zg4 c.n _) ?_
   rintro v16 w16 ⟨h16, c16⟩
   rw [hnm] at h16
   subst h16
   refine Ot rfl (Om rfl (Oz rfl rfl (Oz rfl rfl (Oz rfl rfl (Oz rfl rfl (Oz rfl rfl (Of rfl (Oa rfl (E1 2 rfl (zj ?_))))))))))
   refine zx rfl rfl ?_
   exact ⟨by simp, (c1.trans hcA).trans c16⟩
  | true =>
   refine zd (Om rfl (Om rfl ?_))
   refine Oy rfl rfl (za zbA rfl) ?_
   refine Oy rfl rfl (zb yt rfl (hk1.cell' rfl)) ?_
   refine Ow rfl rfl zkp rfl rfl rfl (zg4 c.n _) ?_
   rintro v16 w16 ⟨h16, c16⟩
   rw [hnm] at h16
   subst h16
   refine Ot rfl (Om rfl ?_)
   refine Oy rfl rfl (za zj1 rfl) ?_
   refine Oy rfl rfl (zb zlF rfl ((kA.chg0 c16).cell' rfl)) ?_
   refine Oy rfl rfl (za zgK rfl) ?_
   refine Oy rfl rfl (zb ag3 rfl ((hk1.chg0 c16).cell' rfl)) ?_
   refine Ow rfl rfl hbs rfl rfl rfl (hs _) ?_
   rintro v23 w23 ⟨rfl, rfl⟩
   refine Ot rfl (Oa rfl (E1 2 rfl (zj ?_)))
   refine zx rfl rfl ?_
   exact ⟨by simp, (c1.trans hcA).trans c16⟩
structure Sch.Sm (s : Sch) : Prop where
 cols : s.cols.length ≤ 1048576
 key : s.key.length ≤ 1048576
 uq : s.uq.length ≤ 1048576
 each : ∀ l ∈ s.uq, l.length ≤ 1048576
def hnd (t : Nat) : Value := .pointer (some ⟨4, t, none⟩)
def rty (t : Nat) : Value := .iface 313 (.agg #[hnd t])
def EOk (w : World) : Prop := w.cell? ⟨1, 0, none⟩ = some (rty 243)
theorem EOk.chg {S : List Nat} {w w' : World} (h : EOk w) (hc : zm S w w') (hs : 1 ∉ S) : EOk w' := by
 have hlt : 1 < w.heap.size := by
  rcases Nat.lt_or_ge 1 w.heap.size with h1 | h0
  ·exact h1
  unfold EOk World.cell? at h
  simp [Array.getElem?_eq_none h0] at h
 have := hc.block 1 hlt hs
 unfold EOk World.cell? at *
 rw [this]
 exact h
theorem EOk.chg0 {w w' : World} (h : EOk w) (hc : zm [] w w') : EOk w' := h.chg hc (by simp)
def zdL (n : Int) : Value := .iface 31 (Ii n)
def za1 (w : World) (v : Value) (n : Int) : Prop :=
 v = zdL n ∨ (∃ b c, v = .iface 279 (Pt b) ∧ zV w b 281 [.string c, zdL n])
theorem za1.chg {S : List Nat} {w w' : World} {v : Value} {n : Int} (h : za1 w v n) (hc : zm S w w') (hs : ∀ b c, zV w b 281 c → b ∉ S) : za1 w' v n := by
 rcases h with h | ⟨b, c, h, hb⟩
 ·exact .inl h
 exact .inr ⟨b, c, h, hb.chg hc (hs b _ hb)⟩
theorem za1.chg0 {w w' : World} {v : Value} {n : Int} (h : za1 w v n) (hc : zm [] w w') : za1 w' v n := h.chg hc (by simp)
theorem za1.notNil {w : World} {v : Value} {n : Int} (h : za1 w v n) : zhW v = some false := by
 rcases h with rfl | ⟨b, c, rfl, _⟩ <;> rfl
theorem zkh : zcU TP 255 = some Extern.ReflectliteType.typeOf := by kernel_rfl
theorem zku : zcU TP 238 = some (fun args => Extern.ReflectliteValue.unpack (args.getD 0 (.tuple #[]))) := by kernel_rfl
theorem zlN : zcU TP 239 = some (Extern.ReflectliteValue.methodAny (Extern.ReflectliteValue.valueError "reflectlite.Value.Type" 0) (fun t _ _ _ => Extern.ReflectliteType.toType t)) := by kernel_rfl
theorem zmd : zcU TP 240 = some (Extern.ReflectliteValue.method (Extern.ReflectliteValue.valueError "reflectlite.Value.IsNil" 0) Extern.ReflectliteValue.isNil) := by kernel_rfl
theorem zl6 : zcU TP 256 = some (Extern.ReflectliteValue.method (Extern.ReflectliteValue.valueError "reflectlite.Value.Elem" 0) Extern.ReflectliteValue.elem) := by kernel_rfl
theorem zmA : zcU TP 257 = some Extern.ReflectliteValue.set := by kernel_rfl
theorem zke : zcU TP 275 = some (Extern.ReflectliteType.abiMethod fun t => do pure (.int .u8 (← Extern.Rtype.kind t))) := by kernel_rfl
theorem zl7 : zcU TP 290 = some (Extern.ReflectliteType.method Extern.ReflectliteType.elem) := by kernel_rfl
theorem zmf : zcU TP 291 = some (Extern.ReflectliteType.relation "Implements" Extern.ReflectliteType.implements_) := by kernel_rfl
theorem zkc : zcU TP 288 = some (Extern.ReflectliteType.relation "AssignableTo" Extern.ReflectliteType.assignableTo) := by kernel_rfl
theorem ziF (v : Value) (w : World) : (Extern.ReflectliteType.typeOf #[.iface 31 v]).run TP w = .ok (rty 31) w := by kernel_rfl
theorem zhD (v : Value) (w : World) : (Extern.ReflectliteType.typeOf #[.iface 279 v]).run TP w = .ok (rty 279) w := by kernel_rfl
theorem zif (h : Value) : Mth TP 313 (.agg #[h]) "Kind" 275 h := fun w => by kernel_rfl
theorem zkV (h : Value) : Mth TP 313 (.agg #[h]) "Elem" 290 (.agg #[h]) := fun w => by kernel_rfl
theorem zlg (h : Value) : Mth TP 313 (.agg #[h]) "Implements" 291 (.agg #[h]) := fun w => by kernel_rfl
theorem zkr (h : Value) : Mth TP 313 (.agg #[h]) "AssignableTo" 288 (.agg #[h]) := fun w => by kernel_rfl
theorem zjv (w : World) : ((Extern.ReflectliteType.abiMethod fun t => do pure (.int .u8 (← Extern.Rtype.kind t))) #[hnd 229]).run TP w = .ok (.int .u8 22) w := by kernel_rfl
theorem zjq (w : World) : ((Extern.ReflectliteType.abiMethod fun t => do pure (.int .u8 (← Extern.Rtype.kind t))) #[hnd 31]).run TP w = .ok (.int .u8 2) w := by kernel_rfl
theorem zjo (w : World) : (Extern.ReflectliteType.method Extern.ReflectliteType.elem #[.agg #[hnd 229]]).run TP w = .ok (rty 31) w := by kernel_rfl
theorem zla (w : World) : (Extern.ReflectliteType.relation "Implements" Extern.ReflectliteType.implements_ #[.agg #[hnd 31], rty 243]).run TP w = .ok (.bool true) w := by kernel_rfl
theorem zly (w : World) : (Extern.ReflectliteType.relation "AssignableTo" Extern.ReflectliteType.assignableTo #[.agg #[hnd 31], rty 31]).run TP w = .ok (.bool true) w := by kernel_rfl
theorem zlb (w : World) : (Extern.ReflectliteType.relation "AssignableTo" Extern.ReflectliteType.assignableTo #[.agg #[hnd 279], rty 31]).run TP w = .ok (.bool false) w := by kernel_rfl
def rv (t : Nat) (a : Addr) (f : Nat) : Value := .agg #[hnd t, .pointer (some a), .int .u64 f]
theorem zk0 (t : Addr) (w : World) : (Extern.ReflectliteValue.unpack (.iface 229 (.pointer (some t)))).run TP w = .ok (rv 229 ⟨w.heap.size, 0, none⟩ 150) (w.alloc (.cells #[.pointer (some t)] 229)) := by kernel_rfl
theorem zkD (n : Int) (w : World) : (Extern.ReflectliteValue.unpack (zdL n)).run TP w = .ok (rv 31 ⟨w.heap.size, 0, none⟩ 130) (w.alloc (.cells #[Ii n] 31)) := by kernel_rfl
theorem zkO (a : Addr) (w : World) : (Extern.ReflectliteValue.methodAny (Extern.ReflectliteValue.valueError "reflectlite.Value.Type" 0) (fun t _ _ _ => Extern.ReflectliteType.toType t) #[rv 229 a 150]).run TP w = .ok (rty 229) w := by kernel_rfl
theorem lit1 (v : Value) {h1 h2} : (#[v] : Array Value).getLit (n := 1) 0 h1 h2 = v := rfl
theorem lit20 (v x : Value) {h1 h2} : (#[v, x] : Array Value).getLit (n := 2) 0 h1 h2 = v := rfl
theorem lit21 (v x : Value) {h1 h2} : (#[v, x] : Array Value).getLit (n := 2) 1 h1 h2 = x := rfl
theorem zfY (a : Addr) (w : World) : (Extern.ReflectliteValue.parts (rv 229 a 150)).run TP w = .ok (some (229, a, 150)) w := by kernel_rfl
theorem zjO (a p : Addr) (w : World) (ha : w.cell? a = some (.pointer (some p))) :
 (Extern.ReflectliteValue.method (Extern.ReflectliteValue.valueError "reflectlite.Value.IsNil" 0) Extern.ReflectliteValue.isNil #[rv 229 a 150]).run TP w = .ok (.bool false) w := by
 have hv := zfY a w
 generalize rv 229 a 150 = v at hv ⊢
 conv => lhs; arg 2; whnf
 simp only [lit1, Sem.run_bind', hv, Result.andThen]
 simp [Extern.ReflectliteValue.isNil, loadVar, isAgg, underlying, ha, Result.andThen]
theorem zii (w : World) : (Extern.Rtype.elem? 229).run TP w = .ok (some 31) w := by kernel_rfl
theorem znj (p : Addr) (w : World) : (Extern.ReflectliteValue.mk 31 p Extern.ReflectliteValue.flagAddr).run TP w = .ok (rv 31 p 386) w := by kernel_rfl
theorem zj6 (a p : Addr) (w : World) (ha : w.cell? a = some (.pointer (some p))) :
 (Extern.ReflectliteValue.method (Extern.ReflectliteValue.valueError "reflectlite.Value.Elem" 0) Extern.ReflectliteValue.elem #[rv 229 a 150]).run TP w = .ok (rv 31 p 386) w := by
 have hv := zfY a w
 generalize rv 229 a 150 = v at hv ⊢
 conv => lhs; arg 2; whnf
 simp only [lit1, Sem.run_bind', hv, Result.andThen]
 simp [Extern.ReflectliteValue.elem, loadVar, isAgg, underlying, ha, Result.andThen, zii, znj]
theorem ziz (a : Addr) (w : World) : (Extern.ReflectliteValue.parts (rv 31 a 386)).run TP w = .ok (some (31, a, 386)) w := by kernel_rfl
theorem zi9 (a : Addr) (w : World) : (Extern.ReflectliteValue.parts (rv 31 a 130)).run TP w = .ok (some (31, a, 130)) w := by kernel_rfl
theorem zib (w : World) : (Extern.Rtype.directlyAssignable 31 31).run TP w = .ok true w := by kernel_rfl
theorem zmr (ta b : Addr) (n : Int) (old : Value) (w : World) (hb : w.cell? b = some (Ii n)) (ht : w.cell? ta = some old) (hf : w.frozen? ta = false) :
 (Extern.ReflectliteValue.set #[rv 31 ta 386, rv 31 b 130]).run TP w = .ok (.tuple #[]) (w.setCell ta (Ii n)) := by
 have h1 := ziz ta w
 have h2 := zi9 b w
 generalize rv 31 ta 386 = v at h1 ⊢
 generalize rv 31 b 130 = x at h2 ⊢
 conv => lhs; arg 2; whnf
 simp only [lit20, lit21, Sem.run_bind', Sem.run_bind, h1, h2, Result.andThen]
 simp [Extern.ReflectliteValue.flagAddr, loadVar, isAgg, underlying, hb, Result.andThen, zib, storeVar, Value.cells, storeCells, Addr.add]
 rw [run_store TP w ta _ _ (by rfl)]
 simp [ht, hf]
theorem zV.setCell {w : World} {b : Nat} {e : TypeId} {x : Value} (h : zV w b e [x]) (v : Value) : zV (w.setCell ⟨b, 0, none⟩ v) b e [v] ∧ zm [b] w (w.setCell ⟨b, 0, none⟩ v) := by
 have hh : w.heap[b]? = some (.cells #[x] e (0, 0)) := h
 refine ⟨?_, rfl, rfl, rfl, by simp [World.setCell], fun k _ hn => ?_⟩
 ·unfold zV World.setCell
  simp only [Array.getElem?_modify, if_true, hh]
  rfl
 unfold World.setCell
 simp only [List.mem_singleton] at hn
 simp only [Array.getElem?_modify]
 rw [if_neg (fun e => hn e.symm)]
theorem zkR (b : Nat) (c : ByteArray) (n : Int) (w : World) (hb : zV w b 281 [.string c, zdL n]) : zO TP 283 #[Pt b] w fun r w' => r = zdL n ∧ w' = w := by
 refine A1 Tryz.func283 rfl rfl ?_
 refine Sr (Oa rfl (E1 0 rfl (Sr (Om rfl (Og (zfp rfl) rfl (Od zjA rfl ?_))))))
 refine Ol zlX rfl (hb.cell' rfl) ?_
 refine Oa rfl (E1 2 rfl (zj ?_))
 refine zx rfl rfl ?_
 exact ⟨rfl, rfl⟩
theorem zlk (v : Value) : Mth TP 279 v "Unwrap" 283 v := fun w => by kernel_rfl
theorem znF (v : Value) (n : Int) (bt : Nat) (old : Value) (a : Addr) (w : World) (hv : za1 w v n) (ht : zV w bt 31 [old]) (ha : w.cell? a = some (Pt bt)) (hab : a.block ≠ bt) :
 zO TP 241 #[v, .iface 229 (Pt bt), rv 229 a 150, rty 31] w fun r w' => r = .bool true ∧ zV w' bt 31 [Ii n] ∧ zm [bt] w w' := by
 refine A4 Tryz.func241 rfl rfl ?_
 refine Sr ?_
 refine Ob rfl rfl ?_
 intro b6 w6 e6 n6 c6 k6
 refine Oa rfl (E4 0 1 3 6 rfl ?_)
 have k6 : zV w6 b6 299 [hnd 229, .pointer (some a), .int .u64 150] := k6
 refine zn ?_
 refine ye [0, 1, 3, 6] (fun m F wx => ∃ u : Value, (za1 wx u n ∧ (m = 0 → u = zdL n)) ∧ F = [(0, u), (1, .iface 229 (Pt bt)), (3, rty 31), (6, Pt b6)] ∧ zm [] w6 wx) (m := 1) ⟨v, ⟨hv.chg0 c6, fun h => by omega⟩, rfl, zm.refl _ _⟩ ?_
 rintro m F wx ⟨u, ⟨hu, hm⟩, rfl, hcx⟩
 have hk6 := k6.chg0 hcx
 have htx := (ht.chg0 c6).chg0 hcx
 have hax := hcx.cell (c6.cell ha)
 have hbt := ht.lt
 refine zn (zh (zh ?_))
 rcases hu with rfl | hu
 ·refine zd (Om rfl ?_)
  refine zA (gn rfl) (zbP (P := TP) (n := Tryz.f241.ntmps) zkh rfl rfl (ziF _ _) rfl ?_)
  skip
  refine Om rfl ?_
  refine zA (gn rfl) (zaB (zkr _) zkc rfl rfl (zly _) rfl ?_)
  skip
  refine E5 0 1 3 6 19 rfl (zg rfl (zh ?_))
  have hset := zmr ⟨bt, 0, none⟩ ⟨wx.heap.size, 0, none⟩ n old (wx.alloc (.cells #[Ii n] 31)) ((zV.new wx 31 [Ii n]).cell' rfl) ((htx.chg0 (zm.alloc [] _ _)).cell' rfl) ((htx.chg0 (zm.alloc [] _ _)).free _ rfl)
  obtain ⟨hb2, hc2⟩ := (htx.chg0 (zm.alloc [] wx (.cells #[Ii n] 31))).setCell (Ii n)
  have hE : (Extern.ReflectliteValue.method (Extern.ReflectliteValue.valueError "reflectlite.Value.Elem" 0) Extern.ReflectliteValue.elem ([Value.agg [hnd 229, .pointer (some a), .int .u64 150].toArray].toArray)).run TP wx = .ok (rv 31 ⟨bt, 0, none⟩ 386) wx := zj6 a ⟨bt, 0, none⟩ wx hax
  refine zd ?_
  refine Og (zi zgL zf1 rfl rfl (zu.of_blk0 hk6)) rfl ?_
  refine zA (gn rfl) (zbP (P := TP) (n := Tryz.f241.ntmps) zl6 rfl rfl hE rfl ?_)
  skip
  refine Om rfl ?_
  refine zA (gn rfl) (zbP (P := TP) (n := Tryz.f241.ntmps) zku rfl rfl (zkD n wx) rfl ?_)
  skip
  refine zA (gn rfl) (zbP (P := TP) (n := Tryz.f241.ntmps) zmA rfl rfl hset rfl ?_)
  skip
  refine za0 [] (F' := []) rfl (Sr (Oa rfl (E1 8 rfl (zj ?_))))
  repeat first | refine tr ?_ | refine br ?_
  refine zx rfl rfl ?_
  exact ⟨rfl, hb2, ((((c6.trans hcx).trans (zm.alloc [] _ _)).any (S := [bt])).transS hc2)⟩
 have hm1 : m ≠ 0 := fun h => by
  have := hm h
  subst this
  obtain ⟨b, c, h, _⟩ := hu; cases h
 rcases hu with ⟨b, c, rfl, hb⟩
 refine zd (Om rfl ?_)
 refine zA (gn rfl) (zbP (P := TP) (n := Tryz.f241.ntmps) zkh rfl rfl (zhD _ _) rfl ?_)
 skip
 refine Om rfl ?_
 refine zA (gn rfl) (zaB (zkr _) zkc rfl rfl (zlb _) rfl ?_)
 skip
 refine E5 0 1 3 6 19 rfl (zf rfl (zq (zh (Sr (Om rfl ?_)))))
 refine Og (zgI zfM zl1 rfl) rfl ?_
 refine Om rfl (Oe rfl rfl (Oe rfl rfl (Oa rfl (Oa rfl (E6 0 1 3 6 9 10 rfl (Sr (Om rfl (Om rfl (Oz rfl rfl (Oz rfl rfl (Oz rfl rfl (Of rfl ?_))))))))))))
 refine E5 0 1 3 6 35 rfl (zf rfl (zq (Sr (Om rfl (E4 1 3 6 36 rfl (zn (Sr ?_)))))))
 refine Og (zgI zff zlM rfl) rfl ?_
 refine Oe rfl rfl (Oe rfl rfl (E6 1 3 6 36 38 39 rfl (zg rfl (Sr (Oa rfl (E4 1 3 6 11 rfl (Sr (Om rfl ?_))))))))
 refine zA (gn rfl) (zhp (zlk _) zmm rfl rfl rfl (zkR b c n _ hb) ?_)
 rintro v41 w41 ⟨rfl, rfl⟩
 refine Oa rfl (E4 0 1 3 6 rfl (Sr (Om rfl ?_)))
 refine Og (zdw zi2 rfl rfl) rfl ?_
 refine E5 0 1 3 6 43 rfl (zf rfl (yd (zk (zk ?_))))
 exact ⟨0, by omega, _, ⟨.inl rfl, fun _ => rfl⟩, rfl, hcx⟩
theorem znb (v : Value) (n : Int) (bt : Nat) (old : Value) (w : World) (hE : EOk w) (hv : za1 w v n) (ht : zV w bt 31 [old]) :
 zO TP 224 #[v, .iface 229 (Pt bt)] w fun r w' => r = .bool true ∧ zV w' bt 31 [Ii n] ∧ zm [bt] w w' := by
 refine A2 Tryz.func224 rfl rfl ?_
 have hbt := ht.lt
 refine Sr (Oa rfl (E2 0 1 rfl (zh (zh ?_))))
 obtain ⟨x, hx⟩ : ∃ x, zhW v = some x ∧ x = false := ⟨_, hv.notNil, rfl⟩
 refine zd (Om rfl ?_)
 refine Og (zdw zi2 rfl hv.notNil) rfl ?_
 refine E3 0 1 9 rfl (zf rfl (zq (zh (Sr (Om rfl ?_)))))
 refine Og (zdw znh rfl rfl) rfl ?_
 refine E3 0 1 11 rfl (zf rfl (zq (zh ?_)))
 have hn1 := zV.new w 229 [Pt bt]
 have hc1 := zm.alloc [] w (.cells #[Pt bt] 229)
 generalize hw1 : w.alloc (.cells #[Pt bt] 229) = w1 at hc1
 have hv1 := zk0 ⟨bt, 0, none⟩ w
 rw [hw1] at hv1
 have hn1 : zV w1 w.heap.size 229 [Pt bt] := hw1 ▸ hn1
 refine zd (Om rfl ?_)
 refine zA (gn rfl) (zbP (P := TP) (n := Tryz.f224.ntmps) zku rfl rfl hv1 rfl ?_)
 skip
 refine zA (gn rfl) (zI zmY rfl rfl ?_)
 intro b5 w5 e5 n5 c5 k5
 refine zA (gn rfl) (zD zf1 rfl rfl rfl rfl k5 (by simp) (by intro u hu; simp at hu; rcases hu with rfl | rfl | rfl <;> rfl) ?_)
 intro wA nA cA kA
 refine E3 0 1 5 rfl ?_
 have kA : zV wA b5 299 [hnd 229, .pointer (some ⟨w.heap.size, 0, none⟩), .int .u64 150] := kA
 have hsz := hc1.size
 have hcA : zm [] w wA := (hc1.trans c5).own cA (by intro y hy; simp at hy; omega)
 have hnA := (hn1.chg0 c5).chg cA (by simp; have := hn1.lt; omega)
 have hEA := hE.chg0 hcA
 have htA := ht.chg0 hcA
 refine Sr ?_
 refine Og (zi zgL zf1 rfl rfl (zu.of_blk0 kA)) rfl ?_
 refine zA (gn rfl) (zbP (P := TP) (n := Tryz.f224.ntmps) zlN rfl rfl (zkO ⟨w.heap.size, 0, none⟩ wA) rfl ?_)
 skip
 refine Oa rfl (E4 0 1 5 6 rfl (zh (Sr (Om rfl ?_))))
 refine zA (gn rfl) (zaB (zif _) zke rfl rfl (zjv _) rfl ?_)
 skip
 refine Og (vf (zG rfl rfl) (zau (by omega))) rfl ?_
 refine Om rfl ?_
 refine Oy rfl rfl (zi zgL zf1 rfl rfl (zu.of_blk0 kA)) ?_
 refine zA (gy rfl rfl rfl) (zbP (P := TP) (n := Tryz.f224.ntmps) zmd rfl rfl (zjO ⟨w.heap.size, 0, none⟩ ⟨bt, 0, none⟩ wA (hnA.cell' rfl)) rfl ?_)
 skip
 refine Of rfl (E5 0 1 5 6 23 rfl (zf rfl (zq (Sr (Om rfl ?_)))))
 refine zA (gn rfl) (zaB (zkV _) zl7 rfl rfl (zjo _) rfl ?_)
 skip
 refine Oa rfl (E4 0 1 5 7 rfl (zh (Sr (Om rfl ?_))))
 refine zA (gn rfl) (zaB (zif _) zke rfl rfl (zjq _) rfl ?_)
 skip
 refine Og (vt (zG rfl rfl) (zck (by omega))) rfl ?_
 refine Om rfl (Oj rfl rfl ?_)
 refine Oy rfl rfl (zb zmT rfl hEA) ?_
 refine zA (gy rfl rfl rfl) (zaB (zlg _) zmf rfl rfl (zla _) rfl ?_)
 skip
 refine Oy rfl rfl (zL rfl) ?_
 refine Ot rfl (E5 0 1 5 7 35 rfl (zf rfl (zq (Sr (Om rfl (Om rfl ?_))))))
 refine Og (zi zgL zf1 rfl rfl (zu.of_blk0 kA)) rfl ?_
 refine Om rfl ?_
 refine Oc zmW rfl rfl rfl (znF v n bt old ⟨w.heap.size, 0, none⟩ wA (hv.chg0 hcA) htA (hnA.cell' rfl) (by simp; omega)) ?_
 rintro v41 w41 ⟨rfl, hb, hc⟩
 refine Oa rfl (E1 4 rfl (zj ?_))
 refine zx rfl rfl ?_
 exact ⟨rfl, hb, (hcA.any (S := [bt])).transS hc⟩
theorem zlK (t : Value) (w : World) : zO TP 224 #[.nilIface, t] w fun r w' => r = .bool false ∧ w' = w := by
 refine A2 Tryz.func224 rfl rfl ?_
 refine Sr (Oa rfl (E2 0 1 rfl (zh (Sr (Om rfl ?_)))))
 refine Og (zdw zi2 rfl rfl) rfl ?_
 refine E3 0 1 9 rfl (zg rfl (Sr (Oa rfl (E1 4 rfl (zj ?_)))))
 repeat first | refine tr ?_ | refine br ?_
 refine zx rfl rfl ?_
 exact ⟨rfl, rfl⟩
theorem zlu (v : Value) (n : Int) (w : World) (hE : EOk w) (hv : v = .nilIface ∧ n = 0 ∨ za1 w v n) : zO TP 206 #[v] w fun r w' => r = Ii n ∧ zm [] w w' := by
 refine A1 Tryz.func206 rfl rfl ?_
 refine Sr ?_
 refine zA (gn rfl) (zI znr rfl rfl ?_)
 intro b2 w2 e2 n2 c2 k2
 refine E2 0 2 rfl (zh (zh ?_))
 rcases hv with ⟨rfl, rfl⟩ | hv
 ·refine zd (Om rfl ?_)
  refine Og (zaf zkm rfl) rfl ?_
  refine Oc zkx rfl rfl rfl (zlK _ _) ?_
  rintro v5 w5 ⟨rfl, rfl⟩
  refine Og (zL rfl) rfl (E2 2 6 rfl (zg rfl (Sr ?_)))
  refine zA (gn rfl) (zD zlO rfl rfl rfl rfl k2 (by simp) (by intro u hu; simp at hu; subst hu; rfl) ?_)
  intro wA nA cA kA
  refine E1 2 rfl (zj ?_)
  repeat first | refine tr ?_ | refine br ?_
  refine zkz rfl zk5 rfl (kA.cell' rfl) ?_
  exact ⟨rfl, c2.own cA (by intro y hy; simp at hy; omega)⟩
 refine zd (Om rfl ?_)
 refine Og (zaf zkm rfl) rfl ?_
 refine Oc zkx rfl rfl rfl (znb v n b2 _ _ (hE.chg0 c2) (hv.chg0 c2) k2) ?_
 rintro v5 w5 ⟨rfl, k5, c5⟩
 refine Og (zL rfl) rfl (E2 2 6 rfl (zf rfl (zq (Sr ?_))))
 refine Ol zk5 rfl (k5.cell' rfl) ?_
 refine zA (gn rfl) (zD zlO rfl rfl rfl rfl k5 (by simp) (by intro u hu; simp at hu; subst hu; rfl) ?_)
 intro wA nA cA kA
 refine E1 2 rfl (zj ?_)
 repeat first | refine tr ?_ | refine br ?_
 refine zkz rfl zk5 rfl (kA.cell' rfl) ?_
 exact ⟨rfl, (c2.own c5 (by intro y hy; simp at hy; omega)).own cA (by intro y hy; simp at hy; omega)⟩
def ziv (w : World) (v : Value) (n : Int) : Prop := v = .nilIface ∧ n = 0 ∨ za1 w v n ∧ n ≠ 0
theorem ziv.weak {w : World} {v : Value} {n : Int} (h : ziv w v n) : v = .nilIface ∧ n = 0 ∨ za1 w v n := h.imp id (·.1)
theorem zdA {w : World} {b : Nat} {c : ByteArray} {n : Int} (h : zV w b 281 [.string c, zdL n]) : za1 w (.iface 279 (Pt b)) n := .inr ⟨b, c, rfl, h⟩
theorem zgW {c : Col} {x : yx} (h : zaA c = false) : zbd c x = 2 := by simp [zbd, h]
theorem zjE {c : Col} {x : yx} (h : zaA c = true) (h2 : zcE x ≠ 0) : zbd c x = zcE x := by simp [zbd, h, h2]
theorem zeM {c : Col} {x : yx} (h : zaA c = true) (h2 : zcE x = 0) (h3 : x.k = 0) : zbd c x = if c.z then 0 else 131 := by simp [zbd, h, h2, h3]
theorem zjn {c : Col} {x : yx} (h : zaA c = true) (h2 : zcE x = 0) (h3 : x.k ≠ 0) (h4 : x.k ≠ c.t) : zbd c x = 132 := by simp [zbd, h, h2, h3, h4]
theorem zgP {c : Col} {x : yx} (h : zaA c = true) (h2 : zcE x = 0) (h3 : x.k ≠ 0) (h4 : x.k = c.t) : zbd c x = if zaK c x then 133 else 0 := by
 simp only [zbd, h, h2, h4]
 rw [h4] at h3
 simp [h3]
theorem zlr (c : Col) (x : yx) (w : World) (hx : x.Rng) : zO TP 207 #[c.v, x.v] w fun r w' => ziv w' r (zbd c x) ∧ zm [] w w' := by
 refine A2 Tryz.func207 rfl rfl ?_
 refine Sr ?_
 refine Ob rfl rfl ?_
 intro b2 w2 e2 n2 c2 k2
 refine Ob rfl rfl ?_
 intro b3 w3 e3 n3 c3 k3
 refine Oa rfl (E2 2 3 rfl ?_)
 have hk2 := k2.chg0 c3
 have hc3 : zm [] w w3 := c2.trans c3
 refine zh (zh ?_)
 cases hr : zaA c with
 | false =>
  refine zd ?_
  refine Og (zi zf3 zdU rfl rfl (zu.of_blk0 hk2)) rfl ?_
  refine Oc zkv rfl rfl rfl (zg3 c _) ?_
  rintro v8 w8 ⟨h8, c8⟩
  rw [hr] at h8
  subst h8
  refine Og (zL rfl) rfl (E3 2 3 9 rfl (zg rfl (Sr (Od zbA rfl ?_))))
  refine Ol yt rfl ((hk2.chg0 c8).cell' rfl) ?_
  refine Og (zaf ziK rfl) rfl ?_
  refine Og (zM zfQ zfr rfl (vs := [_, _]) rfl (css := [_, _]) ⟨rfl, rfl, trivial⟩ rfl rfl (cs := [_, _]) rfl) rfl ?_
  refine Ob rfl rfl ?_
  intro b14 w14 e14 n14 c14 k14
  refine Og (zaf zf0 rfl) rfl ?_
  refine Oa rfl (E1 4 rfl (zj ?_))
  repeat first | refine tr ?_ | refine br ?_
  refine zx rfl rfl ?_
  rw [zgW hr]
  exact ⟨.inr ⟨zdA k14, by omega⟩, (hc3.trans c8).trans c14⟩
 | true =>
  refine zd ?_
  refine Og (zi zf3 zdU rfl rfl (zu.of_blk0 hk2)) rfl ?_
  refine Oc zkv rfl rfl rfl (zg3 c _) ?_
  rintro v8 w8 ⟨h8, c8⟩
  rw [hr] at h8
  subst h8
  refine Og (zL rfl) rfl (E3 2 3 9 rfl (zf rfl (zq (zh (Sr ?_)))))
  refine Og (zi zbU yM rfl rfl (zu.of_blk0 (k3.chg0 c8))) rfl ?_
  refine Oc zm7 rfl rfl rfl (zjZ x _) ?_
  rintro v17 w17 ⟨rfl, c17⟩
  refine Oa rfl (E3 2 3 5 rfl ?_)
  have hc17 : zm [] w w17 := (hc3.trans c8).trans c17
  have hk2a := hk2.chg0 (c8.trans c17)
  have hk3a := k3.chg0 (c8.trans c17)
  refine zh ?_
  by_cases hc : zcE x = 0
  ·refine zd (Om rfl ?_)
   refine Og (vf (zG rfl rfl) (by simp [hc])) rfl ?_
   refine E4 2 3 5 19 rfl (zf rfl (zq ?_))
   refine z5 (fun F wA => ∃ b6 s f k, F = [(2, Pt b2), (3, Pt b3), (6, Pt b6)] ∧ zV wA b6 283 [.func (.func s) #[] #[], Ii c.t, .func (.func f) #[] #[]] ∧ zm [] w17 wA ∧ k = c.t ∧ zl TP f = true ∧ (∀ (x : yx) w, x.Rng → zO TP f #[Ii c.s, x.v] w fun r w' => r = .bool (!zaK c x) ∧ zm [] w w')) ?_ ?_
   ·have htn : zcm c = true := by rw [zbg] at hr; simp only [Bool.and_eq_true] at hr; exact hr.1.1
    obtain ⟨s, f, kk, hg, hkk, _, hbf, _, hff⟩ := zbK htn
    have hC := (zm.drew [] w17)
    refine zeY (fun wz => zm [] w17 wz) (zal.seq [1, 2] (.two 0 (zal.seq [] (.two 3 (zal.seq [4, 5] .done) 4 (zal.seq [3, 5] .done))) 4 (zal.seq [0, 3, 5] .done))) mix (by kernel_rfl) hC ?_
    refine ya rfl rfl (gn rfl) (fun _ => za zgY rfl) rfl rfl ?_
    refine zgp rfl rfl (gn rfl) (fun wz hz => zb zkn rfl ((hk2a.chg0 hz).cell' rfl)) rfl rfl ?_
    refine zeE ?_ ?_
    ·refine y9 rfl rfl (gn rfl) (yg zgO rfl rfl rfl rfl (zds _) ?_)
     rintro v27 w27 ⟨b27, rfl, h27, k27, c27⟩
     have hN27 := hC.size
     have hC := hC.trans c27
     refine ⟨.inl hC, ?_⟩
     refine zeE ?_ ?_
     ·refine y9 rfl rfl (gn rfl) (St.vl (zax (κ := zab .i64) zcl (zS yV) zaU rfl rfl k27 hg rfl) rfl rfl ?_)
      refine ⟨.inl hC, ?_⟩
      refine y9 rfl rfl (gn rfl) (zI zaU rfl rfl ?_)
      intro b6 w6 e6 n6 c6 k6
      have hN6 := hC.size
      have hC := hC.trans c6
      have k27 := k27.chg0 c6
      refine ⟨.inl hC, ?_⟩
      refine y9 rfl rfl (gn rfl) (zD zet rfl rfl rfl rfl k6 (by simp) (by intro u hu; simp at hu; rcases hu with rfl | rfl | rfl <;> rfl) ?_)
      intro wA nA cA kA
      have hC := hC.own cA (by intro y hy; simp at hy; omega)
      refine ⟨.inl hC, ?_⟩
      refine zcJ [2, 3, 6] (F' := [(2, _), (3, _), (6, _)]) rfl ?_
      exact ⟨b6, s, f, c.t, rfl, by rw [← hkk]; exact kA, hC, rfl, hbf, hff hr⟩
     refine y9 rfl rfl (gn rfl) (zI zaU rfl rfl ?_)
     intro b6 w6 e6 n6 c6 k6
     have hN6 := hC.size
     have hC := hC.trans c6
     have k27 := k27.chg0 c6
     refine ⟨.inl hC, ?_⟩
     refine y9 rfl rfl (gn rfl) (St.vl (zax (κ := zab .i64) zcl (zS yV) zaU rfl rfl k27 hg rfl) rfl rfl ?_)
     refine ⟨.inl hC, ?_⟩
     refine y9 rfl rfl (gn rfl) (zD zet rfl rfl rfl rfl k6 (by simp) (by intro u hu; simp at hu; rcases hu with rfl | rfl | rfl <;> rfl) ?_)
     intro wA nA cA kA
     have hC := hC.own cA (by intro y hy; simp at hy; omega)
     refine ⟨.inl hC, ?_⟩
     refine zcJ [2, 3, 6] (F' := [(2, _), (3, _), (6, _)]) rfl ?_
     exact ⟨b6, s, f, c.t, rfl, by rw [← hkk]; exact kA, hC, rfl, hbf, hff hr⟩
    refine y9 rfl rfl (gn rfl) (zI zaU rfl rfl ?_)
    intro b6 w6 e6 n6 c6 k6
    have hN6 := hC.size
    have hC := hC.trans c6
    refine ⟨.inl hC, ?_⟩
    refine y9 rfl rfl (gn rfl) (yg zgO rfl rfl rfl rfl (zds _) ?_)
    rintro v27 w27 ⟨b27, rfl, h27, k27, c27⟩
    have hN27 := hC.size
    have hC := hC.trans c27
    have k6 := k6.chg0 c27
    refine ⟨.inl hC, ?_⟩
    refine y9 rfl rfl (gn rfl) (St.vl (zax (κ := zab .i64) zcl (zS yV) zaU rfl rfl k27 hg rfl) rfl rfl ?_)
    refine ⟨.inl hC, ?_⟩
    refine y9 rfl rfl (gn rfl) (zD zet rfl rfl rfl rfl k6 (by simp) (by intro u hu; simp at hu; rcases hu with rfl | rfl | rfl <;> rfl) ?_)
    intro wA nA cA kA
    have hC := hC.own cA (by intro y hy; simp at hy; omega)
    refine ⟨.inl hC, ?_⟩
    refine zcJ [2, 3, 6] (F' := [(2, _), (3, _), (6, _)]) rfl ?_
    exact ⟨b6, s, f, c.t, rfl, by rw [← hkk]; exact kA, hC, rfl, hbf, hff hr⟩
   rintro F wA ⟨b6, s, f, k, rfl, kA, hcA, rfl, hbf, hff⟩
   have hk2b := hk2a.chg0 hcA
   have hk3b := hk3a.chg0 hcA
   have hwA := hc17.trans hcA
   refine zh (zn (zh ?_))
   by_cases h0 : x.k = 0
   ·refine zd (Od zag rfl ?_)
    refine Ol zbS rfl (hk3b.cell' rfl) ?_
    refine Og (vt (zw rfl rfl) (decide_eq_true (by omega))) rfl ?_
    refine Om rfl ?_
    refine Oy rfl rfl (za zje rfl) ?_
    refine Oy rfl rfl (zb ag4 rfl (hk2b.cell' rfl)) ?_
    refine Ot rfl (Oa rfl (E4 2 3 6 31 rfl ?_))
    refine yh rfl (fun hT => ?_) (fun hF => ?_)
    ·refine Sr (Oa rfl (E1 4 rfl (zj ?_)))
     repeat first | refine tr ?_ | refine br ?_
     refine zx rfl rfl ?_
     exact ⟨.inl ⟨rfl, by rw [zeM hr hc h0, hT]; rfl⟩, hwA⟩
    refine Sr (Od zag rfl ?_)
    refine Ol zbS rfl (hk3b.cell' rfl) ?_
    refine Og (vt (zw rfl rfl) (decide_eq_true (by omega))) rfl ?_
    refine Oa rfl (E4 2 3 6 39 rfl (zg rfl (Sr (Od zbA rfl ?_))))
    refine Ol yt rfl (hk2b.cell' rfl) ?_
    refine Og (zaf ziK rfl) rfl ?_
    refine Og (zM zfQ zfr rfl (vs := [_, _]) rfl (css := [_, _]) ⟨rfl, rfl, trivial⟩ rfl rfl (cs := [_, _]) rfl) rfl ?_
    refine Ob rfl rfl ?_
    intro b47 w47 e47 n47 c47 k47
    refine Og (zaf zf0 rfl) rfl ?_
    refine Oa rfl (E1 4 rfl (zj ?_))
    repeat first | refine tr ?_ | refine br ?_
    refine zx rfl rfl ?_
    rw [zeM hr hc h0, hF]
    exact ⟨.inr ⟨zdA k47, by decide⟩, hwA.trans c47⟩
   refine zd (Od zag rfl ?_)
   refine Ol zbS rfl (hk3b.cell' rfl) ?_
   refine Og (vf (zw rfl rfl) (decide_eq_false (by omega))) rfl ?_
   refine Om rfl (Oz rfl rfl (Oz rfl rfl (Of rfl (Oa rfl (E4 2 3 6 31 rfl (zf rfl (Sr (Od zag rfl ?_))))))))
   refine Ol zbS rfl (hk3b.cell' rfl) ?_
   refine Og (vf (zw rfl rfl) (decide_eq_false (by omega))) rfl ?_
   refine Oa rfl (E4 2 3 6 39 rfl (zf rfl (zh ?_)))
   by_cases h4 : x.k = c.t
   ·refine zd (Od zag rfl ?_)
    refine Ol zbS rfl (hk3b.cell' rfl) ?_
    refine Od zg2 rfl ?_
    refine Ol zbS rfl (kA.cell' rfl) ?_
    refine Og (vf (zG rfl rfl) (zau (by omega))) rfl ?_
    refine Oa rfl (E4 2 3 6 49 rfl (zf rfl (Sr (Od zjP rfl ?_))))
    refine Ol zmX rfl (kA.cell' rfl) ?_
    refine Od zgK rfl ?_
    refine Ol ag3 rfl (hk2b.cell' rfl) ?_
    refine Og (zi zbU yM rfl rfl (zu.of_blk0 hk3b)) rfl ?_
    refine Oc hbf rfl rfl rfl (hff x _ hx) ?_
    rintro v67 w67 ⟨rfl, c67⟩
    refine Og (zL rfl) rfl (Oa rfl (E2 2 61 rfl ?_))
    cases hwd : zaK c x with
    | true =>
     refine zg rfl (Sr (Od zbA rfl ?_))
     refine Ol yt rfl ((hk2b.chg0 c67).cell' rfl) ?_
     refine Og (zaf ziK rfl) rfl ?_
     refine Og (zM zfQ zfr rfl (vs := [_, _]) rfl (css := [_, _]) ⟨rfl, rfl, trivial⟩ rfl rfl (cs := [_, _]) rfl) rfl ?_
     refine Ob rfl rfl ?_
     intro b73 w73 e73 n73 c73 k73
     refine Og (zaf zf0 rfl) rfl ?_
     refine Oa rfl (E1 4 rfl (zj ?_))
     repeat first | refine tr ?_ | refine br ?_
     refine zx rfl rfl ?_
     rw [zgP hr hc h0 h4, hwd]
     exact ⟨.inr ⟨zdA k73, by decide⟩, (hwA.trans c67).trans c73⟩
    | false =>
     refine zf rfl (yd (zk (Sr (Oa rfl (E1 4 rfl (zj ?_))))))
     repeat first | refine tr ?_ | refine br ?_
     refine zx rfl rfl ?_
     rw [zgP hr hc h0 h4, hwd]
     exact ⟨.inl ⟨rfl, rfl⟩, hwA.trans c67⟩
   refine zd (Od zag rfl ?_)
   refine Ol zbS rfl (hk3b.cell' rfl) ?_
   refine Od zg2 rfl ?_
   refine Ol zbS rfl (kA.cell' rfl) ?_
   refine Og (vt (zG rfl rfl) (zck (by omega))) rfl ?_
   refine Oa rfl (E4 2 3 6 49 rfl (zg rfl (Sr (Od zbA rfl ?_))))
   refine Ol yt rfl (hk2b.cell' rfl) ?_
   refine Og (zaf ziK rfl) rfl ?_
   refine Og (zM zfQ zfr rfl (vs := [_, _]) rfl (css := [_, _]) ⟨rfl, rfl, trivial⟩ rfl rfl (cs := [_, _]) rfl) rfl ?_
   refine Ob rfl rfl ?_
   intro b59 w59 e59 n59 c59 k59
   refine Og (zaf zf0 rfl) rfl ?_
   refine Oa rfl (E1 4 rfl (zj ?_))
   repeat first | refine tr ?_ | refine br ?_
   refine zx rfl rfl ?_
   rw [zjn hr hc h0 h4]
   exact ⟨.inr ⟨zdA k59, by decide⟩, hwA.trans c59⟩
  refine zd (Om rfl ?_)
  refine Og (vt (zG rfl rfl) (by simp [hc])) rfl ?_
  refine E4 2 3 5 19 rfl (zg rfl (Sr (Od zbA rfl ?_)))
  refine Ol yt rfl (hk2a.cell' rfl) ?_
  refine Om rfl ?_
  refine Og (zaf ziK rfl) rfl ?_
  refine Og (zM zfQ zfr rfl (vs := [_, _]) rfl (css := [_, _]) ⟨rfl, rfl, trivial⟩ rfl rfl (cs := [_, _]) rfl) rfl ?_
  refine Ob rfl rfl ?_
  intro b25 w25 e25 n25 c25 k25
  refine Og (zaf zf0 rfl) rfl ?_
  refine Oa rfl (E1 4 rfl (zj ?_))
  repeat first | refine tr ?_ | refine br ?_
  refine zx rfl rfl ?_
  rw [zjE hr hc]
  exact ⟨.inr ⟨zdA k25, hc⟩, hc17.trans c25⟩
theorem zk9 (x y : Col) : zaT [1, 0, 0, 2] x.cs y.cs = some (decide (x = y)) := by
 obtain ⟨n, t, s, z⟩ := x
 obtain ⟨n', t', s', z'⟩ := y
 simp only [Col.cs, zaT, zeU, if_true, Option.some.injEq, Col.mk.injEq]
 rw [Bool.eq_iff_iff]
 simp
theorem zeW (u v : Value) (l m : List Col) (w : World) (hu : zf8 w u l) (hv : zf8 w v m) (hn : l.length ≤ 1048576) (hn' : m.length ≤ 1048576) :
 zO TP 100 #[u, v] w fun r w' => r = .bool (decide (l = m)) ∧ zm [] w w' := by
 obtain ⟨pu, cu, rfl, hcu⟩ := yq.val hu
 obtain ⟨pv, cv, rfl, hcv⟩ := yq.val hv
 refine A2 Tryz.func100 rfl rfl ?_
 refine Sr (Oa rfl (E2 0 1 rfl (zh (zh ?_))))
 by_cases he : l.length = m.length
 ·refine zd (Om rfl (On zfi rfl (Om rfl (On zfi rfl ?_))))
  refine Og (vf (zG rfl rfl) (zau (by omega))) rfl ?_
  refine E3 0 1 10 rfl (zf rfl (zq (zh (Sr (Om rfl (On zfi rfl (Om rfl (E4 0 1 12 13 rfl (zn ?_)))))))))
  refine ye [0, 1, 12, 13] (fun n F wx => ∃ j : Nat, n = l.length - j ∧ j ≤ l.length ∧ F = [(0, .slice pu l.length cu), (1, .slice pv m.length cv), (12, Ii l.length), (13, Ii j)] ∧ l.take j = m.take j ∧ zm [] w wx) (m := l.length - 0) ⟨0, rfl, Nat.zero_le _, rfl, by simp, zm.refl _ _⟩ ?_
  rintro n F wx ⟨j, rfl, hj, rfl, heq, hcx⟩
  refine Sr (Og (zE rfl rfl) rfl (E5 0 1 12 13 14 rfl (zh ?_)))
  refine yh rfl (fun hT => ?_) (fun hF => ?_)
  ·refine zq ?_
   have hlt : j < l.length := by have := of_decide_eq_true hT; omega
   have hlt2 : j < m.length := by omega
   have hx : l[j]? = some l[j] := by simp [hlt]
   have hy : m[j]? = some m[j] := by simp [hlt2]
   generalize l[j] = x at hx
   generalize m[j] = y at hy
   obtain ⟨b, off, cap, hve, hc1⟩ := yq.at zg8 (yq.chg0 hu hcx) hx
   cases hve
   obtain ⟨b', off', cap', hve, hc2⟩ := yq.at zg8 (yq.chg0 hv hcx) hy
   cases hve
   have hd : zm [] wx wx.drew := zm.drew [] _
   refine zh (zn (Sr (Om rfl (Oa rfl (E5 0 1 5 12 13 rfl (zh ?_))))))
   refine W_draw (fun wz => zm [] wx wz) mix (by kernel_rfl) hd ?_
   refine Tm rfl (Tm rfl ?_)
   refine Tp (fun _ => ze zfi zdU rfl rfl _ rfl hlt) rfl ?_
   refine Tr (fun wz hz => zi zf3 zdU rfl rfl (hc1.chg0 hz)) rfl ?_
   refine Tm rfl (Tm rfl ?_)
   refine Tp (fun _ => ze zfi zdU rfl rfl _ rfl hlt2) rfl ?_
   refine Tr (fun wz hz => zi zf3 zdU rfl rfl (hc2.chg0 hz)) rfl ?_
   refine Tp (fun _ => zbO zlB rfl rfl (zk9 x y)) rfl ?_
   refine D5 0 1 12 13 24 rfl ?_
   refine yh rfl (fun hT => ?_) (fun hF => ?_)
   ·have hne : x ≠ y := by simpa using hT
    refine Sr (Oa rfl (E1 4 rfl (zj ?_)))
    repeat first | refine tr ?_ | refine br ?_
    refine zx rfl rfl ?_
    refine ⟨?_, hcx.trans hd⟩
    have : l ≠ m := by
     rintro rfl
     rw [hx] at hy
     exact hne (Option.some.inj hy)
    rw [decide_eq_false this]
   have hxy : x = y := by simpa using hF
   refine yd (zk (zd ?_))
   refine Og (zR rfl rfl (by omega)) rfl ?_
   refine Om rfl (N4 0 1 12 13 rfl ?_)
   refine ⟨l.length - (j + 1), by omega, j + 1, rfl, by omega, rfl, ?_, hcx.trans hd⟩
   rw [List.take_add_one, List.take_add_one, hx, hy, heq, hxy]
  refine zP ?_
  repeat first | refine te ?_ | refine bo rfl ?_
  refine zp _ ?_
  have hge : l.length ≤ j := by have := of_decide_eq_false hF; omega
  refine Sr (Oa rfl (E1 4 rfl (zj ?_)))
  repeat first | refine tr ?_ | refine br ?_
  refine zx rfl rfl ?_
  rw [List.take_of_length_le hge, List.take_of_length_le (by omega)] at heq
  exact ⟨by rw [decide_eq_true heq], hcx⟩
 refine zd (Om rfl (On zfi rfl (Om rfl (On zfi rfl ?_))))
 refine Og (vt (zG rfl rfl) (zck (by omega))) rfl ?_
 refine E3 0 1 10 rfl (zg rfl (Sr (Oa rfl (E1 4 rfl (zj ?_)))))
 repeat first | refine tr ?_ | refine br ?_
 refine zx rfl rfl ?_
 have : l ≠ m := fun h => he (by rw [h])
 exact ⟨by rw [decide_eq_false this], zm.refl _ _⟩
theorem zga (u v : Value) (l m : List Int) (w : World) (hu : zcw w u l) (hv : zcw w v m) (hn : l.length ≤ 1048576) (hn' : m.length ≤ 1048576) :
 zO TP 101 #[u, v] w fun r w' => r = .bool (decide (l = m)) ∧ zm [] w w' := by
 obtain ⟨pu, cu, rfl, hcu⟩ := yq.val hu
 obtain ⟨pv, cv, rfl, hcv⟩ := yq.val hv
 refine A2 Tryz.func101 rfl rfl ?_
 refine Sr (Oa rfl (E2 0 1 rfl (zh (zh ?_))))
 by_cases he : l.length = m.length
 ·refine zd (Om rfl (On zec rfl (Om rfl (On zec rfl ?_))))
  refine Og (vf (zG rfl rfl) (zau (by omega))) rfl ?_
  refine E3 0 1 10 rfl (zf rfl (zq (zh (Sr (Om rfl (On zec rfl (Om rfl (E4 0 1 12 13 rfl (zn ?_)))))))))
  refine ye [0, 1, 12, 13] (fun n F wx => ∃ j : Nat, n = l.length - j ∧ j ≤ l.length ∧ F = [(0, .slice pu l.length cu), (1, .slice pv m.length cv), (12, Ii l.length), (13, Ii j)] ∧ l.take j = m.take j ∧ zm [] w wx) (m := l.length - 0) ⟨0, rfl, Nat.zero_le _, rfl, by simp, zm.refl _ _⟩ ?_
  rintro n F wx ⟨j, rfl, hj, rfl, heq, hcx⟩
  refine Sr (Og (zE rfl rfl) rfl (E5 0 1 12 13 14 rfl (zh ?_)))
  refine yh rfl (fun hT => ?_) (fun hF => ?_)
  ·refine zq ?_
   have hlt : j < l.length := by have := of_decide_eq_true hT; omega
   have hlt2 : j < m.length := by omega
   have hx : l[j]? = some l[j] := by simp [hlt]
   have hy : m[j]? = some m[j] := by simp [hlt2]
   generalize l[j] = x at hx
   generalize m[j] = y at hy
   obtain ⟨b, off, cap, hve, hc1⟩ := yq.at ze1 (yq.chg0 hu hcx) hx
   cases hve
   obtain ⟨b', off', cap', hve, hc2⟩ := yq.at ze1 (yq.chg0 hv hcx) hy
   cases hve
   have hd : zm [] wx wx.drew := zm.drew [] _
   refine zh (zn (Sr (Om rfl (Oa rfl (E5 0 1 5 12 13 rfl (zh ?_))))))
   refine W_draw (fun wz => zm [] wx wz) mix (by kernel_rfl) hd ?_
   refine Tm rfl (Tm rfl ?_)
   refine Tp (fun _ => ze zec sz3 rfl rfl _ rfl hlt) rfl ?_
   refine Tr (fun wz hz => zb ag3 rfl (hc1.chg0 hz 0 _ rfl)) rfl ?_
   refine Tm rfl (Tm rfl ?_)
   refine Tp (fun _ => ze zec sz3 rfl rfl _ rfl hlt2) rfl ?_
   refine Tr (fun wz hz => zb ag3 rfl (hc2.chg0 hz 0 _ rfl)) rfl ?_
   refine Tp (fun _ => zG rfl rfl) rfl ?_
   refine D5 0 1 12 13 24 rfl ?_
   refine yh rfl (fun hT => ?_) (fun hF => ?_)
   ·have hne : x ≠ y := by simpa using hT
    refine Sr (Oa rfl (E1 4 rfl (zj ?_)))
    repeat first | refine tr ?_ | refine br ?_
    refine zx rfl rfl ?_
    refine ⟨?_, hcx.trans hd⟩
    have : l ≠ m := by
     rintro rfl
     rw [hx] at hy
     exact hne (Option.some.inj hy)
    rw [decide_eq_false this]
   have hxy : x = y := by simpa using hF
   refine yd (zk (zd ?_))
   refine Og (zR rfl rfl (by omega)) rfl ?_
   refine Om rfl (N4 0 1 12 13 rfl ?_)
   refine ⟨l.length - (j + 1), by omega, j + 1, rfl, by omega, rfl, ?_, hcx.trans hd⟩
   rw [List.take_add_one, List.take_add_one, hx, hy, heq, hxy]
  refine zP ?_
  repeat first | refine te ?_ | refine bo rfl ?_
  refine zp _ ?_
  have hge : l.length ≤ j := by have := of_decide_eq_false hF; omega
  refine Sr (Oa rfl (E1 4 rfl (zj ?_)))
  repeat first | refine tr ?_ | refine br ?_
  refine zx rfl rfl ?_
  rw [List.take_of_length_le hge, List.take_of_length_le (by omega)] at heq
  exact ⟨by rw [decide_eq_true heq], hcx⟩
 refine zd (Om rfl (On zec rfl (Om rfl (On zec rfl ?_))))
 refine Og (vt (zG rfl rfl) (zck (by omega))) rfl ?_
 refine E3 0 1 10 rfl (zg rfl (Sr (Oa rfl (E1 4 rfl (zj ?_)))))
 repeat first | refine tr ?_ | refine br ?_
 refine zx rfl rfl ?_
 have : l ≠ m := fun h => he (by rw [h])
 exact ⟨by rw [decide_eq_false this], zm.refl _ _⟩
theorem zlE (u v : Value) (ls ms : List (List Int)) (w : World) (hu : zcS w u ls) (hv : zcS w v ms) (hn : ls.length ≤ 1048576) (hn' : ms.length ≤ 1048576) (h1 : ∀ l ∈ ls, l.length ≤ 1048576) (h2 : ∀ l ∈ ms, l.length ≤ 1048576) :
 zO TP 124 #[u, v, .func (.func 101) #[] #[]] w fun r w' => r = .bool (decide (ls = ms)) ∧ zm [] w w' := by
 obtain ⟨pu, cu, rfl, hcu⟩ := zci.val hu
 obtain ⟨pv, cv, rfl, hcv⟩ := zci.val hv
 refine A3 Tryz.func124 rfl rfl ?_
 refine Sr (Oa rfl (E3 0 1 2 rfl (zh (zh ?_))))
 by_cases he : ls.length = ms.length
 ·refine zd (Om rfl (On zgx rfl (Om rfl (On zgx rfl ?_))))
  refine Og (vf (zG rfl rfl) (zau (by omega))) rfl ?_
  refine E4 0 1 2 14 rfl (zf rfl (zq (zh (Sr (Om rfl (On zgx rfl (Om rfl (E5 1 2 15 16 17 rfl (zn ?_)))))))))
  refine ye [1, 2, 15, 16, 17] (fun n F wx => ∃ j : Nat, n = ls.length - j ∧ j ≤ ls.length ∧ F = [(1, .slice pv ms.length cv), (2, .func (.func 101) #[] #[]), (15, .slice pu ls.length cu), (16, Ii ls.length), (17, Ii j)] ∧ ls.take j = ms.take j ∧ zm [] w wx) (m := ls.length - 0) ⟨0, rfl, Nat.zero_le _, rfl, by simp, zm.refl _ _⟩ ?_
  rintro n F wx ⟨j, rfl, hj, rfl, heq, hcx⟩
  refine Sr (Og (zE rfl rfl) rfl (E6 1 2 15 16 17 18 rfl (zh ?_)))
  refine yh rfl (fun hT => ?_) (fun hF => ?_)
  ·refine zq ?_
   have hlt : j < ls.length := by have := of_decide_eq_true hT; omega
   have hlt2 : j < ms.length := by omega
   have hx : ls[j]? = some ls[j] := by simp [hlt]
   have hy : ms[j]? = some ms[j] := by simp [hlt2]
   generalize ls[j] = x at hx
   generalize ms[j] = y at hy
   obtain ⟨b, off, cap, ux, hve, hc1, hux⟩ := zci.at (hu.chg0 hcx) hx
   cases hve
   obtain ⟨b', off', cap', uy, hve, hc2, huy⟩ := zci.at (hv.chg0 hcx) hy
   cases hve
   refine zh (zn (Sr (Om rfl ?_)))
   refine Og (ze zgx zmQ rfl rfl _ rfl hlt) rfl ?_
   refine Ol zhA rfl hc1 ?_
   refine Oa rfl (Oa rfl (E7 1 2 7 8 15 16 17 rfl (Sr (Om rfl (Om rfl ?_)))))
   refine Og (ze zgx zmQ rfl rfl _ rfl hlt2) rfl ?_
   refine Ol zhA rfl hc2 ?_
   refine Oa rfl (E7 1 2 8 9 15 16 17 rfl (Sr (Om rfl (Om rfl (Om rfl ?_)))))
   refine Oc zie rfl rfl rfl (zga ux uy x y _ hux huy (h1 x (List.mem_of_getElem? hx)) (h2 y (List.mem_of_getElem? hy))) ?_
   rintro v29 w29 ⟨rfl, c29⟩
   refine Og (zL rfl) rfl (E6 1 2 15 16 17 30 rfl ?_)
   refine yh rfl (fun hT => ?_) (fun hF => ?_)
   ·have hne : x ≠ y := by simpa using hT
    refine Sr (Oa rfl (E1 6 rfl (zj ?_)))
    repeat first | refine tr ?_ | refine br ?_
    refine zx rfl rfl ?_
    refine ⟨?_, hcx.trans c29⟩
    have : ls ≠ ms := by
     rintro rfl
     rw [hx] at hy
     exact hne (Option.some.inj hy)
    rw [decide_eq_false this]
   have hxy : x = y := by simpa using hF
   refine yd (zk (zd ?_))
   refine Og (zR rfl rfl (by omega)) rfl ?_
   refine Om rfl (N5 1 2 15 16 17 rfl ?_)
   refine ⟨ls.length - (j + 1), by omega, j + 1, rfl, by omega, rfl, ?_, hcx.trans c29⟩
   rw [List.take_add_one, List.take_add_one, hx, hy, heq, hxy]
  refine zP ?_
  repeat first | refine te ?_ | refine bo rfl ?_
  refine zp _ ?_
  have hge : ls.length ≤ j := by have := of_decide_eq_false hF; omega
  refine Sr (Oa rfl (E1 6 rfl (zj ?_)))
  repeat first | refine tr ?_ | refine br ?_
  refine zx rfl rfl ?_
  rw [List.take_of_length_le hge, List.take_of_length_le (by omega)] at heq
  exact ⟨by rw [decide_eq_true heq], hcx⟩
 refine zd (Om rfl (On zgx rfl (Om rfl (On zgx rfl ?_))))
 refine Og (vt (zG rfl rfl) (zck (by omega))) rfl ?_
 refine E4 0 1 2 14 rfl (zg rfl (Sr (Oa rfl (E1 6 rfl (zj ?_)))))
 repeat first | refine tr ?_ | refine br ?_
 refine zx rfl rfl ?_
 have : ls ≠ ms := fun h => he (by rw [h])
 exact ⟨by rw [decide_eq_false this], zm.refl _ _⟩
theorem zjk (u v : Value) (ls ms : List (List Int)) (w : World) (hu : zcS w u ls) (hv : zcS w v ms) (hn : ls.length ≤ 1048576) (hn' : ms.length ≤ 1048576) (h1 : ∀ l ∈ ls, l.length ≤ 1048576) (h2 : ∀ l ∈ ms, l.length ≤ 1048576) :
 zO TP 102 #[u, v, .func (.func 101) #[] #[]] w fun r w' => r = .bool (decide (ls = ms)) ∧ zm [] w w' := by
 refine A3 Tryz.func102 rfl rfl ?_
 refine Sr (Oa rfl (E3 0 1 2 rfl (Sr (Om rfl (Om rfl (Om rfl ?_))))))
 refine Oc zlW rfl rfl rfl (zlE u v ls ms _ hu hv hn hn' h1 h2) ?_
 rintro v10 w10 ⟨rfl, c10⟩
 refine Oa rfl (E1 6 rfl (zj ?_))
 refine zx rfl rfl ?_
 exact ⟨rfl, c10⟩
theorem ziT (a b c a' b' c' : Value) (s t : Sch) (w : World) (hs : zei w a b c s) (ht : zei w a' b' c' t) (ms : s.Sm) (mt : t.Sm) :
 zO TP 71 #[.agg #[a, b, c], .agg #[a', b', c']] w fun r w' => r = .bool (decide (s = t)) ∧ zm [] w w' := by
 have hdec : decide (s = t) = (decide (s.cols = t.cols) && decide (s.key = t.key) && decide (s.uq = t.uq)) := by
  obtain ⟨x, y, z⟩ := s
  obtain ⟨x', y', z'⟩ := t
  rw [Bool.eq_iff_iff]
  simp [and_assoc]
 rw [hdec]
 refine A2 Tryz.func71 rfl rfl ?_
 refine Sr ?_
 refine Ob rfl rfl ?_
 intro b2 w2 e2 n2 c2 k2
 refine Ob rfl rfl ?_
 intro b3 w3 e3 n3 c3 k3
 refine Oa rfl (E2 2 3 rfl ?_)
 have hk2 := k2.chg0 c3
 have hc3 : zm [] w w3 := c2.trans c3
 have hs3 := hs.chg0 hc3
 have ht3 := ht.chg0 hc3
 refine zh ?_
 by_cases h1 : s.cols = t.cols
 ·by_cases h2 : s.key = t.key
  ·refine zd (Od zcr rfl ?_)
   refine Ol zf4 rfl (hk2.cell' rfl) ?_
   refine Od zcr rfl ?_
   refine Ol zf4 rfl (k3.cell' rfl) ?_
   refine Oc zin rfl rfl rfl (zeW _ _ _ _ _ hs3.cols ht3.cols ms.cols mt.cols) ?_
   rintro v9 w9 ⟨h9, c9⟩
   rw [decide_eq_true h1] at h9
   subst h9
   refine Om rfl ?_
   refine Oy rfl rfl (za zeO rfl) ?_
   refine Oy rfl rfl (zb zhA rfl ((hk2.chg0 c9).cell' rfl)) ?_
   refine Oy rfl rfl (za zeO rfl) ?_
   refine Oy rfl rfl (zb zhA rfl ((k3.chg0 c9).cell' rfl)) ?_
   refine Ow rfl rfl zie rfl rfl rfl (zga _ _ _ _ _ (yq.chg0 hs3.key c9) (yq.chg0 ht3.key c9) ms.key mt.key) ?_
   rintro v15 w15 ⟨h15, c15⟩
   rw [decide_eq_true h2] at h15
   subst h15
   refine Ot rfl (Om rfl ?_)
   refine Oy rfl rfl (za ziU rfl) ?_
   refine Oy rfl rfl (zb zmq rfl ((hk2.chg0 (c9.trans c15)).cell' rfl)) ?_
   refine Oy rfl rfl (za ziU rfl) ?_
   refine Oy rfl rfl (zb zmq rfl ((k3.chg0 (c9.trans c15)).cell' rfl)) ?_
   refine Ow rfl rfl zlT rfl rfl rfl (zjk _ _ _ _ _ (hs3.uq.chg0 (c9.trans c15)) (ht3.uq.chg0 (c9.trans c15)) ms.uq mt.uq ms.each mt.each) ?_
   rintro v22 w22 ⟨rfl, c22⟩
   refine Ot rfl (Oa rfl (E1 4 rfl (zj ?_)))
   refine zx rfl rfl ?_
   exact ⟨by simp [h1, h2], ((hc3.trans c9).trans c15).trans c22⟩
  refine zd (Od zcr rfl ?_)
  refine Ol zf4 rfl (hk2.cell' rfl) ?_
  refine Od zcr rfl ?_
  refine Ol zf4 rfl (k3.cell' rfl) ?_
  refine Oc zin rfl rfl rfl (zeW _ _ _ _ _ hs3.cols ht3.cols ms.cols mt.cols) ?_
  rintro v9 w9 ⟨h9, c9⟩
  rw [decide_eq_true h1] at h9
  subst h9
  refine Om rfl ?_
  refine Oy rfl rfl (za zeO rfl) ?_
  refine Oy rfl rfl (zb zhA rfl ((hk2.chg0 c9).cell' rfl)) ?_
  refine Oy rfl rfl (za zeO rfl) ?_
  refine Oy rfl rfl (zb zhA rfl ((k3.chg0 c9).cell' rfl)) ?_
  refine Ow rfl rfl zie rfl rfl rfl (zga _ _ _ _ _ (yq.chg0 hs3.key c9) (yq.chg0 ht3.key c9) ms.key mt.key) ?_
  rintro v15 w15 ⟨h15, c15⟩
  rw [decide_eq_false h2] at h15
  subst h15
  refine Ot rfl (Om rfl (Oz rfl rfl (Oz rfl rfl (Oz rfl rfl (Oz rfl rfl (Oz rfl rfl (Of rfl (Oa rfl (E1 4 rfl (zj ?_))))))))))
  refine zx rfl rfl ?_
  exact ⟨by simp [h2], (hc3.trans c9).trans c15⟩
 refine zd (Od zcr rfl ?_)
 refine Ol zf4 rfl (hk2.cell' rfl) ?_
 refine Od zcr rfl ?_
 refine Ol zf4 rfl (k3.cell' rfl) ?_
 refine Oc zin rfl rfl rfl (zeW _ _ _ _ _ hs3.cols ht3.cols ms.cols mt.cols) ?_
 rintro v9 w9 ⟨h9, c9⟩
 rw [decide_eq_false h1] at h9
 subst h9
 refine Om rfl (Oz rfl rfl (Oz rfl rfl (Oz rfl rfl (Oz rfl rfl (Oz rfl rfl (Of rfl (Om rfl (Oz rfl rfl (Oz rfl rfl (Oz rfl rfl (Oz rfl rfl (Oz rfl rfl (Of rfl ?_)))))))))))))
 refine Oa rfl (E1 4 rfl (zj ?_))
 refine zx rfl rfl ?_
 exact ⟨by simp [h1], hc3.trans c9⟩
theorem zeu {α : Type} {l : List α} {j : Nat} {x : α} (h : l[j]? = some x) : l.take (j + 1) = l.take j ++ [x] := by rw [List.take_add_one, h]; rfl
theorem ziq (b : Bool) (w : World) : zO TP 56 #[.bool b] w fun r w' => ∃ i : Int, r = Ii i ∧ i ≠ 0 ∧ w' = w := by
 refine A1 Tryz.func56 rfl rfl ?_
 refine Sr (Oa rfl (E1 0 rfl (zh (Sr (Om rfl (E1 3 rfl ?_))))))
 cases b with
 | true =>
  refine zg rfl (Sr (Oa rfl (E1 2 rfl (zj ?_))))
  repeat first | refine tr ?_ | refine br ?_
  refine zx rfl rfl ?_
  exact ⟨_, rfl, by decide, rfl⟩
 | false =>
  refine zf rfl (zq (Sr (Oa rfl (E1 2 rfl (zj ?_)))))
  refine zx rfl rfl ?_
  exact ⟨_, rfl, by decide, rfl⟩
theorem zjt (x y : yx) (w : World) : zO TP 55 #[x.v, y.v] w fun r w' => ∃ i : Int, r = Ii i ∧ (i = 0 ↔ x = y) ∧ zm [] w w' := by
 obtain ⟨xk, xi, xu, xb⟩ := x
 obtain ⟨yk, yi, yu, yb⟩ := y
 refine A2 Tryz.func55 rfl rfl ?_
 refine Sr ?_
 refine Ob rfl rfl ?_
 intro b2 w2 e2 n2 c2 k2
 refine Ob rfl rfl ?_
 intro b3 w3 e3 n3 c3 k3
 refine Oa rfl (E2 2 3 rfl ?_)
 have k2 := k2.chg0 c3
 have hc := c2.trans c3
 refine zh (zn (zh ?_))
 by_cases h1 : xk = yk
 ·refine zd (Od zag rfl ?_)
  refine Ol zbS rfl (k2.cell' rfl) ?_
  refine Od zag rfl ?_
  refine Ol zbS rfl (k3.cell' rfl) ?_
  refine Og (vf (zG rfl rfl) (by simp [h1])) rfl ?_
  refine Oa rfl (E3 2 3 5 rfl (zf rfl (zh ?_)))
  by_cases h2 : xi = yi
  ·refine zd (Od yG rfl ?_)
   refine Ol ag2 rfl (k2.cell' rfl) ?_
   refine Od yG rfl ?_
   refine Ol ag2 rfl (k3.cell' rfl) ?_
   refine Og (vf (zG rfl rfl) (by simp [h2])) rfl ?_
   refine Oa rfl (E3 2 3 17 rfl (zf rfl (zh ?_)))
   by_cases h3 : xu = yu
   ·refine zd (Od zaa rfl ?_)
    refine Ol zch rfl (k2.cell' rfl) ?_
    refine Od zaa rfl ?_
    refine Ol zch rfl (k3.cell' rfl) ?_
    refine Og (vf (zG rfl rfl) (by simp [h3])) rfl ?_
    refine Oa rfl (E3 2 3 29 rfl (zf rfl (zh ?_)))
    by_cases h4 : xb = yb
    ·refine zd (Od yv rfl ?_)
     refine Ol yt rfl (k2.cell' rfl) ?_
     refine Od yv rfl ?_
     refine Ol yt rfl (k3.cell' rfl) ?_
     refine Og (vf (zai rfl rfl) (by simp [h4])) rfl ?_
     refine Oa rfl (E3 2 3 41 rfl (zf rfl (yd (zk (Sr (Oa rfl (E1 4 rfl (zj ?_))))))))
     refine zx rfl rfl ?_
     exact ⟨0, rfl, by simp [h1, h2, h3, h4], hc⟩
    refine zd (Od yv rfl ?_)
    refine Ol yt rfl (k2.cell' rfl) ?_
    refine Od yv rfl ?_
    refine Ol yt rfl (k3.cell' rfl) ?_
    refine Og (vt (zai rfl rfl) (by simp [h4])) rfl ?_
    refine Oa rfl (E3 2 3 41 rfl (zg rfl (Sr (Od yv rfl ?_))))
    refine Ol yt rfl (k2.cell' rfl) ?_
    refine Od yv rfl ?_
    refine Ol yt rfl (k3.cell' rfl) ?_
    refine Og (zc9 rfl rfl) rfl ?_
    refine Oc zi0 rfl rfl rfl (ziq _ _) ?_
    rintro v52 w52 ⟨i, rfl, hi, rfl⟩
    refine Oa rfl (E1 4 rfl (zj ?_))
    repeat first | refine tr ?_ | refine br ?_
    refine zx rfl rfl ?_
    exact ⟨i, rfl, by simp [h4, hi], hc⟩
   refine zd (Od zaa rfl ?_)
   refine Ol zch rfl (k2.cell' rfl) ?_
   refine Od zaa rfl ?_
   refine Ol zch rfl (k3.cell' rfl) ?_
   refine Og (vt (zG rfl rfl) (by simp; omega)) rfl ?_
   refine Oa rfl (E3 2 3 29 rfl (zg rfl (Sr (Od zaa rfl ?_))))
   refine Ol zch rfl (k2.cell' rfl) ?_
   refine Od zaa rfl ?_
   refine Ol zch rfl (k3.cell' rfl) ?_
   refine Og (zE rfl rfl) rfl ?_
   refine Oc zi0 rfl rfl rfl (ziq _ _) ?_
   rintro v40 w40 ⟨i, rfl, hi, rfl⟩
   refine Oa rfl (E1 4 rfl (zj ?_))
   repeat first | refine tr ?_ | refine br ?_
   refine zx rfl rfl ?_
   exact ⟨i, rfl, by simp [h3, hi], hc⟩
  refine zd (Od yG rfl ?_)
  refine Ol ag2 rfl (k2.cell' rfl) ?_
  refine Od yG rfl ?_
  refine Ol ag2 rfl (k3.cell' rfl) ?_
  refine Og (vt (zG rfl rfl) (by simp [h2])) rfl ?_
  refine Oa rfl (E3 2 3 17 rfl (zg rfl (Sr (Od yG rfl ?_))))
  refine Ol ag2 rfl (k2.cell' rfl) ?_
  refine Od yG rfl ?_
  refine Ol ag2 rfl (k3.cell' rfl) ?_
  refine Og (zE rfl rfl) rfl ?_
  refine Oc zi0 rfl rfl rfl (ziq _ _) ?_
  rintro v28 w28 ⟨i, rfl, hi, rfl⟩
  refine Oa rfl (E1 4 rfl (zj ?_))
  repeat first | refine tr ?_ | refine br ?_
  refine zx rfl rfl ?_
  exact ⟨i, rfl, by simp [h2, hi], hc⟩
 refine zd (Od zag rfl ?_)
 refine Ol zbS rfl (k2.cell' rfl) ?_
 refine Od zag rfl ?_
 refine Ol zbS rfl (k3.cell' rfl) ?_
 refine Og (vt (zG rfl rfl) (by simp [h1])) rfl ?_
 refine Oa rfl (E3 2 3 5 rfl (zg rfl (Sr (Od zag rfl ?_))))
 refine Ol zbS rfl (k2.cell' rfl) ?_
 refine Od zag rfl ?_
 refine Ol zbS rfl (k3.cell' rfl) ?_
 refine Og (zE rfl rfl) rfl ?_
 refine Oc zi0 rfl rfl rfl (ziq _ _) ?_
 rintro v16 w16 ⟨i, rfl, hi, rfl⟩
 refine Oa rfl (E1 4 rfl (zj ?_))
 repeat first | refine tr ?_ | refine br ?_
 refine zx rfl rfl ?_
 exact ⟨i, rfl, by simp [h1, hi], hc⟩
theorem zhE {α : Type} {l m : List α} {j : Nat} (h : l.take j = m.take j) (hl : l.length ≤ j ∨ m.length ≤ j) (he : l.length = m.length) : l = m := by
 rw [List.take_of_length_le (by omega), List.take_of_length_le (by omega)] at h
 exact h
theorem zjJ (v u : Value) (l m : List yx) (w : World) (hv : y5 w v l) (hu : y5 w u m) (hl : l.length ≤ 1048576) : zO TP 30 #[v, u] w fun r w' => ∃ i : Int, r = Ii i ∧ (i = 0 ↔ l = m) ∧ zm [] w w' := by
 obtain ⟨pv, cv, rfl, _⟩ := id (yq.val hv)
 obtain ⟨pu, cu, rfl, _⟩ := id (yq.val hu)
 refine A2 Tryz.func30 rfl rfl ?_
 refine Sr (Oa rfl (E2 0 1 rfl ?_))
 refine z5 (fun F wx => ∃ (j : Nat) (f16 : Value), F = [(0, .slice pv l.length cv), (1, .slice pu m.length cu), (5, Ii j), (16, f16)] ∧ l.take j = m.take j ∧ (l.length ≤ j ∨ m.length ≤ j) ∧ zm [] w wx) ?_ ?_
 ·refine Sr (Oa rfl (E3 0 1 5 rfl (zn ?_)))
  refine ye [0, 1, 5] (fun k F wx => ∃ j : Nat, k = l.length - j ∧ j ≤ l.length ∧ j ≤ m.length ∧ F = [(0, .slice pv l.length cv), (1, .slice pu m.length cu), (5, Ii j)] ∧ l.take j = m.take j ∧ zm [] w wx) (m := l.length - 0) ⟨0, rfl, Nat.zero_le _, Nat.zero_le _, rfl, by simp, zm.refl _ _⟩ ?_
  rintro k F wx ⟨j, rfl, hj, hj', rfl, htk, hcx⟩
  refine zh (zh ?_)
  by_cases h1 : j < l.length
  ·by_cases h2 : j < m.length
   ·refine zd (Om rfl (Om rfl (On yS rfl ?_)))
    refine Og (vt (zE rfl rfl) (decide_eq_true (by omega))) rfl ?_
    refine Om rfl (Oj rfl rfl (Oj rfl rfl ?_))
    refine Oy rfl rfl (z4 yS rfl) ?_
    refine Oy rfl rfl (vt (zE rfl rfl) (decide_eq_true (by omega))) ?_
    refine Ot rfl (E4 0 1 5 16 rfl (zg rfl (zq ?_)))
    have hx : l[j]? = some l[j] := by simp [h1]
    have hy : m[j]? = some m[j] := by simp [h2]
    generalize l[j] = x at hx
    generalize m[j] = y at hy
    refine zh (zn (zh ?_))
    have hd : zm [] wx wx.drew := zm.drew [] _
    have hcl1 : ∀ {wz : World}, zm [] wx wz → ∃ b off cap, Value.slice pv l.length cv = .slice (some ⟨b, off, none⟩) l.length cap ∧ zu wz b (off + j * 4) x.cs := fun hc => yq.at za6 (yq.chg0 hv (hcx.trans hc)) hx
    have hcl2 : ∀ {wz : World}, zm [] wx wz → ∃ b off cap, Value.slice pu m.length cu = .slice (some ⟨b, off, none⟩) m.length cap ∧ zu wz b (off + j * 4) y.cs := fun hc => yq.at za6 (yq.chg0 hu (hcx.trans hc)) hy
    obtain ⟨b, off, cap, hve, -⟩ := hcl1 (zm.refl [] wx)
    obtain ⟨b', off', cap', hue, -⟩ := hcl2 (zm.refl [] wx)
    cases hve
    cases hue
    have hc1 : ∀ {wz : World}, zm [] wx wz → zu wz b (off + j * 4) x.cs := fun hc => by
     obtain ⟨_, _, _, he, h⟩ := hcl1 hc
     cases he; exact h
    have hc2 : ∀ {wz : World}, zm [] wx wz → zu wz b' (off' + j * 4) y.cs := fun hc => by
     obtain ⟨_, _, _, he, h⟩ := hcl2 hc
     cases he; exact h
    refine W_draw (fun wz => zm [] wx wz) mix (by kernel_rfl) hd ?_
    refine Tm rfl (Tm rfl ?_)
    refine Tp (fun _ => ze yS yM rfl rfl _ rfl h1) rfl ?_
    refine Tr (fun wz hz => zi zbU yM rfl rfl (hc1 hz)) rfl ?_
    refine Tm rfl (Tm rfl ?_)
    refine Tp (fun _ => ze yS yM rfl rfl _ rfl h2) rfl ?_
    refine Tr (fun wz hz => zi zbU yM rfl rfl (hc2 hz)) rfl ?_
    refine Tc zm4 rfl rfl rfl (zjt x y _) ?_
    rintro v27 w27 ⟨i, rfl, hi, c27⟩
    refine ⟨.inl (hd.trans c27), ?_⟩
    refine Ta rfl (D4 0 1 5 6 rfl (zh ?_))
    by_cases hxy : x = y
    ·have hi0 := hi.2 hxy
     subst hi0
     refine zd (Om rfl ?_)
     refine Og (vf (zG rfl rfl) (zau (by omega))) rfl ?_
     refine E5 0 1 5 6 29 rfl (zf rfl (yd (zk (zd (Om rfl ?_)))))
     refine Og (zR rfl rfl (by omega)) rfl ?_
     refine Oa rfl (N3 0 1 5 rfl ?_)
     refine ⟨l.length - (j + 1), by omega, j + 1, rfl, by omega, by omega, rfl, ?_, (hcx.trans hd).trans c27⟩
     rw [zeu hx, zeu hy, htk, hxy]
    have hi0 : i ≠ 0 := fun h => hxy (hi.1 h)
    refine zd (Om rfl ?_)
    refine Og (vt (zG rfl rfl) (by simp [hi0])) rfl ?_
    refine E5 0 1 5 6 29 rfl (zg rfl (Sr (Om rfl (Oa rfl (E1 4 rfl (zj ?_))))))
    repeat first | refine tr ?_ | refine br ?_
    refine zx rfl rfl ?_
    refine ⟨i, rfl, ⟨fun h => absurd h hi0, fun h => ?_⟩, (hcx.trans hd).trans c27⟩
    rw [h, hy] at hx
    cases hx
    exact absurd rfl hxy
   refine zd (Om rfl (Om rfl (On yS rfl ?_)))
   refine Og (vt (zE rfl rfl) (decide_eq_true (by omega))) rfl ?_
   refine Om rfl (Oj rfl rfl (Oj rfl rfl ?_))
   refine Oy rfl rfl (z4 yS rfl) ?_
   refine Oy rfl rfl (vf (zE rfl rfl) (decide_eq_false (by omega))) ?_
   refine Ot rfl (E4 0 1 5 16 rfl (zf rfl ?_))
   refine zP ?_
   repeat first | refine te ?_ | refine bo rfl ?_
   refine zp _ ?_
   exact ⟨j, _, rfl, htk, .inr (by omega), hcx⟩
  refine zd (Om rfl (Om rfl (On yS rfl ?_)))
  refine Og (vf (zE rfl rfl) (decide_eq_false (by omega))) rfl ?_
  refine Om rfl (Oz rfl rfl (Oz rfl rfl (Oz rfl rfl (Oz rfl rfl (Of rfl (E4 0 1 5 16 rfl (zf rfl ?_)))))))
  refine zP ?_
  repeat first | refine te ?_ | refine bo rfl ?_
  refine zp _ ?_
  exact ⟨j, _, rfl, htk, .inl (by omega), hcx⟩
 rintro F wx ⟨j, f16, rfl, htk, hend, hcx⟩
 refine zh (zh ?_)
 by_cases he : l.length = m.length
 ·refine zd (Om rfl (On yS rfl (Om rfl (On yS rfl ?_))))
  refine Og (vt (zw rfl rfl) (by simp [he])) rfl ?_
  refine E3 0 1 35 rfl (zg rfl (Sr (Oa rfl (E1 4 rfl (zj ?_)))))
  repeat first | refine tr ?_ | refine br ?_
  refine zx rfl rfl ?_
  exact ⟨0, rfl, by simp [zhE htk hend he], hcx⟩
 refine zd (Om rfl (On yS rfl (Om rfl (On yS rfl ?_))))
 refine Og (vf (zw rfl rfl) (by simp; omega)) rfl ?_
 refine E3 0 1 35 rfl (zf rfl (zq (Sr (Om rfl (On yS rfl (Om rfl (On yS rfl (Og (zE rfl rfl) rfl ?_))))))))
 refine Oc zi0 rfl rfl rfl (ziq _ _) ?_
 rintro v41 w41 ⟨i, rfl, hi, rfl⟩
 refine Oa rfl (E1 4 rfl (zj ?_))
 refine zx rfl rfl ?_
 exact ⟨i, rfl, ⟨fun h => absurd h hi, fun h => absurd (by rw [h]) he⟩, hcx⟩
theorem zde (v u : Value) (l m : List yx) (w : World) (hv : y5 w v l) (hu : y5 w u m) (hl : l.length ≤ 1048576) : zO TP 13 #[v, u] w fun r w' => r = .bool (decide (l = m)) ∧ zm [] w w' := by
 refine A2 Tryz.func13 rfl rfl ?_
 refine Sr (Oa rfl (E2 0 1 rfl (Sr (Om rfl (Om rfl ?_)))))
 refine Oc znx rfl rfl rfl (zjJ v u l m w hv hu hl) ?_
 rintro v7 w7 ⟨i, rfl, hi, c7⟩
 refine Og (zw rfl rfl) rfl (Oa rfl (E1 4 rfl (zj ?_)))
 refine zx rfl rfl ?_
 refine ⟨?_, c7⟩
 congr 1
 rw [decide_eq_decide]
 exact hi
end Go.Wk
