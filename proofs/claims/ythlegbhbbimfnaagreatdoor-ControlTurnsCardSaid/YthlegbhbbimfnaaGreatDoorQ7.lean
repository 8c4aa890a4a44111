/- joined texts -/
import Derived.Test.YthlegbhbbimfnaaGreatDoorQ6
import Derived.Test.YthlegbhbbimfnaaGreatDoorIter
set_option linter.all false
namespace Go.Wk
open Go.Proofs
set_option maxRecDepth 10000
def fnV (f : Nat) (cap : List Value) : Value := .func (.func f) #[] cap.toArray
def zbb : List Value := [fnV 135 [], fnV 137 [], fnV 138 []]
def zjl : List Value := [fnV 139 [], fnV 141 [], fnV 143 []]
def zjg : List Value := [fnV 145 [], fnV 148 [], fnV 150 []]
def zbC (b : Nat) : List Value := [fnV 125 [Pt b], fnV 127 [Pt b], fnV 130 [Pt b]]
theorem zdV (w : World) : zO TP 107 #[] w fun r w' => r = .agg zbb.toArray ∧ zm [] w w' := by
 refine zO.of_W (args := []) Tryz.func107 rfl rfl rfl rfl ?_
 refine Sr ?_
 refine zA (gn rfl) (zI zbY rfl rfl ?_)
 intro b0 w0 e0 n0 c0 k0
 refine E1 0 rfl (Sr ?_)
 refine Og (zM zhf zbY rfl (vs := [_, _, _]) rfl (css := [_, _, _]) ⟨rfl, rfl, rfl, trivial⟩ rfl rfl (cs := [_, _, _]) rfl) rfl ?_
 refine zA (gn rfl) (zD zaJ rfl rfl rfl rfl k0 (by simp) (by simp [Value.oneCell']) ?_)
 intro wA nA cA kA
 refine E1 0 rfl (zj ?_)
 refine zcW rfl zcH zaJ rfl rfl (zu.of_blk0 kA) ?_
 exact ⟨rfl, c0.own cA (by intro y hy; simp at hy; omega)⟩
theorem zlf (w : World) : zO TP 108 #[] w fun r w' => r = .agg zjl.toArray ∧ zm [] w w' := by
 refine zO.of_W (args := []) Tryz.func108 rfl rfl rfl rfl ?_
 refine Sr ?_
 refine zA (gn rfl) (zI zbY rfl rfl ?_)
 intro b0 w0 e0 n0 c0 k0
 refine E1 0 rfl (Sr ?_)
 refine Og (zM zhf zbY rfl (vs := [_, _, _]) rfl (css := [_, _, _]) ⟨rfl, rfl, rfl, trivial⟩ rfl rfl (cs := [_, _, _]) rfl) rfl ?_
 refine zA (gn rfl) (zD zaJ rfl rfl rfl rfl k0 (by simp) (by simp [Value.oneCell']) ?_)
 intro wA nA cA kA
 refine E1 0 rfl (zj ?_)
 refine zcW rfl zcH zaJ rfl rfl (zu.of_blk0 kA) ?_
 exact ⟨rfl, c0.own cA (by intro y hy; simp at hy; omega)⟩
theorem zkJ (w : World) : zO TP 109 #[] w fun r w' => r = .agg zjg.toArray ∧ zm [] w w' := by
 refine zO.of_W (args := []) Tryz.func109 rfl rfl rfl rfl ?_
 refine Sr ?_
 refine zA (gn rfl) (zI zbY rfl rfl ?_)
 intro b0 w0 e0 n0 c0 k0
 refine E1 0 rfl (Sr ?_)
 refine Og (zM zhf zbY rfl (vs := [_, _, _]) rfl (css := [_, _, _]) ⟨rfl, rfl, rfl, trivial⟩ rfl rfl (cs := [_, _, _]) rfl) rfl ?_
 refine zA (gn rfl) (zD zaJ rfl rfl rfl rfl k0 (by simp) (by simp [Value.oneCell']) ?_)
 intro wA nA cA kA
 refine E1 0 rfl (zj ?_)
 refine zcW rfl zcH zaJ rfl rfl (zu.of_blk0 kA) ?_
 exact ⟨rfl, c0.own cA (by intro y hy; simp at hy; omega)⟩
theorem ziX (f : Nat) (w : World) : zO TP 104 #[fnV f []] w fun r w' => ∃ b, r = .agg (zbC b).toArray ∧ zV w' b 169 [fnV f []] ∧ w.heap.size ≤ b ∧ zm [] w w' := by
 refine A1 Tryz.func104 rfl rfl ?_
 refine Sr ?_
 refine Ob rfl rfl ?_
 intro b1 w1 e1 n1 c1 k1
 refine zA (gn rfl) (zI zbY rfl rfl ?_)
 intro b2 w2 e2 n2 c2 k2
 refine E2 1 2 rfl (Sr ?_)
 refine Og (zbf rfl rfl) rfl ?_
 refine Og (zbf rfl rfl) rfl ?_
 refine Og (zbf rfl rfl) rfl ?_
 refine Og (zM zhf zbY rfl (vs := [_, _, _]) rfl (css := [_, _, _]) ⟨rfl, rfl, rfl, trivial⟩ rfl rfl (cs := [_, _, _]) rfl) rfl ?_
 refine zA (gn rfl) (zD zaJ rfl rfl rfl rfl k2 (by simp) (by simp [Value.oneCell']) ?_)
 intro wA nA cA kA
 refine E1 2 rfl (zj ?_)
 refine zcW rfl zcH zaJ rfl rfl (zu.of_blk0 kA) ?_
 have h1 := k1.lt
 exact ⟨b1, rfl, (k1.chg0 c2).chg cA (by simp; omega), by omega, (c1.trans c2).own cA (by intro y hy; simp at hy; omega)⟩
theorem zbu {K : Type} [DecidableEq K] (k k' : K) (v : Value) : ∀ es : List (K × Value), yL (zat es k v) k' = if k = k' then some v else yL es k'
 | [] => by
  by_cases h : k = k' <;> simp [zat, yL, h]
 | p :: r => by
  unfold zat
  by_cases hp : p.1 = k
  ·rw [if_pos hp]
   by_cases h : k = k'
   ·simp [yL, h]
   have : p.1 ≠ k' := fun e => h (hp.symm.trans e)
   simp [yL, h, this]
  rw [if_neg hp]
  by_cases h : p.1 = k'
  ·have : k ≠ k' := fun e => hp (h.trans e.symm)
   simp [yL, h, this]
  simp [yL, h, zbu k k' v r]
theorem zfD {K : Type} [DecidableEq K] {k : K} {v : Value} : ∀ {es : List (K × Value)} {p : K × Value}, p ∈ zat es k v → p = (k, v) ∨ p ∈ es
 | [], p, h => by simpa [zat] using h
 | q :: r, p, h => by
  unfold zat at h
  split at h
  ·rcases List.mem_cons.1 h with h | h
   ·exact .inl h
   exact .inr (List.mem_cons_of_mem _ h)
  rcases List.mem_cons.1 h with h | h
  ·exact .inr (by rw [h]; exact List.mem_cons_self ..)
  rcases zfD h with h | h
  ·exact .inl h
  exact .inr (List.mem_cons_of_mem _ h)
def SL (w : World) (v : Value) (parts : List (List Value)) : Prop := ∃ b, v = .slice (some ⟨b, 0, none⟩) parts.length parts.length ∧ zV w b 135 parts.flatten
theorem SL.chg {S : List Nat} {w w' : World} {v : Value} {ps : List (List Value)} (h : SL w v ps) (hc : zm S w w') (hS : ∀ b e c, zV w b e c → b ∉ S) : SL w' v ps := let ⟨b, h1, h2⟩ := h; ⟨b, h1, h2.chg hc (hS _ _ _ h2)⟩
def Ph (bo bn m : Nat) (k : Nat) (w : World) (v : Value) : Prop := match k with
 | 0 => v = .map (some m)
 | 1 => v = .agg zbb.toArray
 | 2 => v = .agg (zbC bn).toArray
 | 3 => SL w v [zbb, (zbC bn)]
 | 5 => v = .agg zbb.toArray
 | 6 => v = .agg (zbC bo).toArray
 | 7 => v = .agg (zbC bn).toArray
 | 8 => SL w v [zbb, (zbC bo), (zbC bn)]
 | 10 => v = .agg zbb.toArray
 | 11 => v = .agg (zbC bo).toArray
 | 12 => SL w v [zbb, (zbC bo)]
 | 14 => v = .agg zbb.toArray
 | 15 => v = .agg zjl.toArray
 | 16 => SL w v [zbb, zjl]
 | 18 => v = .agg zbb.toArray
 | 19 => SL w v [zbb]
 | 21 => v = .agg zjg.toArray
 | 22 => SL w v [zjg]
 | 24 => v = .map (some m)
 | 25 => v = .map (some m)
 | _ => True
def zdQ : List (Nat × Nat) := [(0, 5), (1, 6), (2, 7), (3, 8), (5, 9), (6, 10), (7, 11), (8, 12), (10, 13), (11, 14), (12, 15), (14, 16), (15, 17), (16, 18), (18, 19), (19, 20), (21, 21), (22, 22), (24, 23), (25, 0)]
def zf7 : List (Nat × Int × Nat) := [(4, 1, 3), (9, 2, 8), (13, 3, 12), (17, 4, 16), (20, 5, 19), (23, 6, 22)]
theorem Ph.chg {bo bn m k : Nat} {S : List Nat} {w w' : World} {v : Value} (h : Ph bo bn m k w v) (hc : zm S w w') (hS : ∀ b e c, zV w b e c → b ∉ S) : Ph bo bn m k w' v := by
 unfold Ph at *
 split at h <;> first | exact h | exact SL.chg h hc hS
theorem Ph.indep {bo bn m b k : Nat} {w : World} {v : Value} (h0 : k ≠ 0) (h4 : k ≠ 24) (h5 : k ≠ 25) (h : Ph bo bn m k w v) : Ph bo bn b k w v := by
 unfold Ph at *
 split at h <;> first | exact h | exact absurd rfl h0 | exact absurd rfl h4 | exact absurd rfl h5
theorem zip {F : Fr} {d : Nat} {v : Value} (hd : d < 1000000) : get ((d, v) :: F) d = some v := zaE F d v (by
 cases hb : Nat.ble 1000000 d with
 | false => rfl
 | true => have := Nat.le_of_ble_eq_true hb; omega)
theorem zc4 {F : Fr} {d i : Nat} {v : Value} (h : d ≠ i) : get ((d, v) :: F) i = get F i := zbe F d i v (fun e => h e.symm)
theorem zeB {F : Fr} {d : Nat} {v : Value} (hd : d < 1000000) : zav ((d, v) :: F) = zav F := by
 have : Nat.ble 1000000 d = false := by
  cases hb : Nat.ble 1000000 d with
  | false => rfl
  | true => have := Nat.le_of_ble_eq_true hb; omega
 simp [zav, this]
theorem gD {listed : Array Bool} {i : Nat} (h : listed.getD i true = false) : listed.getD i false ≠ true := by
 rcases Nat.lt_or_ge i listed.size with h1 | h1
 ·simp [h1] at h ⊢
  exact h
 simp [Array.getElem?_eq_none h1] at h
theorem zjp {listed : Array Bool} {i : Nat} (h : i < listed.size) : (listed.setIfInBounds i true).getD i false = true := by simp [h]
theorem zi6 {F : Fr} {a : Nat} {u : Value} (h1 : get F a = some u) : zcz F [(0, .tmp a)] = some (yC 0 [u]) := by simp [zcz, ev, h1, yC]
theorem zgb {F : Fr} {a b : Nat} {u v : Value} (h1 : get F a = some u) (h2 : get F b = some v) : zcz F [(0, .tmp a), (1, .tmp b)] = some (yC 0 [u, v]) := by simp [zcz, ev, h1, h2, yC]
theorem zlw {F : Fr} {a b c : Nat} {u v x : Value} (h1 : get F a = some u) (h2 : get F b = some v) (h3 : get F c = some x) : zcz F [(0, .tmp a), (1, .tmp b), (2, .tmp c)] = some (yC 0 [u, v, x]) := by simp [zcz, ev, h1, h2, h3, yC]
theorem zce (n i : Nat) : ¬ (Array.replicate n false).getD i false = true := by
 rcases Nat.lt_or_ge i n with h | h
 ·simp [h]
 simp [Nat.not_lt.2 h]
def zjm : List Nat := [4, 9, 13, 17, 20, 23, 24, 25]
theorem zft : ∀ x ∈ zdQ, ∀ y ∈ zdQ, x.1 = y.1 → x = y := by decide
theorem zj5 : ∀ x ∈ zf7, x.1 ∈ zjm ∧ x.1 ≠ 0 := by decide
theorem zfT : ∀ x ∈ zdQ, ∀ y ∈ zdQ, x.2 = y.2 → x = y := by decide
theorem zgJ : ∀ x ∈ zf7, ∀ y ∈ zf7, x.1 = y.1 ∨ x.2.1 = y.2.1 → x = y := by decide
theorem zfU : ∀ x ∈ zf7, ∀ y ∈ zdQ, x.1 ≠ y.1 := by decide
structure KJ (w0 : World) (b1 b2 bo bn m : Nat) (es : List (Int × Value)) (listed : Array Bool) (F : Fr) (w : World) : Prop where
 chg : zm [] w0 w
 mf : zav F = []
 f1 : get F 1 = some (Pt b1)
 f2 : get F 2 = some (Pt b2)
 val : ∀ x ∈ zdQ, listed.getD x.1 false = true → ∃ v, get F x.2 = some v ∧ Ph bo bn m x.1 w v
 mp : listed.getD 0 false = true → zZ (zab .i64) w m es ∧ w0.heap.size ≤ m
 ent : ∀ x ∈ zf7, listed.getD x.1 false = true → ∃ v, yL es x.2.1 = some v ∧ Ph bo bn m x.2.2 w v
 keys : ∀ p ∈ es, 1 ≤ p.1 ∧ p.1 ≤ 6
 cl : ∀ k ∈ zjm, listed.getD k false = true → listed.getD 0 false = true
section
variable {w0 w w' : World} {b1 b2 bo bn m : Nat} {es : List (Int × Value)} {listed : Array Bool} {F : Fr}
theorem KJ.put (h : KJ w0 b1 b2 bo bn m es listed F w) {i d : Nat} {v : Value} (hi : (i, d) ∈ zdQ) (hv : Ph bo bn m i w' v) (hc : zm [] w w') (h0 : i ≠ 0) (hdep : i ∈ zjm → listed.getD 0 false = true) (hd : d ≠ 1 ∧ d ≠ 2 ∧ d < 1000000) : KJ w0 b1 b2 bo bn m es (listed.setIfInBounds i true) ((d, v) :: F) w' := by
 refine ⟨h.chg.trans hc, ?_, ?_, ?_, ?_, ?_, ?_, h.keys, ?_⟩
 ·rw [← h.mf]
  exact zeB hd.2.2
 ·rw [zc4 hd.1]
  exact h.f1
 ·rw [zc4 hd.2.1]
  exact h.f2
 ·intro x hx hl
  by_cases hxi : x.1 = i
  ·have : x = (i, d) := by
    by_cases hd2 : x.2 = d
    ·exact Prod.ext hxi hd2
    exact absurd (zft x hx (i, d) hi hxi) (fun e => hd2 (by rw [e]))
   subst this
   exact ⟨v, zip hd.2.2, hv⟩
  rw [getD_set_ne false (fun e => hxi e.symm)] at hl
  obtain ⟨u, h1, h2⟩ := h.val x hx hl
  have hne : d ≠ x.2 := fun e => hxi (congrArg Prod.fst (zfT x hx (i, d) hi e.symm))
  exact ⟨u, by rw [zc4 hne]; exact h1, h2.chg hc (by simp)⟩
 ·intro hl
  rw [getD_set_ne false h0] at hl
  exact ⟨(h.mp hl).1.chg0 hc, (h.mp hl).2⟩
 ·intro x hx hl
  rw [getD_set_ne false (fun e => zfU x hx (i, d) hi e.symm)] at hl
  obtain ⟨u, h1, h2⟩ := h.ent x hx hl
  exact ⟨u, h1, h2.chg hc (by simp)⟩
 intro k hk hl
 rw [getD_set_ne false h0]
 by_cases hki : k = i
 ·exact hdep (hki ▸ hk)
 rw [getD_set_ne false (fun e => hki e.symm)] at hl
 exact h.cl k hk hl
theorem KJ.ins (h : KJ w0 b1 b2 bo bn m es listed F w) {i so : Nat} {k : Int} {v : Value} (hi : (i, k, so) ∈ zf7) (hl0 : listed.getD 0 false = true) (hv : Ph bo bn m so w v) (hc : zm [m] w w') (hm : zZ (zab .i64) w' m (zat es k v)) (hk : 1 ≤ k ∧ k ≤ 6) : KJ w0 b1 b2 bo bn m (zat es k v) (listed.setIfInBounds i true) F w' := by
 obtain ⟨hm0, hmf⟩ := h.mp hl0
 have hS : ∀ b e c, zV w b e c → b ∉ [m] := fun b e c hb hmem => by
  simp at hmem
  exact hm0.ne hb hmem.symm
 refine ⟨h.chg.own hc (by intro y hy; simp at hy; omega), h.mf, h.f1, h.f2, ?_, fun _ => ⟨hm, hmf⟩, ?_, ?_, fun _ _ _ => getD_set_true hl0⟩
 ·intro x hx hl
  rw [getD_set_ne false (fun e => zfU (i, k, so) hi x hx e)] at hl
  obtain ⟨u, h1, h2⟩ := h.val x hx hl
  exact ⟨u, h1, h2.chg hc hS⟩
 ·intro x hx hl
  by_cases hxi : x.1 = i
  ·have := zgJ x hx (i, k, so) hi (.inl hxi)
   subst this
   exact ⟨v, by rw [zbu, if_pos rfl], hv.chg hc hS⟩
  rw [getD_set_ne false (fun e => hxi e.symm)] at hl
  obtain ⟨u, h1, h2⟩ := h.ent x hx hl
  have hne : k ≠ x.2.1 := fun e => hxi (congrArg Prod.fst (zgJ x hx (i, k, so) hi (.inr e.symm)))
  exact ⟨u, by rw [zbu, if_neg hne]; exact h1, h2.chg hc hS⟩
 intro p hp
 rcases zfD hp with rfl | hp
 ·exact hk
 exact h.keys p hp
end
theorem aft {listed : Array Bool} {o : Oper} (h : ∀ e ∈ o.after, Region.binds .any e = true → listed.getD e.on false = true) (j : Nat) (hj : (o.after.toList.any fun e => Region.binds .any e && Nat.beq e.on j) = true) : listed.getD j false = true := by
 obtain ⟨e, he, hb⟩ := List.any_eq_true.1 hj
 simp only [Bool.and_eq_true] at hb
 have := Nat.eq_of_beq_eq_true hb.2
 subst this
 exact h e (Array.mem_toList_iff.1 he) hb.1
def zkI (w : World) (m : Nat) (es : List (Int × Value)) (bo bn : Nat) : Prop := zZ (zab .i64) w m es ∧ (∀ x ∈ zf7, ∃ v, yL es x.2.1 = some v ∧ Ph bo bn m x.2.2 w v) ∧ (∀ p ∈ es, 1 ≤ p.1 ∧ p.1 ≤ 6) ∧
 zV w bo 169 [fnV 105 []] ∧ zV w bn 169 [fnV 106 []]
set_option maxHeartbeats 1000000 in
theorem ziA (w : World) : zO TP 73 #[] w fun r w' => ∃ m es bo bn, r = .map (some m) ∧ zkI w' m es bo bn ∧ zm [] w w' := by
 refine zO.of_W (args := []) Tryz.func73 rfl rfl rfl rfl ?_
 refine Sr (Oa rfl (za0 [] (F' := []) rfl (Sr ?_)))
 refine Oc zky rfl rfl rfl (ziX 105 _) ?_
 rintro v3 w3 ⟨bo, rfl, ko, ho, c3⟩
 refine zA (gn rfl) (zI zbY rfl rfl ?_)
 intro b1 w1 e1 n1 c1 k1
 refine zA (gn rfl) (zD zaJ rfl rfl rfl rfl k1 (by simp [zbC]) (by simp [zbC, fnV, Value.oneCell']) ?_)
 intro wA nA cA kA
 refine E1 1 rfl ?_
 have kA : zV wA b1 135 (zbC bo) := kA
 have hcA : zm [] w wA := (c3.trans c1).own cA (by intro y hy; have := c3.size; simp at hy; omega)
 have h1 := k1.lt
 have ho1 := ko.lt
 have ko := (ko.chg0 c1).chg cA (by simp; omega)
 refine Sr ?_
 refine Oc zky rfl rfl rfl (ziX 106 _) ?_
 rintro v4 w4 ⟨bn, rfl, kn, hn, c4⟩
 refine zA (gn rfl) (zI zbY rfl rfl ?_)
 intro b2 w2 e2 n2 c2 k2
 refine zA (gn rfl) (zD zaJ rfl rfl rfl rfl k2 (by simp [zbC]) (by simp [zbC, fnV, Value.oneCell']) ?_)
 intro wB nB cB kB
 refine E2 1 2 rfl ?_
 have kB : zV wB b2 135 (zbC bn) := kB
 have hcB : zm [] wA wB := (c4.trans c2).own cB (by intro y hy; have := c4.size; simp at hy; omega)
 have kA := kA.chg0 hcB
 have ko := ko.chg0 hcB
 have hn1 := kn.lt
 have kn := (kn.chg0 c2).chg cB (by simp; omega)
 have hcAB := hcA.trans hcB
 refine zh ?_
 refine zjQ (fun listed F w' => ∃ m es, KJ wB b1 b2 bo bn m es listed F w') mix (by kernel_rfl) ⟨0, [], ⟨zm.drew [] _, rfl, rfl, rfl, ?_, ?_, ?_, by simp, ?_⟩⟩ ?_ ?_
 ·intro x hx hl
  exact absurd hl (zce _ _)
 ·intro hl
  exact absurd hl (zce _ _)
 ·intro x hx hl
  exact absurd hl (zce _ _)
 ·intro k hk hl
  exact absurd hl (zce _ _)
 ·rintro listed F w' i o hs hoo hl haft ⟨m, es, h⟩
  have hi : i < 26 := (List.getElem?_eq_some_iff.1 hoo).1
  have hs26 : listed.size = 26 := hs
  have hcs : i ∈ List.range 26 := List.mem_range.2 hi
  simp only [show List.range 26 = [0, 1, 2, 3, 4, 5, 6, 7, 8, 9, 10, 11, 12, 13, 14, 15, 16, 17, 18, 19, 20, 21, 22, 23, 24, 25] from rfl, List.mem_cons, List.not_mem_nil, or_false] at hcs
  rcases hcs with rfl | rfl | rfl | rfl | rfl | rfl | rfl | rfl | rfl | rfl | rfl | rfl | rfl | rfl | rfl | rfl | rfl | rfl | rfl | rfl | rfl | rfl | rfl | rfl | rfl | rfl
  ·obtain rfl := Option.some.inj hoo
   refine ⟨gn rfl, zaF (zab .i64) rfl ?_⟩
   intro b w2 e n c k
   have hno : ∀ k ∈ zjm, listed.getD k false = true → False := fun k hk hk2 => gD hl (h.cl k hk hk2)
   refine ⟨b, [], ⟨h.chg.trans c, ?_, ?_, ?_, ?_, fun _ => ⟨k, by have := h.chg.size; omega⟩, ?_, by simp, fun _ _ _ => zjp (by omega)⟩⟩
   ·rw [← h.mf]; exact zeB (by decide)
   ·rw [zc4 (by decide)]; exact h.f1
   ·rw [zc4 (by decide)]; exact h.f2
   ·intro x hx hl2
    by_cases hx0 : x.1 = 0
    ·have : x = (0, 5) := zft x hx (0, 5) (by decide) hx0
     subst this
     exact ⟨_, zip (by decide), rfl⟩
    rw [getD_set_ne false (fun e => hx0 e.symm)] at hl2
    have hne : 5 ≠ x.2 := fun e => hx0 (congrArg Prod.fst (zfT x hx (0, 5) (by decide) e.symm))
    obtain ⟨u, h1, h2⟩ := h.val x hx hl2
    exact ⟨u, by rw [zc4 hne]; exact h1, (Ph.indep (b := b) hx0 (fun e => hno 24 (by decide) (e ▸ hl2)) (fun e => hno 25 (by decide) (e ▸ hl2)) h2).chg c (by simp)⟩
   intro x hx hl2
   obtain ⟨d1, d2⟩ := zj5 x hx
   rw [getD_set_ne false (fun e => d2 e.symm)] at hl2
   exact (hno x.1 d1 hl2).elim
  ·obtain rfl := Option.some.inj hoo
   refine ⟨gn rfl, yg zfN rfl rfl rfl rfl (zdV _) ?_⟩
   rintro v w2 ⟨rfl, c⟩
   exact ⟨m, es, h.put (by decide) rfl c (by decide) (fun hh => absurd hh (by decide)) (by decide)⟩
  ·obtain rfl := Option.some.inj hoo
   refine ⟨gn rfl, St.vl (zi zcH zaJ h.f2 rfl (zu.of_blk0 (kB.chg0 h.chg))) rfl rfl ?_⟩
   exact ⟨m, es, h.put (by decide) rfl (zm.refl _ _) (by decide) (fun hh => absurd hh (by decide)) (by decide)⟩
  ·obtain rfl := Option.some.inj hoo
   obtain ⟨u6, g6, p6⟩ := h.val (1, 6) (by decide) (aft haft 1 rfl)
   obtain rfl : u6 = _ := p6
   obtain ⟨u7, g7, p7⟩ := h.val (2, 7) (by decide) (aft haft 2 rfl)
   obtain rfl : u7 = _ := p7
   refine ⟨gn rfl, zv zeC rfl (vs := [_, _]) (zgb g6 g7) (css := [zbb, (zbC bn)]) ⟨rfl, rfl, trivial⟩ rfl rfl rfl rfl ?_⟩
   intro b w2 e n c k
   exact ⟨m, es, h.put (by decide) ⟨b, rfl, k⟩ c (by decide) (fun hh => absurd hh (by decide)) (by decide)⟩
  ·obtain rfl := Option.some.inj hoo
   obtain ⟨u5, g5, p5⟩ := h.val (0, 5) (by decide) (aft haft 0 rfl)
   obtain rfl : u5 = _ := p5
   obtain ⟨u, g, p⟩ := h.val (3, 8) (by decide) (aft haft 3 rfl)
   refine ⟨gn rfl, yj (κ := zab .i64) zdK (zS za4) g5 rfl g (h.mp (aft haft 0 rfl)).1 ?_⟩
   intro w2 n c k
   exact ⟨m, _, h.ins (by decide) (aft haft 0 rfl) p c k (by decide)⟩
  ·obtain rfl := Option.some.inj hoo
   refine ⟨gn rfl, yg zfN rfl rfl rfl rfl (zdV _) ?_⟩
   rintro v w2 ⟨rfl, c⟩
   exact ⟨m, es, h.put (by decide) rfl c (by decide) (fun hh => absurd hh (by decide)) (by decide)⟩
  ·obtain rfl := Option.some.inj hoo
   refine ⟨gn rfl, St.vl (zi zcH zaJ h.f1 rfl (zu.of_blk0 (kA.chg0 h.chg))) rfl rfl ?_⟩
   exact ⟨m, es, h.put (by decide) rfl (zm.refl _ _) (by decide) (fun hh => absurd hh (by decide)) (by decide)⟩
  ·obtain rfl := Option.some.inj hoo
   refine ⟨gn rfl, St.vl (zi zcH zaJ h.f2 rfl (zu.of_blk0 (kB.chg0 h.chg))) rfl rfl ?_⟩
   exact ⟨m, es, h.put (by decide) rfl (zm.refl _ _) (by decide) (fun hh => absurd hh (by decide)) (by decide)⟩
  ·obtain rfl := Option.some.inj hoo
   obtain ⟨u9, g9, p9⟩ := h.val (5, 9) (by decide) (aft haft 5 rfl)
   obtain rfl : u9 = _ := p9
   obtain ⟨u10, g10, p10⟩ := h.val (6, 10) (by decide) (aft haft 6 rfl)
   obtain rfl : u10 = _ := p10
   obtain ⟨u11, g11, p11⟩ := h.val (7, 11) (by decide) (aft haft 7 rfl)
   obtain rfl : u11 = _ := p11
   refine ⟨gn rfl, zv zeC rfl (vs := [_, _, _]) (zlw g9 g10 g11) (css := [zbb, (zbC bo), (zbC bn)]) ⟨rfl, rfl, rfl, trivial⟩ rfl rfl rfl rfl ?_⟩
   intro b w2 e n c k
   exact ⟨m, es, h.put (by decide) ⟨b, rfl, k⟩ c (by decide) (fun hh => absurd hh (by decide)) (by decide)⟩
  ·obtain rfl := Option.some.inj hoo
   obtain ⟨u5, g5, p5⟩ := h.val (0, 5) (by decide) (aft haft 0 rfl)
   obtain rfl : u5 = _ := p5
   obtain ⟨u, g, p⟩ := h.val (8, 12) (by decide) (aft haft 8 rfl)
   refine ⟨gn rfl, yj (κ := zab .i64) zdK (zS za4) g5 rfl g (h.mp (aft haft 0 rfl)).1 ?_⟩
   intro w2 n c k
   exact ⟨m, _, h.ins (by decide) (aft haft 0 rfl) p c k (by decide)⟩
  ·obtain rfl := Option.some.inj hoo
   refine ⟨gn rfl, yg zfN rfl rfl rfl rfl (zdV _) ?_⟩
   rintro v w2 ⟨rfl, c⟩
   exact ⟨m, es, h.put (by decide) rfl c (by decide) (fun hh => absurd hh (by decide)) (by decide)⟩
  ·obtain rfl := Option.some.inj hoo
   refine ⟨gn rfl, St.vl (zi zcH zaJ h.f1 rfl (zu.of_blk0 (kA.chg0 h.chg))) rfl rfl ?_⟩
   exact ⟨m, es, h.put (by decide) rfl (zm.refl _ _) (by decide) (fun hh => absurd hh (by decide)) (by decide)⟩
  ·obtain rfl := Option.some.inj hoo
   obtain ⟨u13, g13, p13⟩ := h.val (10, 13) (by decide) (aft haft 10 rfl)
   obtain rfl : u13 = _ := p13
   obtain ⟨u14, g14, p14⟩ := h.val (11, 14) (by decide) (aft haft 11 rfl)
   obtain rfl : u14 = _ := p14
   refine ⟨gn rfl, zv zeC rfl (vs := [_, _]) (zgb g13 g14) (css := [zbb, (zbC bo)]) ⟨rfl, rfl, trivial⟩ rfl rfl rfl rfl ?_⟩
   intro b w2 e n c k
   exact ⟨m, es, h.put (by decide) ⟨b, rfl, k⟩ c (by decide) (fun hh => absurd hh (by decide)) (by decide)⟩
  ·obtain rfl := Option.some.inj hoo
   obtain ⟨u5, g5, p5⟩ := h.val (0, 5) (by decide) (aft haft 0 rfl)
   obtain rfl : u5 = _ := p5
   obtain ⟨u, g, p⟩ := h.val (12, 15) (by decide) (aft haft 12 rfl)
   refine ⟨gn rfl, yj (κ := zab .i64) zdK (zS za4) g5 rfl g (h.mp (aft haft 0 rfl)).1 ?_⟩
   intro w2 n c k
   exact ⟨m, _, h.ins (by decide) (aft haft 0 rfl) p c k (by decide)⟩
  ·obtain rfl := Option.some.inj hoo
   refine ⟨gn rfl, yg zfN rfl rfl rfl rfl (zdV _) ?_⟩
   rintro v w2 ⟨rfl, c⟩
   exact ⟨m, es, h.put (by decide) rfl c (by decide) (fun hh => absurd hh (by decide)) (by decide)⟩
  ·obtain rfl := Option.some.inj hoo
   refine ⟨gn rfl, yg zmZ rfl rfl rfl rfl (zlf _) ?_⟩
   rintro v w2 ⟨rfl, c⟩
   exact ⟨m, es, h.put (by decide) rfl c (by decide) (fun hh => absurd hh (by decide)) (by decide)⟩
  ·obtain rfl := Option.some.inj hoo
   obtain ⟨u16, g16, p16⟩ := h.val (14, 16) (by decide) (aft haft 14 rfl)
   obtain rfl : u16 = _ := p16
   obtain ⟨u17, g17, p17⟩ := h.val (15, 17) (by decide) (aft haft 15 rfl)
   obtain rfl : u17 = _ := p17
   refine ⟨gn rfl, zv zeC rfl (vs := [_, _]) (zgb g16 g17) (css := [zbb, zjl]) ⟨rfl, rfl, trivial⟩ rfl rfl rfl rfl ?_⟩
   intro b w2 e n c k
   exact ⟨m, es, h.put (by decide) ⟨b, rfl, k⟩ c (by decide) (fun hh => absurd hh (by decide)) (by decide)⟩
  ·obtain rfl := Option.some.inj hoo
   obtain ⟨u5, g5, p5⟩ := h.val (0, 5) (by decide) (aft haft 0 rfl)
   obtain rfl : u5 = _ := p5
   obtain ⟨u, g, p⟩ := h.val (16, 18) (by decide) (aft haft 16 rfl)
   refine ⟨gn rfl, yj (κ := zab .i64) zdK (zS za4) g5 rfl g (h.mp (aft haft 0 rfl)).1 ?_⟩
   intro w2 n c k
   exact ⟨m, _, h.ins (by decide) (aft haft 0 rfl) p c k (by decide)⟩
  ·obtain rfl := Option.some.inj hoo
   refine ⟨gn rfl, yg zfN rfl rfl rfl rfl (zdV _) ?_⟩
   rintro v w2 ⟨rfl, c⟩
   exact ⟨m, es, h.put (by decide) rfl c (by decide) (fun hh => absurd hh (by decide)) (by decide)⟩
  ·obtain rfl := Option.some.inj hoo
   obtain ⟨u19, g19, p19⟩ := h.val (18, 19) (by decide) (aft haft 18 rfl)
   obtain rfl : u19 = _ := p19
   refine ⟨gn rfl, zv zeC rfl (vs := [_]) (zi6 g19) (css := [zbb]) ⟨rfl, trivial⟩ rfl rfl rfl rfl ?_⟩
   intro b w2 e n c k
   exact ⟨m, es, h.put (by decide) ⟨b, rfl, k⟩ c (by decide) (fun hh => absurd hh (by decide)) (by decide)⟩
  ·obtain rfl := Option.some.inj hoo
   obtain ⟨u5, g5, p5⟩ := h.val (0, 5) (by decide) (aft haft 0 rfl)
   obtain rfl : u5 = _ := p5
   obtain ⟨u, g, p⟩ := h.val (19, 20) (by decide) (aft haft 19 rfl)
   refine ⟨gn rfl, yj (κ := zab .i64) zdK (zS za4) g5 rfl g (h.mp (aft haft 0 rfl)).1 ?_⟩
   intro w2 n c k
   exact ⟨m, _, h.ins (by decide) (aft haft 0 rfl) p c k (by decide)⟩
  ·obtain rfl := Option.some.inj hoo
   refine ⟨gn rfl, yg zl9 rfl rfl rfl rfl (zkJ _) ?_⟩
   rintro v w2 ⟨rfl, c⟩
   exact ⟨m, es, h.put (by decide) rfl c (by decide) (fun hh => absurd hh (by decide)) (by decide)⟩
  ·obtain rfl := Option.some.inj hoo
   obtain ⟨u21, g21, p21⟩ := h.val (21, 21) (by decide) (aft haft 21 rfl)
   obtain rfl : u21 = _ := p21
   refine ⟨gn rfl, zv zeC rfl (vs := [_]) (zi6 g21) (css := [zjg]) ⟨rfl, trivial⟩ rfl rfl rfl rfl ?_⟩
   intro b w2 e n c k
   exact ⟨m, es, h.put (by decide) ⟨b, rfl, k⟩ c (by decide) (fun hh => absurd hh (by decide)) (by decide)⟩
  ·obtain rfl := Option.some.inj hoo
   obtain ⟨u5, g5, p5⟩ := h.val (0, 5) (by decide) (aft haft 0 rfl)
   obtain rfl : u5 = _ := p5
   obtain ⟨u, g, p⟩ := h.val (22, 22) (by decide) (aft haft 22 rfl)
   refine ⟨gn rfl, yj (κ := zab .i64) zdK (zS za4) g5 rfl g (h.mp (aft haft 0 rfl)).1 ?_⟩
   intro w2 n c k
   exact ⟨m, _, h.ins (by decide) (aft haft 0 rfl) p c k (by decide)⟩
  ·obtain rfl := Option.some.inj hoo
   obtain ⟨u, g, p⟩ := h.val (0, 5) (by decide) (aft haft 0 rfl)
   obtain rfl : u = _ := p
   refine ⟨gn rfl, St.vl (zae g) rfl rfl ?_⟩
   exact ⟨m, es, h.put (by decide) rfl (zm.refl _ _) (by decide) (fun _ => aft haft 0 rfl) (by decide)⟩
  obtain rfl := Option.some.inj hoo
  obtain ⟨u, g, p⟩ := h.val (24, 23) (by decide) (aft haft 24 rfl)
  obtain rfl : u = _ := p
  refine ⟨gn rfl, St.vl (yW g) rfl rfl ?_⟩
  exact ⟨m, es, h.put (by decide) rfl (zm.refl _ _) (by decide) (fun _ => h.cl 24 (by decide) (aft haft 24 rfl)) (by decide)⟩
 rintro listed F w' hall ⟨m, es, h⟩
 obtain ⟨v, g, p⟩ := h.val (25, 0) (by decide) (hall 25 (by decide))
 obtain rfl : v = _ := p
 have hF : prune [0] F = [(0, .map (some m))] := by
  show (match get F 0 with | some v => (0, v) :: prune [] F | none => prune [] F) = _
  rw [g]
  show (0, Value.map (some m)) :: zav F = _
  rw [h.mf]
 refine zbE [0] hF ?_
 refine zj ?_
 refine zx rfl rfl ?_
 exact ⟨m, es, bo, bn, rfl, ⟨(h.mp (hall 0 (by decide))).1, fun x hx => h.ent x hx (hall x.1 (by revert x; decide)), h.keys, ko.chg0 h.chg, kn.chg0 h.chg⟩, hcAB.trans h.chg⟩
theorem zjH {α : Type} {f : α → List Value} (hf : ∀ x, (f x).length = 3) (v : Value) (l : List α) (p : α → Bool) (g : Nat) (lb : List Value) (w : World) (hl : yq w 135 3 f v l) (hn : l.length ≤ 1048576) (hg : zl TP g = true)
 (hp : ∀ x ∈ l, ∀ w1, zm [] w w1 → zO TP g (Value.agg (f x).toArray :: lb).toArray w1 fun r w2 => r = .bool (p x) ∧ zm [] w1 w2) :
 zO TP 112 #[v, .func (.func g) #[] lb.toArray] w fun r w' => ∃ i : Int, r = Ii i ∧ decide (0 ≤ i) = l.any p ∧ zm [] w w' := by
 obtain ⟨pv, cv, hval, hle⟩ := yq.val hl
 refine A2 Tryz.func112 rfl rfl ?_
 refine Sr (Oa rfl (E2 0 1 rfl (zh (zh ?_))))
 subst hval
 refine zd (Om rfl (On ziS rfl (Om rfl (E4 0 1 7 8 rfl (zn ?_)))))
 refine ye [0, 1, 7, 8] (fun m F wx => ∃ j : Nat, m = l.length - j ∧ j ≤ l.length ∧ F = [(0, .slice pv l.length cv), (1, .func (.func g) #[] lb.toArray), (7, Ii l.length), (8, Ii j)] ∧ zm [] w wx ∧ (l.take j).any p = false) (m := l.length - 0) ⟨0, rfl, Nat.zero_le _, rfl, zm.refl _ _, by simp⟩ ?_
 rintro m F wx ⟨j, rfl, hj, rfl, hcx, hno⟩
 refine Sr (Og (zE rfl rfl) rfl (E5 0 1 7 8 9 rfl (zh ?_)))
 refine yh rfl (fun hT => ?_) (fun hF => ?_)
 ·refine zq ?_
  have hlt : j < l.length := by have := of_decide_eq_true hT; omega
  have hx : l[j]? = some l[j] := by simp [hlt]
  generalize l[j] = x at hx
  obtain ⟨b, off, cap, hv, hcell⟩ := yq.at hf (yq.chg0 hl hcx) hx
  cases hv
  refine zh (zn (Sr (Om rfl (Oa rfl (E5 0 1 5 7 8 rfl (Sr (Om rfl (Om rfl (Om rfl ?_)))))))))
  refine Og (ze ziS zaJ rfl rfl _ rfl hlt) rfl ?_
  refine Og (zi zcH zaJ rfl (hf _) hcell) rfl ?_
  refine Oc hg rfl rfl rfl (hp x (List.mem_of_getElem? hx) _ hcx) ?_
  rintro v16 w16 ⟨rfl, c16⟩
  refine E6 0 1 5 7 8 16 rfl ?_
  cases hpx : p x with
  | true =>
   refine zg rfl (Sr (Om rfl (Oa rfl (E1 4 rfl (zj ?_)))))
   repeat first | refine tr ?_ | refine br ?_
   refine zx rfl rfl ?_
   exact ⟨_, rfl, by rw [zgC hx hpx]; simp, hcx.trans c16⟩
  | false =>
   refine zf rfl (yd (zk (zd ?_)))
   refine Og (zR rfl rfl (by omega)) rfl ?_
   refine Om rfl (N4 0 1 7 8 rfl ?_)
   exact ⟨l.length - (j + 1), by omega, j + 1, rfl, by omega, rfl, hcx.trans c16, zfe hx hpx hno⟩
 refine zP ?_
 repeat first | refine te ?_ | refine bo rfl ?_
 refine zp _ ?_
 have he : l.length ≤ j := by have := of_decide_eq_false hF; omega
 refine Sr (Oa rfl (E1 4 rfl (zj ?_)))
 repeat first | refine tr ?_ | refine br ?_
 refine zx rfl rfl ?_
 rw [List.take_of_length_le he] at hno
 exact ⟨_, rfl, by rw [hno]; rfl, hcx⟩
theorem zgU {α : Type} {f : α → List Value} (hf : ∀ x, (f x).length = 3) (v : Value) (l : List α) (p : α → Bool) (g : Nat) (lb : List Value) (w : World) (hl : yq w 135 3 f v l) (hn : l.length ≤ 1048576) (hg : zl TP g = true)
 (hp : ∀ x ∈ l, ∀ w1, zm [] w w1 → zO TP g (Value.agg (f x).toArray :: lb).toArray w1 fun r w2 => r = .bool (p x) ∧ zm [] w1 w2) :
 zO TP 76 #[v, .func (.func g) #[] lb.toArray] w fun r w' => r = .bool (l.any p) ∧ zm [] w w' := by
 refine A2 Tryz.func76 rfl rfl ?_
 refine Sr (Oa rfl (E2 0 1 rfl (Sr (Om rfl (Om rfl ?_)))))
 refine Oc zl5 rfl rfl rfl (zjH hf v l p g lb _ hl hn hg hp) ?_
 rintro v7 w7 ⟨i, rfl, hi, c7⟩
 refine Og (yw rfl rfl) rfl ?_
 refine Oa rfl (E1 4 rfl (zj ?_))
 refine zx rfl rfl ?_
 exact ⟨by rw [← hi], c7⟩
theorem zhS (s : ByteArray) : zbd ⟨s, 3, 0, true⟩ yx.null = if ym s then 0 else 2 := by
 have h1 : zaA ⟨s, 3, 0, true⟩ = ym s := by simp [zaA]
 have h2 : zcE yx.null = 0 := by decide
 cases h : ym s with
 | false => rw [zgW (h1.trans h)]; rfl
 | true => rw [zeM (h1.trans h) h2 rfl]; rfl
theorem zjL (c : Col) (x : yx) (w : World) (hE : EOk w) (hx : x.Rng) : zO TP 172 #[c.v, x.v] w fun r w' => r = Ii (zbd c x) ∧ zm [] w w' := by
 refine A2 Tryz.func172 rfl rfl ?_
 refine Sr ?_
 refine Ob rfl rfl ?_
 intro b2 w2 e2 n2 c2 k2
 refine Ob rfl rfl ?_
 intro b3 w3 e3 n3 c3 k3
 refine Oa rfl (E2 2 3 rfl ?_)
 have k2 : zV w3 b2 163 c.cs := k2.chg0 c3
 have k3 : zV w3 b3 62 x.cs := k3
 have hcc := c2.trans c3
 refine Sr ?_
 refine Og (zi zf3 zdU rfl rfl (zu.of_blk0 k2)) rfl ?_
 refine Og (zi zbU yM rfl rfl (zu.of_blk0 k3)) rfl ?_
 refine Oc zmz rfl rfl rfl (zlr c x _ hx) ?_
 rintro v7 w7 ⟨h7, c7⟩
 refine Oc zme rfl rfl rfl (zlu _ (zbd c x) _ ((hE.chg0 hcc).chg0 c7) h7.weak) ?_
 rintro v8 w8 ⟨rfl, c8⟩
 refine Oa rfl (E1 4 rfl (zj ?_))
 refine zx rfl rfl ?_
 exact ⟨rfl, (hcc.trans c7).trans c8⟩
theorem ziJ (s : ByteArray) (w : World) (hE : EOk w) : zO TP 136 #[.string s] w fun r w' => r = .bool (ym s) ∧ zm [] w w' := by
 refine A1 Tryz.func136 rfl rfl ?_
 refine Sr (Oa rfl (E1 0 rfl (Sr (Om rfl ?_))))
 refine Og (zaq zlD zlL rfl (qs := [(0, _), (1, _), (3, _)]) rfl (css := [_, _, _]) ⟨rfl, rfl, rfl, trivial⟩ (cs := [_, _, _, _]) rfl) rfl ?_
 refine Og (zM zh1 zdP rfl (vs := []) rfl (css := []) trivial rfl rfl (cs := [_, _, _, _]) rfl) rfl ?_
 refine Oc zl3 rfl rfl rfl (zjL ⟨s, 3, 0, true⟩ yx.null _ hE ⟨by decide, by decide, by decide⟩) ?_
 rintro v6 w6 ⟨rfl, c6⟩
 refine Og (zw rfl rfl) rfl (Oa rfl (E1 2 rfl (zj ?_)))
 refine zx rfl rfl ?_
 refine ⟨?_, c6⟩
 rw [zhS]
 cases ym s <;> rfl
def evC (k : Int) (t : ByteArray) (c ky u o n nm : Value) : List Value := [Ii k, .string t, c, ky, u, o, n, nm]
theorem zhx (k : Int) (t : ByteArray) (c ky u o n nm : Value) (w : World) (hE : EOk w) : zO TP 135 #[.agg (evC k t c ky u o n nm).toArray] w fun r w' => r = .bool (ym t) ∧ zm [] w w' := by
 refine A1 Tryz.func135 rfl rfl ?_
 refine Sr ?_
 refine Ob rfl rfl ?_
 intro b1 w1 e1 n1 c1 k1
 refine Oa rfl (E1 1 rfl ?_)
 have k1 : zV w1 b1 100 (evC k t c ky u o n nm) := k1
 refine Sr (Od zdr rfl ?_)
 refine Ol yt rfl (k1.cell' (i := 1) rfl) ?_
 refine Oc zmF rfl rfl rfl (ziJ t _ (hE.chg0 c1)) ?_
 rintro v5 w5 ⟨rfl, c5⟩
 refine Oa rfl (E1 2 rfl (zj ?_))
 refine zx rfl rfl ?_
 exact ⟨rfl, c1.trans c5⟩
theorem zex (k : Int) (t : ByteArray) (c ky u o n nm : Value) (b : Nat) (w : World) (hE : EOk w) (hb : zV w b 100 (evC k t c ky u o n nm)) : zO TP 77 #[.agg zbb.toArray, Pt b] w fun r w' => r = .bool (!ym t) ∧ zm [] w w' := by
 refine A2 Tryz.func77 rfl rfl ?_
 refine Sr ?_
 refine Ob rfl rfl ?_
 intro b2 w2 e2 n2 c2 k2
 refine Oa rfl (E2 1 2 rfl ?_)
 have k2 : zV w2 b2 135 zbb := k2
 refine Sr (Od zjs rfl ?_)
 refine Ol zmo rfl (k2.cell' (i := 0) rfl) ?_
 refine Og (zi zdm zb2 rfl rfl (zu.of_blk0 (hb.chg0 c2))) rfl ?_
 refine Oc zlG rfl rfl rfl (zhx k t c ky u o n nm _ (hE.chg0 c2)) ?_
 rintro v7 w7 ⟨rfl, c7⟩
 refine Og (zL rfl) rfl (Oa rfl (E1 3 rfl (zj ?_)))
 refine zx rfl rfl ?_
 exact ⟨rfl, c2.trans c7⟩
theorem zjY (w : World) : zO TP 99 #[zH, zH] w fun r w' => r = .bool true ∧ zm [] w w' := by
 refine A2 Tryz.func99 rfl rfl ?_
 refine Sr (Oa rfl (E2 0 1 rfl (zh (Sr (Om rfl (On zjx rfl (Om rfl (On zjx rfl ?_))))))))
 refine Og (vf (zG rfl rfl) (zau rfl)) rfl ?_
 refine E3 0 1 10 rfl (zf rfl (zq (zh (Sr (Om rfl (On zjx rfl (Om rfl (E4 0 1 12 13 rfl (zn ?_)))))))))
 refine ye [0, 1, 12, 13] (fun m F wx => F = [(0, zH), (1, zH), (12, Ii 0), (13, Ii 0)] ∧ wx = w) (m := 0) ⟨rfl, rfl⟩ ?_
 rintro m F wx ⟨rfl, rfl⟩
 refine Sr ?_
 refine Og (vf (zE rfl rfl) (decide_eq_false (by omega))) rfl ?_
 refine E5 0 1 12 13 14 rfl (zh (zf rfl ?_))
 refine zP ?_
 repeat first | refine te ?_ | refine bo rfl ?_
 refine zp _ ?_
 refine Sr (Oa rfl (E1 4 rfl (zj ?_)))
 repeat first | refine tr ?_ | refine br ?_
 refine zx rfl rfl ?_
 exact ⟨rfl, zm.refl _ _⟩
theorem zeh (w : World) : zO TP 103 #[zH, zH] w fun r w' => r = .bool true ∧ zm [] w w' := by
 refine A2 Tryz.func103 rfl rfl ?_
 refine Sr (Oa rfl (E2 0 1 rfl (zh (Sr (Om rfl (On zjy rfl (Om rfl (On zjy rfl ?_))))))))
 refine Og (vf (zG rfl rfl) (zau rfl)) rfl ?_
 refine E3 0 1 10 rfl (zf rfl (zq (zh (Sr (Om rfl (On zjy rfl (Om rfl (E4 0 1 12 13 rfl (zn ?_)))))))))
 refine ye [0, 1, 12, 13] (fun m F wx => F = [(0, zH), (1, zH), (12, Ii 0), (13, Ii 0)] ∧ wx = w) (m := 0) ⟨rfl, rfl⟩ ?_
 rintro m F wx ⟨rfl, rfl⟩
 refine Sr ?_
 refine Og (vf (zE rfl rfl) (decide_eq_false (by omega))) rfl ?_
 refine E5 0 1 12 13 14 rfl (zh (zf rfl ?_))
 refine zP ?_
 repeat first | refine te ?_ | refine bo rfl ?_
 refine zp _ ?_
 refine Sr (Oa rfl (E1 4 rfl (zj ?_)))
 repeat first | refine tr ?_ | refine br ?_
 refine zx rfl rfl ?_
 exact ⟨rfl, zm.refl _ _⟩
theorem zkj (w : World) : zO TP 69 #[zH, zH] w fun r w' => r = .bool true ∧ zm [] w w' := by
 refine A2 Tryz.func69 rfl rfl ?_
 refine Sr (Oa rfl (E2 0 1 rfl (Sr (Om rfl (Om rfl ?_)))))
 refine Oc zkG rfl rfl rfl (zeL zH zH [] [] _ (yq.nil _ _ _ _) (yq.nil _ _ _ _) (by simp) (by simp)) ?_
 rintro v7 w7 ⟨rfl, c7⟩
 refine Oa rfl (E1 4 rfl (zj ?_))
 refine zx rfl rfl ?_
 exact ⟨rfl, c7⟩
theorem zmN (w : World) : zO TP 70 #[zH, zH] w fun r w' => r = .bool true ∧ zm [] w w' := by
 refine A2 Tryz.func70 rfl rfl ?_
 refine Sr (Oa rfl (E2 0 1 rfl (Sr (Om rfl (Om rfl ?_)))))
 refine Oc zna rfl rfl rfl (zjY _) ?_
 rintro v7 w7 ⟨rfl, c7⟩
 refine Oa rfl (E1 4 rfl (zj ?_))
 refine zx rfl rfl ?_
 exact ⟨rfl, c7⟩
theorem zmg (w : World) : zO TP 72 #[zH, zH] w fun r w' => r = .bool true ∧ zm [] w w' := by
 refine A2 Tryz.func72 rfl rfl ?_
 refine Sr (Oa rfl (E2 0 1 rfl (Sr (Om rfl (Om rfl ?_)))))
 refine Oc zkA rfl rfl rfl (zeh _) ?_
 rintro v7 w7 ⟨rfl, c7⟩
 refine Oa rfl (E1 4 rfl (zj ?_))
 refine zx rfl rfl ?_
 exact ⟨rfl, c7⟩
theorem zkg (w : World) : zO TP 110 #[zH, zH] w fun r w' => r = .bool true ∧ zm [] w w' := by
 refine A2 Tryz.func110 rfl rfl ?_
 refine Sr (Oa rfl (E2 0 1 rfl (Sr (Om rfl (Om rfl ?_)))))
 refine Oc zkG rfl rfl rfl (zeL zH zH [] [] _ (yq.nil _ _ _ _) (yq.nil _ _ _ _) (by simp) (by simp)) ?_
 rintro v7 w7 ⟨rfl, c7⟩
 refine Oa rfl (E1 4 rfl (zj ?_))
 refine zx rfl rfl ?_
 exact ⟨rfl, c7⟩
theorem zlY (w : World) : zO TP 111 #[zH, zH] w fun r w' => r = .bool true ∧ zm [] w w' := by
 refine A2 Tryz.func111 rfl rfl ?_
 refine Sr (Oa rfl (E2 0 1 rfl (Sr (Om rfl (Om rfl ?_)))))
 refine Oc zkA rfl rfl rfl (zeh _) ?_
 rintro v7 w7 ⟨rfl, c7⟩
 refine Oa rfl (E1 4 rfl (zj ?_))
 refine zx rfl rfl ?_
 exact ⟨rfl, c7⟩
def zgd : Sch := ⟨[], [], []⟩
theorem zdq (w : World) : zei w zH zH zH zgd := ⟨yq.nil _ _ _ _, yq.nil _ _ _ _, zci.nil _ _ _ _ _⟩
theorem zdx : zgd.Sm := by constructor <;> simp [zgd]
def zaY (t : ByteArray) : List Value := evC 5 t zH zH zH zH zH zH
theorem zfl (t : ByteArray) (w : World) : zO TP 74 #[.agg (zaY t).toArray, .agg (zaY t).toArray] w fun r w' => r = .bool true ∧ zm [] w w' := by
 refine A2 Tryz.func74 rfl rfl ?_
 refine Sr ?_
 refine Ob rfl rfl ?_
 intro b2 w2 e2 n2 c2 k2
 refine Ob rfl rfl ?_
 intro b3 w3 e3 n3 c3 k3
 refine Oa rfl (E2 2 3 rfl ?_)
 have k2 : zV w3 b2 100 (zaY t) := k2.chg0 c3
 have k3 : zV w3 b3 100 (zaY t) := k3
 have hcc := c2.trans c3
 refine Sr (Od zb8 rfl ?_)
 refine Ol zhm rfl (k2.cell' (i := 0) rfl) ?_
 refine Od zb8 rfl ?_
 refine Ol zhm rfl (k3.cell' (i := 0) rfl) ?_
 refine Og (vt (zw rfl rfl) (decide_eq_true (by omega))) rfl ?_
 refine Om rfl ?_
 refine Oy rfl rfl (za zdr rfl) ?_
 refine Oy rfl rfl (zb yt rfl (k2.cell' (i := 1) rfl)) ?_
 refine Oy rfl rfl (za zdr rfl) ?_
 refine Oy rfl rfl (zb yt rfl (k3.cell' (i := 1) rfl)) ?_
 refine Oy rfl rfl (vt (zcA rfl rfl) (by simp)) ?_
 refine Ot rfl (Om rfl ?_)
 refine Oy rfl rfl (za zhe rfl) ?_
 refine Oy rfl rfl (zi zjh zj2 rfl rfl (zu.of_blk k2 2 [zH, zH, zH] ⟨[zH, zH, zH], rfl⟩)) ?_
 refine Oy rfl rfl (za zhe rfl) ?_
 refine Oy rfl rfl (zi zjh zj2 rfl rfl (zu.of_blk k3 2 [zH, zH, zH] ⟨[zH, zH, zH], rfl⟩)) ?_
 refine Ow rfl rfl zmi rfl rfl rfl (ziT zH zH zH zH zH zH zgd zgd _ (zdq _) (zdq _) zdx zdx) ?_
 rintro v22 w22 ⟨e22, c22⟩
 rw [decide_eq_true rfl] at e22
 subst e22
 refine Ot rfl (Om rfl ?_)
 refine Oy rfl rfl (za zgX rfl) ?_
 refine Oy rfl rfl (zb yz rfl ((k2.chg0 c22).cell' (i := 5) rfl)) ?_
 refine Oy rfl rfl (za zgX rfl) ?_
 refine Oy rfl rfl (zb yz rfl ((k3.chg0 c22).cell' (i := 5) rfl)) ?_
 refine Ow rfl rfl zki rfl rfl rfl (zkg _) ?_
 rintro v29 w29 ⟨rfl, c29⟩
 refine Ot rfl (Om rfl ?_)
 refine Oy rfl rfl (za zhh rfl) ?_
 refine Oy rfl rfl (zb yz rfl (((k2.chg0 c22).chg0 c29).cell' (i := 6) rfl)) ?_
 refine Oy rfl rfl (za zhh rfl) ?_
 refine Oy rfl rfl (zb yz rfl (((k3.chg0 c22).chg0 c29).cell' (i := 6) rfl)) ?_
 refine Ow rfl rfl zki rfl rfl rfl (zkg _) ?_
 rintro v36 w36 ⟨rfl, c36⟩
 refine Ot rfl (Om rfl ?_)
 refine Oy rfl rfl (za zgE rfl) ?_
 refine Oy rfl rfl (zb zh5 rfl ((((k2.chg0 c22).chg0 c29).chg0 c36).cell' (i := 7) rfl)) ?_
 refine Oy rfl rfl (za zgE rfl) ?_
 refine Oy rfl rfl (zb zh5 rfl ((((k3.chg0 c22).chg0 c29).chg0 c36).cell' (i := 7) rfl)) ?_
 refine Ow rfl rfl zmj rfl rfl rfl (zlY _) ?_
 rintro v43 w43 ⟨rfl, c43⟩
 refine Ot rfl (Oa rfl (E1 4 rfl (zj ?_)))
 refine zx rfl rfl ?_
 exact ⟨rfl, (((hcc.trans c22).trans c29).trans c36).trans c43⟩
theorem zfu (t : ByteArray) (w : World) : zO TP 75 #[.agg (zaY t).toArray] w fun r w' => r = .agg (zaY t).toArray ∧ zm [] w w' := by
 refine A1 Tryz.func75 rfl rfl ?_
 refine Sr ?_
 refine Ob rfl rfl ?_
 intro b1 w1 e1 n1 c1 k1
 refine zA (gn rfl) (zI zfB rfl rfl ?_)
 intro b2 w2 e2 n2 c2 k2
 refine E2 1 2 rfl ?_
 have k1 : zV w2 b1 100 (zaY t) := k1.chg0 c2
 have hs1 := c1.size
 have hs2 := c2.size
 refine Sr (Od zb8 rfl ?_)
 refine Ol zhm rfl (k1.cell' (i := 0) rfl) ?_
 refine Od zdr rfl ?_
 refine Ol yt rfl (k1.cell' (i := 1) rfl) ?_
 refine Og (zM zkt zfB rfl (vs := [_, _]) rfl (css := [_, _]) ⟨rfl, rfl, trivial⟩ rfl rfl (cs := [_, _, _, _, _, _, _, _]) rfl) rfl ?_
 refine zA (gn rfl) (zI zfB rfl rfl ?_)
 intro b3 w3 e3 n3 c3 k3
 refine zA (gn rfl) (zD zb2 rfl rfl rfl rfl k3 (by simp) (by simp [Value.oneCell']) ?_)
 intro wA nA cA kA
 refine E3 1 2 3 rfl ?_
 have kA : zV wA b3 100 (zaY t) := kA
 have k1l := k1.lt
 have k1 := (k1.chg0 c3).chg cA (by simp; omega)
 have k2l := k2.lt
 have k2 := (k2.chg0 c3).chg cA (by simp; omega)
 refine zh (Sr (Od zb8 rfl ?_))
 refine Ol zhm rfl (k1.cell' (i := 0) rfl) ?_
 refine E4 1 2 3 10 rfl (zn (zh (zn (zh (zn (zh (zn (zh (zn (zh (zn (zh (zh ?_)))))))))))))
 refine Sr ?_
 refine Og (vf (zw rfl rfl) (decide_eq_false (by omega))) rfl ?_
 refine Oa rfl (E5 1 2 3 10 11 rfl (zf rfl (zq (zh (Sr ?_)))))
 refine Og (vf (zw rfl rfl) (decide_eq_false (by omega))) rfl ?_
 refine Oa rfl (E5 1 2 3 10 13 rfl (zf rfl (zq (zh (Sr ?_)))))
 refine Og (vf (zw rfl rfl) (decide_eq_false (by omega))) rfl ?_
 refine Oa rfl (E5 1 2 3 10 15 rfl (zf rfl (zq (zh (Sr ?_)))))
 refine Og (vf (zw rfl rfl) (decide_eq_false (by omega))) rfl ?_
 refine Oa rfl (E5 1 2 3 10 17 rfl (zf rfl (zq (Sr ?_))))
 refine Og (vf (zw rfl rfl) (decide_eq_false (by omega))) rfl ?_
 refine Oa rfl (E4 1 2 3 19 rfl (zf rfl (zq ?_)))
 refine zP ?_
 repeat first | refine te ?_ | refine bo rfl ?_
 refine zp _ ?_
 refine Sr ?_
 refine Og (zi zdm zb2 rfl rfl (zu.of_blk0 kA)) rfl ?_
 refine zA (gn rfl) (zD zb2 rfl rfl rfl rfl k2 (by simp [zaY, evC]) (by simp [zaY, evC, zH, Value.oneCell']) ?_)
 intro wB nB cB kB
 refine E1 2 rfl ?_
 have kB : zV wB b2 100 (zaY t) := kB
 refine zj ?_
 refine zcW rfl zdm zb2 rfl rfl (zu.of_blk0 kB) ?_
 have h3 : w2.heap.size ≤ b3 := by omega
 exact ⟨rfl, (((c1.trans c2).trans c3).own cA (by intro y hy; simp at hy; omega)).own cB (by intro y hy; simp at hy; omega)⟩
theorem zez (t : ByteArray) (w : World) (hE : EOk w) : zO TP 59 #[.agg (zaY t).toArray] w fun r w' => r = Ii (if ym t then 0 else 2) ∧ zm [] w w' := by
 refine A1 Tryz.func59 rfl rfl ?_
 refine Sr ?_
 refine Ob rfl rfl ?_
 intro b1 w1 e1 n1 c1 k1
 refine Oa rfl (E1 1 rfl ?_)
 have k1 : zV w1 b1 100 (zaY t) := k1
 have hd1 : zm [] w1 w1.drew := zm.drew [] _
 refine z5 (fun F wx => ∃ v, F = [(1, Pt b1), (3, v), (4, .bool true)] ∧ SL wx v [zbb] ∧ zm [] w1 wx) ?_ ?_
 ·refine W_draw (fun wz => zm [] w1 wz) mix (by kernel_rfl) hd1 ?_
  refine Tc znG rfl rfl rfl (ziA _) ?_
  rintro v6 w6 ⟨mm, es, bo, bn, rfl, hK, c6⟩
  obtain ⟨v5, g5, p5⟩ := hK.2.1 (20, 5, 19) (by decide)
  refine ⟨.inl (hd1.trans c6), ?_⟩
  refine Td zb8 rfl ?_
  refine Tr (fun wz hz => zb zhm rfl ((k1.chg0 hz).cell' (i := 0) rfl)) rfl ?_
  refine t_st rfl (gn rfl) (St.vl (zek (κ := zab .i64) zdK (zS za4) zlI rfl rfl hK.1 g5) rfl rfl ?_)
  refine ⟨.inl (hd1.trans c6), ?_⟩
  refine Tm rfl ?_
  refine Tp (fun _ => z2 rfl rfl) rfl ?_
  refine Tp (fun _ => z2 rfl rfl) rfl ?_
  refine Ta rfl (Ta rfl (D3 1 3 4 rfl ?_))
  exact ⟨_, rfl, p5, hd1.trans c6⟩
 rintro F wx ⟨v, rfl, ⟨bs, rfl, hsl⟩, hcx⟩
 have k1 := k1.chg0 hcx
 have hd : zm [] wx wx.drew := zm.drew [] _
 have hEx := (hE.chg0 c1).chg0 hcx
 have htab : ∀ u ∈ zbb, u.oneCell' = true := by
  intro u h
  simp only [zbb, List.mem_cons, List.not_mem_nil, or_false] at h
  rcases h with rfl | rfl | rfl <;> rfl
 have har : ∀ {wz : World}, zm [] wx wz → yq wz 135 3 (fun _ : Nat => zbb) (.slice (some ⟨bs, 0, none⟩) 1 1) [0] := fun hz => zB.toRd (zB.of_blk (n := 1) (e := 135) (hsl.chg0 hz) rfl (by simp [maxLen]) (fun u hu => htab u (by simpa [fl] using hu)))
 refine zh (zh ?_)
 cases hn : ym t with
 | true =>
  refine W_draw (fun wz => zm [] wx wz) mix (yX (by kernel_rfl)) hd ?_
  refine Tm rfl ?_
  refine Tp (fun _ => zL rfl) rfl ?_
  refine Tm rfl ?_
  refine Ts rfl rfl (fun wz hz => zi zdm zb2 rfl rfl (zu.of_blk0 (k1.chg0 hz))) rfl ?_
  refine Ts rfl rfl (fun wz hz => zi zdm zb2 rfl rfl (zu.of_blk0 (k1.chg0 hz))) rfl ?_
  refine Tv rfl rfl zlJ rfl rfl rfl (zfu t _) ?_
  rintro v17 w17 ⟨rfl, c17⟩
  refine ⟨.inl (hd.trans c17), ?_⟩
  refine Tv rfl rfl zmw rfl rfl rfl (zfl t _) ?_
  rintro v18 w18 ⟨rfl, c18⟩
  refine ⟨.inl ((hd.trans c17).trans c18), ?_⟩
  refine Tg rfl rfl (fun _ => zL rfl) rfl ?_
  refine Tp (fun _ => zz rfl rfl) rfl ?_
  refine Tm rfl (Tq rfl rfl rfl ?_)
  refine Tg rfl rfl (fun _ => zbf rfl rfl) rfl ?_
  refine Tv rfl rfl zml rfl rfl rfl (zgU (fun _ => rfl) _ [0] (fun _ => !ym t) 77 [Pt b1] _ (har ((hd.trans c17).trans c18)) (by simp) zlP (fun x _ w1 h1 => zex 5 t _ _ _ _ _ _ b1 w1 (hEx.chg0 (((hd.trans c17).trans c18).trans h1)) (k1.chg0 (((hd.trans c17).trans c18).trans h1)))) ?_
  rintro v24 w24 ⟨e24, c24⟩
  rw [hn] at e24
  subst e24
  refine ⟨.inl (((hd.trans c17).trans c18).trans c24), ?_⟩
  refine Tp (fun _ => zz rfl rfl) rfl ?_
  refine Tm rfl ?_
  refine Tg rfl rfl (fun _ => za zb8 rfl) rfl ?_
  refine Ts rfl rfl (fun wz hz => zb zhm rfl ((k1.chg0 hz).cell' (i := 0) rfl)) rfl ?_
  refine Tg rfl rfl (fun _ => vf (zw rfl rfl) (decide_eq_false (by omega))) rfl ?_
  refine Tq rfl rfl rfl (Tz rfl rfl (Tz rfl rfl (Tz rfl rfl (Tz rfl rfl (Tz rfl rfl (Tz rfl rfl (Tz rfl rfl ?_)))))))
  refine Tg rfl rfl (fun _ => zz rfl rfl) rfl ?_
  refine Tp (fun _ => zz rfl rfl) rfl ?_
  refine D1 39 rfl (zf rfl (zq (Sr (Oa rfl (E1 2 rfl (zj ?_))))))
  refine zx rfl rfl ?_
  exact ⟨rfl, (c1.trans hcx).trans (((hd.trans c17).trans c18).trans c24)⟩
 | false =>
  refine W_draw (fun wz => zm [] wx wz) mix (yX (by kernel_rfl)) hd ?_
  refine Tm rfl ?_
  refine Tp (fun _ => zL rfl) rfl ?_
  refine Tm rfl ?_
  refine Ts rfl rfl (fun wz hz => zi zdm zb2 rfl rfl (zu.of_blk0 (k1.chg0 hz))) rfl ?_
  refine Ts rfl rfl (fun wz hz => zi zdm zb2 rfl rfl (zu.of_blk0 (k1.chg0 hz))) rfl ?_
  refine Tv rfl rfl zlJ rfl rfl rfl (zfu t _) ?_
  rintro v17 w17 ⟨rfl, c17⟩
  refine ⟨.inl (hd.trans c17), ?_⟩
  refine Tv rfl rfl zmw rfl rfl rfl (zfl t _) ?_
  rintro v18 w18 ⟨rfl, c18⟩
  refine ⟨.inl ((hd.trans c17).trans c18), ?_⟩
  refine Tg rfl rfl (fun _ => zL rfl) rfl ?_
  refine Tp (fun _ => zz rfl rfl) rfl ?_
  refine Tm rfl (Tq rfl rfl rfl ?_)
  refine Tg rfl rfl (fun _ => zbf rfl rfl) rfl ?_
  refine Tv rfl rfl zml rfl rfl rfl (zgU (fun _ => rfl) _ [0] (fun _ => !ym t) 77 [Pt b1] _ (har ((hd.trans c17).trans c18)) (by simp) zlP (fun x _ w1 h1 => zex 5 t _ _ _ _ _ _ b1 w1 (hEx.chg0 (((hd.trans c17).trans c18).trans h1)) (k1.chg0 (((hd.trans c17).trans c18).trans h1)))) ?_
  rintro v24 w24 ⟨e24, c24⟩
  rw [hn] at e24
  subst e24
  refine ⟨.inl (((hd.trans c17).trans c18).trans c24), ?_⟩
  refine Tp (fun _ => zz rfl rfl) rfl ?_
  refine Tm rfl (Tz rfl rfl (Tz rfl rfl (Tz rfl rfl (Tz rfl rfl ?_))))
  refine y8 rfl rfl rfl rfl rfl ?_
  refine y8 rfl rfl rfl rfl rfl ?_
  refine y8 rfl rfl rfl rfl rfl ?_
  refine y8 rfl rfl rfl rfl rfl ?_
  refine y8 rfl rfl rfl rfl rfl ?_
  refine y8 rfl rfl rfl rfl rfl ?_
  refine y8 rfl rfl rfl rfl rfl ?_
  refine Tz rfl rfl ?_
  refine Tp (fun _ => zy rfl rfl) rfl ?_
  refine D1 39 rfl (zg rfl (Sr (Oa rfl (E1 2 rfl (zj ?_)))))
  repeat first | refine tr ?_ | refine br ?_
  refine zx rfl rfl ?_
  exact ⟨rfl, (c1.trans hcx).trans (((hd.trans c17).trans c18).trans c24)⟩
def zaZ (t : ByteArray) : List Value := [Ii 9, .string t, zH, zH, zH, Ii 0, zH, zH, zH, zH]
theorem ze6 (t : ByteArray) (w : World) : zO TP 58 #[.agg (zaZ t).toArray] w fun r w' => r = .agg (zaZ t).toArray ∧ zm [] w w' := by
 refine A1 Tryz.func58 rfl rfl ?_
 refine Sr ?_
 refine Ob rfl rfl ?_
 intro b1 w1 e1 n1 c1 k1
 refine zA (gn rfl) (zI zc3 rfl rfl ?_)
 intro b2 w2 e2 n2 c2 k2
 refine E2 1 2 rfl ?_
 have k1 : zV w2 b1 55 (zaZ t) := k1.chg0 c2
 have hs1 := c1.size
 have hs2 := c2.size
 refine Sr (Od yA rfl ?_)
 refine Ol zba rfl (k1.cell' (i := 0) rfl) ?_
 refine Od zaQ rfl ?_
 refine Ol yt rfl (k1.cell' (i := 1) rfl) ?_
 refine Og (zM zhR zc3 rfl (vs := [_, _]) rfl (css := [_, _]) ⟨rfl, rfl, trivial⟩ rfl rfl (cs := [_, _, _, _, _, _, _, _, _, _]) rfl) rfl ?_
 refine zA (gn rfl) (zI zc3 rfl rfl ?_)
 intro b3 w3 e3 n3 c3 k3
 refine zA (gn rfl) (zD yf rfl rfl rfl rfl k3 (by simp) (by simp [Value.oneCell']) ?_)
 intro wA nA cA kA
 refine E3 1 2 3 rfl ?_
 have kA : zV wA b3 55 (zaZ t) := kA
 have k1l := k1.lt
 have k1 := (k1.chg0 c3).chg cA (by simp; omega)
 have k2l := k2.lt
 have k2 := (k2.chg0 c3).chg cA (by simp; omega)
 refine zh (Sr (Od yA rfl ?_))
 refine Ol zba rfl (k1.cell' (i := 0) rfl) ?_
 refine E4 1 2 3 10 rfl (zn (zh (zn (zh (zn (zh (zn (zh (zn (zh (zn (zh (zn ?_)))))))))))))
 refine zh (zh (Sr ?_))
 refine Og (vf (zw rfl rfl) (decide_eq_false (by omega))) rfl ?_
 refine Oa rfl (E5 1 2 3 10 11 rfl (zf rfl (zq (zh (zh (Sr ?_))))))
 refine Og (vf (zw rfl rfl) (decide_eq_false (by omega))) rfl ?_
 refine Oa rfl (E5 1 2 3 10 13 rfl (zf rfl (zd ?_)))
 refine Og (vf (zw rfl rfl) (decide_eq_false (by omega))) rfl ?_
 refine Oa rfl (E5 1 2 3 10 13 rfl (zf rfl (zq (zh (Sr ?_)))))
 refine Og (vf (zw rfl rfl) (decide_eq_false (by omega))) rfl ?_
 refine Oa rfl (E5 1 2 3 10 16 rfl (zf rfl (zq (zh (zh (Sr ?_))))))
 refine Og (vf (zw rfl rfl) (decide_eq_false (by omega))) rfl ?_
 refine Oa rfl (E5 1 2 3 10 18 rfl (zf rfl (Sr ?_)))
 refine Og (vf (zw rfl rfl) (decide_eq_false (by omega))) rfl ?_
 refine Oa rfl (E5 1 2 3 10 18 rfl (zf rfl (zd ?_)))
 refine Og (vf (zw rfl rfl) (decide_eq_false (by omega))) rfl ?_
 refine Oa rfl (E5 1 2 3 10 18 rfl (zf rfl (zq (zh (Sr ?_)))))
 refine Og (vf (zw rfl rfl) (decide_eq_false (by omega))) rfl ?_
 refine Oa rfl (E5 1 2 3 10 22 rfl (zf rfl (zq (Sr ?_))))
 refine Og (vf (zw rfl rfl) (decide_eq_false (by omega))) rfl ?_
 refine Oa rfl (E4 1 2 3 24 rfl (zf rfl (zq ?_)))
 refine zP ?_
 repeat first | refine te ?_ | refine bo rfl ?_
 refine zp _ ?_
 refine Sr ?_
 refine Og (zi zdo yf rfl rfl (zu.of_blk0 kA)) rfl ?_
 refine zA (gn rfl) (zD yf rfl rfl rfl rfl k2 (by simp [zaZ]) (by simp [zaZ, zH, Value.oneCell']) ?_)
 intro wB nB cB kB
 refine E1 2 rfl ?_
 have kB : zV wB b2 55 (zaZ t) := kB
 refine zj ?_
 refine zcW rfl zdo yf rfl rfl (zu.of_blk0 kB) ?_
 have h3 : w2.heap.size ≤ b3 := by omega
 exact ⟨rfl, (((c1.trans c2).trans c3).own cA (by intro y hy; simp at hy; omega)).own cB (by intro y hy; simp at hy; omega)⟩
theorem ze8 (t : ByteArray) (w : World) : zO TP 57 #[.agg (zaZ t).toArray, .agg (zaZ t).toArray] w fun r w' => r = .bool true ∧ zm [] w w' := by
 refine A2 Tryz.func57 rfl rfl ?_
 refine Sr ?_
 refine Ob rfl rfl ?_
 intro b2 w2 e2 n2 c2 k2
 refine Ob rfl rfl ?_
 intro b3 w3 e3 n3 c3 k3
 refine Oa rfl (E2 2 3 rfl ?_)
 have k2 : zV w3 b2 55 (zaZ t) := k2.chg0 c3
 have k3 : zV w3 b3 55 (zaZ t) := k3
 have hcc := c2.trans c3
 refine Sr (Od yA rfl ?_)
 refine Ol zba rfl (k2.cell' (i := 0) rfl) ?_
 refine Od yA rfl ?_
 refine Ol zba rfl (k3.cell' (i := 0) rfl) ?_
 refine Og (vt (zw rfl rfl) (decide_eq_true (by omega))) rfl ?_
 refine Om rfl ?_
 refine Oy rfl rfl (za zaQ rfl) ?_
 refine Oy rfl rfl (zb yt rfl (k2.cell' (i := 1) rfl)) ?_
 refine Oy rfl rfl (za zaQ rfl) ?_
 refine Oy rfl rfl (zb yt rfl (k3.cell' (i := 1) rfl)) ?_
 refine Oy rfl rfl (vt (zcA rfl rfl) (by simp)) ?_
 refine Ot rfl (Om rfl ?_)
 refine Oy rfl rfl (za zbk rfl) ?_
 refine Oy rfl rfl (zb yz rfl (k2.cell' (i := 2) rfl)) ?_
 refine Oy rfl rfl (za zbk rfl) ?_
 refine Oy rfl rfl (zb yz rfl (k3.cell' (i := 2) rfl)) ?_
 refine Ow rfl rfl zlz rfl rfl rfl (zkj _) ?_
 rintro v22 w22 ⟨rfl, c22⟩
 refine Ot rfl (Om rfl ?_)
 refine Oy rfl rfl (za zb4 rfl) ?_
 refine Oy rfl rfl (zb yz rfl ((k2.chg0 c22).cell' (i := 3) rfl)) ?_
 refine Oy rfl rfl (za zb4 rfl) ?_
 refine Oy rfl rfl (zb yz rfl ((k3.chg0 c22).cell' (i := 3) rfl)) ?_
 refine Ow rfl rfl zlz rfl rfl rfl (zkj _) ?_
 rintro v29 w29 ⟨rfl, c29⟩
 refine Ot rfl (Om rfl ?_)
 refine Oy rfl rfl (za zgy rfl) ?_
 refine Oy rfl rfl (zb zk1 rfl (((k2.chg0 c22).chg0 c29).cell' (i := 4) rfl)) ?_
 refine Oy rfl rfl (za zgy rfl) ?_
 refine Oy rfl rfl (zb zk1 rfl (((k3.chg0 c22).chg0 c29).cell' (i := 4) rfl)) ?_
 refine Ow rfl rfl znv rfl rfl rfl (zmN _) ?_
 rintro v36 w36 ⟨rfl, c36⟩
 refine Ot rfl (Om rfl ?_)
 refine Oy rfl rfl (za zgj rfl) ?_
 refine Oy rfl rfl (zb ag3 rfl ((((k2.chg0 c22).chg0 c29).chg0 c36).cell' (i := 5) rfl)) ?_
 refine Oy rfl rfl (za zgj rfl) ?_
 refine Oy rfl rfl (zb ag3 rfl ((((k3.chg0 c22).chg0 c29).chg0 c36).cell' (i := 5) rfl)) ?_
 refine Oy rfl rfl (vt (zw rfl rfl) (decide_eq_true (by omega))) ?_
 refine Ot rfl (Om rfl ?_)
 refine Oy rfl rfl (za zgl rfl) ?_
 refine Oy rfl rfl (zi zjh zj2 rfl rfl (zu.of_blk (((k2.chg0 c22).chg0 c29).chg0 c36) 6 [zH, zH, zH] ⟨[zH], rfl⟩)) ?_
 refine Oy rfl rfl (za zgl rfl) ?_
 refine Oy rfl rfl (zi zjh zj2 rfl rfl (zu.of_blk (((k3.chg0 c22).chg0 c29).chg0 c36) 6 [zH, zH, zH] ⟨[zH], rfl⟩)) ?_
 refine Ow rfl rfl zmi rfl rfl rfl (ziT zH zH zH zH zH zH zgd zgd _ (zdq _) (zdq _) zdx zdx) ?_
 rintro v50 w50 ⟨e50, c50⟩
 rw [decide_eq_true rfl] at e50
 subst e50
 refine Ot rfl (Om rfl ?_)
 refine Oy rfl rfl (za zf9 rfl) ?_
 refine Oy rfl rfl (zb zh5 rfl (((((k2.chg0 c22).chg0 c29).chg0 c36).chg0 c50).cell' (i := 9) rfl)) ?_
 refine Oy rfl rfl (za zf9 rfl) ?_
 refine Oy rfl rfl (zb zh5 rfl (((((k3.chg0 c22).chg0 c29).chg0 c36).chg0 c50).cell' (i := 9) rfl)) ?_
 refine Ow rfl rfl znl rfl rfl rfl (zmg _) ?_
 rintro v57 w57 ⟨rfl, c57⟩
 refine Ot rfl (Oa rfl (E1 4 rfl (zj ?_)))
 refine zx rfl rfl ?_
 exact ⟨rfl, ((((hcc.trans c22).trans c29).trans c36).trans c50).trans c57⟩
theorem zdF (t : ByteArray) (w : World) : zO TP 60 #[.agg (zaZ t).toArray] w fun r w' => r = .agg (zaY t).toArray ∧ zm [] w w' := by
 refine A1 Tryz.func60 rfl rfl ?_
 refine Sr ?_
 refine Ob rfl rfl ?_
 intro b1 w1 e1 n1 c1 k1
 refine zA (gn rfl) (zI zfB rfl rfl ?_)
 intro b2 w2 e2 n2 c2 k2
 refine E2 1 2 rfl ?_
 have k1 : zV w2 b1 55 (zaZ t) := k1.chg0 c2
 have hs1 := c1.size
 refine zh (Sr (Od yA rfl ?_))
 refine Ol zba rfl (k1.cell' (i := 0) rfl) ?_
 refine E3 1 2 4 rfl (zn (Sr ?_))
 refine Og (vf (zw rfl rfl) (decide_eq_false (by omega))) rfl ?_
 refine Oa rfl (E4 1 2 4 5 rfl (zf rfl (Sr ?_)))
 refine Og (vf (zw rfl rfl) (decide_eq_false (by omega))) rfl ?_
 refine Oa rfl (E3 1 2 12 rfl (zf rfl (yd (zk (Sr (Od zaQ rfl ?_))))))
 refine Ol yt rfl (k1.cell' (i := 1) rfl) ?_
 refine Og (zM zkt zfB rfl (vs := [_, _]) rfl (css := [_, _]) ⟨rfl, rfl, trivial⟩ rfl rfl (cs := [_, _, _, _, _, _, _, _]) rfl) rfl ?_
 refine zA (gn rfl) (zD zb2 rfl rfl rfl rfl k2 (by simp) (by simp [Value.oneCell']) ?_)
 intro wA nA cA kA
 refine E1 2 rfl ?_
 have kA : zV wA b2 100 (zaY t) := kA
 refine zj ?_
 refine zcW rfl zdm zb2 rfl rfl (zu.of_blk0 kA) ?_
 exact ⟨rfl, (c1.trans c2).own cA (by intro y hy; simp at hy; omega)⟩
theorem zhd (w : World) : zO TP 61 #[zH] w fun r w' => r = .bool true ∧ zm [] w w' := by
 refine A1 Tryz.func61 rfl rfl ?_
 refine Sr (Oa rfl (E1 0 rfl (Sr (Om rfl (On yS rfl ?_)))))
 refine Og (vt (z0 rfl rfl) (decide_eq_true (by omega))) rfl ?_
 refine Om rfl (Oj rfl rfl ?_)
 refine Ow rfl rfl zny rfl rfl rfl (zkU (f := yx.cs) za6 zH [] (fun _ => false) 79 [] _ (yq.nil _ _ _ _) (by simp) znf (by simp)) ?_
 rintro v8 w8 ⟨rfl, c8⟩
 refine Oy rfl rfl (zL rfl) ?_
 refine Ot rfl (Oa rfl (E1 2 rfl (zj ?_)))
 refine zx rfl rfl ?_
 exact ⟨rfl, c8⟩
theorem zhk (t : ByteArray) (w : World) (hE : EOk w) : zO TP 31 #[.agg (zaZ t).toArray] w fun r w' => r = Ii (if ym t then 0 else 2) ∧ zm [] w w' := by
 refine A1 Tryz.func31 rfl rfl ?_
 refine Sr ?_
 refine Ob rfl rfl ?_
 intro b1 w1 e1 n1 c1 k1
 refine Oa rfl (E1 1 rfl ?_)
 have k1 : zV w1 b1 55 (zaZ t) := k1
 have hd : zm [] w1 w1.drew := zm.drew [] _
 have hE1 := hE.chg0 c1
 refine z5 (fun F wx => F = [(1, Pt b1), (3, .bool (ym t))] ∧ zm [] w1 wx) ?_ ?_
 ·cases hn : ym t with
  | true =>
   refine W_draw (fun wz => zm [] w1 wz) mix (yX (by kernel_rfl)) hd ?_
   refine Td yA rfl ?_
   refine Tr (fun wz hz => zb zba rfl ((k1.chg0 hz).cell' (i := 0) rfl)) rfl ?_
   refine Tp (fun _ => vt (yw rfl rfl) (decide_eq_true (by omega))) rfl ?_
   refine Tm rfl ?_
   refine Tg rfl rfl (fun _ => za yA rfl) rfl ?_
   refine Ts rfl rfl (fun wz hz => zb zba rfl ((k1.chg0 hz).cell' (i := 0) rfl)) rfl ?_
   refine Tg rfl rfl (fun _ => vt (z0 rfl rfl) (decide_eq_true (by omega))) rfl ?_
   refine Tp (fun _ => zy rfl rfl) rfl ?_
   refine Tm rfl ?_
   refine Ts rfl rfl (fun wz hz => zi zdo yf rfl rfl (zu.of_blk0 (k1.chg0 hz))) rfl ?_
   refine Ts rfl rfl (fun wz hz => zi zdo yf rfl rfl (zu.of_blk0 (k1.chg0 hz))) rfl ?_
   refine Tv rfl rfl zmk rfl rfl rfl (ze6 t _) ?_
   rintro v15 w15 ⟨rfl, c15⟩
   refine ⟨.inl (hd.trans c15), ?_⟩
   refine Tv rfl rfl zmG rfl rfl rfl (ze8 t _) ?_
   rintro v16 w16 ⟨rfl, c16⟩
   refine ⟨.inl ((hd.trans c15).trans c16), ?_⟩
   refine Tp (fun _ => zy rfl rfl) rfl ?_
   refine Tm rfl ?_
   refine Ts rfl rfl (fun wz hz => zi zdo yf rfl rfl (zu.of_blk0 (k1.chg0 hz))) rfl ?_
   refine Tv rfl rfl zlZ rfl rfl rfl (zdF t _) ?_
   rintro v20 w20 ⟨rfl, c20⟩
   refine ⟨.inl (((hd.trans c15).trans c16).trans c20), ?_⟩
   refine Tv rfl rfl zmp rfl rfl rfl (zez t _ (hE1.chg0 (((hd.trans c15).trans c16).trans c20))) ?_
   rintro v21 w21 ⟨e21, c21⟩
   rw [hn] at e21
   subst e21
   refine ⟨.inl ((((hd.trans c15).trans c16).trans c20).trans c21), ?_⟩
   refine Tg rfl rfl (fun _ => vt (zw rfl rfl) (by simp)) rfl ?_
   refine Tp (fun _ => zy rfl rfl) rfl ?_
   refine Tm rfl ?_
   refine Tg rfl rfl (fun _ => za zbk rfl) rfl ?_
   refine Ts rfl rfl (fun wz hz => zb yz rfl ((k1.chg0 hz).cell' (i := 2) rfl)) rfl ?_
   refine Tv rfl rfl zmJ rfl rfl rfl (zhd _) ?_
   rintro v27 w27 ⟨rfl, c27⟩
   refine ⟨.inl (((((hd.trans c15).trans c16).trans c20).trans c21).trans c27), ?_⟩
   refine Tp (fun _ => zy rfl rfl) rfl ?_
   refine Tm rfl ?_
   refine Tg rfl rfl (fun _ => za zb4 rfl) rfl ?_
   refine Ts rfl rfl (fun wz hz => zb yz rfl ((k1.chg0 hz).cell' (i := 3) rfl)) rfl ?_
   refine Tv rfl rfl zmJ rfl rfl rfl (zhd _) ?_
   rintro v32 w32 ⟨rfl, c32⟩
   refine ⟨.inl ((((((hd.trans c15).trans c16).trans c20).trans c21).trans c27).trans c32), ?_⟩
   refine Tp (fun _ => zy rfl rfl) rfl ?_
   refine Ta rfl (D2 1 3 rfl ?_)
   exact ⟨rfl, (((((hd.trans c15).trans c16).trans c20).trans c21).trans c27).trans c32⟩
  | false =>
   refine W_draw (fun wz => zm [] w1 wz) mix (yX (by kernel_rfl)) hd ?_
   refine Td yA rfl ?_
   refine Tr (fun wz hz => zb zba rfl ((k1.chg0 hz).cell' (i := 0) rfl)) rfl ?_
   refine Tp (fun _ => vt (yw rfl rfl) (decide_eq_true (by omega))) rfl ?_
   refine Tm rfl ?_
   refine Tg rfl rfl (fun _ => za yA rfl) rfl ?_
   refine Ts rfl rfl (fun wz hz => zb zba rfl ((k1.chg0 hz).cell' (i := 0) rfl)) rfl ?_
   refine Tg rfl rfl (fun _ => vt (z0 rfl rfl) (decide_eq_true (by omega))) rfl ?_
   refine Tp (fun _ => zy rfl rfl) rfl ?_
   refine Tm rfl ?_
   refine Ts rfl rfl (fun wz hz => zi zdo yf rfl rfl (zu.of_blk0 (k1.chg0 hz))) rfl ?_
   refine Ts rfl rfl (fun wz hz => zi zdo yf rfl rfl (zu.of_blk0 (k1.chg0 hz))) rfl ?_
   refine Tv rfl rfl zmk rfl rfl rfl (ze6 t _) ?_
   rintro v15 w15 ⟨rfl, c15⟩
   refine ⟨.inl (hd.trans c15), ?_⟩
   refine Tv rfl rfl zmG rfl rfl rfl (ze8 t _) ?_
   rintro v16 w16 ⟨rfl, c16⟩
   refine ⟨.inl ((hd.trans c15).trans c16), ?_⟩
   refine Tp (fun _ => zy rfl rfl) rfl ?_
   refine Tm rfl ?_
   refine Ts rfl rfl (fun wz hz => zi zdo yf rfl rfl (zu.of_blk0 (k1.chg0 hz))) rfl ?_
   refine Tv rfl rfl zlZ rfl rfl rfl (zdF t _) ?_
   rintro v20 w20 ⟨rfl, c20⟩
   refine ⟨.inl (((hd.trans c15).trans c16).trans c20), ?_⟩
   refine Tv rfl rfl zmp rfl rfl rfl (zez t _ (hE1.chg0 (((hd.trans c15).trans c16).trans c20))) ?_
   rintro v21 w21 ⟨e21, c21⟩
   rw [hn] at e21
   subst e21
   refine ⟨.inl ((((hd.trans c15).trans c16).trans c20).trans c21), ?_⟩
   refine Tg rfl rfl (fun _ => vf (zw rfl rfl) (by simp)) rfl ?_
   refine Tp (fun _ => zy rfl rfl) rfl ?_
   refine Tm rfl (Tz rfl rfl (Tz rfl rfl (Tz rfl rfl ?_)))
   refine Tp (fun _ => zz rfl rfl) rfl ?_
   refine Tm rfl (Tz rfl rfl (Tz rfl rfl (Tz rfl rfl ?_)))
   refine Tp (fun _ => zz rfl rfl) rfl ?_
   refine Ta rfl (D2 1 3 rfl ?_)
   exact ⟨rfl, (((hd.trans c15).trans c16).trans c20).trans c21⟩
 rintro F wx ⟨rfl, hcx⟩
 have k1 := k1.chg0 hcx
 refine zh (Sr (Od yA rfl ?_))
 refine Ol zba rfl (k1.cell' (i := 0) rfl) ?_
 refine E3 1 3 35 rfl (zn (Sr ?_))
 refine Og (vf (zw rfl rfl) (decide_eq_false (by omega))) rfl ?_
 refine Oa rfl (E4 1 3 35 36 rfl (zf rfl (Sr ?_)))
 refine Og (vf (zw rfl rfl) (decide_eq_false (by omega))) rfl ?_
 refine Oa rfl (E3 1 3 49 rfl (zf rfl (yd (zk (zh (zh ?_))))))
 cases hn : ym t with
 | true =>
  refine zd (Om rfl (Og (zL rfl) rfl (E1 58 rfl (zf rfl (zq (Sr (Oa rfl (E1 2 rfl (zj ?_)))))))))
  refine zx rfl rfl ?_
  exact ⟨rfl, c1.trans hcx⟩
 | false =>
  refine zd (Om rfl (Og (zL rfl) rfl (E1 58 rfl (zg rfl (Sr (Oa rfl (E1 2 rfl (zj ?_))))))))
  repeat first | refine tr ?_ | refine br ?_
  refine zx rfl rfl ?_
  exact ⟨rfl, c1.trans hcx⟩
theorem zhi (t : ByteArray) (w : World) (hE : EOk w) : zO TP 15 #[.string t] w fun r w' => r = .bool (ym t) ∧ zm [] w w' := by
 refine A1 Tryz.func15 rfl rfl ?_
 refine Sr (Oa rfl (E1 0 rfl (Sr (Om rfl ?_))))
 refine Og (zM zhR zc3 rfl (vs := [_, _]) rfl (css := [_, _]) ⟨rfl, rfl, trivial⟩ rfl rfl (cs := [_, _, _, _, _, _, _, _, _, _]) rfl) rfl ?_
 refine Oc zm2 rfl rfl rfl (zhk t _ hE) ?_
 rintro v5 w5 ⟨rfl, c5⟩
 refine Og (zw rfl rfl) rfl (Oa rfl (E1 2 rfl (zj ?_)))
 refine zx rfl rfl ?_
 refine ⟨?_, c5⟩
 cases ym t <;> rfl
def zJ (w : World) (v : Value) (ls : LV) : Prop := ∃ vs, zB w 44 1 v ls.length vs ∧ yP w 62 4 yx.cs vs ls
theorem zJ.chg0 {w w' : World} {v : Value} {ls : LV} (h : zJ w v ls) (hc : zm [] w w') : zJ w' v ls := let ⟨vs, h1, h2⟩ := h; ⟨vs, zB.chg0 h1 hc, h2.chg0 hc⟩
theorem zJ.nil (w : World) : zJ w (.slice none 0 0) [] := ⟨[], zB.nil _ _ _, trivial⟩
theorem zJ.val {w : World} {v : Value} {ls : LV} (h : zJ w v ls) : ∃ p c, v = .slice p ls.length c ∧ ls.length ≤ c := let ⟨_, h1, _⟩ := h; zB.val h1
theorem zJ.at {w : World} {v : Value} {ls : LV} (h : zJ w v ls) {i : Nat} {l : List yx} (hi : ls[i]? = some l) : ∃ b off cap u, v = .slice (some ⟨b, off, none⟩) ls.length cap ∧ w.cell? ⟨b, off + i * 1, none⟩ = some u ∧ zU w u l := by
 obtain ⟨vs, h1, h2⟩ := h
 obtain ⟨u, hu, ha⟩ := h2.at hi
 obtain ⟨b, off, cap, u', hv, hu', hc⟩ := Rd.at1 h1.toRd (List.getElem?_eq_some_iff.1 hi).1
 rw [hu] at hu'
 cases hu'
 exact ⟨b, off, cap, u, hv, hc, ha⟩
theorem zJ.push {w w' w'' : World} {x x' v : Value} {ls : LV} {r : List yx} {vs : List Value} (h1 : zB w 44 1 x ls.length vs) (h2 : yP w 62 4 yx.cs vs ls) (h3 : zU w v r) (hc : zm [] w w') (i : zB w'' 44 1 x' (ls.length + 1) (vs ++ [v])) (hc' : zm (zC x) w' w'') : zJ w'' x' (ls ++ [r]) := by
 have h4 : yP w' 62 4 yx.cs (vs ++ [v]) (ls ++ [r]) := yP.append (h2.chg0 hc) ⟨zW.chg0 h3 hc, trivial⟩
 refine ⟨vs ++ [v], ?_, h4.chg hc' (h4.apartSl (zB.chg0 h1 hc) rfl)⟩
 rw [List.length_append]
 exact i
theorem zaN {B n : Nat} {v v' : Value} (h : zC v' = zC v ∨ ∃ b, zC v' = [b] ∧ n ≤ b) (hv : ∀ b ∈ zC v, B ≤ b) (hn : B ≤ n) : ∀ b ∈ zC v', B ≤ b := by
 intro b hb
 rcases h with h | ⟨b', h, hb'⟩
 ·exact hv b (h ▸ hb)
 rw [h] at hb
 simp at hb
 omega
def zcj : ByteArray := ⟨#[98, 101, 97, 116]⟩
def zaD : ByteArray := ⟨#[99, 117, 114, 115, 111, 114]⟩
def zbX : ByteArray := ⟨#[102, 117, 108, 108]⟩
def za2 : ByteArray := ⟨#[112, 104, 97, 115, 101]⟩
def zeQ : ByteArray := ⟨#[112, 111, 115]⟩
def zaL : ByteArray := ⟨#[126]⟩
def phT (p : PrT) : ByteArray := ⟨#[UInt8.ofNat p.ph.toNat]⟩
theorem zg1 {p : PrT} (h : 1 ≤ p.ph ∧ p.ph ≤ 3) : IntKind.u8.wrap p.ph = (((UInt8.ofNat p.ph.toNat).toNat : Nat) : Int) := by
 obtain h1 | h1 | h1 : p.ph = 1 ∨ p.ph = 2 ∨ p.ph = 3 := by omega
 ·rw [h1]; rfl
 ·rw [h1]; rfl
 rw [h1]; rfl
def za9 (p : PrT) : List (ByteArray × ByteArray × Bool) := [(zcj, beL [p.beat], true), (zaD, p.cur, true), (zbX, e0, p.full), (za2, phT p, true), (zeQ, beL [p.seg, p.at'], true)]
def ptV (f g : Nat) (b : Bool) : Value := .agg #[fnV f [], fnV g [], .bool b]
def zbh : List (ByteArray × Value) := [(zcj, ptV 41 43 true), (zaD, ptV 45 46 true), (zbX, ptV 47 48 false), (za2, ptV 50 51 true), (zeQ, ptV 52 53 true)]
theorem zhZ (w : World) : zO TP 27 #[] w fun r w' => ∃ m, r = .map (some m) ∧ zZ zbp w' m zbh ∧ zm [] w w' := by
 refine zO.of_W (args := []) Tryz.func27 rfl rfl rfl rfl ?_
 refine Sr (Oa rfl (za0 [] (F' := []) rfl (Sr ?_)))
 refine zA (gn rfl) (zaF (zbp) rfl ?_)
 intro b1 w1 e1 n1 c1 k1
 refine Og (zM zil zhG rfl (vs := [_, _, _]) rfl (css := [_, _, _]) ⟨rfl, rfl, rfl, trivial⟩ rfl rfl (cs := [_, _, _]) rfl) rfl ?_
 refine zA (gn rfl) (yj (κ := zbp) zho (yo st9) rfl rfl rfl k1 ?_)
 intro wA nA cA kA
 refine Og (zM zil zhG rfl (vs := [_, _, _]) rfl (css := [_, _, _]) ⟨rfl, rfl, rfl, trivial⟩ rfl rfl (cs := [_, _, _]) rfl) rfl ?_
 refine zA (gn rfl) (yj (κ := zbp) zho (yo st9) rfl rfl rfl kA ?_)
 intro wB nB cB kB
 refine Og (zM zil zhG rfl (vs := [_, _, _]) rfl (css := [_, _, _]) ⟨rfl, rfl, rfl, trivial⟩ rfl rfl (cs := [_, _, _]) rfl) rfl ?_
 refine zA (gn rfl) (yj (κ := zbp) zho (yo st9) rfl rfl rfl kB ?_)
 intro wC nC cC kC
 refine Og (zM zil zhG rfl (vs := [_, _, _]) rfl (css := [_, _, _]) ⟨rfl, rfl, rfl, trivial⟩ rfl rfl (cs := [_, _, _]) rfl) rfl ?_
 refine zA (gn rfl) (yj (κ := zbp) zho (yo st9) rfl rfl rfl kC ?_)
 intro wD nD cD kD
 refine Og (zM zil zhG rfl (vs := [_, _, _]) rfl (css := [_, _, _]) ⟨rfl, rfl, rfl, trivial⟩ rfl rfl (cs := [_, _, _]) rfl) rfl ?_
 refine zA (gn rfl) (yj (κ := zbp) zho (yo st9) rfl rfl rfl kD ?_)
 intro wE nE cE kE
 refine Om rfl (Oa rfl (E1 0 rfl (zj ?_)))
 refine zx rfl rfl ?_
 have hb : ∀ y ∈ [b1], w.heap.size ≤ y := by intro y hy; simp at hy; omega
 exact ⟨b1, rfl, kE, ((((c1.own cA hb).own cB hb).own cC hb).own cD hb).own cE hb⟩
section
variable (p : PrT) (pu : Option Addr) (cu : Nat) (w : World)
theorem ziW (h : 0 ≤ p.beat ∧ p.beat ≤ 1099511627776) : zO TP 41 #[.agg (p.cs (.slice pu p.park.length cu)).toArray] w fun r w' => r = .tuple #[.string (beL [p.beat]), .bool true] ∧ zm [] w w' := by
 refine A1 Tryz.func41 rfl rfl ?_
 refine Sr ?_
 refine Ob rfl rfl ?_
 intro b1 w1 e1 n1 c1 k1
 refine Oa rfl (Oa rfl (E1 1 rfl ?_))
 have k1 : zV w1 b1 27 (p.cs (.slice pu p.park.length cu)) := k1
 refine Sr (Od zaj rfl ?_)
 refine Ol ag3 rfl (k1.cell' (i := 5) rfl) ?_
 refine zA (gn rfl) (zv zmu rfl (vs := [_]) rfl (css := [_]) ⟨rfl, trivial⟩ rfl rfl (cs := [_]) rfl rfl ?_)
 intro b6 w6 e6 n6 c6 k6
 refine Oc zlS rfl rfl rfl (zfv _ [p.beat] _ (zB.toRd (zB.of_blk (n := 1) (c := fl ics [p.beat]) k6 rfl (by simp [maxLen]) (zc2 zg9 _))) (by simp) (by simpa using h)) ?_
 rintro v7 w7 ⟨rfl, c7⟩
 refine Oa rfl (Oa rfl (E2 2 3 rfl (zj ?_)))
 refine zbF rfl rfl rfl ?_
 exact ⟨rfl, (c1.trans c6).trans c7⟩
theorem zjM : zO TP 45 #[.agg (p.cs (.slice pu p.park.length cu)).toArray] w fun r w' => r = .tuple #[.string p.cur, .bool true] ∧ zm [] w w' := by
 refine A1 Tryz.func45 rfl rfl ?_
 refine Sr ?_
 refine Ob rfl rfl ?_
 intro b1 w1 e1 n1 c1 k1
 refine Oa rfl (Oa rfl (E1 1 rfl ?_))
 have k1 : zV w1 b1 27 (p.cs (.slice pu p.park.length cu)) := k1
 refine Sr (Od z8 rfl ?_)
 refine Ol yt rfl (k1.cell' (i := 1) rfl) ?_
 refine Oa rfl (Oa rfl (E2 2 3 rfl (zj ?_)))
 refine zbF rfl rfl rfl ?_
 exact ⟨rfl, c1⟩
theorem ziO : zO TP 47 #[.agg (p.cs (.slice pu p.park.length cu)).toArray] w fun r w' => r = .tuple #[.string e0, .bool p.full] ∧ zm [] w w' := by
 refine A1 Tryz.func47 rfl rfl ?_
 refine Sr ?_
 refine Ob rfl rfl ?_
 intro b1 w1 e1 n1 c1 k1
 refine Oa rfl (Oa rfl (E1 1 rfl ?_))
 have k1 : zV w1 b1 27 (p.cs (.slice pu p.park.length cu)) := k1
 refine zh ?_
 refine W_draw (fun wz => zm [] w1 wz) mix (by kernel_rfl) (zm.drew [] w1) ?_
 refine Td yI rfl ?_
 refine Tr (fun wz hz => zb ag4 rfl ((k1.chg0 hz).cell' (i := 2) rfl)) rfl ?_
 refine Ta rfl (Ta rfl (D2 2 3 rfl (zj ?_)))
 refine zbF rfl rfl rfl ?_
 exact ⟨rfl, c1.trans (zm.drew [] w1)⟩
theorem zln (h : 1 ≤ p.ph ∧ p.ph ≤ 3) : zO TP 50 #[.agg (p.cs (.slice pu p.park.length cu)).toArray] w fun r w' => r = .tuple #[.string (phT p), .bool true] ∧ zm [] w w' := by
 refine A1 Tryz.func50 rfl rfl ?_
 refine Sr ?_
 refine Ob rfl rfl ?_
 intro b1 w1 e1 n1 c1 k1
 refine Oa rfl (Oa rfl (E1 1 rfl ?_))
 have k1 : zV w1 b1 27 (p.cs (.slice pu p.park.length cu)) := k1
 refine Sr (Od z3 rfl ?_)
 refine Ol zak rfl (k1.cell' (i := 0) rfl) ?_
 refine Og (zad zaO zh4 rfl (zg1 h)) rfl ?_
 refine zA (gn rfl) (zv zf2 rfl (vs := [_]) rfl (css := [_]) ⟨rfl, trivial⟩ rfl rfl (cs := [_]) rfl rfl ?_)
 intro b7 w7 e7 n7 c7 k7
 refine Og (zb7 (l := [UInt8.ofNat p.ph.toNat]) zd8 zaO st9 rfl (zB.rd (zB.of_blk (n := 1) (c := bv [UInt8.ofNat p.ph.toNat]) k7 rfl (by simp [maxLen]) (by intro u hu; obtain ⟨x, _, rfl⟩ := List.mem_map.1 hu; rfl)))) rfl ?_
 refine Oa rfl (Oa rfl (E2 2 3 rfl (zj ?_)))
 refine zbF rfl rfl rfl ?_
 exact ⟨rfl, c1.trans c7⟩
theorem zjf (h : 0 ≤ p.seg ∧ p.seg ≤ 1099511627776) (h' : 0 ≤ p.at' ∧ p.at' ≤ 1099511627776) : zO TP 52 #[.agg (p.cs (.slice pu p.park.length cu)).toArray] w fun r w' => r = .tuple #[.string (beL [p.seg, p.at']), .bool true] ∧ zm [] w w' := by
 refine A1 Tryz.func52 rfl rfl ?_
 refine Sr ?_
 refine Ob rfl rfl ?_
 intro b1 w1 e1 n1 c1 k1
 refine Oa rfl (Oa rfl (E1 1 rfl ?_))
 have k1 : zV w1 b1 27 (p.cs (.slice pu p.park.length cu)) := k1
 refine Sr (Od yp rfl (Od zdE rfl ?_))
 refine Ol ag3 rfl (k1.cell' (i := 3) rfl) ?_
 refine Od yp rfl (Od zdI rfl ?_)
 refine Ol ag3 rfl (k1.cell' (i := 4) rfl) ?_
 refine zA (gn rfl) (zv zmu rfl (vs := [_, _]) rfl (css := [_, _]) ⟨rfl, rfl, trivial⟩ rfl rfl (cs := [_, _]) rfl rfl ?_)
 intro b10 w10 e10 n10 c10 k10
 refine Oc zlS rfl rfl rfl (zfv _ [p.seg, p.at'] _ (zB.toRd (zB.of_blk (n := 2) (c := fl ics [p.seg, p.at']) k10 rfl (by simp [maxLen]) (zc2 zg9 _))) (by simp) (by intro n hn; simp at hn; rcases hn with rfl | rfl; exact h; exact h')) ?_
 rintro v11 w11 ⟨rfl, c11⟩
 refine Oa rfl (Oa rfl (E2 2 3 rfl (zj ?_)))
 refine zbF rfl rfl rfl ?_
 exact ⟨rfl, (c1.trans c10).trans c11⟩
end
theorem zeS : ∀ l : List ByteArray, fl zgt l = l.map Value.string
 | [] => rfl
 | x :: l => by rw [zcf, zeS l]; rfl
theorem zey {w w' : World} (h : RowKit.Below w.heap.size w w') : zm [] w w' := ⟨h.os, h.tape, h.output, h.size, fun k hk _ => h.block k hk⟩
theorem zdX {l m : List ByteArray} (hp : l.Perm m) (hl : l.Pairwise fun a b => blt a b = true) (hm : m.Pairwise fun a b => blt a b = true) : l = m :=
 List.Perm.eq_of_pairwise (le := fun a b => blt a b = true) (fun a b _ _ h1 h2 => by rw [zhI h1] at h2; cases h2) hl hm hp
theorem zkb (m : Nat) (w : World) : zO TP 28 #[.map (some m)] w fun r w' => r = .func (.func 54) #[] #[.pointer (some ⟨w.heap.size, 0, none⟩)] ∧ w' = w.alloc (.cells #[.map (some m)] 73) :=
 Calls.mono (callsIn_wide.1 (Tryz.maps_Keys_28 (some m) w)) fun e w' h => ⟨_, h.1, rfl, h.2⟩
theorem zhj (m : Nat) (es : List (ByteArray × Value)) (w : World) (h : zZ zbp w m es) (hnd : (es.map (·.1)).Nodup) (hn : es.length ≤ 1048576) (hz : ∀ p ∈ es, p.1.size ≤ 1048576) :
 zO TP 16 #[.func (.func 54) #[] #[.pointer (some ⟨w.heap.size, 0, none⟩)]] (w.alloc (.cells #[.map (some m)] 73)) fun r w' => ∃ ks ps cs, r = .slice ps ks.length cs ∧ zF w' r ks ∧ ks.Perm (es.map (·.1)) ∧ (ks.Pairwise fun a b => blt a b = true) ∧ zm [] w w' := by
 have hu : Tryz.prog.underlying 9 = some .string := yo st9
 obtain ⟨D0, hown, hp, hsz⟩ := zgZ (H := Unit) hu h hnd (by unfold maxLen; omega) (fun p hp => by have := hz p hp; unfold maxLen; omega)
 refine Calls.mono (callsIn_wide.1 (Tryz.slices_Sorted_keys_16_28 m es.length D0 (fun _ => some (.nil, [])) w hown (by rw [hsz]; unfold maxLen; omega) (by rw [hsz]; omega))) ?_
 rintro e w' ⟨v, ss, rfl, hS, hrow, hnil, hb⟩
 obtain ⟨ks, h1, h2, h3, h4⟩ := zel (hS.trans hp) hnd hrow
 have ht : zF w' v ks := by show Rd w' 1 v ks.length (fl zgt ks); rw [zeS]; exact h1
 obtain ⟨ps, cs, rfl, -⟩ := Rd.val ht
 exact ⟨_, rfl, ks, ps, cs, rfl, ht, h2, h3, (zm.alloc [] w _).trans (zey hb)⟩
theorem zjF (m : Nat) (w : World) : zO TP 17 #[.map (some m)] w fun r w' => r = .func (.func 34) #[] #[.pointer (some ⟨w.heap.size, 0, none⟩)] ∧ w' = w.alloc (.cells #[.map (some m)] 57) :=
 Calls.mono (callsIn_wide.1 (Tryz.maps_Keys_17 (some m) w)) fun e w' h => ⟨_, h.1, rfl, h.2⟩
theorem zhO (m : Nat) (es : List (ByteArray × Value)) (w : World) (h : zZ zbp w m es) (hnd : (es.map (·.1)).Nodup) (hn : es.length ≤ 1048576) (hz : ∀ p ∈ es, p.1.size ≤ 1048576) :
 zO TP 16 #[.func (.func 34) #[] #[.pointer (some ⟨w.heap.size, 0, none⟩)]] (w.alloc (.cells #[.map (some m)] 57)) fun r w' => ∃ ks ps cs, r = .slice ps ks.length cs ∧ zF w' r ks ∧ ks.Perm (es.map (·.1)) ∧ (ks.Pairwise fun a b => blt a b = true) ∧ zm [] w w' := by
 have hu : Tryz.prog.underlying 9 = some .string := yo st9
 obtain ⟨D0, hown, hp, hsz⟩ := zgZ (H := Unit) hu h hnd (by unfold maxLen; omega) (fun p hp => by have := hz p hp; unfold maxLen; omega)
 refine Calls.mono (callsIn_wide.1 (Tryz.slices_Sorted_keys_16_17 m es.length D0 (fun _ => some (.nil, [])) w hown (by rw [hsz]; unfold maxLen; omega) (by rw [hsz]; omega))) ?_
 rintro e w' ⟨v, ss, rfl, hS, hrow, hnil, hb⟩
 obtain ⟨ks, h1, h2, h3, h4⟩ := zel (hS.trans hp) hnd hrow
 have ht : zF w' v ks := by show Rd w' 1 v ks.length (fl zgt ks); rw [zeS]; exact h1
 obtain ⟨ps, cs, rfl, -⟩ := Rd.val ht
 exact ⟨_, rfl, ks, ps, cs, rfl, ht, h2, h3, (zm.alloc [] w _).trans (zey hb)⟩
structure OkP (p : PrT) : Prop where
 ph : 1 ≤ p.ph ∧ p.ph ≤ 3
 cur : p.cur.size ≤ 190
 seg : 1 ≤ p.seg ∧ p.seg ≤ 1099511627776
 at' : 0 ≤ p.at' ∧ p.at' ≤ 1099511627776
 beat : 0 ≤ p.beat ∧ p.beat ≤ 1099511627776
 len : p.park.length ≤ 400
 size : ∀ k ∈ p.park, k.size ≤ 190
 sorted : p.park.Pairwise fun a b => blt a b = true
theorem zbZ {p : PrT} (h : yN p = true) : OkP p := by
 unfold yN hdP hdQ zdz at h
 simp only [Bool.and_eq_true, decide_eq_true_eq, List.all_eq_true, List.mem_range] at h
 obtain ⟨⟨⟨⟨⟨⟨⟨h1, h2⟩, h3⟩, h4, h5⟩, h6, h7⟩, h8, h9⟩, h10⟩, h11⟩ := h
 have hok : ∀ i, (hi : i < p.park.length) → (p.park[i]).size ≤ 190 ∧ (i = 0 ∨ ∃ hi' : i - 1 < p.park.length, blt p.park[i - 1] p.park[i] = true) := by
  intro i hi
  have h := h11 i hi
  have e1 : sAt p.park i = p.park[i] := by simp [sAt, hi]
  have e2 : sAt p.park (i - 1) = p.park[i - 1]'(by omega) := by
   have : i - 1 < p.park.length := by omega
   simp [sAt, this]
  unfold zbl at h
  rw [e1, e2] at h
  simp only [Bool.and_eq_true, Bool.or_eq_true, decide_eq_true_eq] at h
  exact ⟨h.1, h.2.imp id fun hb => ⟨by omega, hb⟩⟩
 refine ⟨⟨h1, h2⟩, by omega, ⟨h4, h5⟩, ⟨h6, h7⟩, ⟨h8, h9⟩, by omega, ?_, ?_⟩
 ·intro k hk
  obtain ⟨i, hi, rfl⟩ := List.getElem_of_mem hk
  exact (hok i hi).1
 rw [List.pairwise_iff_getElem]
 intro i j hi hj hij
 induction j with
 | zero => omega
 | succ j ih =>
  obtain h0 | ⟨_, hb⟩ := (hok (j + 1) hj).2
  ·omega
  simp only [Nat.add_sub_cancel] at hb
  rcases Nat.lt_or_ge i j with hlt | hge
  ·exact zaW (ih (by omega) hlt) hb
  obtain rfl : i = j := by omega
  exact hb
def zaS (l : List (ByteArray × ByteArray × Bool)) : LV := l.filterMap fun x => if x.2.2 then some (yU x.1 x.2.1) else none
def zkH (k : ByteArray) : List yx := yU (zaL ++ k) e0
def zg6 (p : PrT) : LV := zaS (za9 p) ++ p.park.map zkH
theorem ze0 (l m : List (ByteArray × ByteArray × Bool)) : zaS (l ++ m) = zaS l ++ zaS m := List.filterMap_append
theorem zbD (l : List (ByteArray × ByteArray × Bool)) : (zaS l).length ≤ l.length := List.length_filterMap_le _ _
def zbV : List ByteArray := [zcj, zaD, zbX, za2, zeQ]
theorem zdg : zbh.map (·.1) = zbV := rfl
theorem zcP : zbV.Pairwise fun a b => blt a b = true := by decide +kernel
theorem zfs : zbV.Nodup := by decide +kernel
theorem zji {p : PrT} (h : OkP p) {j : Nat} (hj : j < 5) : ∃ (x : ByteArray × ByteArray × Bool) (f g : Nat) (b : Bool), (za9 p)[j]? = some x ∧ zbV[j]? = some x.1 ∧ yL zbh x.1 = some (ptV f g b) ∧ zl TP f = true ∧
 ∀ pu cu w, zO TP f #[.agg (p.cs (.slice pu p.park.length cu)).toArray] w fun r w' => r = .tuple #[.string x.2.1, .bool x.2.2] ∧ zm [] w w' := by
 obtain rfl | rfl | rfl | rfl | rfl : j = 0 ∨ j = 1 ∨ j = 2 ∨ j = 3 ∨ j = 4 := by omega
 ·exact ⟨_, 41, 43, true, rfl, rfl, show yL zbh zcj = _ by kernel_rfl, znA, fun pu cu w => ziW p pu cu w h.beat⟩
 ·exact ⟨_, 45, 46, true, rfl, rfl, show yL zbh zaD = _ by kernel_rfl, znp, fun pu cu w => zjM p pu cu w⟩
 ·exact ⟨_, 47, 48, false, rfl, rfl, show yL zbh zbX = _ by kernel_rfl, znn, fun pu cu w => ziO p pu cu w⟩
 ·exact ⟨_, 50, 51, true, rfl, rfl, show yL zbh za2 = _ by kernel_rfl, zm9, fun pu cu w => zln p pu cu w h.ph⟩
 exact ⟨_, 52, 53, true, rfl, rfl, show yL zbh zeQ = _ by kernel_rfl, znz, fun pu cu w => zjf p pu cu w ⟨by have := h.seg.1; omega, h.seg.2⟩ h.at'⟩
theorem zU.two {w : World} {r : Value} {k v : ByteArray} (h : zU w r (yU k v)) : ∃ p c, r = .slice p 2 c := let ⟨p, c, e, _⟩ := zW.val h; ⟨p, c, e⟩
theorem zkq (k v : ByteArray) (w : World) : zO TP 29 #[.string k, .string v] w fun r w' => ∃ p c, r = .slice p 2 c ∧ zU w' (.slice p 2 c) (yU k v) ∧ zm [] w w' :=
 zO.mono (zfP k v w) fun r w' h => by obtain ⟨p, c, rfl⟩ := h.1.two; exact ⟨p, c, rfl, h.1, h.2.2⟩
theorem zer (k v : ByteArray) (w : World) : zO TP 37 #[.string k, .string v] w fun r w' => ∃ p c, r = .slice p 2 c ∧ zU w' (.slice p 2 c) (yU k v) ∧ zm [] w w' :=
 zO.mono (zhy k v w) fun r w' h => by obtain ⟨p, c, rfl⟩ := h.1.two; exact ⟨p, c, rfl, h.1, h.2.2⟩
theorem zic (p : PrT) (u : Value) (w : World) (hp : zbv w u p) : zO TP 12 #[.agg (p.cs u).toArray] w fun r w' => (if yN p then ∃ v, r = .tuple #[v, Ii 0] ∧ zJ w' v (zg6 p) ∧ (∀ b ∈ zC v, w.heap.size ≤ b) else r = .tuple #[zH, Ii 2]) ∧ zm [] w w' := by
 obtain ⟨pu, cu, rfl, hcu⟩ := Rd.val hp
 refine A1 Tryz.func12 rfl rfl ?_
 refine Sr ?_
 refine Ob rfl rfl ?_
 intro b1 w1 e1 n1 c1 k1
 refine Oa rfl (Oa rfl (E2 1 2 rfl ?_))
 have k1 : zV w1 b1 27 (p.cs (.slice pu p.park.length cu)) := k1
 have hp1 : zF w1 _ p.park := Rd.chg0 hp c1
 refine zh (Sr ?_)
 refine Og (zi zac y7 rfl rfl (zu.of_blk0 k1)) rfl ?_
 refine Oc znd rfl rfl rfl (zhM p _ _ hp1) ?_
 rintro v12 w12 ⟨rfl, c12⟩
 refine Oa rfl (E3 1 2 3 rfl ?_)
 cases hck : yN p with
 | false =>
  simp only [Bool.false_eq_true, if_false]
  refine Sr (Om rfl ?_)
  refine Og (vt (zG rfl rfl) rfl) rfl ?_
  refine E4 1 2 3 14 rfl (zg rfl (Sr (Om rfl (Oa rfl (Oa rfl (E2 2 3 rfl (zj ?_)))))))
  repeat first | refine tr ?_ | refine br ?_
  refine zbF rfl rfl rfl ?_
  exact ⟨rfl, c1.trans c12⟩
 | true =>
  have ho := zbZ hck
  simp only [if_true]
  have hl4 := ho.len
  refine Sr (Om rfl ?_)
  refine Og (vf (zG rfl rfl) rfl) rfl ?_
  refine E4 1 2 3 14 rfl (zf rfl (zq ?_))
  have k12 := k1.chg0 c12
  have hp12 : zF w12 _ p.park := Rd.chg0 hp1 c12
  refine Sr ?_
  refine Oc zm1 rfl rfl rfl (zhZ _) ?_
  rintro v16 w16 ⟨m, rfl, hm, c16⟩
  refine Oa rfl (E3 1 2 4 rfl (zh (Sr (Om rfl ?_))))
  refine Oc zng rfl rfl rfl (zkb m _) ?_
  rintro v18 w18 ⟨rfl, rfl⟩
  refine Oc zmH rfl rfl rfl (zhj m zbh _ hm (by rw [zdg]; exact zfs) (by decide) (by decide +kernel)) ?_
  rintro v19 w19 ⟨ks, ps, cs, rfl, hks, hper, hsrt, c19⟩
  refine On z6 rfl (Om rfl (E6 1 2 4 19 20 21 rfl ?_))
  have hkk : ks = zbV := zdX (by rw [zdg] at hper; exact hper) hsrt zcP
  subst hkk
  have k16 : zV w16 b1 27 (p.cs (.slice pu p.park.length cu)) := k12.chg0 c16
  have k19 : zV w19 b1 27 (p.cs (.slice pu p.park.length cu)) := k16.chg0 c19
  have hm19 : zZ zbp w19 m zbh := hm.chg0 c19
  have hcc : zm [] w w19 := ((c1.trans c12).trans c16).trans c19
  refine zn ?_
  refine ye [1, 2, 4, 19, 20, 21] (fun n F wx => ∃ j : Nat, n = 5 - j ∧ j ≤ 5 ∧ ∃ x : Value, F = [(1, Pt b1), (2, x), (4, .map (some m)), (19, .slice ps 5 cs), (20, Ii 5), (21, Ii j)] ∧ zJ wx x (zaS ((za9 p).take j)) ∧ (∀ b ∈ zC x, w19.heap.size ≤ b) ∧ zm [] w19 wx) (m := 5 - 0) ⟨0, rfl, Nat.zero_le _, _, rfl, zJ.nil _, by simp [zC], zm.refl _ _⟩ ?_
  rintro n F wx ⟨j, rfl, hj, x, rfl, hu, hfu, hcx⟩
  have k1x := k19.chg0 hcx
  have hmx := hm19.chg0 hcx
  have hksx : zF wx _ zbV := Rd.chg0 hks hcx
  refine zh ?_
  by_cases hlt : j < 5
  ·refine zd ?_
   refine Og (vt (zE rfl rfl) (by simp; omega)) rfl ?_
   refine E7 1 2 4 19 20 21 22 rfl (zh (zg rfl (zq ?_)))
   obtain ⟨⟨kx, vx, bx⟩, f, g, bb, hlay, hkey, hget, hbd, hcall⟩ := zji ho hlt
   have htk : zaS ((za9 p).take (j + 1)) = zaS ((za9 p).take j) ++ zaS [(kx, vx, bx)] := by rw [List.take_add_one, hlay, ze0]; rfl
   obtain ⟨bo, oo, cpo, hve, hc1⟩ := zF.at hksx hkey
   cases hve
   refine zh (zn (Sr ?_))
   refine Og (ze z6 sz9 rfl rfl _ rfl hlt) rfl ?_
   refine Ol yt rfl hc1 ?_
   refine Oa rfl (E7 1 2 4 6 19 20 21 rfl (Sr (Om rfl (Om rfl ?_))))
   refine Og (zax (κ := zbp) zho (yo st9) zhG rfl rfl hmx hget rfl) rfl ?_
   refine Og (zhs zk8 rfl rfl) rfl ?_
   refine Og (zi zac y7 rfl rfl (zu.of_blk0 k1x)) rfl ?_
   refine Oc hbd rfl rfl rfl (hcall _ _ _) ?_
   rintro v31 w31 ⟨rfl, c31⟩
   refine Om rfl (Oe rfl rfl (Oe rfl rfl (Oa rfl (Oa rfl (za0 [1, 2, 4, 6, 7, 8, 19, 20, 21] (F' := [(1, _), (2, _), (4, _), (6, _), (7, _), (8, _), (19, _), (20, _), (21, _)]) rfl ?_)))))
   have hu31 := hu.chg0 c31
   have hl5 := zbD ((za9 p).take j)
   rw [List.length_take] at hl5
   refine zh ?_
   cases bx with
   | true =>
    refine zd (Om rfl (za0 [1, 2, 4, 6, 7, 19, 20, 21, 34] (F' := [(1, _), (2, _), (4, _), (6, _), (7, _), (19, _), (20, _), (21, _), (34, _)]) rfl (zg rfl ?_)))
    obtain ⟨us, hus, hls⟩ := hu31
    refine zd (Om rfl (Om rfl (Om rfl ?_)))
    refine Oc zmM rfl rfl rfl (zkq kx vx _) ?_
    rintro v38 w38 ⟨p38, q38, rfl, h38, c38⟩
    refine zA (gn rfl) (zv zdZ rfl (vs := [_]) rfl (css := [_]) ⟨rfl, trivial⟩ rfl rfl (cs := [_]) rfl rfl ?_)
    intro b39 w39 e39 n39 c39 k39
    refine zA (gn rfl) (yc zdZ yE rfl rfl (zB.chg0 hus (c38.trans c39)) (zB.of_blk (n := 1) k39 rfl (by simp [maxLen]) (by intro y hy; simp at hy; subst hy; rfl)) (by simp only [maxLen]; omega) (by omega) rfl ?_)
    intro v40 w40 i40 c40 o40 z40
    refine Oa rfl (N6 1 2 4 19 20 21 rfl (zk (zd ?_)))
    refine Og (zR rfl rfl (by omega)) rfl ?_
    refine Om rfl (N6 1 2 4 19 20 21 rfl ?_)
    have hs1 := hcx.size
    have hs2 := c31.size
    have hs3 := c38.size
    have hs4 := c39.size
    refine ⟨5 - (j + 1), by omega, j + 1, rfl, by omega, v40, rfl, ?_, zaN o40 hfu (by omega), (((hcx.trans c31).trans c38).trans c39).own c40 hfu⟩
    rw [htk]
    exact zJ.push (hus.chg0 c38) (hls.chg0 c38) h38 c39 i40 c40
   | false =>
    refine zd (Om rfl (za0 [1, 2, 4, 6, 7, 19, 20, 21, 34] (F' := [(1, _), (2, _), (4, _), (6, _), (7, _), (19, _), (20, _), (21, _), (34, _)]) rfl (zf rfl (yd (zk (zd ?_))))))
    refine Og (zR rfl rfl (by omega)) rfl ?_
    refine Om rfl (N6 1 2 4 19 20 21 rfl ?_)
    exact ⟨5 - (j + 1), by omega, j + 1, rfl, by omega, x, rfl, by rw [htk]; exact (List.append_nil _).symm ▸ hu31, hfu, hcx.trans c31⟩
  refine zd ?_
  refine Og (vf (zE rfl rfl) (by simp; omega)) rfl ?_
  refine E7 1 2 4 19 20 21 22 rfl (zh (zf rfl ?_))
  refine zP ?_
  repeat first | refine te ?_ | refine bo rfl ?_
  refine zp _ ?_
  have hj5 : j = 5 := by omega
  subst hj5
  have hu5 : zJ wx x (zaS (za9 p)) := hu
  clear hu
  have hpx : zF wx _ p.park := Rd.chg0 (Rd.chg0 (Rd.chg0 hp12 c16) c19) hcx
  refine zh (Sr (Od zN rfl ?_))
  refine Ol yy rfl (k1x.cell' (i := 6) rfl) ?_
  refine On z6 rfl (Om rfl (E4 2 43 44 45 rfl (zn ?_)))
  refine ye [2, 43, 44, 45] (fun n F wy => ∃ j : Nat, n = p.park.length - j ∧ j ≤ p.park.length ∧ ∃ y : Value, F = [(2, y), (43, .slice pu p.park.length cu), (44, Ii p.park.length), (45, Ii j)] ∧ zJ wy y (zaS (za9 p) ++ (p.park.take j).map zkH) ∧ (∀ b ∈ zC y, w19.heap.size ≤ b) ∧ zm [] w19 wy) (m := p.park.length - 0) ⟨0, rfl, Nat.zero_le _, _, rfl, by simpa using hu5, hfu, hcx⟩ ?_
  rintro n F wy ⟨j, rfl, hj, y, rfl, hu, hfu, hcy⟩
  have hpy : zF wy _ p.park := Rd.chg0 (Rd.chg0 (Rd.chg0 hp12 c16) c19) hcy
  refine zh ?_
  by_cases hlt : j < p.park.length
  ·refine zd ?_
   refine Og (vt (zE rfl rfl) (by simp; omega)) rfl ?_
   refine E5 2 43 44 45 46 rfl (zh (zg rfl (zq ?_)))
   have hx : p.park[j]? = some p.park[j] := by simp [hlt]
   have htk := List.take_succ_eq_append_getElem hlt
   have hsz := ho.size _ (List.getElem_mem hlt)
   generalize p.park[j] = kx at hx htk hsz
   obtain ⟨bo, oo, cpo, hve, hc1⟩ := zF.at hpy hx
   cases hve
   refine zh (zn (Sr ?_))
   refine Og (ze z6 sz9 rfl rfl _ rfl hlt) rfl ?_
   refine Ol yt rfl hc1 ?_
   refine Oa rfl (E5 2 10 43 44 45 rfl ?_)
   have hl5 := zbD (za9 p)
   have hl6 : (za9 p).length = 5 := rfl
   obtain ⟨us, hus, hls⟩ := hu
   refine zd (Om rfl (Om rfl ?_))
   refine Og (ze2 rfl rfl (show zaL.size + kx.size ≤ maxLen by have e : zaL.size = 1 := rfl; unfold maxLen; omega)) rfl ?_
   refine Oc zmM rfl rfl rfl (zkq (zaL ++ kx) e0 _) ?_
   rintro v52 w52 ⟨p52, q52, rfl, h52, c52⟩
   refine zA (gn rfl) (zv zdZ rfl (vs := [_]) rfl (css := [_]) ⟨rfl, trivial⟩ rfl rfl (cs := [_]) rfl rfl ?_)
   intro b53 w53 e53 n53 c53 k53
   refine zA (gn rfl) (yc zdZ yE rfl rfl (zB.chg0 hus (c52.trans c53)) (zB.of_blk (n := 1) k53 rfl (by simp [maxLen]) (by intro y hy; simp at hy; subst hy; rfl)) (by simp only [maxLen, List.length_append, List.length_map, List.length_take]; omega) (by simp only [List.length_append, List.length_map, List.length_take]; omega) rfl ?_)
   intro v54 w54 i54 c54 o54 z54
   refine Oa rfl (N4 2 43 44 45 rfl (zk (zd ?_)))
   refine Og (zR rfl rfl (by omega)) rfl ?_
   refine Om rfl (N4 2 43 44 45 rfl ?_)
   have hs1 := hcy.size
   have hs3 := c52.size
   have hs4 := c53.size
   refine ⟨p.park.length - (j + 1), by omega, j + 1, rfl, by omega, v54, rfl, ?_, zaN o54 hfu (by omega), ((hcy.trans c52).trans c53).own c54 hfu⟩
   rw [htk, List.map_append, ← List.append_assoc]
   exact zJ.push (hus.chg0 c52) (hls.chg0 c52) h52 c53 i54 c54
  refine zd ?_
  refine Og (vf (zE rfl rfl) (by simp; omega)) rfl ?_
  refine E5 2 43 44 45 46 rfl (zh (zf rfl ?_))
  refine zP ?_
  repeat first | refine te ?_ | refine bo rfl ?_
  refine zp _ ?_
  rw [List.take_of_length_le (by omega)] at hu
  refine Sr (Om rfl (Oa rfl (Oa rfl (E2 2 3 rfl (zj ?_)))))
  refine zbF rfl rfl rfl ?_
  have hs := hcc.size
  exact ⟨⟨y, rfl, hu, fun b hb => by have := hfu b hb; omega⟩, hcc.trans hcy⟩
end Go.Wk
namespace Go.Wk.V2
open Go.Wk
def kd (o : Oper) : Nat :=
 match o.op with
 | .move _ | .assign _ | .pick .. | .build .. | .binOp .. | .unOp .. | .makeInterface .. | .makeFunc .. | .slice .. | .fieldAddr .. | .field .. | .indexAddr .. | .index .. | .extract .. | .nilCheck _ => 0
 | .call { callee := .builtin .cap, .. } | .call { callee := .builtin .max, .. } | .call { callee := .builtin .min, .. } => 0
 | .load .. | .call { callee := .builtin .len, .. } => 1
 | .defer _ | .select .. | .go _ => 3
 | _ => 2
def yr (ops : Array Oper) : Nat → Nat → Nat → Bool
 | 0, _, _ => false
 | f + 1, j, i => match ops[j]? with
  | none => false
  | some oj => oj.after.any (fun e => Region.binds .any e && e.on == i) || oj.after.any (fun e => Region.binds .any e && yr ops f e.on i)
def fin (ops : Array Oper) (i : Nat) : Bool := (List.range ops.size).all fun j => match ops[j]? with | some oj => kd oj != 1 || yr ops ops.size i j | none => true
def zbR (ops : Array Oper) (i : Nat) (oi : Oper) (j : Nat) : Bool :=
 match ops[j]? with
 | none => true
 | some oj => yr ops ops.size j i || (oi.apart ops oj && !(kd oi == 2 && kd oj == 2))
def tOk (ops : Array Oper) : Bool := (List.range ops.size).all fun i => match ops[i]? with
 | none => true
 | some oi => kd oi != 3 && oi.after.all (fun e => !Region.binds .any e || Nat.blt e.on i) && (List.range ops.size).all fun j => Nat.ble j i || zbR ops i oi j
def yH (ops : Array Oper) (listed : Array Bool) : Prop := ∀ j oj, ops[j]? = some oj → listed.getD j false = true → ∀ e ∈ oj.after, Region.binds .any e = true → listed.getD e.on false = true
section
variable {ops : Array Oper}
theorem yT {listed : Array Bool} (hc : yH ops listed) : ∀ (f j i : Nat) (oj : Oper), ops[j]? = some oj → (∀ e ∈ oj.after, Region.binds .any e = true → listed.getD e.on false = true) → yr ops f j i = true → listed.getD i false = true
 | 0, _, _, _, _, _, h => by simp [yr] at h
 | f + 1, j, i, oj, hj, hall, h => by
  simp only [yr, hj, Bool.or_eq_true] at h
  rcases h with h | h
  ·obtain ⟨e, he, hb⟩ := Array.any_eq_true'.1 h
   simp only [Bool.and_eq_true, beq_iff_eq] at hb
   rw [← hb.2]
   exact hall e he hb.1
  obtain ⟨e, he, hb⟩ := Array.any_eq_true'.1 h
  simp only [Bool.and_eq_true] at hb
  have hl := hall e he hb.1
  cases ho : ops[e.on]? with
  | none => cases f <;> simp [yr, ho] at hb
  | some oe => exact yT hc f e.on i oe ho (hc e.on oe ho hl) hb.2
theorem yH.set {listed : Array Bool} (hc : yH ops listed) {i : Nat} (hi : i ∈ Region.ready .any ops listed) : yH ops (listed.setIfInBounds i true) := by
 obtain ⟨_, oi, hoi, hall⟩ := mem_ready.1 hi
 intro j oj hj hl e he hb
 by_cases hij : i = j
 ·subst hij
  have : oj = oi := Option.some.inj (hj.symm.trans hoi)
  subst this
  exact getD_set_true (hall e he hb)
 rw [getD_set_ne false hij] at hl
 exact getD_set_true (hc j oj hj hl e he hb)
theorem zc5 {listed : Array Bool} (hc : yH ops listed) {i j : Nat} (hi : i ∈ Region.ready .any ops listed) (hj : j ∈ Region.ready .any ops listed) (f : Nat) : yr ops f j i = false := by
 obtain ⟨_, oj, hoj, hall⟩ := mem_ready.1 hj
 cases h : yr ops f j i with
 | false => rfl
 | true =>
  have h1 := yT hc f j i oj hoj hall h
  have h0 := (mem_ready.1 hi).1
  rcases Nat.lt_or_ge i listed.size with h' | h'
  ·simp [h'] at h0 h1; rw [h0] at h1; cases h1
  simp [Array.getElem?_eq_none h'] at h1
end
section
variable {P : Program} {ops : Array Oper} {C : World → Prop}
def No (_ : Exit) (_ : Act) (_ : World) : Prop := False
def Yv (P : Program) (o : Oper) (a : Act) (w : World) (v : Value) : Prop := (execOp a.eval o).run P w = .ok (.value v) w
def tAt (P : Program) (C : World → Prop) (o : Oper) (B : Bool) (K : Act → World → Prop) (a : Act) (w : World) : Prop :=
 match kd o with
 | 0 => ∃ v, (∀ w', Yv P o a w' v) ∧ K (a.put o.dst v) w
 | 1 => ∃ v, (∀ w', C w' → Yv P o a w' v) ∧ K (a.put o.dst v) w
 | 2 => o.wp P a w (fun a' w' => (C w' ∨ B = true) ∧ (∃ u, a' = a.put o.dst u) ∧ K a' w') No
 | _ => False
def tOp (P : Program) (ops : Array Oper) (C : World → Prop) (i : Nat) (K : Act → World → Prop) (a : Act) (w : World) : Prop :=
 match ops[i]? with
 | none => K a w
 | some o => if Region.wanted o (yielded ops a.tmps) then tAt P C o (fin ops i) K a w else K (a.put o.dst undef) w
theorem zbM {o : Oper} {B : Bool} {K K' : Act → World → Prop} {a : Act} {w : World} (h : ∀ a' w', (w' = w ∨ C w' ∨ B = true) → K a' w' → K' a' w') (hh : tAt P C o B K a w) : tAt P C o B K' a w := by
 unfold tAt at *
 split at hh
 ·obtain ⟨v, h1, h2⟩ := hh; exact ⟨v, h1, h _ _ (.inl rfl) h2⟩
 ·obtain ⟨v, h1, h2⟩ := hh; exact ⟨v, h1, h _ _ (.inl rfl) h2⟩
 ·exact Oper.wp_mono (fun a' w' ⟨h1, h2, h3⟩ => ⟨h1, h2, h _ _ (.inr h1) h3⟩) hh
 exact hh
theorem zaG {i : Nat} {K K' : Act → World → Prop} {a : Act} {w : World} (h : ∀ a' w', (w' = w ∨ C w' ∨ fin ops i = true) → K a' w' → K' a' w') (hh : tOp P ops C i K a w) : tOp P ops C i K' a w := by
 unfold tOp at *
 split
 ·simp only [*] at hh; exact h _ _ (.inl rfl) hh
 rename_i o ho
 simp only [ho] at hh
 split
 ·rename_i hw; simp only [hw, if_true] at hh; exact zbM h hh
 rename_i hw; simp only [hw] at hh; exact h _ _ (.inl rfl) hh
theorem zco {o : Oper} {K : Act → World → Prop} {a : Act} {w : World} (h : o.wp P a w K No) : ∃ a' w', K a' w' := by
 unfold Oper.wp at h
 generalize (execOp a.eval o).run P w = r at h
 cases r with
 | ok x w1 =>
  cases x <;> simp only [Oper.upon] at h
  case enter f args =>
   obtain ⟨e, w', fr, hR, _⟩ := h []
   cases e with
   | returned v => exact ⟨_, _, hR⟩
   | panicked c => exact hR.elim
   | outgrown => obtain ⟨_, _, hx⟩ := hR; exact hx.elim
  case row row args =>
   obtain ⟨v, w', hR, _⟩ := h default []
   exact ⟨_, _, hR⟩
  all_goals first
   | exact ⟨_, _, h⟩
   | exact h.elim
 | halt x w1 =>
  cases x <;> simp only [Oper.upon] at h
  all_goals exact h.elim
theorem zeX {o : Oper} {B : Bool} {K : Act → World → Prop} {a : Act} {w : World} (h : tAt P C o B K a w) : ∃ a' w', K a' w' := by
 unfold tAt at h
 split at h
 ·obtain ⟨v, _, h2⟩ := h; exact ⟨_, _, h2⟩
 ·obtain ⟨v, _, h2⟩ := h; exact ⟨_, _, h2⟩
 ·obtain ⟨_, _, h1⟩ := zco h; exact ⟨_, _, h1.2.2⟩
 exact h.elim
theorem zeJ {i : Nat} {K : Act → World → Prop} {a : Act} {w : World} (h : tOp P ops C i K a w) : ∃ a' w', K a' w' := by
 unfold tOp at h
 split at h
 ·exact ⟨_, _, h⟩
 split at h
 ·exact zeX h
 exact ⟨_, _, h⟩
theorem Yv.put {o : Oper} {a : Act} {w : World} {v : Value} (h : Yv P o a w v) (hs : ∀ cs b, o.op ≠ .select cs b) (x : Option Tmp) (u : Value) (hx : ∀ d, x = some d → d ∉ o.looksAt ops) : Yv P o (a.put x u) w v := by
 unfold Yv at *
 rw [execOp_put o hs a x u hx]
 exact h
theorem Yv.unput {o : Oper} {a : Act} {w : World} {v : Value} {x : Option Tmp} {u : Value} (h : Yv P o (a.put x u) w v) (hs : ∀ cs b, o.op ≠ .select cs b) (hx : ∀ d, x = some d → d ∉ o.looksAt ops) : Yv P o a w v := by
 unfold Yv at *
 rw [execOp_put o hs a x u hx] at h
 exact h
theorem zah (a : Act) (x : Option Tmp) (u : Value) : (a.put x u).defers = a.defers := by cases x <;> rfl
theorem zct {o : Oper} {a : Act} {w : World} {K : Act → World → Prop} {x : Option Tmp} {u : Value} (hs : ∀ cs b, o.op ≠ .select cs b) (hx : ∀ d, x = some d → d ∉ o.looksAt ops) (hne : ∀ d, x = some d → o.dst ≠ some d)
 (h : o.wp P a w (fun a' w' => (∃ y, a' = a.put o.dst y) ∧ K a' w') No) : o.wp P (a.put x u) w (fun a' w' => ∃ a0, a' = a0.put x u ∧ (∃ y, a0 = a.put o.dst y) ∧ K a0 w') No := by
 unfold Oper.wp at *
 rw [execOp_put o hs a x u hx]
 have hc : ∀ y, (a.put x u).put o.dst y = (a.put o.dst y).put x u := fun y => Act.put_comm a u y hne
 generalize (execOp a.eval o).run P w = r at *
 cases r with
 | ok n w1 =>
  cases n <;> simp only [Oper.upon] at h ⊢
  case value v => exact ⟨_, hc v, h.1, h.2⟩
  case skip => exact ⟨_, hc undef, h.1, h.2⟩
  case defer dd =>
   obtain ⟨⟨y, hy⟩, _⟩ := h
   have := congrArg Act.defers hy
   simp [zah] at this
  case enter f args =>
   refine Calls.mono h ?_
   intro e w2 he
   cases e with
   | returned v => exact ⟨_, hc v, he.1, he.2⟩
   | panicked c => exact he
   | outgrown => exact he
  case row row args => exact Rows.mono h fun v w2 hv => ⟨_, hc v, hv.1, hv.2⟩
  all_goals exact h
 | halt h0 w1 => cases h0 <;> simp only [Oper.upon] at h ⊢ <;> exact h
theorem za5 {o : Oper} {a : Act} {w : World} {K : Act → World → Prop} {x : Option Tmp} {u : Value} (hs : ∀ cs b, o.op ≠ .select cs b) (hx : ∀ d, x = some d → d ∉ o.looksAt ops) (hne : ∀ d, x = some d → o.dst ≠ some d)
 (h : o.wp P (a.put x u) w (fun a' w' => (∃ y, a' = (a.put x u).put o.dst y) ∧ K a' w') No) : o.wp P a w (fun a' w' => (∃ y, a' = a.put o.dst y) ∧ K (a'.put x u) w') No := by
 unfold Oper.wp at *
 rw [execOp_put o hs a x u hx] at h
 have hc : ∀ y, (a.put x u).put o.dst y = (a.put o.dst y).put x u := fun y => Act.put_comm a u y hne
 generalize (execOp a.eval o).run P w = r at *
 cases r with
 | ok n w1 =>
  cases n <;> simp only [Oper.upon] at h ⊢
  case value v => exact ⟨⟨_, rfl⟩, hc v ▸ h.2⟩
  case skip => exact ⟨⟨_, rfl⟩, hc undef ▸ h.2⟩
  case defer dd =>
   obtain ⟨⟨y, hy⟩, _⟩ := h
   have := congrArg Act.defers hy
   simp [zah] at this
  case enter f args =>
   refine Calls.mono h ?_
   intro e w2 he
   cases e with
   | returned v => exact ⟨⟨_, rfl⟩, hc v ▸ he.2⟩
   | panicked c => exact he
   | outgrown => exact he
  case row row args => exact Rows.mono h fun v w2 hv => ⟨⟨_, rfl⟩, hc v ▸ hv.2⟩
  all_goals exact h
 | halt h0 w1 => cases h0 <;> simp only [Oper.upon] at h ⊢ <;> exact h
theorem zbt {o : Oper} (h : kd o ≠ 3) : ∀ cs b, o.op ≠ .select cs b := by
 intro cs b he
 apply h
 simp [kd, he]
theorem zdT {i j : Nat} {oi oj : Oper} (hi : ops[i]? = some oi) (hj : ops[j]? = some oj) (hap : oi.apart ops oj = true) (hki : kd oi ≠ 3) (hkj : kd oj ≠ 3) (hl : ¬ (kd oi = 2 ∧ kd oj = 2)) {w0 : World} (hw0 : C w0)
 {K : Act → World → Prop} {a : Act} {w : World} (h : tOp P ops C i (fun a' w' => tOp P ops C j K a' w') a w) : tOp P ops C j (fun a' w' => tOp P ops C i K a' w') a w := by
 obtain ⟨h1, h2, h3⟩ := Oper.apart_spec hap
 have h2' : ∀ d, oj.dst = some d → oi.dst ≠ some d := fun d hd he => h2 d he hd
 have si := zbt hki
 have sj := zbt hkj
 have wj : ∀ (a : Act) u, Region.wanted oj (yielded ops (a.put oi.dst u).tmps) = Region.wanted oj (yielded ops a.tmps) := fun a u => wanted_put oj a oi.dst u h1
 have wi : ∀ (a : Act) u, Region.wanted oi (yielded ops (a.put oj.dst u).tmps) = Region.wanted oi (yielded ops a.tmps) := fun a u => wanted_put oi a oj.dst u h3
 have hcm : ∀ (a : Act) u y, (a.put oi.dst u).put oj.dst y = (a.put oj.dst y).put oi.dst u := fun a u y => Act.put_comm a u y h2
 unfold tOp at *
 simp only [hi, hj] at *
 by_cases hwi : Region.wanted oi (yielded ops a.tmps) = true
 ·by_cases hwj : Region.wanted oj (yielded ops a.tmps) = true
  ·simp only [hwi, hwj, if_true] at h ⊢
   unfold tAt at *
   have ki : kd oi = 0 ∨ kd oi = 1 ∨ kd oi = 2 := by
    revert hki; generalize oi = o; unfold kd; split <;> simp
   have kj : kd oj = 0 ∨ kd oj = 1 ∨ kd oj = 2 := by
    revert hkj; generalize oj = o; unfold kd; split <;> simp
   rcases ki with ki | ki | ki <;> rcases kj with kj | kj | kj <;> simp only [ki, kj] at h ⊢
   case inl.inl =>
    obtain ⟨v, hv, hk⟩ := h
    rw [wj, if_pos hwj] at hk
    obtain ⟨u, hu, hk⟩ := hk
    refine ⟨u, fun w' => (hu w').unput sj h1, ?_⟩
    rw [wi, if_pos hwi]
    exact ⟨v, fun w' => (hv w').put si _ _ h3, hcm a v u ▸ hk⟩
   case inl.inr.inl =>
    obtain ⟨v, hv, hk⟩ := h
    rw [wj, if_pos hwj] at hk
    obtain ⟨u, hu, hk⟩ := hk
    refine ⟨u, fun w' hw' => (hu w' hw').unput sj h1, ?_⟩
    rw [wi, if_pos hwi]
    exact ⟨v, fun w' => (hv w').put si _ _ h3, hcm a v u ▸ hk⟩
   case inr.inl.inl =>
    obtain ⟨v, hv, hk⟩ := h
    rw [wj, if_pos hwj] at hk
    obtain ⟨u, hu, hk⟩ := hk
    refine ⟨u, fun w' => (hu w').unput sj h1, ?_⟩
    rw [wi, if_pos hwi]
    exact ⟨v, fun w' hw' => (hv w' hw').put si _ _ h3, hcm a v u ▸ hk⟩
   case inr.inl.inr.inl =>
    obtain ⟨v, hv, hk⟩ := h
    rw [wj, if_pos hwj] at hk
    obtain ⟨u, hu, hk⟩ := hk
    refine ⟨u, fun w' hw' => (hu w' hw').unput sj h1, ?_⟩
    rw [wi, if_pos hwi]
    exact ⟨v, fun w' hw' => (hv w' hw').put si _ _ h3, hcm a v u ▸ hk⟩
   case inl.inr.inr =>
    obtain ⟨v, hv, hk⟩ := h
    rw [wj, if_pos hwj] at hk
    have hk' := za5 (ops := ops) (K := fun a' w' => (C w' ∨ fin ops j = true) ∧ K a' w') sj h1 h2 (Oper.wp_mono (fun a' w' ⟨q1, q2, q3⟩ => ⟨q2, q1, q3⟩) hk)
    refine Oper.wp_mono ?_ hk'
    rintro a' w' ⟨⟨y, rfl⟩, q1, q2⟩
    refine ⟨q1, ⟨y, rfl⟩, ?_⟩
    rw [wi, if_pos hwi]
    exact ⟨v, fun w' => (hv w').put si _ _ h3, q2⟩
   case inr.inl.inr.inr =>
    obtain ⟨v, hv, hk⟩ := h
    rw [wj, if_pos hwj] at hk
    have hk' := za5 (ops := ops) (K := fun a' w' => (C w' ∨ fin ops j = true) ∧ K a' w') sj h1 h2 (Oper.wp_mono (fun a' w' ⟨q1, q2, q3⟩ => ⟨q2, q1, q3⟩) hk)
    refine Oper.wp_mono ?_ hk'
    rintro a' w' ⟨⟨y, rfl⟩, q1, q2⟩
    refine ⟨q1, ⟨y, rfl⟩, ?_⟩
    rw [wi, if_pos hwi]
    exact ⟨v, fun w' hw' => (hv w' hw').put si _ _ h3, q2⟩
   case inr.inr.inl =>
    obtain ⟨a1, w1, _, ⟨y1, e1⟩, hk1⟩ := zco h
    subst e1
    rw [wj, if_pos hwj] at hk1
    obtain ⟨u, hu, _⟩ := hk1
    have hu0 : ∀ w', Yv P oj a w' u := fun w' => (hu w').unput sj h1
    refine ⟨u, hu0, ?_⟩
    rw [wi, if_pos hwi]
    have h' := zct (ops := ops) (x := oj.dst) (u := u) (K := fun a' w' => (C w' ∨ fin ops i = true) ∧ (if Region.wanted oj (yielded ops a'.tmps) = true then ∃ v, (∀ w', Yv P oj a' w' v) ∧ K (a'.put oj.dst v) w' else K (a'.put oj.dst undef) w')) si h3 h2' (Oper.wp_mono (fun a' w' ⟨q1, q2, q3⟩ => ⟨q2, q1, q3⟩) h)
    refine Oper.wp_mono ?_ h'
    rintro a' w' ⟨a0, rfl, ⟨y, rfl⟩, q1, q2⟩
    refine ⟨q1, ⟨y, hcm a y u⟩, ?_⟩
    rw [wj, if_pos hwj] at q2
    obtain ⟨v, hv, hk⟩ := q2
    have : v = u := by
     have e1 := (hv w0).unput sj h1
     have e2 := hu0 w0
     unfold Yv at e1 e2
     rw [e1] at e2
     simpa using e2
    rw [← this]
    exact hk
   case inr.inr.inr.inl =>
    obtain ⟨a1, w1, _, ⟨y1, e1⟩, hk1⟩ := zco h
    subst e1
    rw [wj, if_pos hwj] at hk1
    obtain ⟨u, hu, _⟩ := hk1
    have hu0 : ∀ w', C w' → Yv P oj a w' u := fun w' hw' => (hu w' hw').unput sj h1
    refine ⟨u, hu0, ?_⟩
    rw [wi, if_pos hwi]
    have h' := zct (ops := ops) (x := oj.dst) (u := u) (K := fun a' w' => (C w' ∨ fin ops i = true) ∧ (if Region.wanted oj (yielded ops a'.tmps) = true then ∃ v, (∀ w', C w' → Yv P oj a' w' v) ∧ K (a'.put oj.dst v) w' else K (a'.put oj.dst undef) w')) si h3 h2' (Oper.wp_mono (fun a' w' ⟨q1, q2, q3⟩ => ⟨q2, q1, q3⟩) h)
    refine Oper.wp_mono ?_ h'
    rintro a' w' ⟨a0, rfl, ⟨y, rfl⟩, q1, q2⟩
    refine ⟨q1, ⟨y, hcm a y u⟩, ?_⟩
    rw [wj, if_pos hwj] at q2
    obtain ⟨v, hv, hk⟩ := q2
    have : v = u := by
     have e1 := (hv w0 hw0).unput sj h1
     have e2 := hu0 w0 hw0
     unfold Yv at e1 e2
     rw [e1] at e2
     simpa using e2
    rw [← this]
    exact hk
   case inr.inr.inr.inr => exact absurd ⟨ki, kj⟩ hl
  have hwj' : Region.wanted oj (yielded ops a.tmps) = false := by simpa using hwj
  simp only [hwi, hwj', if_true, Bool.false_eq_true, if_false] at h ⊢
  rw [wi, if_pos hwi]
  have ki : kd oi = 0 ∨ kd oi = 1 ∨ kd oi = 2 := by
   revert hki; generalize oi = o; unfold kd; split <;> simp
  unfold tAt at h ⊢
  rcases ki with ki | ki | ki <;> simp only [ki] at h ⊢
  ·obtain ⟨v, hv, hk⟩ := h
   rw [wj, if_neg hwj] at hk
   exact ⟨v, fun w' => (hv w').put si _ _ h3, hcm a v undef ▸ hk⟩
  ·obtain ⟨v, hv, hk⟩ := h
   rw [wj, if_neg hwj] at hk
   exact ⟨v, fun w' hw' => (hv w' hw').put si _ _ h3, hcm a v undef ▸ hk⟩
  have h0 : oi.wp P a w (fun a' w' => (∃ y, a' = a.put oi.dst y) ∧ (C w' ∨ fin ops i = true) ∧ K (a'.put oj.dst undef) w') No := by
   refine Oper.wp_mono ?_ h
   rintro a' w' ⟨q1, ⟨y, rfl⟩, q3⟩
   rw [wj, if_neg hwj] at q3
   exact ⟨⟨y, rfl⟩, q1, q3⟩
  have h' := zct (ops := ops) (x := oj.dst) (u := undef) (K := fun a' w' => (C w' ∨ fin ops i = true) ∧ K (a'.put oj.dst undef) w') si h3 h2' h0
  refine Oper.wp_mono ?_ h'
  rintro a' w' ⟨a0, rfl, ⟨y, rfl⟩, q1, q2⟩
  exact ⟨q1, ⟨y, hcm a y undef⟩, q2⟩
 have hwi' : Region.wanted oi (yielded ops a.tmps) = false := by simpa using hwi
 simp only [hwi', Bool.false_eq_true, if_false] at h
 rw [wj] at h
 by_cases hwj : Region.wanted oj (yielded ops a.tmps) = true
 ·simp only [hwj, if_true] at h ⊢
  have kj : kd oj = 0 ∨ kd oj = 1 ∨ kd oj = 2 := by
   revert hkj; generalize oj = o; unfold kd; split <;> simp
  unfold tAt at h ⊢
  rcases kj with kj | kj | kj <;> simp only [kj] at h ⊢
  ·obtain ⟨v, hv, hk⟩ := h
   refine ⟨v, fun w' => (hv w').unput sj h1, ?_⟩
   rw [wi, if_neg hwi]
   exact hcm a undef v ▸ hk
  ·obtain ⟨v, hv, hk⟩ := h
   refine ⟨v, fun w' hw' => (hv w' hw').unput sj h1, ?_⟩
   rw [wi, if_neg hwi]
   exact hcm a undef v ▸ hk
  have hk' := za5 (ops := ops) (K := fun a' w' => (C w' ∨ fin ops j = true) ∧ K a' w') sj h1 h2 (Oper.wp_mono (fun a' w' ⟨q1, q2, q3⟩ => ⟨q2, q1, q3⟩) h)
  refine Oper.wp_mono ?_ hk'
  rintro a' w' ⟨⟨y, rfl⟩, q1, q2⟩
  refine ⟨q1, ⟨y, rfl⟩, ?_⟩
  rw [wi, if_neg hwi]
  exact q2
 simp only [hwj] at h ⊢
 rw [wi, if_neg hwi]
 exact hcm a undef undef ▸ h
def aT (P : Program) (ops : Array Oper) (C : World → Prop) (Q : Act → World → Prop) : Nat → Array Bool → Act → World → Prop
 | 0, listed, a, w => Region.ready .any ops listed = [] ∧ Q a w
 | f + 1, listed, a, w => (Region.ready .any ops listed = [] → Q a w) ∧ ∀ i ∈ Region.ready .any ops listed, tOp P ops C i (aT P ops C Q f (listed.setIfInBounds i true)) a w
theorem y6 {l : Array Bool} {j : Nat} (i : Nat) (h : l.getD j true = true) : (l.setIfInBounds i true).getD j true = true := by
 by_cases e : i = j
 ·subst e
  rcases Nat.lt_or_ge i l.size with h' | h'
  ·simp [h']
  simp [Array.getElem?_eq_none h']
 rw [getD_set_ne true e]; exact h
def zbw (ops : Array Oper) (listed : Array Bool) : Prop := ∀ j o, ops[j]? = some o → kd o = 1 → listed.getD j true = true
theorem zbw.set {listed : Array Bool} (h : zbw ops listed) (i : Nat) : zbw ops (listed.setIfInBounds i true) := fun j o hj hk => y6 i (h j o hj hk)
theorem zd7 {i : Nat} {listed : Array Bool} (hf : fin ops i = true) (hc : yH ops listed) (hi : i ∈ Region.ready .any ops listed) : zbw ops (listed.setIfInBounds i true) := by
 intro j o hj hk
 have h1 := List.all_eq_true.1 hf j (List.mem_range.2 (Array.getElem?_eq_some_iff.1 hj).1)
 simp only [hj, hk, Bool.or_eq_true] at h1
 obtain ⟨_, oi, hoi, hall⟩ := mem_ready.1 hi
 rcases h1 with h1 | h1
 ·simp at h1
 have h2 := yT hc _ i j oi hoi hall h1
 refine y6 i ?_
 rcases Nat.lt_or_ge j listed.size with h' | h'
 ·simp [h'] at h2 ⊢; exact h2
 simp [Array.getElem?_eq_none h'] at h2
theorem zao {Q : Act → World → Prop} {Q' : Exit → Act → World → Prop} (hQ : ∀ a w, Q a w → Q' .normal a w) : ∀ (f : Nat) (listed : Array Bool) (a : Act) (w : World), yH ops listed → (C w ∨ zbw ops listed) →
 aT P ops C Q f listed a w → wpAny P .any ops Q' f listed a w
 | 0, _, _, _, _, _, h => ⟨h.1, hQ _ _ h.2⟩
 | f + 1, listed, a, w, hc, hw, h => by
  refine ⟨fun h0 => hQ _ _ (h.1 h0), fun i hi => ?_⟩
  have h1 := h.2 i hi
  have ih := fun a' w' hw' => zao (Q := Q) (Q' := Q') hQ f (listed.setIfInBounds i true) a' w' (hc.set hi) hw'
  have hw' : C w ∨ zbw ops (listed.setIfInBounds i true) := hw.imp id (fun h => h.set i)
  unfold tOp at h1
  unfold wpOp
  cases ho : ops[i]? with
  | none => simp only [ho] at h1 ⊢; exact ih _ _ hw' h1
  | some o =>
   simp only [ho] at h1 ⊢
   split at h1
   ·rename_i hwd
    rw [if_pos hwd]
    refine .inl ?_
    unfold tAt at h1
    split at h1
    ·obtain ⟨v, hv, hk⟩ := h1
     have e := hv w
     unfold Yv at e
     unfold Oper.wp
     rw [e]
     exact ih _ _ hw' hk
    ·rename_i hk1
     obtain ⟨v, hv, hk⟩ := h1
     have hCw : C w := by
      rcases hw with hw | hw
      ·exact hw
      have := hw i o ho hk1
      have h0 := (mem_ready.1 hi).1
      rw [this] at h0
      cases h0
     have e := hv w hCw
     unfold Yv at e
     unfold Oper.wp
     rw [e]
     exact ih _ _ hw' hk
    ·refine Oper.wp_mono (Q := Q') (K := fun a' w' => (C w' ∨ fin ops i = true) ∧ (∃ u, a' = a.put o.dst u) ∧ aT P ops C Q f (listed.setIfInBounds i true) a' w') ?_ ?_
     ·rintro a' w' ⟨q1, _, q3⟩
      exact ih _ _ (q1.imp id fun hf => zd7 hf hc hi) q3
     unfold Oper.wp at h1 ⊢
     generalize (execOp a.eval o).run P w = r at *
     cases r with
     | ok n w1 =>
      cases n <;> simp only [Oper.upon] at h1 ⊢
      case enter f args =>
       refine Calls.mono h1 ?_
       intro e w2 he
       cases e with
       | returned v => exact he
       | panicked c => exact he.elim
       | outgrown => obtain ⟨_, _, hx⟩ := he; exact hx.elim
      all_goals exact h1
     | halt h0 w1 => cases h0 <;> simp only [Oper.upon] at h1 ⊢ <;> exact h1.elim
    exact h1.elim
   rename_i hwd
   rw [if_neg hwd]
   exact ih _ _ hw' h1
theorem zcV {Q : Act → World → Prop} {i : Nat} {oi : Oper} (hi : ops[i]? = some oi) (hki : kd oi ≠ 3) (hk3 : ∀ (j : Nat) (oj : Oper), ops[j]? = some oj → kd oj ≠ 3) {w0 : World} (hw0 : C w0) :
 ∀ (f : Nat) (listed : Array Bool) (a : Act) (w : World), yH ops listed →
  (∀ (j : Nat) (oj : Oper), ops[j]? = some oj → j ≠ i → listed.getD j true = false → yr ops ops.size j i = true ∨ (oi.apart ops oj = true ∧ ¬ (kd oi = 2 ∧ kd oj = 2))) →
  i ∈ Region.ready .any ops listed → tOp P ops C i (aT P ops C Q f (listed.setIfInBounds i true)) a w → aT P ops C Q (f + 1) listed a w := by
 intro f
 induction f with
 | zero =>
  intro listed a w _ _ hr H
  refine ⟨fun h => (by rw [h] at hr; cases hr), fun j hj => ?_⟩
  by_cases hji : j = i
  ·subst hji; exact H
  have := ready_mono hj hji
  obtain ⟨a', w', h1, _⟩ := zeJ H
  rw [h1] at this
  cases this
 | succ f ih =>
  intro listed a w hc hfree hr H
  refine ⟨fun h => (by rw [h] at hr; cases hr), fun j hj => ?_⟩
  by_cases hji : j = i
  ·subst hji; exact H
  obtain ⟨hjun, oj, hoj, hall⟩ := mem_ready.1 hj
  have hnr := zc5 hc hr hj ops.size
  obtain ⟨hap, hl⟩ := (hfree j oj hoj hji hjun).resolve_left (by simp [hnr])
  have H1 : tOp P ops C i (fun a' w' => tOp P ops C j (aT P ops C Q f ((listed.setIfInBounds i true).setIfInBounds j true)) a' w') a w :=
   zaG (fun a' w' _ h => h.2 j (ready_mono hj hji)) H
  have H2 := zdT hi hoj hap hki (hk3 j oj hoj) hl hw0 H1
  refine zaG (fun a' w' _ h3 => ih (listed.setIfInBounds j true) a' w' (hc.set hj) ?_ (ready_mono hr (Ne.symm hji)) ?_) H2
  ·intro k ok hk hki hun
   refine hfree k ok hk hki ?_
   by_cases hjk : j = k
   ·subst hjk; exact hjun
   rw [getD_set_ne true hjk] at hun; exact hun
  rw [Array.setIfInBounds_comm _ _ hji]
  exact h3
def wpT (P : Program) (ops : Array Oper) (C : World → Prop) (Q : Act → World → Prop) : Nat → List Oper → Act → World → Prop
 | _, [], a, w => Q a w
 | k, o :: rest, a, w => if Region.wanted o (yielded ops a.tmps) then tAt P C o (fin ops k) (wpT P ops C Q (k + 1) rest) a w else wpT P ops C Q (k + 1) rest (a.put o.dst undef) w
theorem za7 (h : tOk ops = true) (i : Nat) (oi : Oper) (hi : ops[i]? = some oi) : kd oi ≠ 3 ∧ (∀ e ∈ oi.after, Region.binds .any e = true → e.on < i) ∧
 ∀ j oj, ops[j]? = some oj → i < j → yr ops ops.size j i = true ∨ (oi.apart ops oj = true ∧ ¬ (kd oi = 2 ∧ kd oj = 2)) := by
 have h1 := List.all_eq_true.1 h i (List.mem_range.2 (Array.getElem?_eq_some_iff.1 hi).1)
 simp only [hi, Bool.and_eq_true] at h1
 obtain ⟨⟨h1, h2⟩, h3⟩ := h1
 refine ⟨by simpa using h1, fun e he hb => ?_, fun j oj hj hij => ?_⟩
 ·have := Array.all_eq_true_iff_forall_mem.1 h2 e he
  simp only [hb, Bool.not_true, Bool.false_or] at this
  exact Nat.lt_of_succ_le (Nat.le_of_ble_eq_true this)
 have := List.all_eq_true.1 h3 j (List.mem_range.2 (Array.getElem?_eq_some_iff.1 hj).1)
 simp only [Bool.or_eq_true, zbR, hj] at this
 rcases this with this | this
 ·have := Nat.le_of_ble_eq_true this; omega
 rcases this with this | this
 ·exact .inl this
 simp only [Bool.and_eq_true, Bool.not_eq_true'] at this
 refine .inr ⟨this.1, fun ⟨e1, e2⟩ => ?_⟩
 have h3 := this.2
 rw [e1, e2] at h3
 simp at h3
theorem zbo {Q : Act → World → Prop} (hB : tOk ops = true) {w0 : World} (hw0 : C w0) : ∀ (l : List Oper) (k : Nat) (listed : Array Bool) (a : Act) (w : World), (∀ j, l[j]? = ops[k + j]?) → k + l.length = ops.size → listed.size = ops.size →
 (∀ j, j < ops.size → (listed.getD j true = true ↔ j < k)) → wpT P ops C Q k l a w → aT P ops C Q l.length listed a w
 | [], k, listed, a, w, _, hk, hs, hli, h => by
  refine ⟨?_, h⟩
  refine List.eq_nil_iff_forall_not_mem.2 fun j hj => ?_
  obtain ⟨h0, oj, hoj, _⟩ := mem_ready.1 hj
  have hlt := (Array.getElem?_eq_some_iff.1 hoj).1
  have := (hli j hlt).2 (by simp at hk; omega)
  rw [this] at h0
  cases h0
 | o :: l, k, listed, a, w, hl, hk, hs, hli, h => by
  have h0 : ops[k]? = some o := by simpa using (hl 0).symm
  have hklt := (Array.getElem?_eq_some_iff.1 h0).1
  obtain ⟨hk3, hed, hpair⟩ := za7 hB k o h0
  have hget : ∀ j, j < ops.size → (listed.getD j false = true ↔ j < k) := fun j hj => by
   rw [← hli j hj]
   have : j < listed.size := by omega
   simp [this]
  have hclosed : yH ops listed := by
   intro j oj hj hlj e he hb
   have hjlt := (Array.getElem?_eq_some_iff.1 hj).1
   have h1 := (hget j hjlt).1 hlj
   have h2 := (za7 hB j oj hj).2.1 e he hb
   exact (hget e.on (by omega)).2 (by omega)
  have hready : k ∈ Region.ready .any ops listed := by
   refine mem_ready.2 ⟨?_, o, h0, fun e he hb => (hget e.on (by have := hed e he hb; omega)).2 (hed e he hb)⟩
   cases hx : listed.getD k true with
   | false => rfl
   | true => have := (hli k hklt).1 hx; omega
  refine zcV h0 hk3 (fun j oj hj => (za7 hB j oj hj).1) hw0 l.length listed a w hclosed ?_ hready ?_
  ·intro j oj hj hne hun
   have hjlt := (Array.getElem?_eq_some_iff.1 hj).1
   have : ¬ j < k := fun hh => by have := (hli j hjlt).2 hh; rw [this] at hun; cases hun
   exact hpair j oj hj (by omega)
  have hrest : ∀ a' w', wpT P ops C Q (k + 1) l a' w' → aT P ops C Q l.length (listed.setIfInBounds k true) a' w' := fun a' w' h' =>
   zbo hB hw0 l (k + 1) _ a' w' (fun j => by have := hl (j + 1); simpa [Nat.add_assoc, Nat.add_comm 1 j] using this) (by simp at hk; omega) (by simpa using hs)
    (fun j hj => by
     by_cases e : k = j
     ·subst e
      have : k < listed.size := by omega
      simp [this]
     rw [getD_set_ne true e, hli j hj]; omega) h'
  unfold tOp
  simp only [h0]
  simp only [wpT] at h
  split at h
  ·rename_i hw; rw [if_pos hw]; exact zbM (fun a' w' _ => hrest a' w') h
  rename_i hw; rw [if_neg hw]; exact hrest _ _ h
theorem zb3 {id : Nat} {Q : Act → World → Prop} {Q' : Exit → Act → World → Prop} {a : Act} {w : World} (hQ : ∀ a w, Q a w → Q' .normal a w) (hm : P.follows .mixedOrders = true) (hB : tOk ops = true) (hC : C w.drew)
 (h : wpT P ops C Q 0 ops.toList a w.drew) : (Code.region id ops true).wp P Q' a w := by
 refine wp_region_any hm ?_
 have := zbo (P := P) (Q := Q) hB hC ops.toList 0 (Array.replicate ops.size false) a w.drew (by simp) (by simp) (by simp) (fun j hj => by simp [hj]) h
 refine zao (C := C) hQ _ _ _ _ ?_ (.inl hC) (by simpa using this)
 intro j oj hj hl
 have hjlt := (Array.getElem?_eq_some_iff.1 hj).1
 simp [hjlt] at hl
end
section
variable {P : Program} {n : Nat} {Q : Exit → Fr → World → Prop} {F : Fr} {w w' : World} {o : Oper} {ops : Array Oper} {rest : List Oper} {C : World → Prop} {k d : Nat}
def T (P : Program) (n : Nat) (ops : Array Oper) (C : World → Prop) (Q : Exit → Fr → World → Prop) (k : Nat) (l : List Oper) (F : Fr) (w : World) : Prop :=
 ∀ a, Rep n F a → wpT P ops C (fun a w => ∃ F, Rep n F a ∧ Q .normal F w) k l a w
theorem W_draw (C : World → Prop) {id : Nat} {l : List Oper} (hm : P.follows .mixedOrders = true) (hB : tOk l.toArray = true) (hC : C w.drew) (h : T P n l.toArray C Q 0 l F w.drew) : W P n (.region id l.toArray true) Q F w :=
 fun a ha => zb3 (C := C) (Q := fun a w => ∃ F, Rep n F a ∧ Q .normal F w) (fun _ _ h => h) hm hB hC (by simpa using h a ha)
theorem yD (keep : List Nat) {F' : Fr} (hF : prune keep F = F') (h : Q .normal F' w) : T P n ops C Q k [] F w := fun _ ha => ⟨F', hF ▸ ha.prune keep, h⟩
theorem t_pure {v : Value} (hk : Nat.ble (kd o) 1 = true) (hw : Wd n F ops o) (hv : ∀ w, Vl P n F o w v w) (hd : o.dst = some d) (hn : Nat.blt d n = true) (h : T P n ops C Q (k + 1) rest ((d, v) :: F) w) : T P n ops C Q k (o :: rest) F w := by
 intro a ha
 have hk' : kd o = 0 ∨ kd o = 1 := by have := Nat.le_of_ble_eq_true hk; omega
 rcases hk' with hk | hk
 ·simp only [wpT, hw a ha, if_true, tAt, hk]
  refine ⟨v, fun w' => hv w' a ha, ?_⟩
  rw [hd]
  exact h _ (ha.put hn v)
 simp only [wpT, hw a ha, if_true, tAt, hk]
 refine ⟨v, fun w' _ => hv w' a ha, ?_⟩
 rw [hd]
 exact h _ (ha.put hn v)
theorem t_read {v : Value} (hk : kd o = 1) (hw : Wd n F ops o) (hv : ∀ w, C w → Vl P n F o w v w) (hd : o.dst = some d) (hn : Nat.blt d n = true) (h : T P n ops C Q (k + 1) rest ((d, v) :: F) w) : T P n ops C Q k (o :: rest) F w := by
 intro a ha
 simp only [wpT, hw a ha, if_true, tAt, hk]
 refine ⟨v, fun w' hw' => hv w' hw' a ha, ?_⟩
 rw [hd]
 exact h _ (ha.put hn v)
theorem zcX {a : Act} {K : Act → World → Prop} (h : o.wp P a w K No) (hK : ∀ a' w', K a' w' → a'.defers = a.defers) : o.wp P a w (fun a' w' => (∃ u, a' = a.put o.dst u) ∧ K a' w') No := by
 unfold Oper.wp at *
 generalize (execOp a.eval o).run P w = r at *
 cases r with
 | ok x w1 =>
  cases x <;> simp only [Oper.upon] at h ⊢
  case value v => exact ⟨⟨_, rfl⟩, h⟩
  case skip => exact ⟨⟨_, rfl⟩, h⟩
  case defer dd =>
   have := hK _ _ h
   simp [zah] at this
  case enter f args =>
   refine Calls.mono h ?_
   intro e w2 he
   cases e with
   | returned v => exact ⟨⟨_, rfl⟩, he⟩
   | panicked c => exact he
   | outgrown => obtain ⟨_, _, hx⟩ := he; exact hx.elim
  case row row args => exact Rows.mono h fun v w2 hv => ⟨⟨_, rfl⟩, hv⟩
  all_goals exact h
 | halt x w1 => cases x <;> simp only [Oper.upon] at h ⊢ <;> exact h
theorem t_st (hk : kd o = 2) (hw : Wd n F ops o) (h : St P n F o w (fun F' w' => (C w' ∨ fin ops k = true) ∧ T P n ops C Q (k + 1) rest F' w')) : T P n ops C Q k (o :: rest) F w := by
 intro a ha
 simp only [wpT, hw a ha, if_true, tAt, hk]
 refine Oper.wp_mono ?_ (zcX (h a ha) fun a' w' ⟨F', _, hd, _⟩ => hd)
 rintro a' w' ⟨hs, F', hr, _, hc, hT⟩
 exact ⟨hc, hs, hT _ hr⟩
theorem zlC {j t : Nat} {b b' : Bool} (hg : o.guard = some (j, b)) (hd : o.dst = some d) (hn : Nat.blt d n = true) (ht : (ops[j]?).bind (·.dst) = some t) (hv : get F t = some (.bool b')) (hne : b' = !b)
 (h : T P n ops C Q (k + 1) rest ((d, undef) :: F) w) : T P n ops C Q k (o :: rest) F w := by
 intro a ha
 have hw : Region.wanted o (yielded ops a.tmps) = false := by
  subst hne
  simp [Region.wanted, hg, yielded, ht, ha.get t _ hv]
 simp only [wpT, hw, Bool.false_eq_true, if_false]
 rw [hd]
 exact h _ (ha.put hn undef)
theorem T_end (keep : List Nat) {F' : Fr} {K : Fr → World → Prop} (hF : prune keep F = F') (h : K F' w) : T P n ops C (yY K Q) k [] F w := yD keep hF h
end
end Go.Wk.V2
