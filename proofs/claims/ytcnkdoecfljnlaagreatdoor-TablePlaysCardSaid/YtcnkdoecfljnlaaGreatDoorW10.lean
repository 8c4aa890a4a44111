/- joined texts -/
import Derived.Test.YtcnkdoecfljnlaaGreatDoorW9
set_option linter.all false
namespace Go.Wk
open Go.Proofs
set_option maxRecDepth 10000
theorem Kr.chg0 {S : List Nat} {keep : TypeId → Bool} {B : Nat} {W W' : World} (hc : zj [] W W') (hB : B ≤ W.heap.size) : Kr S keep B W W' := Kr.chg hc hB (by simp)
section
variable {S : List Nat} {keep : TypeId → Bool} {B : Nat} {W W' : World}
theorem zS.kr {b : Nat} {e : TypeId} {c : List Value} (h : zS W b e c) (hk : Kr S keep B W W') (he : keep e = true) : zS W' b e c := hk.cells b _ _ _ h he
theorem zv.kr {e k n : Nat} {v : Value} {xs : List Value} (h : zv W e k v n xs) (hk : Kr S keep B W W') (he : keep e = true) : zv W' e k v n xs := by
 rcases h with h | ⟨b, off, cap, c, rfl, hs⟩
 ·exact .inl h
 exact .inr ⟨b, off, cap, c, rfl, ⟨hs.blk.kr hk he, hs.le, hs.max, hs.fit, hs.xs, hs.one⟩⟩
end
theorem HL.two {w : World} {b n : Nat} {v u : Value} {vu : List Value} (h : zS w b 27 [v]) (hv : v.oneCell' = true) (hu : Rd w 1 u n vu) : HL w [.slice (some ⟨b, 0, none⟩) 1 1, u] [[v], vu] := by
 refine ⟨rfl, fun i x ls' h1 h2 => ?_⟩
 match i with
 | 0 =>
  simp at h1 h2
  subst h1 h2
  exact (zv.of_blk (n := 1) h rfl (by simp [maxLen]) (by intro y hy; simp at hy; subst hy; exact hv)).toRd
 | 1 =>
  simp at h1 h2
  subst h1 h2
  have := hu.len_xs
  rw [Nat.mul_one] at this
  rw [this]; exact hu
 | _ + 2 => simp at h1
theorem ztP (c k u : Value) (w : World) : z6 TP 45 #[.agg #[c, k, u]] w fun r w' => ∃ b1, r = .func (.func 76) #[] #[Pt b1] ∧ w.heap.size ≤ b1 ∧ zS w' b1 30 [c, k, u] ∧ zj [] w w' := by
 refine A1 Tryz.func45 rfl rfl ?_
 refine Sr ?_
 refine Ob rfl rfl ?_
 intro b1 w1 e1 n1 c1 k1
 refine Oa rfl (E1 1 rfl (Sr ?_))
 refine Og (zbg rfl rfl) rfl ?_
 refine Oa rfl (E1 2 rfl (zi ?_))
 refine zC rfl rfl ?_
 exact ⟨b1, rfl, by omega, k1, c1⟩
theorem zl6 (w0 w : World) (h0w : zj [] w0 w) (b1 : Nat) (c k u : Value) (s : ym) (S0 : List Nat) (keep : TypeId → Bool) (h1 : zS w b1 30 [c, k, u]) (hs : yL w0 c k u s) (hS0 : ∀ b ∈ S0, w0.heap.size ≤ b) (hr : yO s = true)
 (kI : keep 3 = true) (kII : keep 27 = true) :
 znD TP 76 #[Pt b1] (fun x : Nat × Value => #[Ii x.1, x.2]) S0 keep (fun x W => ∃ st, (zM s)[x.1]? = some st ∧ yr W 3 1 ics x.2 st ∧ ∀ b ∈ zn x.2, w.heap.size ≤ b) (fun xs _ => xs.map (·.1) = List.range (zM s).length) (fun _ _ => True) (zM s).length w := by
 intro l J Jx W hcw hJ hJx hY h0
 have hab : ∀ {pre : List (Nat × Value)} {W1 W2 : World}, zj [] W1 W2 → J pre W1 → J pre W2 := fun hc hj => hJ _ _ _ none hj hc.grown0 (fun _ e => by cases e)
 have hn3 := (zY hr).2.1
 have hsl : (zM s).length ≤ 4 := by simp [zM]; omega
 refine CallsIn.mono (R := fun e W' => ∃ r, e = .returned r ∧ (fun (_ : Value) W' => (∃ xs : List (Nat × Value), xs.map (·.1) = List.range (zM s).length ∧ J xs W') ∨ (∃ pre, True ∧ Jx pre W')) r W') ?_ (fun e W' ⟨u, he, h⟩ => ⟨⟨u, he⟩, h⟩)
 refine CallsIn.of_WX (args := [_, _]) Tryz.func76 rfl rfl rfl rfl (zg9 ?_)
 have h1W := h1.chg0 hcw
 refine zhd ?_
 refine ze (Sr ?_)
 refine Og (zg zbs zbm rfl rfl (zz.of_blk0 h1W)) rfl ?_
 refine Oc znG rfl rfl rfl (ze9 c k u s _ ((hs.chg0 h0w).chg0 hcw) (zeV hr)) ?_
 rintro v6 w6 ⟨h6, c6⟩
 rw [hr] at h6
 change v6 = Ii 0 at h6
 subst h6
 refine Og (vf (zT rfl rfl) (zcx (by omega))) rfl ?_
 refine E3 0 1 7 rfl (zb rfl (zm (ze ?_)))
 refine zjf ?_
 refine ze ?_
 have h1x := h1W.chg0 c6
 have hs6 := ((hs.chg0 h0w).chg0 hcw).chg0 c6
 obtain ⟨vu, ou, lu⟩ := id hs.uq
 have hvu : vu.length = s.uq.length := by have := ou.1.len_xs; simpa using this
 obtain ⟨pk, ck, rfl, _⟩ := id (z9.val hs.key)
 have hflat : List.flatten (List.cons (List.cons (Value.slice pk s.key.length ck) []) (List.cons vu [])) = Value.slice pk s.key.length ck :: vu := by simp
 have hlen : (Value.slice pk s.key.length ck :: vu).length = (zM s).length := by simp [zM, hvu]
 obtain ⟨pu, cu, rfl, _⟩ := id (zaN.val hs.uq)
 refine za (Od za7 rfl ?_)
 refine Ol zbk rfl (h1x.cell' rfl) ?_
 refine zD (gn rfl) (zy zng rfl (vs := [_]) rfl (css := [_]) ⟨rfl, trivial⟩ rfl rfl (cs := [_]) rfl rfl ?_)
 intro b10 w10 e10 n10 c10 k10
 refine Od zaf rfl ?_
 refine Ol zbM rfl ((h1x.chg0 c10).cell' rfl) ?_
 refine zD (gn rfl) (zy zvh rfl (vs := [_, _]) rfl (css := [_, _]) ⟨rfl, rfl, trivial⟩ rfl rfl (cs := [_, _]) rfl rfl ?_)
 intro b13 w13 e13 n13 c13 k13
 refine Oc zxK rfl rfl rfl (zpV _ [.slice (some ⟨b10, 0, none⟩) 1 1, .slice pu s.uq.length cu] [ [.slice pk s.key.length ck], vu] _ (zv.of_blk (n := 2) k13 rfl (by simp [maxLen]) (by intro y hy; simp at hy; rcases hy with rfl | rfl <;> rfl)) (HL.two (n := s.uq.length) (k10.chg0 c13) rfl (Rd.chg0 (Rd.chg0 (Rd.chg0 (Rd.chg0 (Rd.chg0 ou.1 h0w) hcw) c6) c10) c13)) (by rw [hflat, hlen]; omega) (by simp)) ?_
 rintro v14 w14 ⟨i14, f14', c14⟩
 rw [hflat, hlen] at i14
 obtain ⟨p14, q14, rfl, -⟩ := id (zv.val i14)
 refine On zay rfl (Om rfl (E4 0 14 15 16 rfl ?_))
 have hsW := hcw.size
 have hc14 : zj [] W w14 := ((c6.trans c10).trans c13).trans c14
 have hs14 := hc14.size
 refine zq ?_
 refine zZ [0, 14, 15, 16] (fun m F wx => ∃ (j : Nat) (pre : List (Nat × Value)), m = (zM s).length - j ∧ j ≤ (zM s).length ∧ F = [(0, .func (.yield l) #[] #[]), (14, .slice p14 (zM s).length q14), (15, Ii (zM s).length), (16, Ii j)] ∧ Kr S0 keep w.heap.size w14 wx ∧ pre.map (·.1) = List.range j ∧ J pre wx) (m := (zM s).length - 0) ⟨0, [], rfl, Nat.zero_le _, rfl, Kr.refl _ _ _ _, rfl, hab hc14 h0⟩ ?_
 rintro m F wx ⟨j, pre, rfl, hj, rfl, hkx, hpre, hJ0⟩
 have hpl : pre.length = j := by have := congrArg List.length hpre; simpa using this
 refine Sr (Og (zB rfl rfl) rfl (E5 0 14 15 16 17 rfl (ze ?_)))
 refine zR rfl (fun hT => ?_) (fun hF => ?_)
 ·refine zm ?_
  have hlt : j < (zM s).length := by have := of_decide_eq_true hT; omega
  have hst : (zM s)[j]? = some (zM s)[j] := by simp [hlt]
  generalize (zM s)[j] = st at hst
  have hstm : st ∈ zM s := List.mem_of_getElem? hst
  have hst4 := (zar (zbx hr st hstm)).1
  have hlow : Low w0 wx := fun b hb => by
   have hb2 : b < w.heap.size := Nat.lt_of_lt_of_le hb h0w.size
   rw [hkx.low b hb2 (fun hm => by have := hS0 b hm; omega)]
   exact ((h0w.trans hcw).trans hc14).block b hb (by simp)
  have ix : zce wx (.slice p14 (zM s).length q14) (zM s) := ⟨_, (i14.kr hkx kII).toOu, z9.low hs.key hlow, lu.low hlow⟩
  obtain ⟨b, off, cap, x, hv, hcell, hx⟩ := zaN.at ix hst
  cases hv
  refine ze (zq (Sr (Om rfl ?_)))
  refine Og (zf zay zeH rfl rfl _ rfl hlt) rfl ?_
  refine Ol zbk rfl hcell ?_
  refine Oa rfl (Oa rfl (E6 0 3 4 14 15 16 rfl (ze ?_)))
  have hsx := hkx.size
  refine ze2 ?_
  refine Xm rfl (Xm rfl (Xm rfl ?_))
  refine yQ (gn rfl) rfl (yU zxF rfl rfl rfl rfl (zqV x st _ hx (by omega)) ?_)
  rintro v24 w24 ⟨i24, f24', c24⟩
  refine zfF (gn rfl) rfl rfl rfl (hY pre (j, v24) w24 (hab c24 hJ0) ⟨st, hst, i24, fun b hb => by have := f24' b hb; omega⟩ (by omega)) ?_
  rintro v25 w25 hR25
  obtain ⟨b25, rfl, hb25⟩ := yb hR25
  refine ⟨_, rfl, ?_⟩
  refine yQ (gn rfl) rfl (St.vl (zU rfl) rfl rfl ?_)
  refine zcu [0, 14, 15, 16, 26] (F' := [(0, _), (14, _), (15, _), (16, _), (26, _)]) rfl ?_
  rcases hb25 with ⟨rfl, hJ25, hk25⟩ | ⟨rfl, hJ25⟩
  ·refine zb rfl (yf (zk (za ?_)))
   refine Og (zH rfl rfl (by omega)) rfl ?_
   refine Om rfl (N4 0 14 15 16 rfl ?_)
   refine ⟨(zM s).length - (j + 1), by omega, j + 1, pre ++ [(j, v24)], rfl, by omega, rfl, (hkx.trans (Kr.chg0 c24 (by omega))).trans hk25, ?_, hJ25⟩
   rw [List.map_append, hpre, List.range_succ]
   rfl
  refine zd rfl ?_
  refine zL ?_
  repeat first | refine te ?_ | refine bo rfl ?_
  refine zt _ ?_
  refine zgj ?_
  refine zgf rfl ?_
  exact .inr ⟨_, trivial, hJ25⟩
 refine zL ?_
 repeat first | refine te ?_ | refine bo rfl ?_
 refine zt _ ?_
 refine zgj ?_
 refine zgf rfl ?_
 have he : j = (zM s).length := by have := of_decide_eq_false hF; omega
 subst he
 exact .inl ⟨_, hpre, hJ0⟩
theorem zbJ.nil {s : ym} (h : yO s = true) : ∀ {subs : List (LE)}, subs = (zM s).map (fun _ => []) → zbJ s [] [] subs := by
 rintro subs rfl
 have hw : WfP [] := ⟨by simp, by simp, by simp [Srt]⟩
 have hW : zd4 [] := zd4.nil
 refine ⟨yX.nil h, rfl, hw, hW, ?_⟩
 induction zM s with
 | nil => exact .nil
 | cons st sts ih => exact .cons ⟨hw, hW, by simp⟩ ih
section
variable {B : Nat} {W W' : World}
theorem yl.bk {α : Type} {f : α → List Value} {e k : Nat} (hk : Bk B W W') : ∀ {vs : List Value} {ls : List (List α)}, yl W e k f vs ls → yl W' e k f vs ls
 | [], [], _ => trivial
 | _ :: _, _ :: _, h => ⟨zv.bk h.1 hk, yl.bk hk h.2⟩
theorem zbw.bk (hk : Bk B W W') : ∀ {vs : List Value} {ls : LE}, zbw W vs ls → zbw W' vs ls
 | [], [], _ => trivial
 | _ :: _, _ :: _, h => ⟨zv.bk h.1 hk, zbw.bk hk h.2⟩
theorem Pg.bk {p : Nat} {ls : LE} (h : Pg W p ls) (hk : Bk B W W') : Pg W' p ls :=
 let ⟨v, h1, us, h2, h3⟩ := h; ⟨v, h1.bk hk, us, zv.bk h2 hk, h3.bk hk⟩
theorem zct.bk {w0 : World} {tb pm : Nat} {c k u o : Value} {ys : List (Value × Nat)} {main : LE} {subs : List (LE)} (h : zct w0 W tb pm c k u o ys main subs) (hk : Bk B W W') : zct w0 W' tb pm c k u o ys main subs :=
 ⟨h.blk.bk hk, h.pg.bk hk, zv.bk h.sl hk, PgL.all (fun _ _ hp => hp.bk hk) h.pgs, h.nd, h.fr, h.fo, h.ft⟩
end
theorem yl.notD {α : Type} {f : α → List Value} {w : World} {e k D : Nat} {x : Option (List Deferred)} (hD : w.heap[D]? = some (.deferred x)) : ∀ {vs : List Value} {ls : List (List α)}, yl w e k f vs ls → ∀ v ∈ vs, ∀ b ∈ zn v, b ∉ [D]
 | [], [], _, v, hv => by simp at hv
 | v :: vs, l :: ls, h, u, hu => by
  rcases List.mem_cons.1 hu with rfl | hu
  ·exact zv.notD h.1 hD
  exact h.2.notD hD u hu
theorem zbw.notD {w : World} {D : Nat} {x : Option (List Deferred)} (hD : w.heap[D]? = some (.deferred x)) : ∀ {vs : List Value} {ls : LE}, zbw w vs ls → ∀ v ∈ vs, ∀ b ∈ zn v, b ∉ [D]
 | [], [], _, v, hv => by simp at hv
 | v :: vs, l :: ls, h, u, hu => by
  rcases List.mem_cons.1 hu with rfl | hu
  ·exact zv.notD h.1 hD
  exact zbw.notD hD h.2 u hu
theorem zsx (c k u : Value) (s : ym) (w : World) (hs : yL w c k u s) (hm : s.Sm) (hr : yO s = false) : z6 TP 10 #[.agg #[c, k, u]] w fun r w' => r = .tuple #[.pointer none, Ii 2] ∧ zj [] w w' := by
 refine z6.of_WM (args := [_]) Tryz.func10 rfl rfl rfl rfl ?_
 refine Sr ?_
 refine Ob rfl rfl ?_
 intro b1 w1 e1 n1 c1 k1
 refine Oa rfl (Oa rfl (E1 1 rfl (ze (Sr ?_))))
 refine Og (zg zbs zbm rfl rfl (zz.of_blk0 k1)) rfl ?_
 refine Oc znG rfl rfl rfl (ze9 c k u s _ (hs.chg0 c1) hm) ?_
 rintro v9 w9 ⟨h9, c9⟩
 rw [hr] at h9
 change v9 = Ii 2 at h9
 subst h9
 refine Oa rfl (E2 1 4 rfl (Sr (Om rfl ?_)))
 refine Og (vt (zT rfl rfl) (zkE (by omega))) rfl ?_
 refine E3 1 4 11 rfl (zd rfl (Sr (Om rfl (Oa rfl (Oa rfl (E2 2 3 rfl (zi ?_)))))))
 repeat first | refine tr ?_ | refine br ?_
 refine zqB rfl rfl rfl ?_
 exact ⟨rfl, c1.trans c9⟩
set_option maxHeartbeats 1000000 in
theorem zoe (c k u : Value) (s : ym) (w : World) (hs : yL w c k u s) (hr : yO s = true) :
 z6 TP 10 #[.agg #[c, k, u]] w fun r w' => ∃ t own, r = .tuple #[Pt t, Ii 0] ∧ yJ w' t own s [] ∧ w.heap.size ≤ t ∧ (∀ p ∈ own, w.heap.size ≤ p) ∧ zj [] w w' ∧ ∃ pm sv, zS w' t 98 [Pt pm, c, k, u, sv] := by
 have hn4 : (zM s).length ≤ 4 := by have := (zY hr).2.1; simp [zM]; omega
 refine z6.of_WM (args := [_]) Tryz.func10 rfl rfl rfl rfl ?_
 refine Sr ?_
 refine Ob rfl rfl ?_
 intro b1 w1 e1 n1 c1 k1
 refine Oa rfl (Oa rfl (E1 1 rfl (ze (Sr ?_))))
 refine Og (zg zbs zbm rfl rfl (zz.of_blk0 k1)) rfl ?_
 refine Oc znG rfl rfl rfl (ze9 c k u s _ (hs.chg0 c1) (zeV hr)) ?_
 rintro v9 w9 ⟨h9, c9⟩
 rw [hr] at h9
 change v9 = Ii 0 at h9
 subst h9
 refine Oa rfl (E2 1 4 rfl (Sr (Om rfl ?_)))
 refine Og (vf (zT rfl rfl) (zcx (by omega))) rfl ?_
 refine E3 1 4 11 rfl (zb rfl (zm ?_))
 have k1 : zS w9 b1 30 [c, k, u] := k1.chg0 c9
 have hcA := c1.trans c9
 refine yd (fun F wx => ∃ b5 b16 pm, F = [(1, Pt b1), (5, Pt b5)] ∧ zS wx b5 31 [Pt b16] ∧ zct w wx b16 pm c k u (.slice none 0 0) [] [] [] ∧ zj [] w9 wx) ?_ ?_
 ·have hsA := hcA.size
  have hC := (zj.drew [] w9)
  refine zea (fun wz => zj [] w9 wz) (zaE.seq [1] (.two 0 (zaE.seq [2] (.two 3 (zaE.seq [4, 5] .done) 4 (zaE.seq [3, 5] .done))) 4 (zaE.seq [0, 2, 3, 5] .done))) mix (by kernel_rfl) hC ?_
  refine zcK rfl rfl (gn rfl) (fun wz hz => zg zbs zbm rfl rfl (zz.of_blk0 (k1.chg0 hz))) rfl rfl ?_
  refine zdZ ?_ ?_
  ·refine yT rfl rfl (gn rfl) (yU ztv rfl rfl rfl rfl (f9 _) ?_)
   rintro v13 w13 ⟨pm, rfl, hpm, p13, c13⟩
   have hN13 := hC.size
   have hC := hC.trans c13
   refine ⟨.inl hC, ?_⟩
   refine zQ rfl rfl (gn rfl) (fun _ => z0 zsz ztG rfl (vs := [_, _]) rfl (css := [_, _]) ⟨rfl, rfl, trivial⟩ rfl rfl (cs := [_, _, _, _, _]) rfl) rfl rfl ?_
   refine zdZ ?_ ?_
   ·refine yT rfl rfl (gn rfl) (zh3 rfl rfl rfl ?_)
    intro b16 w16 e16 n16 c16 k16
    have hN16 := hC.size
    have hC := hC.trans c16
    have p13 := p13.chg0 c16
    refine ⟨.inl hC, ?_⟩
    refine yT rfl rfl (gn rfl) (zG zqJ rfl rfl ?_)
    intro b5 w5 e5 n5 c5 k5
    have hN5 := hC.size
    have hC := hC.trans c5
    have k16 := k16.chg0 c5
    have p13 := p13.chg0 c5
    refine ⟨.inl hC, ?_⟩
    refine yT rfl rfl (gn rfl) (zu zq9 rfl rfl rfl rfl k5 (by simp) (by intro u hu; simp at hu; subst hu; rfl) ?_)
    intro wA nA cA kA
    have hC := hC.own cA (by intro y hy; simp at hy; omega)
    refine ⟨.inl hC, ?_⟩
    refine zb4 [1, 5] (F' := [(1, _), (5, _)]) rfl ?_
    have hz1 := c13.size
    have hz2 := c5.size
    have hz3 := c16.size
    exact ⟨b5, b16, pm, rfl, kA, ⟨k16.chg cA (by simp; omega), p13.chgC k5 rfl rfl rfl cA, zv.nil _ _ _, trivial, by simp, by simp; omega, by simp [zn], by omega⟩, hC⟩
   refine yT rfl rfl (gn rfl) (zG zqJ rfl rfl ?_)
   intro b5 w5 e5 n5 c5 k5
   have hN5 := hC.size
   have hC := hC.trans c5
   have p13 := p13.chg0 c5
   refine ⟨.inl hC, ?_⟩
   refine yT rfl rfl (gn rfl) (zh3 rfl rfl rfl ?_)
   intro b16 w16 e16 n16 c16 k16
   have hN16 := hC.size
   have hC := hC.trans c16
   have k5 := k5.chg0 c16
   have p13 := p13.chg0 c16
   refine ⟨.inl hC, ?_⟩
   refine yT rfl rfl (gn rfl) (zu zq9 rfl rfl rfl rfl k5 (by simp) (by intro u hu; simp at hu; subst hu; rfl) ?_)
   intro wA nA cA kA
   have hC := hC.own cA (by intro y hy; simp at hy; omega)
   refine ⟨.inl hC, ?_⟩
   refine zb4 [1, 5] (F' := [(1, _), (5, _)]) rfl ?_
   have hz1 := c13.size
   have hz2 := c5.size
   have hz3 := c16.size
   exact ⟨b5, b16, pm, rfl, kA, ⟨k16.chg cA (by simp; omega), p13.chgC k5 rfl rfl rfl cA, zv.nil _ _ _, trivial, by simp, by simp; omega, by simp [zn], by omega⟩, hC⟩
  refine yT rfl rfl (gn rfl) (zG zqJ rfl rfl ?_)
  intro b5 w5 e5 n5 c5 k5
  have hN5 := hC.size
  have hC := hC.trans c5
  refine ⟨.inl hC, ?_⟩
  refine yT rfl rfl (gn rfl) (yU ztv rfl rfl rfl rfl (f9 _) ?_)
  rintro v13 w13 ⟨pm, rfl, hpm, p13, c13⟩
  have hN13 := hC.size
  have hC := hC.trans c13
  have k5 := k5.chg0 c13
  refine ⟨.inl hC, ?_⟩
  refine zQ rfl rfl (gn rfl) (fun _ => z0 zsz ztG rfl (vs := [_, _]) rfl (css := [_, _]) ⟨rfl, rfl, trivial⟩ rfl rfl (cs := [_, _, _, _, _]) rfl) rfl rfl ?_
  refine yT rfl rfl (gn rfl) (zh3 rfl rfl rfl ?_)
  intro b16 w16 e16 n16 c16 k16
  have hN16 := hC.size
  have hC := hC.trans c16
  have k5 := k5.chg0 c16
  have p13 := p13.chg0 c16
  refine ⟨.inl hC, ?_⟩
  refine yT rfl rfl (gn rfl) (zu zq9 rfl rfl rfl rfl k5 (by simp) (by intro u hu; simp at hu; subst hu; rfl) ?_)
  intro wA nA cA kA
  have hC := hC.own cA (by intro y hy; simp at hy; omega)
  refine ⟨.inl hC, ?_⟩
  refine zb4 [1, 5] (F' := [(1, _), (5, _)]) rfl ?_
  have hz1 := c13.size
  have hz2 := c5.size
  have hz3 := c16.size
  exact ⟨b5, b16, pm, rfl, kA, ⟨k16.chg cA (by simp; omega), p13.chgC k5 rfl rfl rfl cA, zv.nil _ _ _, trivial, by simp, by simp; omega, by simp [zn], by omega⟩, hC⟩
 rintro F wx ⟨b5, b16, pm, rfl, kt, hpre, cx⟩
 have hcB := hcA.trans cx
 have k1x := k1.chg0 cx
 refine yd (fun F wy => ∃ (D : Nat) (f18 : Value) (o : Value) (ys : List (Value × Nat)), F = [(1000000, Ii D), (5, Pt b5), (18, f18)] ∧ w.heap.size ≤ D ∧ wy.heap[D]? = some (.deferred (some [])) ∧ zS wy b5 31 [Pt b16] ∧ zct w wy b16 pm c k u o ys [] (ys.map fun _ => []) ∧ yl wy 3 1 ics (ys.map (·.1)) (zM s) ∧ zj [] w wy) ?_ ?_
 ·refine Sr ?_
  refine Og (zg zbs zbm rfl rfl (zz.of_blk0 k1x)) rfl ?_
  refine Oc zxa rfl rfl rfl (ztP c k u _) ?_
  rintro v18 w18 ⟨p1, rfl, hp1, kp1, c18⟩
  refine E2 5 18 rfl ?_
  have hcC := hcB.trans c18
  have hpre' := hpre.chg0 c18
  have kt' := kt.chg0 c18
  have hsC := hcC.size
  have hs18 := c18.size
  refine zq ?_
  refine zhu (α := Nat × Value) (gf := 76) (lb := [Pt p1]) (encs := fun x : Nat × Value => #[Ii x.1, x.2]) (S0 := [b16]) (keep := fun e => Nat.beq e 3 || Nat.beq e 27) (N := (zM s).length)
   (fun pre W => ∃ (o : Value) (ys : List (Value × Nat)), zct w W b16 pm c k u o ys [] (ys.map fun _ => []) ∧ (∀ b ∈ zn o, w18.heap.size ≤ b) ∧ ys.map (·.1) = pre.map (·.2) ∧ yl W 3 1 ics (pre.map (·.2)) (pre.map fun x => ((zM s)[x.1]?).getD []) ∧ zS W b5 31 [Pt b16] ∧ zj [b16] w18 W ∧ w18.heap.size ≤ W.heap.size)
   (fun _ _ _ => False)
   (fun x => [(20, x.2), (19, Ii x.1), (5, Pt b5), (18, .func (.func 76) #[] #[Pt p1])])
   (fun x => [(5, Pt b5), (7, x.2), (20, x.2)])
   rfl zxh (zl6 w w18 hcC p1 c k u s [b16] _ kp1 hs (by intro b hb; simp at hb; subst hb; exact hpre.ft) hr rfl rfl) (fun _ => rfl) ?_ (fun _ _ _ _ h => h) (fun _ _ _ _ h => h) ?_ (fun _ _ _ _ _ h => h.elim) ?_ (fun _ _ h => h.choose_spec.choose_spec.2.2.2.2.2.2) ?_ ?_ ?_ ?_ (fun _ _ _ _ _ _ h => h.elim)
  ·rintro x W W' hk ⟨st, h1, h2, h3⟩
   exact ⟨st, h1, zv.bk h2 hk, h3⟩
  ·rintro pre W W' hk ⟨o, ys, h1, h2, h3, h4, h5, h6, h7⟩
   exact ⟨o, ys, h1.bk hk, h2, h3, h4.bk hk, h5.bk hk, h6.bk (Nat.le_refl _) hk, by obtain ⟨T, _, hc⟩ := hk; exact Nat.le_trans h7 hc.size⟩
  ·exact ⟨_, [], hpre', by simp [zn], rfl, trivial, kt', zj.refl _ _, Nat.le_refl _⟩
  ·intro x a ha
   exact ha.vars2 rfl rfl rfl
  ·intro l' x W
   refine zah ?_
   refine yQ (gn rfl) rfl (St.vl (yg rfl) rfl rfl ?_)
   refine zgH [5, 7, 20] (F' := [(5, _), (7, _), (20, _)]) rfl ?_
   exact ⟨rfl, rfl, rfl⟩
  ·rintro l' pre ⟨xi, xv⟩ W ⟨o, ys, hp, hfo, hys, hats, hk5, hcW, hsW⟩ ⟨st, hst, hx, hfx⟩ hlen
   have hx : yr W 3 1 ics xv st := hx
   have hst : (zM s)[xi]? = some st := hst
   have hfx : ∀ b ∈ zn xv, w18.heap.size ≤ b := hfx
   obtain ⟨px, qx, rfl, _⟩ := id (yr.val hx)
   refine zf4 ?_
   have hd : zj [] W W.drew := zj.drew [] _
   have hbo : b16 ∉ zn o := fun hm => zv.apart hp.sl hp.blk rfl b16 hm (by simp)
   have hyl : ys.length = pre.length := by have := congrArg List.length hys; simpa using this
   have hb5 : b5 ≠ b16 := hk5.ne hp.blk rfl
   have hcl : ∀ {wz : World}, zj [] W wz → wz.cell? ⟨b5, 0, none⟩ = some (Pt b16) ∧ wz.cell? ⟨b16, 4, none⟩ = some o := fun hc => ⟨(hk5.chg0 hc).cell' rfl, (hp.blk.chg0 hc).cell' rfl⟩
   have hb5o : b5 ∉ zn o := fun hm => zv.apart hp.sl hk5 rfl b5 hm (by simp)
   refine zlK (fun wz => wz.cell? ⟨b5, 0, none⟩ = some (Pt b16) ∧ wz.cell? ⟨b16, 4, none⟩ = some o) mix (by kernel_rfl) (hcl hd) ?_
   refine Tr (fun wz hz => zh zjq rfl hz.1) rfl ?_
   refine Tr (fun wz hz => zh zjq rfl hz.1) rfl ?_
   refine Tp (fun _ => zE rfl) rfl ?_
   refine Td zbL rfl ?_
   refine Tr (fun wz hz => zh zfR rfl hz.2) rfl ?_
   refine Tm rfl ?_
   refine Tc ztv rfl rfl rfl (f9 _) ?_
   rintro v27 w27 ⟨q, rfl, hqf, hq, c27⟩
   refine ⟨.inl (hcl (hd.trans c27)), ?_⟩
   refine Tp (fun _ => z0 zrH zh4 rfl (vs := [_, _]) rfl (css := [_, _]) ⟨rfl, rfl, trivial⟩ rfl rfl (cs := [_, _]) rfl) rfl ?_
   refine zan rfl (gn rfl) (zy zrf rfl (vs := [_]) rfl (css := [_]) ⟨rfl, trivial⟩ rfl rfl (cs := [_, _]) rfl rfl ?_)
   intro b29 w29 e29 n29 c29 k29
   refine ⟨.inl (hcl ((hd.trans c27).trans c29)), ?_⟩
   refine zan rfl (gn rfl) (yq zrf zed rfl rfl (yr.chg0 hp.sl ((hd.trans c27).trans c29)) (zv.of_blk (n := 1) (c := scs (.slice px st.length qx, q)) k29 rfl (by simp [maxLen]) (by intro u hu; simp [scs] at hu; rcases hu with rfl | rfl <;> rfl)) (by simp only [maxLen]; omega) (by omega) rfl ?_)
   intro v30 w30 i30 c30 o30 z30
   obtain ⟨p30, q30, rfl, _⟩ := id (zv.val i30)
   refine ⟨.inl ⟨((hk5.chg0 ((hd.trans c27).trans c29)).chg c30 hb5o).cell' rfl, ((hp.blk.chg0 ((hd.trans c27).trans c29)).chg c30 hbo).cell' rfl⟩, ?_⟩
   refine Tp (fun _ => zE rfl) rfl ?_
   refine Td zbL rfl ?_
   refine zan rfl (gn rfl) (zu zvt rfl rfl rfl rfl ((hp.blk.chg0 ((hd.trans c27).trans c29)).chg c30 hbo) (by simp) (by intro u hu; simp at hu; subst hu; rfl) ?_)
   intro wB nB cB kB
   refine ⟨.inr (by kernel_rfl), ?_⟩
   refine zen [5, 20] (F' := [(5, _), (20, _)]) rfl ?_
   have kB : zS wB b16 98 [Pt pm, c, k, u, .slice p30 (ys.length + 1) q30] := kB
   have hc29 : zj [] W w29 := (hd.trans c27).trans c29
   have hs27 := c27.size
   have hs29 := c29.size
   have hsd := hd.size
   have hmore := (hp.chg0 hc29).more (a := .slice px st.length qx) (hq.chg0 c29) (fun hm => by
    rcases List.mem_cons.1 hm with rfl | hm
    ·have := hp.pg.lt; omega
    have := hp.pgs.lt q hm; omega) (by omega) c30 i30 (yy o30 hp.fo (by omega)) cB kB
   have hcut : ∀ y ∈ zn o, ∃ cc, zS W y 103 cc := fun y hy => by
    rcases hp.sl with ⟨rfl, _, _⟩ | ⟨b, off, cap, cc, rfl, hs⟩
    ·simp [zn] at hy
    simp [zn] at hy; subst hy; exact ⟨_, hs.blk⟩
   have hall : zj (b16 :: zn o) W wB := ((hc29.any (S := b16 :: zn o)).transS (c30.weak (by intro y hy; simp [hy]))).transS (cB.weak (by simp))
   have hsl29 := yr.chg0 hp.sl hc29
   have hb30 : zS w30 b16 98 [Pt pm, c, k, u, o] := (hp.blk.chg0 hc29).chg c30 hbo
   have hats30 := yl.chg c30 (yl.apartSl hsl29 rfl (hats.chg0 hc29)) (hats.chg0 hc29)
   have hats1 : yl wB 3 1 ics (pre.map (·.2)) (pre.map fun x => ((zM s)[x.1]?).getD []) := yl.chg cB (hats30.apart hb30 rfl) hats30
   have hx30 := yr.chg (yr.chg0 hx hc29) c30 (zv.apartSl (yr.chg0 hx hc29) hsl29 rfl)
   have hx1 : yr wB 3 1 ics (.slice px st.length qx) st := yr.chg hx30 cB (zv.apart hx30 hb30 rfl)
   refine ⟨KeepsFrom.chg hall ?_, Kr.chg hall (by omega) ?_, .slice p30 (ys.length + 1) q30, ys ++ [(.slice px st.length qx, q)], ?_, ?_, ?_, ?_, ?_, ?_, by have := hall.size; omega⟩
   ·intro y hy
    rcases List.mem_cons.1 hy with rfl | hy
    ·exact ⟨_, _, hp.blk⟩
    obtain ⟨cc, hb⟩ := hcut y hy
    exact ⟨_, _, hb⟩
   ·intro y hy
    rcases List.mem_cons.1 hy with rfl | hy
    ·exact ⟨.inl (by simp), _, _, hp.blk, rfl⟩
    obtain ⟨cc, hb⟩ := hcut y hy
    exact ⟨.inr (hfo y hy), _, _, hb, rfl⟩
   ·rw [List.map_append]
    exact hmore
   ·exact yy o30 hfo (by omega)
   ·rw [List.map_append, List.map_append, hys]
    rfl
   ·rw [List.map_append, List.map_append]
    refine hats1.append (us := [_]) (ms := [_]) ⟨?_, trivial⟩
    show yr wB 3 1 ics (.slice px st.length qx) (((zM s)[xi]?).getD [])
    rw [hst]
    exact hx1
   ·exact (((hk5.chg0 hc29).chg c30 (fun hm => zv.apart hsl29 (hk5.chg0 hc29) rfl b5 hm (by simp))).chg cB (by simpa using hb5))
   exact hcW.trans' hall (by
    intro y hy
    rcases List.mem_cons.1 hy with rfl | hy
    ·simp
    exact .inr (hfo y hy))
  rintro D xs W hD hxs ⟨o, ys, hp, hfo, hys, hats, hk5, hcW, hsW⟩ hdf
  refine zk ?_
  have hb16 := hp.ft
  refine ⟨D, _, o, ys, rfl, by omega, hdf, hk5, hp, ?_, hcC.own hcW (by intro y hy; simp at hy; omega)⟩
  have e : (xs.map fun x => ((zM s)[x.1]?).getD []) = zM s := by
   have e1 : (xs.map fun x => ((zM s)[x.1]?).getD []) = (xs.map (·.1)).map fun i => ((zM s)[i]?).getD [] := by rw [List.map_map]; rfl
   rw [e1, hxs]
   apply List.ext_getElem (by simp)
   intro i h1 h2
   simp [h2]
  rw [hys, ← e]
  exact hats
 rintro F wy ⟨D, f18, o, ys, rfl, hD, hdf, hk5, htp, hats, hcy⟩
 refine Sr ?_
 refine Ol zjq rfl (hk5.cell' rfl) ?_
 refine Oa rfl (Oa rfl (zaV [2, 3] (F' := [(2, _), (3, _), (1000000, _)]) rfl (zi ?_)))
 refine zt2 (D := D) rfl rfl rfl rfl hdf fun w' hcD => ?_
 have hbD : ∀ {b : Nat} {e : TypeId} {x : List Value}, zS wy b e x → b ∉ [D] := fun hb hm => by
  simp at hm
  rw [← hm, show wy.heap[_]? = _ from hb] at hdf
  cases hdf
 have hP : ∀ p ls, Pg wy p ls → Pg w' p ls := fun p ls ⟨v, h1, us, h2, h3⟩ => ⟨v, h1.chg hcD (hbD h1), us, h2.chg hcD (h2.notD hdf), h3.chg hcD (zbw.notD hdf h3)⟩
 have hsl : (ys.map (·.1)).length = (zM s).length := hats.length
 refine ⟨b16, pm :: ys.map (·.2), rfl, ⟨pm, c, k, u, o, ys, [], _, rfl, ⟨htp.blk.chg hcD (hbD htp.blk), ?_, hP _ _ htp.pg, zv.chg htp.sl hcD (zv.notD htp.sl hdf), yl.chg hcD (hats.notD hdf) hats, PgL.all hP htp.pgs, htp.nd⟩, zbJ.nil hr ?_⟩, htp.ft, htp.fr, hcy.own hcD (by intro y hy; simp at hy; omega), pm, o, htp.blk.chg hcD (hbD htp.blk)⟩
 ·exact hs.chg0 (hcy.own hcD (by intro y hy; simp at hy; omega))
 apply List.ext_getElem (by simpa using hsl)
 intro i h1 h2
 simp
theorem zwE (c k u : Value) (s : ym) (w : World) (hs : yL w c k u s) (hr : yO s = true) :
 z6 TP 10 #[.agg #[c, k, u]] w fun r w' => ∃ t own, r = .tuple #[Pt t, Ii 0] ∧ yJ w' t own s [] ∧ w.heap.size ≤ t ∧ (∀ p ∈ own, w.heap.size ≤ p) ∧ zj [] w w' :=
 Calls.mono (zoe c k u s w hs hr) fun _ _ ⟨r, he, t, own, h1, h2, h3, h4, h5, _⟩ => ⟨r, he, t, own, h1, h2, h3, h4, h5⟩
theorem zpJ (b : Bool) (w : World) : z6 TP 102 #[.bool b] w fun r w' => ∃ i : Int, r = Ii i ∧ i ≠ 0 ∧ w' = w := by
 refine A1 Tryz.func102 rfl rfl ?_
 refine Sr (Oa rfl (E1 0 rfl (ze (Sr (Om rfl (E1 3 rfl ?_))))))
 cases b with
 | true =>
  refine zd rfl (Sr (Oa rfl (E1 2 rfl (zi ?_))))
  repeat first | refine tr ?_ | refine br ?_
  refine zC rfl rfl ?_
  exact ⟨_, rfl, by decide, rfl⟩
 | false =>
  refine zb rfl (zm (Sr (Oa rfl (E1 2 rfl (zi ?_)))))
  refine zC rfl rfl ?_
  exact ⟨_, rfl, by decide, rfl⟩
theorem zqW (x y : zO) (w : World) : z6 TP 101 #[x.v, y.v] w fun r w' => ∃ i : Int, r = Ii i ∧ (i = 0 ↔ x = y) ∧ zj [] w w' := by
 obtain ⟨xk, xi, xu, xb⟩ := x
 obtain ⟨yk, yi, yu, yb⟩ := y
 refine A2 Tryz.func101 rfl rfl ?_
 refine Sr ?_
 refine Ob rfl rfl ?_
 intro b2 w2 e2 n2 c2 k2
 refine Ob rfl rfl ?_
 intro b3 w3 e3 n3 c3 k3
 refine Oa rfl (E2 2 3 rfl ?_)
 have k2 := k2.chg0 c3
 have hc := c2.trans c3
 refine ze (zq (ze ?_))
 by_cases h1 : xk = yk
 ·refine za (Od zaq rfl ?_)
  refine Ol zcn rfl (k2.cell' rfl) ?_
  refine Od zaq rfl ?_
  refine Ol zcn rfl (k3.cell' rfl) ?_
  refine Og (vf (zT rfl rfl) (by simp [h1])) rfl ?_
  refine Oa rfl (E3 2 3 5 rfl (zb rfl (ze ?_)))
  by_cases h2 : xi = yi
  ·refine za (Od yW rfl ?_)
   refine Ol ag2 rfl (k2.cell' rfl) ?_
   refine Od yW rfl ?_
   refine Ol ag2 rfl (k3.cell' rfl) ?_
   refine Og (vf (zT rfl rfl) (by simp [h2])) rfl ?_
   refine Oa rfl (E3 2 3 17 rfl (zb rfl (ze ?_)))
   by_cases h3 : xu = yu
   ·refine za (Od zaR rfl ?_)
    refine Ol zcW rfl (k2.cell' rfl) ?_
    refine Od zaR rfl ?_
    refine Ol zcW rfl (k3.cell' rfl) ?_
    refine Og (vf (zT rfl rfl) (by simp [h3])) rfl ?_
    refine Oa rfl (E3 2 3 29 rfl (zb rfl (ze ?_)))
    by_cases h4 : xb = yb
    ·refine za (Od zaJ rfl ?_)
     refine Ol ag9 rfl (k2.cell' rfl) ?_
     refine Od zaJ rfl ?_
     refine Ol ag9 rfl (k3.cell' rfl) ?_
     refine Og (vf (zdj rfl rfl) (by simp [h4])) rfl ?_
     refine Oa rfl (E3 2 3 41 rfl (zb rfl (yf (zk (Sr (Oa rfl (E1 4 rfl (zi ?_))))))))
     refine zC rfl rfl ?_
     exact ⟨0, rfl, by simp [h1, h2, h3, h4], hc⟩
    refine za (Od zaJ rfl ?_)
    refine Ol ag9 rfl (k2.cell' rfl) ?_
    refine Od zaJ rfl ?_
    refine Ol ag9 rfl (k3.cell' rfl) ?_
    refine Og (vt (zdj rfl rfl) (by simp [h4])) rfl ?_
    refine Oa rfl (E3 2 3 41 rfl (zd rfl (Sr (Od zaJ rfl ?_))))
    refine Ol ag9 rfl (k2.cell' rfl) ?_
    refine Od zaJ rfl ?_
    refine Ol ag9 rfl (k3.cell' rfl) ?_
    refine Og (zgx rfl rfl) rfl ?_
    refine Oc zld rfl rfl rfl (zpJ _ _) ?_
    rintro v52 w52 ⟨i, rfl, hi, rfl⟩
    refine Oa rfl (E1 4 rfl (zi ?_))
    repeat first | refine tr ?_ | refine br ?_
    refine zC rfl rfl ?_
    exact ⟨i, rfl, by simp [h4, hi], hc⟩
   refine za (Od zaR rfl ?_)
   refine Ol zcW rfl (k2.cell' rfl) ?_
   refine Od zaR rfl ?_
   refine Ol zcW rfl (k3.cell' rfl) ?_
   refine Og (vt (zT rfl rfl) (by simp; omega)) rfl ?_
   refine Oa rfl (E3 2 3 29 rfl (zd rfl (Sr (Od zaR rfl ?_))))
   refine Ol zcW rfl (k2.cell' rfl) ?_
   refine Od zaR rfl ?_
   refine Ol zcW rfl (k3.cell' rfl) ?_
   refine Og (zB rfl rfl) rfl ?_
   refine Oc zld rfl rfl rfl (zpJ _ _) ?_
   rintro v40 w40 ⟨i, rfl, hi, rfl⟩
   refine Oa rfl (E1 4 rfl (zi ?_))
   repeat first | refine tr ?_ | refine br ?_
   refine zC rfl rfl ?_
   exact ⟨i, rfl, by simp [h3, hi], hc⟩
  refine za (Od yW rfl ?_)
  refine Ol ag2 rfl (k2.cell' rfl) ?_
  refine Od yW rfl ?_
  refine Ol ag2 rfl (k3.cell' rfl) ?_
  refine Og (vt (zT rfl rfl) (by simp [h2])) rfl ?_
  refine Oa rfl (E3 2 3 17 rfl (zd rfl (Sr (Od yW rfl ?_))))
  refine Ol ag2 rfl (k2.cell' rfl) ?_
  refine Od yW rfl ?_
  refine Ol ag2 rfl (k3.cell' rfl) ?_
  refine Og (zB rfl rfl) rfl ?_
  refine Oc zld rfl rfl rfl (zpJ _ _) ?_
  rintro v28 w28 ⟨i, rfl, hi, rfl⟩
  refine Oa rfl (E1 4 rfl (zi ?_))
  repeat first | refine tr ?_ | refine br ?_
  refine zC rfl rfl ?_
  exact ⟨i, rfl, by simp [h2, hi], hc⟩
 refine za (Od zaq rfl ?_)
 refine Ol zcn rfl (k2.cell' rfl) ?_
 refine Od zaq rfl ?_
 refine Ol zcn rfl (k3.cell' rfl) ?_
 refine Og (vt (zT rfl rfl) (by simp [h1])) rfl ?_
 refine Oa rfl (E3 2 3 5 rfl (zd rfl (Sr (Od zaq rfl ?_))))
 refine Ol zcn rfl (k2.cell' rfl) ?_
 refine Od zaq rfl ?_
 refine Ol zcn rfl (k3.cell' rfl) ?_
 refine Og (zB rfl rfl) rfl ?_
 refine Oc zld rfl rfl rfl (zpJ _ _) ?_
 rintro v16 w16 ⟨i, rfl, hi, rfl⟩
 refine Oa rfl (E1 4 rfl (zi ?_))
 repeat first | refine tr ?_ | refine br ?_
 refine zC rfl rfl ?_
 exact ⟨i, rfl, by simp [h1, hi], hc⟩
theorem ziJ {α : Type} {l m : List α} {j : Nat} (h : l.take j = m.take j) (hl : l.length ≤ j ∨ m.length ≤ j) (he : l.length = m.length) : l = m := by
 rw [List.take_of_length_le (by omega), List.take_of_length_le (by omega)] at h
 exact h
theorem zp3 (v u : Value) (l m : List zO) (w : World) (hv : zI w v l) (hu : zI w u m) (hl : l.length ≤ 1048576) : z6 TP 69 #[v, u] w fun r w' => ∃ i : Int, r = Ii i ∧ (i = 0 ↔ l = m) ∧ zj [] w w' := by
 obtain ⟨pv, cv, rfl, _⟩ := id (z9.val hv)
 obtain ⟨pu, cu, rfl, _⟩ := id (z9.val hu)
 refine A2 Tryz.func69 rfl rfl ?_
 refine Sr (Oa rfl (E2 0 1 rfl ?_))
 refine yd (fun F wx => ∃ (j : Nat) (f16 : Value), F = [(0, .slice pv l.length cv), (1, .slice pu m.length cu), (5, Ii j), (16, f16)] ∧ l.take j = m.take j ∧ (l.length ≤ j ∨ m.length ≤ j) ∧ zj [] w wx) ?_ ?_
 ·refine Sr (Oa rfl (E3 0 1 5 rfl (zq ?_)))
  refine zZ [0, 1, 5] (fun k F wx => ∃ j : Nat, k = l.length - j ∧ j ≤ l.length ∧ j ≤ m.length ∧ F = [(0, .slice pv l.length cv), (1, .slice pu m.length cu), (5, Ii j)] ∧ l.take j = m.take j ∧ zj [] w wx) (m := l.length - 0) ⟨0, rfl, Nat.zero_le _, Nat.zero_le _, rfl, by simp, zj.refl _ _⟩ ?_
  rintro k F wx ⟨j, rfl, hj, hj', rfl, htk, hcx⟩
  refine ze (ze ?_)
  by_cases h1 : j < l.length
  ·by_cases h2 : j < m.length
   ·refine za (Om rfl (Om rfl (On zak rfl ?_)))
    refine Og (vt (zB rfl rfl) (decide_eq_true (by omega))) rfl ?_
    refine Om rfl (Oj rfl rfl (Oj rfl rfl ?_))
    refine Oy rfl rfl (yc zak rfl) ?_
    refine Oy rfl rfl (vt (zB rfl rfl) (decide_eq_true (by omega))) ?_
    refine Ot rfl (E4 0 1 5 16 rfl (zd rfl (zm ?_)))
    have hx : l[j]? = some l[j] := by simp [h1]
    have hy : m[j]? = some m[j] := by simp [h2]
    generalize l[j] = x at hx
    generalize m[j] = y at hy
    refine ze (zq (ze ?_))
    have hd : zj [] wx wx.drew := zj.drew [] _
    have hcl1 : ∀ {wz : World}, zj [] wx wz → ∃ b off cap, Value.slice pv l.length cv = .slice (some ⟨b, off, none⟩) l.length cap ∧ zz wz b (off + j * 4) x.cs := fun hc => z9.at zbe (z9.chg0 hv (hcx.trans hc)) hx
    have hcl2 : ∀ {wz : World}, zj [] wx wz → ∃ b off cap, Value.slice pu m.length cu = .slice (some ⟨b, off, none⟩) m.length cap ∧ zz wz b (off + j * 4) y.cs := fun hc => z9.at zbe (z9.chg0 hu (hcx.trans hc)) hy
    obtain ⟨b, off, cap, hve, -⟩ := hcl1 (zj.refl [] wx)
    obtain ⟨b', off', cap', hue, -⟩ := hcl2 (zj.refl [] wx)
    cases hve
    cases hue
    have hc1 : ∀ {wz : World}, zj [] wx wz → zz wz b (off + j * 4) x.cs := fun hc => by
     obtain ⟨_, _, _, he, h⟩ := hcl1 hc
     cases he; exact h
    have hc2 : ∀ {wz : World}, zj [] wx wz → zz wz b' (off' + j * 4) y.cs := fun hc => by
     obtain ⟨_, _, _, he, h⟩ := hcl2 hc
     cases he; exact h
    refine zJ (fun wz => zj [] wx wz) mix (by kernel_rfl) hd ?_
    refine Tm rfl (Tm rfl ?_)
    refine Tp (fun _ => zf zak y4 rfl rfl _ rfl h1) rfl ?_
    refine Tr (fun wz hz => zg zbd y4 rfl rfl (hc1 hz)) rfl ?_
    refine Tm rfl (Tm rfl ?_)
    refine Tp (fun _ => zf zak y4 rfl rfl _ rfl h2) rfl ?_
    refine Tr (fun wz hz => zg zbd y4 rfl rfl (hc2 hz)) rfl ?_
    refine Tc zvG rfl rfl rfl (zqW x y _) ?_
    rintro v27 w27 ⟨i, rfl, hi, c27⟩
    refine ⟨.inl (hd.trans c27), ?_⟩
    refine Ta rfl (D4 0 1 5 6 rfl (ze ?_))
    by_cases hxy : x = y
    ·have hi0 := hi.2 hxy
     subst hi0
     refine za (Om rfl ?_)
     refine Og (vf (zT rfl rfl) (zcx (by omega))) rfl ?_
     refine E5 0 1 5 6 29 rfl (zb rfl (yf (zk (za (Om rfl ?_)))))
     refine Og (zH rfl rfl (by omega)) rfl ?_
     refine Oa rfl (N3 0 1 5 rfl ?_)
     refine ⟨l.length - (j + 1), by omega, j + 1, rfl, by omega, by omega, rfl, ?_, (hcx.trans hd).trans c27⟩
     rw [yh hx, yh hy, htk, hxy]
    have hi0 : i ≠ 0 := fun h => hxy (hi.1 h)
    refine za (Om rfl ?_)
    refine Og (vt (zT rfl rfl) (by simp [hi0])) rfl ?_
    refine E5 0 1 5 6 29 rfl (zd rfl (Sr (Om rfl (Oa rfl (E1 4 rfl (zi ?_))))))
    repeat first | refine tr ?_ | refine br ?_
    refine zC rfl rfl ?_
    refine ⟨i, rfl, ⟨fun h => absurd h hi0, fun h => ?_⟩, (hcx.trans hd).trans c27⟩
    rw [h, hy] at hx
    cases hx
    exact absurd rfl hxy
   refine za (Om rfl (Om rfl (On zak rfl ?_)))
   refine Og (vt (zB rfl rfl) (decide_eq_true (by omega))) rfl ?_
   refine Om rfl (Oj rfl rfl (Oj rfl rfl ?_))
   refine Oy rfl rfl (yc zak rfl) ?_
   refine Oy rfl rfl (vf (zB rfl rfl) (decide_eq_false (by omega))) ?_
   refine Ot rfl (E4 0 1 5 16 rfl (zb rfl ?_))
   refine zL ?_
   repeat first | refine te ?_ | refine bo rfl ?_
   refine zt _ ?_
   exact ⟨j, _, rfl, htk, .inr (by omega), hcx⟩
  refine za (Om rfl (Om rfl (On zak rfl ?_)))
  refine Og (vf (zB rfl rfl) (decide_eq_false (by omega))) rfl ?_
  refine Om rfl (Oz rfl rfl (Oz rfl rfl (Oz rfl rfl (Oz rfl rfl (Of rfl (E4 0 1 5 16 rfl (zb rfl ?_)))))))
  refine zL ?_
  repeat first | refine te ?_ | refine bo rfl ?_
  refine zt _ ?_
  exact ⟨j, _, rfl, htk, .inl (by omega), hcx⟩
 rintro F wx ⟨j, f16, rfl, htk, hend, hcx⟩
 refine ze (ze ?_)
 by_cases he : l.length = m.length
 ·refine za (Om rfl (On zak rfl (Om rfl (On zak rfl ?_))))
  refine Og (vt (zw rfl rfl) (by simp [he])) rfl ?_
  refine E3 0 1 35 rfl (zd rfl (Sr (Oa rfl (E1 4 rfl (zi ?_)))))
  repeat first | refine tr ?_ | refine br ?_
  refine zC rfl rfl ?_
  exact ⟨0, rfl, by simp [ziJ htk hend he], hcx⟩
 refine za (Om rfl (On zak rfl (Om rfl (On zak rfl ?_))))
 refine Og (vf (zw rfl rfl) (by simp; omega)) rfl ?_
 refine E3 0 1 35 rfl (zb rfl (zm (Sr (Om rfl (On zak rfl (Om rfl (On zak rfl (Og (zB rfl rfl) rfl ?_))))))))
 refine Oc zld rfl rfl rfl (zpJ _ _) ?_
 rintro v41 w41 ⟨i, rfl, hi, rfl⟩
 refine Oa rfl (E1 4 rfl (zi ?_))
 refine zC rfl rfl ?_
 exact ⟨i, rfl, ⟨fun h => absurd h hi, fun h => absurd (by rw [h]) he⟩, hcx⟩
theorem zdx (v u : Value) (l m : List zO) (w : World) (hv : zI w v l) (hu : zI w u m) (hl : l.length ≤ 1048576) : z6 TP 29 #[v, u] w fun r w' => r = .bool (decide (l = m)) ∧ zj [] w w' := by
 refine A2 Tryz.func29 rfl rfl ?_
 refine Sr (Oa rfl (E2 0 1 rfl (Sr (Om rfl (Om rfl ?_)))))
 refine Oc zxq rfl rfl rfl (zp3 v u l m w hv hu hl) ?_
 rintro v7 w7 ⟨i, rfl, hi, c7⟩
 refine Og (zw rfl rfl) rfl (Oa rfl (E1 4 rfl (zi ?_)))
 refine zC rfl rfl ?_
 refine ⟨?_, c7⟩
 congr 1
 rw [decide_eq_decide]
 exact hi
theorem zfo (v u : Value) (l m : LV) (w : World) (hv : zcD w v l) (hu : zcD w u m) (hl : ∀ r ∈ l, r.length ≤ 1048576) (hn : l.length ≤ 1048576) : z6 TP 42 #[v, u] w fun r w' => r = .bool (decide (l = m)) ∧ zj [] w w' := by
 obtain ⟨pv, cv, rfl, _⟩ := id (zaN.val hv)
 obtain ⟨pu, cu, rfl, _⟩ := id (zaN.val hu)
 refine A2 Tryz.func42 rfl rfl ?_
 refine Sr (Oa rfl (E2 0 1 rfl (ze (ze ?_))))
 by_cases he : l.length = m.length
 ·refine za (Om rfl (On zae rfl (Om rfl (On zae rfl ?_))))
  refine Og (vf (zT rfl rfl) (by simp [he])) rfl ?_
  refine E3 0 1 10 rfl (zb rfl (zm (ze (Sr (Oa rfl (E3 0 1 5 rfl (zq ?_)))))))
  refine zZ [0, 1, 5] (fun k F wx => ∃ j : Nat, k = l.length - j ∧ j ≤ l.length ∧ F = [(0, .slice pv l.length cv), (1, .slice pu m.length cu), (5, Ii j)] ∧ l.take j = m.take j ∧ zj [] w wx) (m := l.length - 0) ⟨0, rfl, Nat.zero_le _, rfl, by simp, zj.refl _ _⟩ ?_
  rintro k F wx ⟨j, rfl, hj, rfl, htk, hcx⟩
  refine ze (Sr (Om rfl (Om rfl (On zae rfl (Og (zB rfl rfl) rfl (E4 0 1 5 14 rfl ?_))))))
  refine zR rfl (fun hT => ?_) (fun hF => ?_)
  ·refine zm ?_
   have h1 : j < l.length := by have := of_decide_eq_true hT; omega
   have hx : l[j]? = some l[j] := by simp [h1]
   have hy : m[j]? = some (m[j]'(by omega)) := by simp
   generalize l[j] = x at hx
   generalize m[j]'(by omega) = y at hy
   have hxl := hl x (List.mem_of_getElem? hx)
   refine ze (zq (ze ?_))
   have hd : zj [] wx wx.drew := zj.drew [] _
   obtain ⟨b, off, cap, ux, hve, hc1, hux⟩ := zaN.at (hv.chg0 hcx) hx
   obtain ⟨b', off', cap', uy, hue, hc2, huy⟩ := zaN.at (hu.chg0 hcx) hy
   cases hve
   cases hue
   have g1 : ∀ {wz : World}, zj [] wx wz → wz.cell? ⟨b, off + j * 1, none⟩ = some ux := fun hc => zj.cell hc hc1
   have g2 : ∀ {wz : World}, zj [] wx wz → wz.cell? ⟨b', off' + j * 1, none⟩ = some uy := fun hc => zj.cell hc hc2
   refine zJ (fun wz => zj [] wx wz) mix (by kernel_rfl) hd ?_
   refine Tm rfl (Tm rfl ?_)
   refine Tp (fun _ => zf zae zcd rfl rfl _ rfl h1) rfl ?_
   refine Tr (fun wz hz => zh zaX rfl (g1 hz)) rfl ?_
   refine Tm rfl (Tm rfl ?_)
   refine Tp (fun _ => zf zae zcd rfl rfl _ rfl (show j < m.length by omega)) rfl ?_
   refine Tr (fun wz hz => zh zaX rfl (g2 hz)) rfl ?_
   refine Tc zhI rfl rfl rfl (zdx ux uy x y _ (z9.chg0 hux hd) (z9.chg0 huy hd) hxl) ?_
   rintro v25 w25 ⟨rfl, c25⟩
   refine ⟨.inl (hd.trans c25), ?_⟩
   refine Tp (fun _ => zU rfl) rfl ?_
   refine D4 0 1 5 26 rfl ?_
   by_cases hxy : x = y
   ·rw [decide_eq_true hxy]
    refine zb rfl (yf (zk (za (Om rfl ?_))))
    refine Og (zH rfl rfl (by omega)) rfl ?_
    refine Oa rfl (N3 0 1 5 rfl ?_)
    refine ⟨l.length - (j + 1), by omega, j + 1, rfl, by omega, rfl, ?_, (hcx.trans hd).trans c25⟩
    rw [yh hx, yh hy, htk, hxy]
   rw [decide_eq_false hxy]
   refine zd rfl (Sr (Oa rfl (E1 4 rfl (zi ?_))))
   repeat first | refine tr ?_ | refine br ?_
   refine zC rfl rfl ?_
   refine ⟨?_, (hcx.trans hd).trans c25⟩
   rw [decide_eq_false fun h => ?_]
   rw [h, hy] at hx
   cases hx
   exact hxy rfl
  refine zL ?_
  repeat first | refine te ?_ | refine bo rfl ?_
  refine zt _ ?_
  have h1 : l.length ≤ j := by have := of_decide_eq_false hF; omega
  refine Sr (Oa rfl (E1 4 rfl (zi ?_)))
  refine zC rfl rfl ?_
  rw [decide_eq_true (ziJ htk (.inl h1) he)]
  exact ⟨rfl, hcx⟩
 refine za (Om rfl (On zae rfl (Om rfl (On zae rfl ?_))))
 refine Og (vt (zT rfl rfl) (by simp; omega)) rfl ?_
 refine E3 0 1 10 rfl (zd rfl (Sr (Oa rfl (E1 4 rfl (zi ?_)))))
 repeat first | refine tr ?_ | refine br ?_
 refine zC rfl rfl ?_
 rw [decide_eq_false fun h => he (by rw [h])]
 exact ⟨rfl, zj.refl _ _⟩
section
variable {w : World} {t : Nat} {own : List Nat} {s : ym} {rows : LV}
theorem ztm (h : yJ w t own s rows) (hE : EOk w) {v : Value} {row : List zO} (hl : zI w v row) (hg : ∀ x ∈ row, x.Rng) (hn : row.length ≤ 1048576) :
 z6 TP 20 #[Pt t, v] w fun r w' => r = .tuple #[.string (if yZ s row = 0 then zV s row else e0), Ii (yZ s row)] ∧ zj [] w w' := by
 obtain ⟨pm, c, k, u, sv, xs, main, subs, rfl, hm, ht⟩ := h
 exact zwW v row w hE hm ht hl hg hn
theorem zqY (h : yJ w t own s rows) (n : Int) {v : Value} {vals : List zO} (hl : zI w v vals) (hg : ∀ x ∈ vals, x.Rng) :
 z6 TP 31 #[Pt t, Ii n, v] w fun r w' => ∃ o, r = .tuple #[o, .bool (zbr s rows n vals).isSome] ∧ zI w' o ((zbr s rows n vals).getD []) ∧ (∀ b ∈ zn o, w.heap.size ≤ b) ∧ zj [] w w' := by
 obtain ⟨pm, c, k, u, sv, xs, main, subs, rfl, hm, ht⟩ := h
 exact zod n v vals w hm ht hl hg
theorem zto (h : yJ w t own s rows) :
 z6 TP 15 #[Pt t] w fun r w' => r = Ii rows.length ∧ w' = w := by
 obtain ⟨pm, c, k, u, sv, xs, main, subs, rfl, hm, ht⟩ := h
 exact ziT w hm ht
end
theorem zI.tab {w w' : World} {t : Nat} {own : List Nat} {s : ym} {rows : LV} (h : yJ w t own s rows) {v : Value} {l : List zO} (hv : zI w v l) (hc : zj own w w') : zI w' v l :=
 zI.own hv h.pages hc
theorem zS.tab {w w' : World} {t : Nat} {own : List Nat} {s : ym} {rows : LV} (h : yJ w t own s rows) {b : Nat} {e : TypeId} {c : List Value} (hb : zS w b e c) (hne : Nat.beq e 147 = false) (hc : zj own w w') : zS w' b e c := by
 refine hb.chg hc fun hm => ?_
 obtain ⟨c', hp⟩ := h.pg b hm
 have := Option.some.inj ((show w.heap[b]? = _ from hb).symm.trans hp)
 cases this
 simp at hne
theorem zjx {s : ym} {rows : LV} {row : List zO} (h : zbW s rows row ≠ 0) : zcG s rows row = rows := by unfold zcG; rw [if_neg h]
theorem zq2 {s : ym} {rows : LV} {row : List zO} {k : ByteArray} (h : zck s rows k row ≠ 0) : zeh s rows k row = rows := by unfold zeh; rw [if_neg h]
def vI (n : Int) : zO := ⟨1, n, 0, e0⟩
theorem zje {n : Int} (h : -9223372036854775808 ≤ n ∧ n ≤ 9223372036854775807) : (vI n).Rng := ⟨⟨by simp [vI], by simp [vI]⟩, h, by simp [vI]⟩
def sW : ym := ⟨[⟨⟨#[97]⟩, 1, 1, false⟩, ⟨⟨#[98]⟩, 1, 1, true⟩], [0], [[1]]⟩
def wk1 : LV := zcG sW [] [vI 1, vI 5]
def wk2 : LV := zcG sW wk1 [vI 2, zO.null]
def wk3 : LV := zcG sW wk2 [vI 3, zO.null]
def wk4 : LV := zfC sW wk3 [vI 2, vI 5]
theorem zxS : yO sW = true := by decide +kernel
theorem zxH : zbW sW [] [vI 1, vI 5] = 0 := by decide +kernel
theorem zxC : zbW sW wk1 [vI 2, zO.null] = 0 := by decide +kernel
theorem zxR : zbW sW wk2 [vI 3, zO.null] = 0 := by decide +kernel
theorem zws : zbW sW wk3 [vI 1, vI 6] = 220 := by decide +kernel
theorem ztx : zbW sW wk3 [vI 4, vI 5] = 220 := by decide +kernel
theorem zxd : zdk sW wk3 [vI 2, vI 5] = 0 := by decide +kernel
theorem zxO : zdM sW wk3 [vI 2, vI 5] = [[vI 1, vI 5], [vI 2, zO.null]] := by decide +kernel
theorem zxA : zbr sW wk4 1 [vI 5] = some [vI 2, vI 5] := by decide +kernel
theorem zw6 : yZ sW [vI 3, zO.null] = 0 := by decide +kernel
theorem zva : zck sW wk4 (zV sW [vI 3, zO.null]) [vI 2, vI 7] = 220 := by decide +kernel
theorem zuR : wk4.length = 2 := by decide +kernel
theorem zcS (n : Int) (w : World) : z6 TP 11 #[Ii n] w fun r w' => r = Ii n ∧ w' = w := by
 refine A1 Tryz.func11 rfl rfl ?_
 refine Sr (Oa rfl (E1 0 rfl (Sr (Om rfl (Oa rfl (E1 2 rfl (zi ?_)))))))
 refine zC rfl rfl ?_
 exact ⟨rfl, rfl⟩
theorem zh9 (n : Int) (w : World) : z6 TP 13 #[Ii n] w fun r w' => r = (vI n).v ∧ zj [] w w' := by
 refine A1 Tryz.func13 rfl rfl ?_
 refine Sr ?_
 refine zD (gn rfl) (zG zd2 rfl rfl ?_)
 intro b2 w2 e2 n2 c2 k2
 refine E2 0 2 rfl (Sr (Om rfl ?_))
 refine Og (z0 znf zd2 rfl (vs := [_, _]) rfl (css := [_, _]) ⟨rfl, rfl, trivial⟩ rfl rfl (cs := [_, _, _, _]) rfl) rfl ?_
 refine zD (gn rfl) (zu y4 rfl rfl rfl rfl k2 (by simp) (zO.one (vI n)) ?_)
 intro wA nA cA kA
 refine E1 2 rfl (zi ?_)
 refine zjv rfl zbd y4 rfl rfl (zz.of_blk0 kA) ?_
 exact ⟨rfl, c2.own cA (by intro y hy; simp at hy; omega)⟩
theorem zmR {w : World} {b : Nat} {l : List zO} {n : Nat} (hb : zS w b 40 (fl zO.cs l)) (hn : l.length ≤ maxLen) (he : l.length = n) : zI w (.slice (some ⟨b, 0, none⟩) n n) l := by
 subst he
 exact z9.of_blk zbe zO.one hb hn
theorem zet (n : Int) (x : zO) (w : World) : z6 TP 41 #[Ii n, x.v] w fun r w' => zI w' r [vI n, x] ∧ (∀ b ∈ zn r, w.heap.size ≤ b) ∧ zj [] w w' := by
 refine A2 Tryz.func41 rfl rfl ?_
 refine Sr ?_
 refine Ob rfl rfl ?_
 intro b3 w3 e3 n3 c3 k3
 refine Oa rfl (E2 0 3 rfl ?_)
 have k3 : zS w3 b3 40 x.cs := k3
 refine ze ?_
 have hd : zj [] w3 w3.drew := zj.drew [] _
 refine zJ (fun wz => zj [] w3 wz) mix (by kernel_rfl) hd ?_
 refine Tm rfl ?_
 refine Tc zic rfl rfl rfl (zh9 n _) ?_
 rintro v6 w6 ⟨rfl, c6⟩
 refine ⟨.inl (hd.trans c6), ?_⟩
 refine Tr (fun wz hz => zg zbd y4 rfl rfl (zz.of_blk0 (k3.chg0 hz))) rfl ?_
 refine zan rfl (gn rfl) (zy zg6 rfl (vs := [_, _]) rfl (css := [_, _]) ⟨rfl, rfl, trivial⟩ rfl rfl (cs := [_, _, _, _, _, _, _, _]) rfl rfl ?_)
 intro b8 w8 e8 n8 c8 k8
 refine ⟨.inl ((hd.trans c6).trans c8), ?_⟩
 refine Ta rfl (D1 4 rfl (zi ?_))
 refine zC rfl rfl ?_
 have hs := ((c3.trans hd).trans c6).size
 refine ⟨zmR (l := [vI n, x]) k8 (by simp [maxLen]) rfl, by intro b hb; simp [zn] at hb; omega, ((c3.trans hd).trans c6).trans c8⟩
structure WkS (w0 w : World) (t : Nat) (own : List Nat) (b3 : Nat) (rows : LV) : Prop where
 e : EOk w
 tab : yJ w t own sW rows
 nul : zS w b3 40 zO.null.cs
 chg : zj [] w0 w
 fr : ∀ p ∈ own, w0.heap.size ≤ p
section
variable {w0 w w' : World} {t : Nat} {own : List Nat} {b3 : Nat} {rows rows' : LV}
theorem WkS.chg0 (h : WkS w0 w t own b3 rows) (hc : zj [] w w') : WkS w0 w' t own b3 rows := ⟨h.e.chg0 hc, h.tab.chg0 hc, h.nul.chg0 hc, h.chg.trans hc, h.fr⟩
theorem WkS.step (h : WkS w0 w t own b3 rows) (hc : zj own w w') (ht : yJ w' t own sW rows') : WkS w0 w' t own b3 rows' :=
 ⟨h.e.tab h.tab hc, ht, h.nul.tab h.tab rfl hc, h.chg.own hc h.fr, h.fr⟩
theorem WkS.ins (h : WkS w0 w t own b3 rows) {v : Value} {row : List zO} (hl : zI w v row) (hg : ∀ x ∈ row, x.Rng) (hn : row.length ≤ 1048576) {e : Int} (he : zbW sW rows row = e) (hr : zcG sW rows row = rows') :
 z6 TP 12 #[Pt t, v] w fun r w' => r = Ii e ∧ WkS w0 w' t own b3 rows' := by
 refine (zkw t own sW rows v row w h.e h.tab hl hg hn).mono fun r w' ⟨h1, h2, h3⟩ => ⟨by rw [h1, he], h.step h3 (hr ▸ h2)⟩
theorem WkS.ign (h : WkS w0 w t own b3 rows) {v : Value} {row : List zO} (hl : zI w v row) (hg : ∀ x ∈ row, x.Rng) (hn : row.length ≤ 1048576) (he : zbW sW rows row = 220) :
 z6 TP 38 #[Pt t, v] w fun r w' => r = .tuple #[.bool false, Ii 0] ∧ WkS w0 w' t own b3 rows := by
 refine (zj6 t own sW rows v row w h.e h.tab hl hg hn).mono fun r w' ⟨h1, h2, h3⟩ => ⟨?_, h.step h3 ?_⟩
 ·rw [h1, zkz, zjN, he]; rfl
 rwa [zjx (by rw [he]; decide)] at h2
theorem WkS.rep (h : WkS w0 w t own b3 rows) {v : Value} {row : List zO} (hl : zI w v row) (hg : ∀ x ∈ row, x.Rng) (hn : row.length ≤ 1048576) {g : LV} (he : zdk sW rows row = 0) (hG : zdM sW rows row = g) (hr : zfC sW rows row = rows') :
 z6 TP 14 #[Pt t, v] w fun r w' => ∃ o, r = .tuple #[o, Ii 0] ∧ zcD w' o g ∧ WkS w0 w' t own b3 rows' := by
 refine (ziQ t own sW rows v row w h.e h.tab hl hg hn).mono fun r w' ⟨o, h1, h2, _, h3, h4⟩ => ⟨o, by rw [h1, he], hG ▸ h2, h.step h4 (hr ▸ h3)⟩
theorem WkS.find (h : WkS w0 w t own b3 rows) (n : Int) {v : Value} {vals r : List zO} (hl : zI w v vals) (hg : ∀ x ∈ vals, x.Rng) (he : zbr sW rows n vals = some r) :
 z6 TP 31 #[Pt t, Ii n, v] w fun x w' => ∃ o, x = .tuple #[o, .bool true] ∧ zI w' o r ∧ WkS w0 w' t own b3 rows ∧ zj [] w w' := by
 refine (zqY h.tab n hl hg).mono fun x w' ⟨o, h1, h2, _, h3⟩ => ⟨o, ?_, ?_, h.chg0 h3, h3⟩
 ·rw [h1, he]; rfl
 rw [he] at h2; exact h2
theorem WkS.key (h : WkS w0 w t own b3 rows) {v : Value} {row : List zO} (hl : zI w v row) (hg : ∀ x ∈ row, x.Rng) (hn : row.length ≤ 1048576) (he : yZ sW row = 0) :
 z6 TP 20 #[Pt t, v] w fun r w' => r = .tuple #[.string (zV sW row), Ii 0] ∧ WkS w0 w' t own b3 rows ∧ zj [] w w' := by
 refine (ztm h.tab h.e hl hg hn).mono fun r w' ⟨h1, h2⟩ => ⟨?_, h.chg0 h2, h2⟩
 rw [h1, he, if_pos rfl]
theorem WkS.upd (h : WkS w0 w t own b3 rows) {v : Value} {row : List zO} {key : ByteArray} (hl : zI w v row) (hg : ∀ x ∈ row, x.Rng) (hn : row.length ≤ 1048576) (he : zck sW rows key row = 220) :
 z6 TP 39 #[Pt t, .string key, v] w fun r w' => ∃ o, r = .tuple #[o, Ii 220] ∧ WkS w0 w' t own b3 rows ∧ zj own w w' := by
 refine (zla t own sW rows v row key w h.e h.tab hl hg hn).mono fun r w' ⟨o, h1, _, _, h2, h3⟩ => ⟨o, by rw [h1, he], h.step h3 ?_, h3⟩
 rwa [zq2 (by rw [he]; decide)] at h2
end
theorem zi3 : zO.null.Rng := ⟨by decide, by decide, by decide⟩
def wkG : LV := [ [vI 1, vI 5], [vI 2, zO.null] ]
theorem zdb {a : Int} (ha : 0 ≤ a ∧ a ≤ 100) {x : zO} (hx : x.Rng) : ∀ y ∈ [vI a, x], y.Rng := by
 intro y hy
 simp at hy
 rcases hy with rfl | rfl
 ·exact zje ⟨by omega, by omega⟩
 exact hx
theorem zwS {w : World} {b17 b18 b19 b20 : Nat} (h17 : zS w b17 25 (fl Col.cs sW.cols)) (h18 : zS w b18 3 [Ii 0]) (h19 : zS w b19 3 [Ii 1]) (h20 : zS w b20 27 [.slice (some ⟨b19, 0, none⟩) 1 1]) :
 yL w (.slice (some ⟨b17, 0, none⟩) 2 2) (.slice (some ⟨b18, 0, none⟩) 1 1) (.slice (some ⟨b20, 0, none⟩) 1 1) sW :=
 ⟨z9.of_blk (l := sW.cols) zau Col.one h17 (by decide), z9.of_blk (l := sW.key) zgd zjj h18 (by decide),
  ⟨[.slice (some ⟨b19, 0, none⟩) 1 1], (zv.of_blk (n := 1) h20 rfl (by simp [maxLen]) (by intro y hy; simp at hy; subst hy; rfl)).toOu, z9.of_blk (l := [1]) zgd zjj h19 (by decide), trivial⟩⟩
theorem zjE (w : World) (hE : EOk w) : z6 TP 9 #[] w fun r w' => r = .bool true ∧ zj [] w w' := by
 refine z6.of_W (args := []) Tryz.func9 rfl rfl rfl rfl ?_
 refine Sr (Oa rfl (zaV [] (F' := []) rfl (ze ?_)))
 have g5 : (vI 5).Rng := zje (by decide)
 have g6 : (vI 6).Rng := zje (by decide)
 have g7 : (vI 7).Rng := zje (by decide)
 refine za ?_
 refine Og (z0 zvW znP rfl (vs := [_, _, _]) rfl (css := [_, _, _]) ⟨rfl, rfl, rfl, trivial⟩ rfl rfl (cs := [_, _, _, _]) rfl) rfl ?_
 refine Og (z0 zvW znP rfl (vs := [_, _, _, _]) rfl (css := [_, _, _, _]) ⟨rfl, rfl, rfl, rfl, trivial⟩ rfl rfl (cs := [_, _, _, _]) rfl) rfl ?_
 refine zD (gn rfl) (zy zxJ rfl (vs := [_, _]) rfl (css := [_, _]) ⟨rfl, rfl, trivial⟩ rfl rfl (cs := [_, _, _, _, _, _, _, _]) rfl rfl ?_)
 intro b17 w17 e17 n17 c17 k17
 refine zD (gn rfl) (zy zqU rfl (vs := [_]) rfl (css := [_]) ⟨rfl, trivial⟩ rfl rfl (cs := [_]) rfl rfl ?_)
 intro b18 w18 e18 n18 c18 k18
 refine zD (gn rfl) (zy zqU rfl (vs := [_]) rfl (css := [_]) ⟨rfl, trivial⟩ rfl rfl (cs := [_]) rfl rfl ?_)
 intro b19 w19 e19 n19 c19 k19
 refine zD (gn rfl) (zy zng rfl (vs := [_]) rfl (css := [_]) ⟨rfl, trivial⟩ rfl rfl (cs := [_]) rfl rfl ?_)
 intro b20 w20 e20 n20 c20 k20
 refine Og (z0 zxi zuI rfl (vs := [_, _, _]) rfl (css := [_, _, _]) ⟨rfl, rfl, rfl, trivial⟩ rfl rfl (cs := [_, _, _]) rfl) rfl ?_
 refine Oc ztY rfl rfl rfl (zwE _ _ _ sW _ (zwS (((k17.chg0 c18).chg0 c19).chg0 c20) ((k18.chg0 c19).chg0 c20) (k19.chg0 c20) k20) zxS) ?_
 rintro v22 w22 ⟨t, own, rfl, hT22, tF22, oF22, c22⟩
 refine Om rfl (Oe rfl rfl (Oe rfl rfl (Oa rfl (Oa rfl (E2 1 2 rfl ?_)))))
 have hc22 : zj [] w w22 := (((c17.trans c18).trans c19).trans c20).trans c22
 refine Sr ?_
 refine zD (gn rfl) (zG zd2 rfl rfl ?_)
 intro b3 w3 e3 n3 c3 k3
 refine E3 1 2 3 rfl ?_
 have k3 : zS w3 b3 40 zO.null.cs := k3
 have hS3 : WkS w w3 t own b3 [] := ⟨(hE.chg0 hc22).chg0 c3, hT22.chg0 c3, k3, hc22.trans c3, fun p hp => by have := oF22 p hp; have := (((c17.trans c18).trans c19).trans c20).size; omega⟩
 refine ze (Sr (Om rfl ?_))
 refine Oc zeA rfl rfl rfl (zcS _ _) ?_
 rintro v26 w26 ⟨rfl, rfl⟩
 refine Og (vf (zT rfl rfl) (zcx (by omega))) rfl ?_
 refine Om rfl (Oj rfl rfl ?_)
 refine Ow rfl rfl zic rfl rfl rfl (zh9 _ _) ?_
 rintro v30 w30 ⟨rfl, c30⟩
 refine Ow rfl rfl zg7 rfl rfl rfl (zet _ (vI 5) _) ?_
 rintro v31 w31 ⟨i31, f31, c31⟩
 refine Ow rfl rfl znr rfl rfl rfl (((hS3.chg0 c30).chg0 c31).ins i31 (zdb (by decide) g5) (by decide) zxH (rows' := wk1) rfl) ?_
 rintro v32 w32 ⟨rfl, hS32⟩
 refine Ow rfl rfl zeA rfl rfl rfl (zcS _ _) ?_
 rintro v33 w33 ⟨rfl, rfl⟩
 refine Oy rfl rfl (vf (zT rfl rfl) (zcx (by omega))) ?_
 refine Of rfl (Om rfl (Oj rfl rfl ?_))
 refine Oy rfl rfl (zg zbd y4 rfl rfl (zz.of_blk0 hS32.nul)) ?_
 refine Ow rfl rfl zg7 rfl rfl rfl (zet _ zO.null _) ?_
 rintro v39 w39 ⟨i39, f39, c39⟩
 refine Ow rfl rfl znr rfl rfl rfl ((hS32.chg0 c39).ins i39 (zdb (by decide) zi3) (by decide) zxC (rows' := wk2) rfl) ?_
 rintro v40 w40 ⟨rfl, hS40⟩
 refine Ow rfl rfl zeA rfl rfl rfl (zcS _ _) ?_
 rintro v41 w41 ⟨rfl, rfl⟩
 refine Oy rfl rfl (vf (zT rfl rfl) (zcx (by omega))) ?_
 refine Of rfl (Om rfl (Oj rfl rfl ?_))
 refine Oy rfl rfl (zg zbd y4 rfl rfl (zz.of_blk0 hS40.nul)) ?_
 refine Ow rfl rfl zg7 rfl rfl rfl (zet _ zO.null _) ?_
 rintro v47 w47 ⟨i47, f47, c47⟩
 refine Ow rfl rfl znr rfl rfl rfl ((hS40.chg0 c47).ins i47 (zdb (by decide) zi3) (by decide) zxR (rows' := wk3) rfl) ?_
 rintro v48 w48 ⟨rfl, hS48⟩
 refine Ow rfl rfl zeA rfl rfl rfl (zcS _ _) ?_
 rintro v49 w49 ⟨rfl, rfl⟩
 refine Oy rfl rfl (vf (zT rfl rfl) (zcx (by omega))) ?_
 refine Of rfl (Om rfl (Oj rfl rfl ?_))
 refine Ow rfl rfl zic rfl rfl rfl (zh9 _ _) ?_
 rintro v54 w54 ⟨rfl, c54⟩
 refine Ow rfl rfl zg7 rfl rfl rfl (zet _ (vI 6) _) ?_
 rintro v55 w55 ⟨i55, f55, c55⟩
 refine Ow rfl rfl znr rfl rfl rfl (((hS48.chg0 c54).chg0 c55).ins i55 (zdb (by decide) g6) (by decide) zws (rows' := wk3) (zjx (by rw [zws]; decide))) ?_
 rintro v56 w56 ⟨rfl, hS56⟩
 refine Ow rfl rfl zeA rfl rfl rfl (zcS _ _) ?_
 rintro v57 w57 ⟨rfl, rfl⟩
 refine Oy rfl rfl (vf (zT rfl rfl) (zcx (by omega))) ?_
 refine Of rfl (Om rfl (Oj rfl rfl ?_))
 refine Ow rfl rfl zic rfl rfl rfl (zh9 _ _) ?_
 rintro v62 w62 ⟨rfl, c62⟩
 refine Ow rfl rfl zg7 rfl rfl rfl (zet _ (vI 5) _) ?_
 rintro v63 w63 ⟨i63, f63, c63⟩
 refine Ow rfl rfl znr rfl rfl rfl (((hS56.chg0 c62).chg0 c63).ins i63 (zdb (by decide) g5) (by decide) ztx (rows' := wk3) (zjx (by rw [ztx]; decide))) ?_
 rintro v64 w64 ⟨rfl, hS64⟩
 refine Ow rfl rfl zeA rfl rfl rfl (zcS _ _) ?_
 rintro v65 w65 ⟨rfl, rfl⟩
 refine Oy rfl rfl (vf (zT rfl rfl) (zcx (by omega))) ?_
 refine Of rfl (E3 1 3 67 rfl (zb rfl (zm (Sr (Om rfl ?_)))))
 refine Oc zic rfl rfl rfl (zh9 _ _) ?_
 rintro v70 w70 ⟨rfl, c70⟩
 refine Oc zg7 rfl rfl rfl (zet _ (vI 5) _) ?_
 rintro v71 w71 ⟨i71, f71, c71⟩
 refine Oc zv0 rfl rfl rfl (((hS64.chg0 c70).chg0 c71).ign i71 (zdb (by decide) g5) (by decide) ztx) ?_
 rintro v72 w72 ⟨rfl, hS72⟩
 refine Om rfl (Oe rfl rfl (Oe rfl rfl (Oa rfl (Oa rfl (E4 1 3 4 5 rfl (Sr (Om rfl ?_)))))))
 refine Oc zic rfl rfl rfl (zh9 _ _) ?_
 rintro v77 w77 ⟨rfl, c77⟩
 refine Oc zg7 rfl rfl rfl (zet _ (vI 5) _) ?_
 rintro v78 w78 ⟨i78, f78, c78⟩
 refine Oc zu1 rfl rfl rfl (((hS72.chg0 c77).chg0 c78).rep i78 (zdb (by decide) g5) (by decide) zxd zxO (rows' := wk4) rfl) ?_
 rintro v79 w79 ⟨o79, rfl, i79, hS79⟩
 refine Om rfl (Oe rfl rfl (Oe rfl rfl (Oa rfl (Oa rfl (E6 1 3 4 5 6 7 rfl (Sr (Om rfl ?_)))))))
 refine Oc zic rfl rfl rfl (zh9 _ _) ?_
 rintro v84 w84 ⟨rfl, c84⟩
 refine zD (gn rfl) (zy zg6 rfl (vs := [_]) rfl (css := [_]) ⟨rfl, trivial⟩ rfl rfl (cs := [_, _, _, _]) rfl rfl ?_)
 intro b85 w85 e85 n85 c85 k85
 refine Oc zwC rfl rfl rfl (((hS79.chg0 c84).chg0 c85).find 1 (zmR (l := [vI 5]) k85 (by decide) rfl) (by intro y hy; simp at hy; subst hy; exact g5) zxA) ?_
 rintro v86 w86 ⟨o86, rfl, i86, hS86, c86⟩
 refine Om rfl (Oe rfl rfl (Oe rfl rfl (Oa rfl (Oa rfl (E8 1 3 4 5 6 7 8 9 rfl ?_)))))
 have i79 : zcD w86 o79 _ := ((i79.chg0 c84).chg0 c85).chg0 c86
 refine Sr (Om rfl ?_)
 refine Og (zg zbd y4 rfl rfl (zz.of_blk0 hS86.nul)) rfl ?_
 refine Oc zg7 rfl rfl rfl (zet _ zO.null _) ?_
 rintro v92 w92 ⟨i92, f92, c92⟩
 refine Oc zxP rfl rfl rfl ((hS86.chg0 c92).key i92 (zdb (by decide) zi3) (by decide) zw6) ?_
 rintro v93 w93 ⟨rfl, hS93, c93⟩
 refine Om rfl (Oe rfl rfl (Oe rfl rfl (Oa rfl (Oa rfl (zaV [1, 3, 4, 5, 6, 7, 8, 9, 10, 11] (F' := [(1, _), (3, _), (4, _), (5, _), (6, _), (7, _), (8, _), (9, _), (10, _), (11, _)]) rfl (Sr (Om rfl (Om rfl ?_))))))))
 refine Oc zic rfl rfl rfl (zh9 _ _) ?_
 rintro v99 w99 ⟨rfl, c99⟩
 refine Oc zg7 rfl rfl rfl (zet _ (vI 7) _) ?_
 rintro v100 w100 ⟨i100, f100, c100⟩
 refine Oc zvK rfl rfl rfl (((hS93.chg0 c99).chg0 c100).upd i100 (zdb (by decide) g7) (by decide) zva) ?_
 rintro v101 w101 ⟨o101, rfl, hS101, c101⟩
 refine Om rfl (Oe rfl rfl (Oe rfl rfl (Oa rfl (Oa rfl (zaV [1, 3, 4, 5, 6, 7, 8, 9, 11, 13] (F' := [(1, _), (3, _), (4, _), (5, _), (6, _), (7, _), (8, _), (9, _), (11, _), (13, _)]) rfl ?_)))))
 have hT100 := ((hS93.chg0 c99).chg0 c100).tab
 have i79 : zcD w101 o79 _ := zcD.tab hT100 ((((i79.chg0 c92).chg0 c93).chg0 c99).chg0 c100) c101
 have i86 : zI w101 o86 _ := zI.tab hT100 ((((z9.chg0 i86 c92).chg0 c93).chg0 c99).chg0 c100) c101
 refine ze ?_
 have hd : zj [] w101 w101.drew := zj.drew [] _
 refine zJ (fun wz => zj [] w101 wz) mix (zjm (by kernel_rfl)) hd ?_
 refine Tm rfl ?_
 refine Tp (fun _ => zU rfl) rfl ?_
 refine Tm rfl (Tq rfl rfl rfl ?_)
 refine Tv rfl rfl zeA rfl rfl rfl (zcS _ _) ?_
 rintro v108 w108 ⟨rfl, rfl⟩
 refine ⟨.inl hd, ?_⟩
 refine Tq rfl rfl rfl ?_
 refine Tv rfl rfl zeA rfl rfl rfl (zcS _ _) ?_
 rintro v110 w110 ⟨rfl, rfl⟩
 refine ⟨.inl hd, ?_⟩
 refine Tg rfl rfl (fun _ => zH rfl rfl (by omega)) rfl ?_
 refine Tq rfl rfl rfl ?_
 refine Tv rfl rfl zeA rfl rfl rfl (zcS _ _) ?_
 rintro v113 w113 ⟨rfl, rfl⟩
 refine ⟨.inl hd, ?_⟩
 refine Tg rfl rfl (fun _ => zH rfl rfl (by omega)) rfl ?_
 refine Tg rfl rfl (fun _ => vt (zw rfl rfl) (decide_eq_true (by omega))) rfl ?_
 refine Tp (fun _ => zK rfl rfl) rfl ?_
 refine Tm rfl (Tq rfl rfl rfl ?_)
 refine Tv rfl rfl zic rfl rfl rfl (zh9 _ _) ?_
 rintro v119 w119 ⟨rfl, c119⟩
 refine ⟨.inl (hd.trans c119), ?_⟩
 refine Tv rfl rfl zg7 rfl rfl rfl (zet _ (vI 5) _) ?_
 rintro v120 w120 ⟨i120, f120, c120⟩
 obtain ⟨p120, q120, rfl, -⟩ := id (z9.val i120)
 refine ⟨.inl ((hd.trans c119).trans c120), ?_⟩
 refine Ts rfl rfl (fun wz hz => zg zbd y4 rfl rfl (zz.of_blk0 (hS101.nul.chg0 hz))) rfl ?_
 refine Tv rfl rfl zg7 rfl rfl rfl (zet _ zO.null _) ?_
 rintro v122 w122 ⟨i122, f122, c122⟩
 obtain ⟨p122, q122, rfl, -⟩ := id (z9.val i122)
 refine ⟨.inl (((hd.trans c119).trans c120).trans c122), ?_⟩
 refine zan rfl (gy rfl rfl rfl) (zy zg3 rfl (vs := [_, _]) rfl (css := [_, _]) ⟨rfl, rfl, trivial⟩ rfl rfl (cs := [_, _]) rfl rfl ?_)
 intro b123 w123 e123 n123 c123 k123
 refine ⟨.inl ((((hd.trans c119).trans c120).trans c122).trans c123), ?_⟩
 refine Tv rfl rfl zt6 rfl rfl rfl (zfo _ _ wkG wkG _ (((((i79.chg0 hd).chg0 c119).chg0 c120).chg0 c122).chg0 c123) ⟨[_, _], (zv.of_blk (n := 2) k123 rfl (by simp [maxLen]) (by intro y hy; simp at hy; rcases hy with rfl | rfl; exact z9.one1 i120; exact z9.one1 i122)).toOu, z9.chg0 (z9.chg0 i120 c122) c123, z9.chg0 i122 c123, trivial⟩ (by decide) (by decide)) ?_
 rintro v124 w124 ⟨h124, c124⟩
 rw [decide_eq_true rfl] at h124
 subst h124
 refine ⟨.inl (((((hd.trans c119).trans c120).trans c122).trans c123).trans c124), ?_⟩
 refine Tp (fun _ => zK rfl rfl) rfl ?_
 refine Tm rfl (Tq rfl rfl rfl ?_)
 refine Tp (fun _ => zK rfl rfl) rfl ?_
 refine Tm rfl (Tq rfl rfl rfl ?_)
 refine Tv rfl rfl zic rfl rfl rfl (zh9 _ _) ?_
 rintro v131 w131 ⟨rfl, c131⟩
 refine ⟨.inl ((((((hd.trans c119).trans c120).trans c122).trans c123).trans c124).trans c131), ?_⟩
 refine Tv rfl rfl zg7 rfl rfl rfl (zet _ (vI 5) _) ?_
 rintro v132 w132 ⟨i132, f132, c132⟩
 refine ⟨.inl (((((((hd.trans c119).trans c120).trans c122).trans c123).trans c124).trans c131).trans c132), ?_⟩
 refine Tv rfl rfl zhI rfl rfl rfl (zdx _ _ [vI 2, vI 5] [vI 2, vI 5] _ (z9.chg0 i86 (((((((hd.trans c119).trans c120).trans c122).trans c123).trans c124).trans c131).trans c132)) i132 (by decide)) ?_
 rintro v133 w133 ⟨h133, c133⟩
 rw [decide_eq_true rfl] at h133
 subst h133
 refine ⟨.inl ((((((((hd.trans c119).trans c120).trans c122).trans c123).trans c124).trans c131).trans c132).trans c133), ?_⟩
 refine Tp (fun _ => zK rfl rfl) rfl ?_
 refine Tm rfl (Tq rfl rfl rfl ?_)
 refine Tv rfl rfl zeA rfl rfl rfl (zcS _ _) ?_
 rintro v137 w137 ⟨rfl, rfl⟩
 refine ⟨.inl ((((((((hd.trans c119).trans c120).trans c122).trans c123).trans c124).trans c131).trans c132).trans c133), ?_⟩
 refine Tg rfl rfl (fun _ => vt (zw rfl rfl) (decide_eq_true (by omega))) rfl ?_
 refine Tp (fun _ => zK rfl rfl) rfl ?_
 refine Tm rfl (Tq rfl rfl rfl ?_)
 refine Tv rfl rfl znW rfl rfl rfl (zto (hS101.tab.chg0 ((((((((hd.trans c119).trans c120).trans c122).trans c123).trans c124).trans c131).trans c132).trans c133))) ?_
 rintro v142 w142 ⟨h142, rfl⟩
 rw [zuR] at h142
 subst h142
 refine ⟨.inl ((((((((hd.trans c119).trans c120).trans c122).trans c123).trans c124).trans c131).trans c132).trans c133), ?_⟩
 refine Tg rfl rfl (fun _ => vt (zw rfl rfl) (decide_eq_true (by omega))) rfl ?_
 refine Tp (fun _ => zK rfl rfl) rfl ?_
 refine Ta rfl (D1 0 rfl (zi ?_))
 refine zC rfl rfl ?_
 exact ⟨rfl, hS101.chg.trans ((((((((hd.trans c119).trans c120).trans c122).trans c123).trans c124).trans c131).trans c132).trans c133)⟩
structure zb0 where
 what : Int
 at' : Int
 row : List zO
 key : ByteArray
structure zcL where
 what : Int
 at' : Int
 row : Value
 key : ByteArray
def zcL.cs (a : zcL) : List Value := [Ii a.what, Ii a.at', a.row, .string a.key]
theorem zme (a : zcL) : a.cs.length = 4 := rfl
def zci (w : World) (x : zcL) (a : zb0) : Prop := x.what = a.what ∧ x.at' = a.at' ∧ x.key = a.key ∧ zI w x.row a.row ∧ (∀ y ∈ a.row, y.Rng) ∧ (-9223372036854775808 ≤ a.at' ∧ a.at' ≤ 9223372036854775807)
theorem zci.chg0 {w w' : World} {x : zcL} {a : zb0} (h : zci w x a) (hc : zj [] w w') : zci w' x a := ⟨h.1, h.2.1, h.2.2.1, z9.chg0 h.2.2.2.1 hc, h.2.2.2.2⟩
theorem zcL.one {w : World} {x : zcL} {a : zb0} (h : zci w x a) : ∀ u ∈ x.cs, u.oneCell' = true := by
 intro u hu
 simp [zcL.cs] at hu
 rcases hu with rfl | rfl | rfl | rfl
 ·rfl
 ·rfl
 ·exact z9.one1 h.2.2.2.1
 rfl
def zes (w : World) : List zcL → List zb0 → Prop
 | [], [] => True
 | x :: xs, a :: al => zci w x a ∧ zes w xs al
 | _, _ => False
theorem zes.chg0 {w w' : World} (hc : zj [] w w') : ∀ {xs : List zcL} {al : List zb0}, zes w xs al → zes w' xs al
 | [], [], _ => trivial
 | _ :: _, _ :: _, h => ⟨h.1.chg0 hc, zes.chg0 hc h.2⟩
theorem zes.length {w : World} : ∀ {xs : List zcL} {al : List zb0}, zes w xs al → xs.length = al.length
 | [], [], _ => rfl
 | _ :: _, _ :: _, h => by simp [zes.length h.2]
theorem zes.at {w : World} : ∀ {xs : List zcL} {al : List zb0} {i : Nat} {a : zb0}, zes w xs al → al[i]? = some a → ∃ x, xs[i]? = some x ∧ zci w x a
 | [], [], _, _, _, h => by simp at h
 | x :: _, _ :: _, 0, _, h, hi => by simp at hi; subst hi; exact ⟨x, rfl, h.1⟩
 | _ :: _, _ :: _, i + 1, _, h, hi => by simpa using h.2.at (by simpa using hi)
def zdm (w : World) (v : Value) (al : List zb0) : Prop := ∃ xs, z9 w 50 4 zcL.cs v xs ∧ zes w xs al
theorem zdm.chg0 {w w' : World} {v : Value} {al : List zb0} (h : zdm w v al) (hc : zj [] w w') : zdm w' v al := let ⟨xs, h1, h2⟩ := h; ⟨xs, z9.chg0 h1 hc, h2.chg0 hc⟩
theorem zdm.at {w : World} {v : Value} {al : List zb0} (h : zdm w v al) {i : Nat} {a : zb0} (hi : al[i]? = some a) : ∃ x b off cap, v = .slice (some ⟨b, off, none⟩) al.length cap ∧ zz w b (off + i * 4) x.cs ∧ zci w x a := by
 obtain ⟨xs, h1, h2⟩ := h
 obtain ⟨x, hx, hxa⟩ := h2.at hi
 obtain ⟨b, off, cap, hv, hc⟩ := z9.at zme h1 hx
 exact ⟨x, b, off, cap, by rw [hv, h2.length], hc, hxa⟩
theorem zdm.val {w : World} {v : Value} {al : List zb0} (h : zdm w v al) : ∃ p c, v = .slice p al.length c ∧ al.length ≤ c := by
 obtain ⟨xs, h1, h2⟩ := h
 have := z9.val h1
 rwa [h2.length] at this
def zeo (a : zb0) : Prop := a.row.length ≤ 10 ∧ a.key.size ≤ 300 ∧ ∀ x ∈ a.row, x.b.size ≤ 300
end Go.Wk
