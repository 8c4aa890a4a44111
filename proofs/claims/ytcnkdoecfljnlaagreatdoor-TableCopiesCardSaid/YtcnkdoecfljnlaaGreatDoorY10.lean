/- joined texts -/
import Derived.Test.YtcnkdoecfljnlaaGreatDoorY9
set_option linter.all false
namespace Go.Wk
open Go.Proofs
set_option maxRecDepth 10000
theorem Kr.chg0 {S : List Nat} {keep : TypeId → Bool} {B : Nat} {W W' : World} (hc : zk [] W W') (hB : B ≤ W.heap.size) : Kr S keep B W W' := Kr.chg hc hB (by simp)
section
variable {S : List Nat} {keep : TypeId → Bool} {B : Nat} {W W' : World}
theorem zU.kr {b : Nat} {e : TypeId} {c : List Value} (h : zU W b e c) (hk : Kr S keep B W W') (he : keep e = true) : zU W' b e c := hk.cells b _ _ _ h he
theorem zv.kr {e k n : Nat} {v : Value} {xs : List Value} (h : zv W e k v n xs) (hk : Kr S keep B W W') (he : keep e = true) : zv W' e k v n xs := by
 rcases h with h | ⟨b, off, cap, c, rfl, hs⟩
 ·exact .inl h
 exact .inr ⟨b, off, cap, c, rfl, ⟨hs.blk.kr hk he, hs.le, hs.max, hs.fit, hs.xs, hs.one⟩⟩
end
theorem HL.two {w : World} {b n : Nat} {v u : Value} {vu : List Value} (h : zU w b 27 [v]) (hv : v.oneCell' = true) (hu : Rd w 1 u n vu) : HL w [.slice (some ⟨b, 0, none⟩) 1 1, u] [[v], vu] := by
 refine ⟨rfl, fun i x ls' h1 h2 => ?_⟩
 match i with
 | 0 =>
  simp at h1 h2
  subst h1 h2
  exact (zv.of_blk (n := 1) h rfl (by simp [maxLen]) (by intro y hy; simp at hy; subst hy; exact hv)).toRd
 | 1 =>
  simp at h1 h2
  subst h1 h2
  have := hu.len_xs
  rw [Nat.mul_one] at this
  rw [this]; exact hu
 | _ + 2 => simp at h1
theorem ztk (c k u : Value) (w : World) : z9 TP 45 #[.agg #[c, k, u]] w fun r w' => ∃ b1, r = .func (.func 76) #[] #[Pt b1] ∧ w.heap.size ≤ b1 ∧ zU w' b1 30 [c, k, u] ∧ zk [] w w' := by
 refine A1 Tryz.func45 rfl rfl ?_
 refine Sr ?_
 refine Ob rfl rfl ?_
 intro b1 w1 e1 n1 c1 k1
 refine Oa rfl (E1 1 rfl (Sr ?_))
 refine Og (zbr rfl rfl) rfl ?_
 refine Oa rfl (E1 2 rfl (zi ?_))
 refine zD rfl rfl ?_
 exact ⟨b1, rfl, by omega, k1, c1⟩
theorem zlE (w0 w : World) (h0w : zk [] w0 w) (b1 : Nat) (c k u : Value) (s : yo) (S0 : List Nat) (keep : TypeId → Bool) (h1 : zU w b1 30 [c, k, u]) (hs : yO w0 c k u s) (hS0 : ∀ b ∈ S0, w0.heap.size ≤ b) (hr : yP s = true)
 (kI : keep 3 = true) (kII : keep 27 = true) :
 zny TP 76 #[Pt b1] (fun x : Nat × Value => #[Ii x.1, x.2]) S0 keep (fun x W => ∃ st, (zN s)[x.1]? = some st ∧ yw W 3 1 ics x.2 st ∧ ∀ b ∈ zp x.2, w.heap.size ≤ b) (fun xs _ => xs.map (·.1) = List.range (zN s).length) (fun _ _ => True) (zN s).length w := by
 intro l J Jx W hcw hJ hJx hY h0
 have hab : ∀ {pre : List (Nat × Value)} {W1 W2 : World}, zk [] W1 W2 → J pre W1 → J pre W2 := fun hc hj => hJ _ _ _ none hj hc.grown0 (fun _ e => by cases e)
 have hn3 := (zX hr).2.1
 have hsl : (zN s).length ≤ 4 := by simp [zN]; omega
 refine CallsIn.mono (R := fun e W' => ∃ r, e = .returned r ∧ (fun (_ : Value) W' => (∃ xs : List (Nat × Value), xs.map (·.1) = List.range (zN s).length ∧ J xs W') ∨ (∃ pre, True ∧ Jx pre W')) r W') ?_ (fun e W' ⟨u, he, h⟩ => ⟨⟨u, he⟩, h⟩)
 refine CallsIn.of_WX (args := [_, _]) Tryz.func76 rfl rfl rfl rfl (zhp ?_)
 have h1W := h1.chg0 hcw
 refine zhq ?_
 refine ze (Sr ?_)
 refine Og (zg zaW zaX rfl rfl (zy.of_blk0 h1W)) rfl ?_
 refine Oc zpl rfl rfl rfl (zgc c k u s _ ((hs.chg0 h0w).chg0 hcw) (zbI hr)) ?_
 rintro v6 w6 ⟨h6, c6⟩
 rw [hr] at h6
 change v6 = Ii 0 at h6
 subst h6
 refine Og (vf (zS rfl rfl) (zcl (by omega))) rfl ?_
 refine E3 0 1 7 rfl (zb rfl (zm (ze ?_)))
 refine zjG ?_
 refine ze ?_
 have h1x := h1W.chg0 c6
 have hs6 := ((hs.chg0 h0w).chg0 hcw).chg0 c6
 obtain ⟨vu, ou, lu⟩ := id hs.uq
 have hvu : vu.length = s.uq.length := by have := ou.1.len_xs; simpa using this
 obtain ⟨pk, ck, rfl, _⟩ := id (z0.val hs.key)
 have hflat : List.flatten (List.cons (List.cons (Value.slice pk s.key.length ck) []) (List.cons vu [])) = Value.slice pk s.key.length ck :: vu := by simp
 have hlen : (Value.slice pk s.key.length ck :: vu).length = (zN s).length := by simp [zN, hvu]
 obtain ⟨pu, cu, rfl, _⟩ := id (zaI.val hs.uq)
 refine za (Od zaK rfl ?_)
 refine Ol za3 rfl (h1x.cell' rfl) ?_
 refine zE (gn rfl) (zB znv rfl (vs := [_]) rfl (css := [_]) ⟨rfl, trivial⟩ rfl rfl (cs := [_]) rfl rfl ?_)
 intro b10 w10 e10 n10 c10 k10
 refine Od y8 rfl ?_
 refine Ol zbM rfl ((h1x.chg0 c10).cell' rfl) ?_
 refine zE (gn rfl) (zB zvJ rfl (vs := [_, _]) rfl (css := [_, _]) ⟨rfl, rfl, trivial⟩ rfl rfl (cs := [_, _]) rfl rfl ?_)
 intro b13 w13 e13 n13 c13 k13
 refine Oc zye rfl rfl rfl (zpz _ [.slice (some ⟨b10, 0, none⟩) 1 1, .slice pu s.uq.length cu] [ [.slice pk s.key.length ck], vu] _ (zv.of_blk (n := 2) k13 rfl (by simp [maxLen]) (by intro y hy; simp at hy; rcases hy with rfl | rfl <;> rfl)) (HL.two (n := s.uq.length) (k10.chg0 c13) rfl (Rd.chg0 (Rd.chg0 (Rd.chg0 (Rd.chg0 (Rd.chg0 ou.1 h0w) hcw) c6) c10) c13)) (by rw [hflat, hlen]; omega) (by simp)) ?_
 rintro v14 w14 ⟨i14, f14', c14⟩
 rw [hflat, hlen] at i14
 obtain ⟨p14, q14, rfl, -⟩ := id (zv.val i14)
 refine On zaq rfl (Om rfl (E4 0 14 15 16 rfl ?_))
 have hsW := hcw.size
 have hc14 : zk [] W w14 := ((c6.trans c10).trans c13).trans c14
 have hs14 := hc14.size
 refine zq ?_
 refine zW [0, 14, 15, 16] (fun m F wx => ∃ (j : Nat) (pre : List (Nat × Value)), m = (zN s).length - j ∧ j ≤ (zN s).length ∧ F = [(0, .func (.yield l) #[] #[]), (14, .slice p14 (zN s).length q14), (15, Ii (zN s).length), (16, Ii j)] ∧ Kr S0 keep w.heap.size w14 wx ∧ pre.map (·.1) = List.range j ∧ J pre wx) (m := (zN s).length - 0) ⟨0, [], rfl, Nat.zero_le _, rfl, Kr.refl _ _ _ _, rfl, hab hc14 h0⟩ ?_
 rintro m F wx ⟨j, pre, rfl, hj, rfl, hkx, hpre, hJ0⟩
 have hpl : pre.length = j := by have := congrArg List.length hpre; simpa using this
 refine Sr (Og (zC rfl rfl) rfl (E5 0 14 15 16 17 rfl (ze ?_)))
 refine zR rfl (fun hT => ?_) (fun hF => ?_)
 ·refine zm ?_
  have hlt : j < (zN s).length := by have := of_decide_eq_true hT; omega
  have hst : (zN s)[j]? = some (zN s)[j] := by simp [hlt]
  generalize (zN s)[j] = st at hst
  have hstm : st ∈ zN s := List.mem_of_getElem? hst
  have hst4 := (zax (zbT hr st hstm)).1
  have hlow : Low w0 wx := fun b hb => by
   have hb2 : b < w.heap.size := Nat.lt_of_lt_of_le hb h0w.size
   rw [hkx.low b hb2 (fun hm => by have := hS0 b hm; omega)]
   exact ((h0w.trans hcw).trans hc14).block b hb (by simp)
  have ix : zbt wx (.slice p14 (zN s).length q14) (zN s) := ⟨_, (i14.kr hkx kII).toOu, z0.low hs.key hlow, lu.low hlow⟩
  obtain ⟨b, off, cap, x, hv, hcell, hx⟩ := zaI.at ix hst
  cases hv
  refine ze (zq (Sr (Om rfl ?_)))
  refine Og (zf zaq zeA rfl rfl _ rfl hlt) rfl ?_
  refine Ol za3 rfl hcell ?_
  refine Oa rfl (Oa rfl (E6 0 3 4 14 15 16 rfl (ze ?_)))
  have hsx := hkx.size
  refine zfi ?_
  refine Xm rfl (Xm rfl (Xm rfl ?_))
  refine yy (gn rfl) rfl (y5 zx6 rfl rfl rfl rfl (zq9 x st _ hx (by omega)) ?_)
  rintro v24 w24 ⟨i24, f24', c24⟩
  refine zfW (gn rfl) rfl rfl rfl (hY pre (j, v24) w24 (hab c24 hJ0) ⟨st, hst, i24, fun b hb => by have := f24' b hb; omega⟩ (by omega)) ?_
  rintro v25 w25 hR25
  obtain ⟨b25, rfl, hb25⟩ := yb hR25
  refine ⟨_, rfl, ?_⟩
  refine yy (gn rfl) rfl (St.vl (zO rfl) rfl rfl ?_)
  refine zbx [0, 14, 15, 16, 26] (F' := [(0, _), (14, _), (15, _), (16, _), (26, _)]) rfl ?_
  rcases hb25 with ⟨rfl, hJ25, hk25⟩ | ⟨rfl, hJ25⟩
  ·refine zb rfl (ye (zl (za ?_)))
   refine Og (zI rfl rfl (by omega)) rfl ?_
   refine Om rfl (N4 0 14 15 16 rfl ?_)
   refine ⟨(zN s).length - (j + 1), by omega, j + 1, pre ++ [(j, v24)], rfl, by omega, rfl, (hkx.trans (Kr.chg0 c24 (by omega))).trans hk25, ?_, hJ25⟩
   rw [List.map_append, hpre, List.range_succ]
   rfl
  refine zd rfl ?_
  refine zM ?_
  repeat first | refine te ?_ | refine bo rfl ?_
  refine zt _ ?_
  refine zgG ?_
  refine zge rfl ?_
  exact .inr ⟨_, trivial, hJ25⟩
 refine zM ?_
 repeat first | refine te ?_ | refine bo rfl ?_
 refine zt _ ?_
 refine zgG ?_
 refine zge rfl ?_
 have he : j = (zN s).length := by have := of_decide_eq_false hF; omega
 subst he
 exact .inl ⟨_, hpre, hJ0⟩
theorem zbE.nil {s : yo} (h : yP s = true) : ∀ {subs : List (LE)}, subs = (zN s).map (fun _ => []) → zbE s [] [] subs := by
 rintro subs rfl
 have hw : WfP [] := ⟨by simp, by simp, by simp [Srt]⟩
 have hW : zee [] := zee.nil
 refine ⟨y4.nil h, rfl, hw, hW, ?_⟩
 induction zN s with
 | nil => exact .nil
 | cons st sts ih => exact .cons ⟨hw, hW, by simp⟩ ih
section
variable {B : Nat} {W W' : World}
theorem ym.bk {α : Type} {f : α → List Value} {e k : Nat} (hk : Bk B W W') : ∀ {vs : List Value} {ls : List (List α)}, ym W e k f vs ls → ym W' e k f vs ls
 | [], [], _ => trivial
 | _ :: _, _ :: _, h => ⟨zv.bk h.1 hk, ym.bk hk h.2⟩
theorem zbk.bk (hk : Bk B W W') : ∀ {vs : List Value} {ls : LE}, zbk W vs ls → zbk W' vs ls
 | [], [], _ => trivial
 | _ :: _, _ :: _, h => ⟨zv.bk h.1 hk, zbk.bk hk h.2⟩
theorem Pg.bk {p : Nat} {ls : LE} (h : Pg W p ls) (hk : Bk B W W') : Pg W' p ls :=
 let ⟨v, h1, us, h2, h3⟩ := h; ⟨v, h1.bk hk, us, zv.bk h2 hk, h3.bk hk⟩
theorem zcs.bk {w0 : World} {tb pm : Nat} {c k u o : Value} {ys : List (Value × Nat)} {main : LE} {subs : List (LE)} (h : zcs w0 W tb pm c k u o ys main subs) (hk : Bk B W W') : zcs w0 W' tb pm c k u o ys main subs :=
 ⟨h.blk.bk hk, h.pg.bk hk, zv.bk h.sl hk, PgL.all (fun _ _ hp => hp.bk hk) h.pgs, h.nd, h.fr, h.fo, h.ft⟩
end
theorem ym.notD {α : Type} {f : α → List Value} {w : World} {e k D : Nat} {x : Option (List Deferred)} (hD : w.heap[D]? = some (.deferred x)) : ∀ {vs : List Value} {ls : List (List α)}, ym w e k f vs ls → ∀ v ∈ vs, ∀ b ∈ zp v, b ∉ [D]
 | [], [], _, v, hv => by simp at hv
 | v :: vs, l :: ls, h, u, hu => by
  rcases List.mem_cons.1 hu with rfl | hu
  ·exact zv.notD h.1 hD
  exact h.2.notD hD u hu
theorem zbk.notD {w : World} {D : Nat} {x : Option (List Deferred)} (hD : w.heap[D]? = some (.deferred x)) : ∀ {vs : List Value} {ls : LE}, zbk w vs ls → ∀ v ∈ vs, ∀ b ∈ zp v, b ∉ [D]
 | [], [], _, v, hv => by simp at hv
 | v :: vs, l :: ls, h, u, hu => by
  rcases List.mem_cons.1 hu with rfl | hu
  ·exact zv.notD h.1 hD
  exact zbk.notD hD h.2 u hu
set_option maxHeartbeats 1000000 in
theorem zqg (c k u : Value) (s : yo) (w : World) (hs : yO w c k u s) (hr : yP s = true) :
 z9 TP 10 #[.agg #[c, k, u]] w fun r w' => ∃ t own, r = .tuple #[Pt t, Ii 0] ∧ yA w' t own s [] ∧ w.heap.size ≤ t ∧ (∀ p ∈ own, w.heap.size ≤ p) ∧ zk [] w w' ∧ ∃ pm sv, zU w' t 98 [Pt pm, c, k, u, sv] := by
 have hn4 : (zN s).length ≤ 4 := by have := (zX hr).2.1; simp [zN]; omega
 refine z9.of_WM (args := [_]) Tryz.func10 rfl rfl rfl rfl ?_
 refine Sr ?_
 refine Ob rfl rfl ?_
 intro b1 w1 e1 n1 c1 k1
 refine Oa rfl (Oa rfl (E1 1 rfl (ze (Sr ?_))))
 refine Og (zg zaW zaX rfl rfl (zy.of_blk0 k1)) rfl ?_
 refine Oc zpl rfl rfl rfl (zgc c k u s _ (hs.chg0 c1) (zbI hr)) ?_
 rintro v9 w9 ⟨h9, c9⟩
 rw [hr] at h9
 change v9 = Ii 0 at h9
 subst h9
 refine Oa rfl (E2 1 4 rfl (Sr (Om rfl ?_)))
 refine Og (vf (zS rfl rfl) (zcl (by omega))) rfl ?_
 refine E3 1 4 11 rfl (zb rfl (zm ?_))
 have k1 : zU w9 b1 30 [c, k, u] := k1.chg0 c9
 have hcA := c1.trans c9
 refine yf (fun F wx => ∃ b5 b16 pm, F = [(1, Pt b1), (5, Pt b5)] ∧ zU wx b5 31 [Pt b16] ∧ zcs w wx b16 pm c k u (.slice none 0 0) [] [] [] ∧ zk [] w9 wx) ?_ ?_
 ·have hsA := hcA.size
  have hC := (zk.drew [] w9)
  refine zfe (fun wz => zk [] w9 wz) (zaU.seq [1] (.two 0 (zaU.seq [2] (.two 3 (zaU.seq [4, 5] .done) 4 (zaU.seq [3, 5] .done))) 4 (zaU.seq [0, 2, 3, 5] .done))) mix (by kernel_rfl) hC ?_
  refine zdp rfl rfl (gn rfl) (fun wz hz => zg zaW zaX rfl rfl (zy.of_blk0 (k1.chg0 hz))) rfl rfl ?_
  refine zeF ?_ ?_
  ·refine zaa rfl rfl (gn rfl) (y5 ztW rfl rfl rfl rfl (f9 _) ?_)
   rintro v13 w13 ⟨pm, rfl, hpm, p13, c13⟩
   have hN13 := hC.size
   have hC := hC.trans c13
   refine ⟨.inl hC, ?_⟩
   refine yd rfl rfl (gn rfl) (fun _ => z6 zui ztm rfl (vs := [_, _]) rfl (css := [_, _]) ⟨rfl, rfl, trivial⟩ rfl rfl (cs := [_, _, _, _, _]) rfl) rfl rfl ?_
   refine zeF ?_ ?_
   ·refine zaa rfl rfl (gn rfl) (zig rfl rfl rfl ?_)
    intro b16 w16 e16 n16 c16 k16
    have hN16 := hC.size
    have hC := hC.trans c16
    have p13 := p13.chg0 c16
    refine ⟨.inl hC, ?_⟩
    refine zaa rfl rfl (gn rfl) (zH zrW rfl rfl ?_)
    intro b5 w5 e5 n5 c5 k5
    have hN5 := hC.size
    have hC := hC.trans c5
    have k16 := k16.chg0 c5
    have p13 := p13.chg0 c5
    refine ⟨.inl hC, ?_⟩
    refine zaa rfl rfl (gn rfl) (zu zqv rfl rfl rfl rfl k5 (by simp) (by intro u hu; simp at hu; subst hu; rfl) ?_)
    intro wA nA cA kA
    have hC := hC.own cA (by intro y hy; simp at hy; omega)
    refine ⟨.inl hC, ?_⟩
    refine zcB [1, 5] (F' := [(1, _), (5, _)]) rfl ?_
    have hz1 := c13.size
    have hz2 := c5.size
    have hz3 := c16.size
    exact ⟨b5, b16, pm, rfl, kA, ⟨k16.chg cA (by simp; omega), p13.chgC k5 rfl rfl rfl cA, zv.nil _ _ _, trivial, by simp, by simp; omega, by simp [zp], by omega⟩, hC⟩
   refine zaa rfl rfl (gn rfl) (zH zrW rfl rfl ?_)
   intro b5 w5 e5 n5 c5 k5
   have hN5 := hC.size
   have hC := hC.trans c5
   have p13 := p13.chg0 c5
   refine ⟨.inl hC, ?_⟩
   refine zaa rfl rfl (gn rfl) (zig rfl rfl rfl ?_)
   intro b16 w16 e16 n16 c16 k16
   have hN16 := hC.size
   have hC := hC.trans c16
   have k5 := k5.chg0 c16
   have p13 := p13.chg0 c16
   refine ⟨.inl hC, ?_⟩
   refine zaa rfl rfl (gn rfl) (zu zqv rfl rfl rfl rfl k5 (by simp) (by intro u hu; simp at hu; subst hu; rfl) ?_)
   intro wA nA cA kA
   have hC := hC.own cA (by intro y hy; simp at hy; omega)
   refine ⟨.inl hC, ?_⟩
   refine zcB [1, 5] (F' := [(1, _), (5, _)]) rfl ?_
   have hz1 := c13.size
   have hz2 := c5.size
   have hz3 := c16.size
   exact ⟨b5, b16, pm, rfl, kA, ⟨k16.chg cA (by simp; omega), p13.chgC k5 rfl rfl rfl cA, zv.nil _ _ _, trivial, by simp, by simp; omega, by simp [zp], by omega⟩, hC⟩
  refine zaa rfl rfl (gn rfl) (zH zrW rfl rfl ?_)
  intro b5 w5 e5 n5 c5 k5
  have hN5 := hC.size
  have hC := hC.trans c5
  refine ⟨.inl hC, ?_⟩
  refine zaa rfl rfl (gn rfl) (y5 ztW rfl rfl rfl rfl (f9 _) ?_)
  rintro v13 w13 ⟨pm, rfl, hpm, p13, c13⟩
  have hN13 := hC.size
  have hC := hC.trans c13
  have k5 := k5.chg0 c13
  refine ⟨.inl hC, ?_⟩
  refine yd rfl rfl (gn rfl) (fun _ => z6 zui ztm rfl (vs := [_, _]) rfl (css := [_, _]) ⟨rfl, rfl, trivial⟩ rfl rfl (cs := [_, _, _, _, _]) rfl) rfl rfl ?_
  refine zaa rfl rfl (gn rfl) (zig rfl rfl rfl ?_)
  intro b16 w16 e16 n16 c16 k16
  have hN16 := hC.size
  have hC := hC.trans c16
  have k5 := k5.chg0 c16
  have p13 := p13.chg0 c16
  refine ⟨.inl hC, ?_⟩
  refine zaa rfl rfl (gn rfl) (zu zqv rfl rfl rfl rfl k5 (by simp) (by intro u hu; simp at hu; subst hu; rfl) ?_)
  intro wA nA cA kA
  have hC := hC.own cA (by intro y hy; simp at hy; omega)
  refine ⟨.inl hC, ?_⟩
  refine zcB [1, 5] (F' := [(1, _), (5, _)]) rfl ?_
  have hz1 := c13.size
  have hz2 := c5.size
  have hz3 := c16.size
  exact ⟨b5, b16, pm, rfl, kA, ⟨k16.chg cA (by simp; omega), p13.chgC k5 rfl rfl rfl cA, zv.nil _ _ _, trivial, by simp, by simp; omega, by simp [zp], by omega⟩, hC⟩
 rintro F wx ⟨b5, b16, pm, rfl, kt, hpre, cx⟩
 have hcB := hcA.trans cx
 have k1x := k1.chg0 cx
 refine yf (fun F wy => ∃ (D : Nat) (f18 : Value) (o : Value) (ys : List (Value × Nat)), F = [(1000000, Ii D), (5, Pt b5), (18, f18)] ∧ w.heap.size ≤ D ∧ wy.heap[D]? = some (.deferred (some [])) ∧ zU wy b5 31 [Pt b16] ∧ zcs w wy b16 pm c k u o ys [] (ys.map fun _ => []) ∧ ym wy 3 1 ics (ys.map (·.1)) (zN s) ∧ zk [] w wy) ?_ ?_
 ·refine Sr ?_
  refine Og (zg zaW zaX rfl rfl (zy.of_blk0 k1x)) rfl ?_
  refine Oc zxO rfl rfl rfl (ztk c k u _) ?_
  rintro v18 w18 ⟨p1, rfl, hp1, kp1, c18⟩
  refine E2 5 18 rfl ?_
  have hcC := hcB.trans c18
  have hpre' := hpre.chg0 c18
  have kt' := kt.chg0 c18
  have hsC := hcC.size
  have hs18 := c18.size
  refine zq ?_
  refine zhy (α := Nat × Value) (gf := 76) (lb := [Pt p1]) (encs := fun x : Nat × Value => #[Ii x.1, x.2]) (S0 := [b16]) (keep := fun e => Nat.beq e 3 || Nat.beq e 27) (N := (zN s).length)
   (fun pre W => ∃ (o : Value) (ys : List (Value × Nat)), zcs w W b16 pm c k u o ys [] (ys.map fun _ => []) ∧ (∀ b ∈ zp o, w18.heap.size ≤ b) ∧ ys.map (·.1) = pre.map (·.2) ∧ ym W 3 1 ics (pre.map (·.2)) (pre.map fun x => ((zN s)[x.1]?).getD []) ∧ zU W b5 31 [Pt b16] ∧ zk [b16] w18 W ∧ w18.heap.size ≤ W.heap.size)
   (fun _ _ _ => False)
   (fun x => [(20, x.2), (19, Ii x.1), (5, Pt b5), (18, .func (.func 76) #[] #[Pt p1])])
   (fun x => [(5, Pt b5), (7, x.2), (20, x.2)])
   rfl zyd (zlE w w18 hcC p1 c k u s [b16] _ kp1 hs (by intro b hb; simp at hb; subst hb; exact hpre.ft) hr rfl rfl) (fun _ => rfl) ?_ (fun _ _ _ _ h => h) (fun _ _ _ _ h => h) ?_ (fun _ _ _ _ _ h => h.elim) ?_ (fun _ _ h => h.choose_spec.choose_spec.2.2.2.2.2.2) ?_ ?_ ?_ ?_ (fun _ _ _ _ _ _ h => h.elim)
  ·rintro x W W' hk ⟨st, h1, h2, h3⟩
   exact ⟨st, h1, zv.bk h2 hk, h3⟩
  ·rintro pre W W' hk ⟨o, ys, h1, h2, h3, h4, h5, h6, h7⟩
   exact ⟨o, ys, h1.bk hk, h2, h3, h4.bk hk, h5.bk hk, h6.bk (Nat.le_refl _) hk, by obtain ⟨T, _, hc⟩ := hk; exact Nat.le_trans h7 hc.size⟩
  ·exact ⟨_, [], hpre', by simp [zp], rfl, trivial, kt', zk.refl _ _, Nat.le_refl _⟩
  ·intro x a ha
   exact ha.vars2 rfl rfl rfl
  ·intro l' x W
   refine yH ?_
   refine yy (gn rfl) rfl (St.vl (yh rfl) rfl rfl ?_)
   refine zfR [5, 7, 20] (F' := [(5, _), (7, _), (20, _)]) rfl ?_
   exact ⟨rfl, rfl, rfl⟩
  ·rintro l' pre ⟨xi, xv⟩ W ⟨o, ys, hp, hfo, hys, hats, hk5, hcW, hsW⟩ ⟨st, hst, hx, hfx⟩ hlen
   have hx : yw W 3 1 ics xv st := hx
   have hst : (zN s)[xi]? = some st := hst
   have hfx : ∀ b ∈ zp xv, w18.heap.size ≤ b := hfx
   obtain ⟨px, qx, rfl, _⟩ := id (yw.val hx)
   refine zfg ?_
   have hd : zk [] W W.drew := zk.drew [] _
   have hbo : b16 ∉ zp o := fun hm => zv.apart hp.sl hp.blk rfl b16 hm (by simp)
   have hyl : ys.length = pre.length := by have := congrArg List.length hys; simpa using this
   have hb5 : b5 ≠ b16 := hk5.ne hp.blk rfl
   have hcl : ∀ {wz : World}, zk [] W wz → wz.cell? ⟨b5, 0, none⟩ = some (Pt b16) ∧ wz.cell? ⟨b16, 4, none⟩ = some o := fun hc => ⟨(hk5.chg0 hc).cell' rfl, (hp.blk.chg0 hc).cell' rfl⟩
   have hb5o : b5 ∉ zp o := fun hm => zv.apart hp.sl hk5 rfl b5 hm (by simp)
   refine zmo (fun wz => wz.cell? ⟨b5, 0, none⟩ = some (Pt b16) ∧ wz.cell? ⟨b16, 4, none⟩ = some o) mix (by kernel_rfl) (hcl hd) ?_
   refine Tr (fun wz hz => zh ze3 rfl hz.1) rfl ?_
   refine Tr (fun wz hz => zh ze3 rfl hz.1) rfl ?_
   refine Tp (fun _ => zF rfl) rfl ?_
   refine Td zbZ rfl ?_
   refine Tr (fun wz hz => zh zgm rfl hz.2) rfl ?_
   refine Tm rfl ?_
   refine Tc ztW rfl rfl rfl (f9 _) ?_
   rintro v27 w27 ⟨q, rfl, hqf, hq, c27⟩
   refine ⟨.inl (hcl (hd.trans c27)), ?_⟩
   refine Tp (fun _ => z6 zsc zh2 rfl (vs := [_, _]) rfl (css := [_, _]) ⟨rfl, rfl, trivial⟩ rfl rfl (cs := [_, _]) rfl) rfl ?_
   refine zas rfl (gn rfl) (zB zrA rfl (vs := [_]) rfl (css := [_]) ⟨rfl, trivial⟩ rfl rfl (cs := [_, _]) rfl rfl ?_)
   intro b29 w29 e29 n29 c29 k29
   refine ⟨.inl (hcl ((hd.trans c27).trans c29)), ?_⟩
   refine zas rfl (gn rfl) (yt zrA zem rfl rfl (yw.chg0 hp.sl ((hd.trans c27).trans c29)) (zv.of_blk (n := 1) (c := scs (.slice px st.length qx, q)) k29 rfl (by simp [maxLen]) (by intro u hu; simp [scs] at hu; rcases hu with rfl | rfl <;> rfl)) (by simp only [maxLen]; omega) (by omega) rfl ?_)
   intro v30 w30 i30 c30 o30 z30
   obtain ⟨p30, q30, rfl, _⟩ := id (zv.val i30)
   refine ⟨.inl ⟨((hk5.chg0 ((hd.trans c27).trans c29)).chg c30 hb5o).cell' rfl, ((hp.blk.chg0 ((hd.trans c27).trans c29)).chg c30 hbo).cell' rfl⟩, ?_⟩
   refine Tp (fun _ => zF rfl) rfl ?_
   refine Td zbZ rfl ?_
   refine zas rfl (gn rfl) (zu zwp rfl rfl rfl rfl ((hp.blk.chg0 ((hd.trans c27).trans c29)).chg c30 hbo) (by simp) (by intro u hu; simp at hu; subst hu; rfl) ?_)
   intro wB nB cB kB
   refine ⟨.inr (by kernel_rfl), ?_⟩
   refine zdV [5, 20] (F' := [(5, _), (20, _)]) rfl ?_
   have kB : zU wB b16 98 [Pt pm, c, k, u, .slice p30 (ys.length + 1) q30] := kB
   have hc29 : zk [] W w29 := (hd.trans c27).trans c29
   have hs27 := c27.size
   have hs29 := c29.size
   have hsd := hd.size
   have hmore := (hp.chg0 hc29).more (a := .slice px st.length qx) (hq.chg0 c29) (fun hm => by
    rcases List.mem_cons.1 hm with rfl | hm
    ·have := hp.pg.lt; omega
    have := hp.pgs.lt q hm; omega) (by omega) c30 i30 (yB o30 hp.fo (by omega)) cB kB
   have hcut : ∀ y ∈ zp o, ∃ cc, zU W y 103 cc := fun y hy => by
    rcases hp.sl with ⟨rfl, _, _⟩ | ⟨b, off, cap, cc, rfl, hs⟩
    ·simp [zp] at hy
    simp [zp] at hy; subst hy; exact ⟨_, hs.blk⟩
   have hall : zk (b16 :: zp o) W wB := ((hc29.any (S := b16 :: zp o)).transS (c30.weak (by intro y hy; simp [hy]))).transS (cB.weak (by simp))
   have hsl29 := yw.chg0 hp.sl hc29
   have hb30 : zU w30 b16 98 [Pt pm, c, k, u, o] := (hp.blk.chg0 hc29).chg c30 hbo
   have hats30 := ym.chg c30 (ym.apartSl hsl29 rfl (hats.chg0 hc29)) (hats.chg0 hc29)
   have hats1 : ym wB 3 1 ics (pre.map (·.2)) (pre.map fun x => ((zN s)[x.1]?).getD []) := ym.chg cB (hats30.apart hb30 rfl) hats30
   have hx30 := yw.chg (yw.chg0 hx hc29) c30 (zv.apartSl (yw.chg0 hx hc29) hsl29 rfl)
   have hx1 : yw wB 3 1 ics (.slice px st.length qx) st := yw.chg hx30 cB (zv.apart hx30 hb30 rfl)
   refine ⟨KeepsFrom.chg hall ?_, Kr.chg hall (by omega) ?_, .slice p30 (ys.length + 1) q30, ys ++ [(.slice px st.length qx, q)], ?_, ?_, ?_, ?_, ?_, ?_, by have := hall.size; omega⟩
   ·intro y hy
    rcases List.mem_cons.1 hy with rfl | hy
    ·exact ⟨_, _, hp.blk⟩
    obtain ⟨cc, hb⟩ := hcut y hy
    exact ⟨_, _, hb⟩
   ·intro y hy
    rcases List.mem_cons.1 hy with rfl | hy
    ·exact ⟨.inl (by simp), _, _, hp.blk, rfl⟩
    obtain ⟨cc, hb⟩ := hcut y hy
    exact ⟨.inr (hfo y hy), _, _, hb, rfl⟩
   ·rw [List.map_append]
    exact hmore
   ·exact yB o30 hfo (by omega)
   ·rw [List.map_append, List.map_append, hys]
    rfl
   ·rw [List.map_append, List.map_append]
    refine hats1.append (us := [_]) (ms := [_]) ⟨?_, trivial⟩
    show yw wB 3 1 ics (.slice px st.length qx) (((zN s)[xi]?).getD [])
    rw [hst]
    exact hx1
   ·exact (((hk5.chg0 hc29).chg c30 (fun hm => zv.apart hsl29 (hk5.chg0 hc29) rfl b5 hm (by simp))).chg cB (by simpa using hb5))
   exact hcW.trans' hall (by
    intro y hy
    rcases List.mem_cons.1 hy with rfl | hy
    ·simp
    exact .inr (hfo y hy))
  rintro D xs W hD hxs ⟨o, ys, hp, hfo, hys, hats, hk5, hcW, hsW⟩ hdf
  refine zl ?_
  have hb16 := hp.ft
  refine ⟨D, _, o, ys, rfl, by omega, hdf, hk5, hp, ?_, hcC.own hcW (by intro y hy; simp at hy; omega)⟩
  have e : (xs.map fun x => ((zN s)[x.1]?).getD []) = zN s := by
   have e1 : (xs.map fun x => ((zN s)[x.1]?).getD []) = (xs.map (·.1)).map fun i => ((zN s)[i]?).getD [] := by rw [List.map_map]; rfl
   rw [e1, hxs]
   apply List.ext_getElem (by simp)
   intro i h1 h2
   simp [h2]
  rw [hys, ← e]
  exact hats
 rintro F wy ⟨D, f18, o, ys, rfl, hD, hdf, hk5, htp, hats, hcy⟩
 refine Sr ?_
 refine Ol ze3 rfl (hk5.cell' rfl) ?_
 refine Oa rfl (Oa rfl (za1 [2, 3] (F' := [(2, _), (3, _), (1000000, _)]) rfl (zi ?_)))
 refine zts (D := D) rfl rfl rfl rfl hdf fun w' hcD => ?_
 have hbD : ∀ {b : Nat} {e : TypeId} {x : List Value}, zU wy b e x → b ∉ [D] := fun hb hm => by
  simp at hm
  rw [← hm, show wy.heap[_]? = _ from hb] at hdf
  cases hdf
 have hP : ∀ p ls, Pg wy p ls → Pg w' p ls := fun p ls ⟨v, h1, us, h2, h3⟩ => ⟨v, h1.chg hcD (hbD h1), us, h2.chg hcD (h2.notD hdf), h3.chg hcD (zbk.notD hdf h3)⟩
 have hsl : (ys.map (·.1)).length = (zN s).length := hats.length
 refine ⟨b16, pm :: ys.map (·.2), rfl, ⟨pm, c, k, u, o, ys, [], _, rfl, ⟨htp.blk.chg hcD (hbD htp.blk), ?_, hP _ _ htp.pg, zv.chg htp.sl hcD (zv.notD htp.sl hdf), ym.chg hcD (hats.notD hdf) hats, PgL.all hP htp.pgs, htp.nd⟩, zbE.nil hr ?_⟩, htp.ft, htp.fr, hcy.own hcD (by intro y hy; simp at hy; omega), pm, o, htp.blk.chg hcD (hbD htp.blk)⟩
 ·exact hs.chg0 (hcy.own hcD (by intro y hy; simp at hy; omega))
 apply List.ext_getElem (by simpa using hsl)
 intro i h1 h2
 simp
theorem zu0 (c k u : Value) (s : yo) (w : World) (hs : yO w c k u s) (hr : yP s = true) :
 z9 TP 10 #[.agg #[c, k, u]] w fun r w' => ∃ t own, r = .tuple #[Pt t, Ii 0] ∧ yA w' t own s [] ∧ w.heap.size ≤ t ∧ (∀ p ∈ own, w.heap.size ≤ p) ∧ zk [] w w' :=
 Calls.mono (zqg c k u s w hs hr) fun _ _ ⟨r, he, t, own, h1, h2, h3, h4, h5, _⟩ => ⟨r, he, t, own, h1, h2, h3, h4, h5⟩
theorem zdO {α : Type} {a b c d : List α} (h : a ++ c = b ++ d) (hl : a.length = b.length) : a = b ∧ c = d := List.append_inj h hl
theorem zmC {n m k : Nat} (h : be n k = be m k) : n % 256 ^ k = m % 256 ^ k := by rw [← zg4, h, zg4]
theorem zoT {n m : Nat} {a b : List UInt8} (hn : n < 18446744073709551616) (hm : m < 18446744073709551616) (h : zbU n ++ a = zbU m ++ b) : n = m ∧ a = b := by
 have h1 := za2 n
 have h2 := za2 m
 simp only [zbU, List.cons_append, List.cons.injEq] at h
 have e : yF n = yF m := by
  have := congrArg UInt8.toNat h.1
  simp only [UInt8.toNat_ofNat'] at this
  omega
 rw [e] at h
 obtain ⟨h3, h4⟩ := zdO h.2 (by rw [zaB, zaB])
 refine ⟨?_, h4⟩
 have h5 := congrArg rdN h3
 rw [zdq hm] at h5
 rw [← h5, ← e, zdq hn]
theorem znP {s u : ByteArray} {a b : List UInt8} (hs : s.size ≤ 200) (hu : u.size ≤ 200) (h : zbS s ++ a = zbS u ++ b) : s = u ∧ a = b := by
 simp only [zbS, List.append_assoc] at h
 obtain ⟨h1, h2⟩ := zoT (by omega) (by omega) h
 obtain ⟨h3, h4⟩ := zdO h2 (by simp [h1])
 exact ⟨by cases s; cases u; simp at h3; rw [h3], h4⟩
theorem zoX {c : Col} {x y : zQ} {a b : List UInt8} (hx : yZ c x = 0) (hy : yZ c y = 0) (gx : x.Rng) (gy : y.Rng) (h : zeh c x ++ a = zeh c y ++ b) : x = y ∧ a = b := by
 obtain ⟨hr, hcx, _, hx2⟩ := zbs hx
 obtain ⟨_, hcy, _, hy2⟩ := zbs hy
 obtain ⟨fx, bx⟩ := zcR hcx
 obtain ⟨fy, by'⟩ := zcR hcy
 obtain ⟨kx, ex, mx⟩ := za8 fx
 obtain ⟨ky, ey, my⟩ := za8 fy
 obtain ⟨s1, s2, s3, s4⟩ := zdA hr
 have hux := gx.u
 have huy := gy.u
 obtain ⟨xk, xi, xu, xb⟩ := x
 obtain ⟨yk, yi, yu, yb⟩ := y
 simp only [zed, zQ.mk.injEq, true_and] at ex ey
 simp only at *
 unfold zeh at h
 by_cases h1 : xk = 0
 ·by_cases h2 : yk = 0
  ·subst h1 h2
   simp at h ex ey
   obtain ⟨rfl, rfl, rfl⟩ := ex
   obtain ⟨rfl, rfl, rfl⟩ := ey
   exact ⟨rfl, h⟩
  subst h1
  simp [h2] at h
 by_cases h2 : yk = 0
 ·subst h2
  simp [h1] at h
 rw [if_neg h1, if_neg h2] at h
 simp only [List.cons_append, List.cons.injEq, true_and] at h
 obtain ⟨tx, wx⟩ := hx2 h1
 obtain ⟨ty, wy⟩ := hy2 h2
 subst tx
 have ty := ty.symm
 subst ty
 unfold zio at h
 simp only [zbb] at wx wy
 rcases s4 with e | e | e | e <;> simp only [e, ↓reduceIte, Int.reduceEq, decide_eq_false_iff_not, true_or, or_true, or_self, or_false, false_or] at h wx wy ex ey
 ·obtain ⟨-, rfl, rfl⟩ := ex
  obtain ⟨-, rfl, rfl⟩ := ey
  obtain ⟨h3, h4⟩ := zdO h (by rw [zaB, zaB])
  have hz := s1 (.inl e)
  obtain ⟨z, hz1, hz2⟩ : ∃ z : Nat, c.s = z ∧ (z = 1 ∨ z = 2 ∨ z = 4 ∨ z = 8) := ⟨c.s.toNat, by omega, by omega⟩
  rw [hz1] at h3 wx wy
  have e1 := zhF (i := xi) hz2 (by simp only [zbh, Int.toNat_natCast] at wx; omega)
  have e2 := zhF (i := yi) hz2 (by simp only [zbh, Int.toNat_natCast] at wy; omega)
  have e3 := zmC h3
  rw [Int.toNat_natCast] at e3
  rw [e3, e2] at e1
  subst e1
  exact ⟨rfl, h4⟩
 ·obtain ⟨rfl, -, rfl⟩ := ex
  obtain ⟨rfl, -, rfl⟩ := ey
  obtain ⟨h3, h4⟩ := zdO h (by rw [zaB, zaB])
  have hz := s1 (.inr e)
  obtain ⟨z, hz1, hz2⟩ : ∃ z : Nat, c.s = z ∧ (z = 1 ∨ z = 2 ∨ z = 4 ∨ z = 8) := ⟨c.s.toNat, by omega, by omega⟩
  rw [hz1] at h3 wx wy
  have e3 := zmC h3
  have e4 : xu = yu := by
   rcases hz2 with rfl | rfl | rfl | rfl <;> simp only [Int.toNat_natCast, Nat.reduceMul, Nat.reducePow, Int.reducePow, Int.not_le] at wx wy e3 <;> omega
  subst e4
  exact ⟨rfl, h4⟩
 ·obtain ⟨-, rfl, rfl⟩ := ex
  obtain ⟨-, rfl, rfl⟩ := ey
  have m1 := mx e
  have m2 := my e
  simp only [List.cons_append, List.nil_append, List.cons.injEq] at h
  have : xi = yi := by
   rcases m1 with rfl | rfl <;> rcases m2 with rfl | rfl
   ·rfl
   ·exact absurd h.1 (by decide)
   ·exact absurd h.1 (by decide)
   rfl
  subst this
  exact ⟨rfl, h.2⟩
 obtain ⟨rfl, rfl, -⟩ := ex
 obtain ⟨rfl, rfl, -⟩ := ey
 obtain ⟨h3, h4⟩ := znP bx by' h
 subst h3
 exact ⟨rfl, h4⟩
theorem zk7 : ∀ {cs : List Col} {xs ys : List zQ}, zaJ cs xs = 0 → zaJ cs ys = 0 → xs.length = cs.length → ys.length = cs.length → (∀ x ∈ xs, x.Rng) → (∀ y ∈ ys, y.Rng) → zcb cs xs = zcb cs ys → xs = ys
 | [], [], [], _, _, _, _, _, _, _ => rfl
 | [], _ :: _, _, _, _, h, _, _, _, _ => by simp at h
 | [], [], _ :: _, _, _, _, h, _, _, _ => by simp at h
 | _ :: _, [], _, _, _, h, _, _, _, _ => by simp at h
 | _ :: _, _ :: _, [], _, _, _, h, _, _, _ => by simp at h
 | c :: cs, x :: xs, y :: ys, hx, hy, lx, ly, gx, gy, h => by
  unfold zaJ at hx hy
  by_cases h1 : yZ c x = 0
  ·by_cases h2 : yZ c y = 0
   ·rw [if_neg (by simp [h1])] at hx
    rw [if_neg (by simp [h2])] at hy
    obtain ⟨e1, e2⟩ := zoX h1 h2 (gx x (by simp)) (gy y (by simp)) h
    rw [e1, zk7 hx hy (by simpa using lx) (by simpa using ly) (fun z hz => gx z (by simp [hz])) (fun z hz => gy z (by simp [hz])) e2]
   rw [if_pos h2] at hy; exact absurd hy h2
  rw [if_pos h1] at hx; exact absurd hx h1
theorem zoU {s : yo} {a b : List zQ} (ha : yV s a = 0) (hb : yV s b = 0) (ga : ∀ x ∈ a, x.Rng) (gb : ∀ x ∈ b, x.Rng) (h : zdG s a = zdG s b) : a = b := by
 obtain ⟨_, l1, f1⟩ := zam ha
 obtain ⟨_, l2, f2⟩ := zam hb
 refine zk7 f1 f2 l1 l2 ga gb ?_
 have := congrArg (fun b : ByteArray => b.data.toList) h
 simpa [zdG] using this
theorem zjg {s : yo} {r1 r2 : LV} {m1 m2 : LE} {s1 s2 : List (LE)} (h1 : zbE s r1 m1 s1) (h2 : zbE s r2 m2 s2) : r1 = r2 ↔ r1.length = r2.length ∧ ∀ x ∈ m1.flatten, zce m2 x.1 = some x.2 := by
 constructor
 ·rintro rfl
  refine ⟨rfl, fun x hx => ?_⟩
  rw [h1.flat, ← h2.flat] at hx
  exact (zeV h2.wf).2 hx
 rintro ⟨hl, h⟩
 have hsub : ∀ x ∈ r1, x ∈ r2 := fun r hr => by
  have h3 := h (zV s r, zdG s r) (by rw [h1.flat]; exact List.mem_map.2 ⟨r, hr, rfl⟩)
  have h4 := (zeV h2.wf).1 h3
  rw [h2.flat, List.mem_map] at h4
  obtain ⟨r', hr', he⟩ := h4
  simp only [Prod.mk.injEq] at he
  have := zoU (h2.ok.fit r' hr') (h1.ok.fit r hr) (h2.ok.rng r' hr') (h1.ok.rng r hr) he.2
  rw [← this]; exact hr'
 have hn1 : r1.Nodup := h1.ok.srt.imp fun {a b} hb e => by rw [e] at hb; rw [zaQ] at hb; cases hb
 have hsup : ∀ x ∈ r2, x ∈ r1 := fun x hx => by
  by_cases hm : x ∈ r1
  ·exact hm
  have := zic (l := x :: r1) (m := r2) (List.nodup_cons.2 ⟨hm, hn1⟩) fun y hy => by
   rcases List.mem_cons.1 hy with rfl | hy
   ·exact hx
   exact hsub y hy
  simp only [List.length_cons] at this
  omega
 have hk : r1.map (zV s) = r2.map (zV s) := by
  refine zia (List.pairwise_map.2 h1.ok.srt) (List.pairwise_map.2 h2.ok.srt) fun x => ⟨fun hx => ?_, fun hx => ?_⟩
  ·obtain ⟨r, hr, rfl⟩ := List.mem_map.1 hx
   exact List.mem_map.2 ⟨r, hsub r hr, rfl⟩
  obtain ⟨r, hr, rfl⟩ := List.mem_map.1 hx
  exact List.mem_map.2 ⟨r, hsup r hr, rfl⟩
 apply List.ext_getElem hl
 intro i i1 i2
 have e := congrArg (fun l : List ByteArray => l[i]?) hk
 simp only [List.getElem?_map, List.getElem?_eq_getElem i1, List.getElem?_eq_getElem i2, Option.map_some, Option.some.injEq] at e
 exact h2.ok.uniq (hsub _ (List.getElem_mem i1)) (List.getElem_mem i2) e
theorem ztY (s : ByteArray) : blt s e0 = false := by
 cases h : blt s e0 with
 | false => rfl
 | true =>
  have := (zdM s e0).1 h
  simp [e0] at this
theorem zrE (t : Nat) (w : World) : z9 TP 37 #[Pt t, .pointer none] w fun r w' => r = .bool false ∧ zk [] w w' := by
 refine z9.of_WM (args := [_, _]) Tryz.func37 rfl rfl rfl rfl ?_
 refine Sr ?_
 refine Ob rfl rfl ?_
 intro b3 w3 e3 n3 c3 k3
 refine zE (gn rfl) (zH zr4 rfl rfl ?_)
 intro b4 w4 e4 n4 c4 k4
 refine E3 0 3 4 rfl (ze (Sr (Om rfl ?_)))
 refine Og (zaC zfH rfl rfl) rfl ?_
 refine Om rfl ?_
 refine Oy rfl rfl (zh ze3 rfl ((k3.chg0 c4).cell' rfl)) ?_
 refine Oy rfl rfl (zaC zfH rfl rfl) ?_
 refine Of rfl (E4 0 3 4 14 rfl (zd rfl (Sr (Om rfl ?_))))
 refine Og (zaC zfH rfl rfl) rfl ?_
 refine Om rfl (Oz rfl rfl (Oz rfl rfl (Of rfl ?_)))
 refine zE (gn rfl) (zu sz4 rfl rfl rfl rfl k4 (by simp) (by simp [Value.oneCell']) ?_)
 intro wA nA cA kA
 refine E1 4 rfl (zi ?_)
 repeat first | refine tr ?_ | refine br ?_
 refine zpf rfl ag4 rfl (kA.cell' rfl) ?_
 exact ⟨rfl, (c3.trans c4).own cA (by intro y hy; simp at hy; omega)⟩
set_option maxHeartbeats 1000000 in
theorem zoy (t t' : Nat) (own own' : List Nat) (s s' : yo) (rows rows' : LV) (w : World) (h : yA w t own s rows) (h' : yA w t' own' s' rows') :
 z9 TP 37 #[Pt t, Pt t'] w fun r w' => r = .bool (decide (s = s') && decide (rows = rows')) ∧ zk [] w w' := by
 obtain ⟨pm, c, k, u, sv, xs, main, subs, rfl, hm, ht⟩ := h
 obtain ⟨pm', c', k', u', sv', xs', main', subs', rfl, hm', ht'⟩ := h'
 refine z9.of_WM (args := [_, _]) Tryz.func37 rfl rfl rfl rfl ?_
 refine Sr ?_
 refine Ob rfl rfl ?_
 intro b3 w3 e3 n3 c3 k3
 refine zE (gn rfl) (zH zr4 rfl rfl ?_)
 intro b4 w4 e4 n4 c4 k4
 refine E3 0 3 4 rfl ?_
 have k3 : zU w4 b3 31 [Pt t'] := k3.chg0 c4
 have hcA := c3.trans c4
 refine ze (Sr (Om rfl ?_))
 refine Og (zaC zfH rfl rfl) rfl ?_
 refine Om rfl ?_
 refine Oy rfl rfl (zh ze3 rfl (k3.cell' rfl)) ?_
 refine Oy rfl rfl (zaC zfH rfl rfl) ?_
 refine Of rfl (E4 0 3 4 14 rfl (zb rfl (zm (ze (ze ?_)))))
 have hd : zk [] w4 w4.drew := zk.drew [] _
 have hmA := hm.chg0 hcA
 have hmA' := hm'.chg0 hcA
 by_cases hse : s = s'
 ·subst hse
  by_cases hl : rows.length = rows'.length
  ·refine zJ (fun wz => zk [] w4 wz) mix (by kernel_rfl) hd ?_
   refine Tm rfl ?_
   refine Tp (fun _ => zF rfl) rfl ?_
   refine Td zd0 rfl ?_
   refine Tr (fun wz hz => zg zaW zaX rfl rfl (hmA.chg0 hz).scells) rfl ?_
   refine Tr (fun wz hz => zh ze3 rfl ((k3.chg0 hz).cell' rfl)) rfl ?_
   refine Tp (fun _ => zF rfl) rfl ?_
   refine Td zd0 rfl ?_
   refine Tr (fun wz hz => zg zaW zaX rfl rfl (hmA'.chg0 hz).scells) rfl ?_
   refine Tc ztC rfl rfl rfl (zmd c k u c' k' u' s s _ ((hmA.chg0 hd).sch) ((hmA'.chg0 hd).sch) (zbI ht.ok.right) (zbI ht'.ok.right)) ?_
   rintro v29 w29 ⟨e29, c29⟩
   rw [decide_eq_true rfl] at e29
   subst e29
   refine ⟨.inl (hd.trans c29), ?_⟩
   refine Tp (fun _ => zO rfl) rfl ?_
   refine Tm rfl (Tq rfl rfl rfl ?_)
   refine Tv rfl rfl ziC rfl rfl rfl (zfB _ ((hmA.chg0 hd).chg0 c29) ht) ?_
   rintro v33 w33 ⟨rfl, rfl⟩
   refine ⟨.inl (hd.trans c29), ?_⟩
   refine Ts rfl rfl (fun wz hz => zh ze3 rfl ((k3.chg0 hz).cell' rfl)) rfl ?_
   refine Tv rfl rfl ziC rfl rfl rfl (zfB _ ((hmA'.chg0 hd).chg0 c29) ht') ?_
   rintro v35 w35 ⟨rfl, rfl⟩
   refine ⟨.inl (hd.trans c29), ?_⟩
   refine Tg rfl rfl (fun _ => vf (zS rfl rfl) (by simp [hl])) rfl ?_
   refine Tp (fun _ => zT rfl rfl) rfl ?_
   refine D4 0 3 4 37 rfl (zb rfl (zm ?_))
   have hcB := (hcA.trans hd).trans c29
   have hmB := hm.chg0 hcB
   have hmB' := hm'.chg0 hcB
   have k3 := (k3.chg0 hd).chg0 c29
   have k4 : zU w35 b4 4 [.bool false] := (k4.chg0 hd).chg0 c29
   refine yf (fun F wx => ∃ (D : Nat) (f42 : Value), F = [(1000000, Ii D), (3, Pt b3), (4, Pt b4), (42, f42)] ∧ w.heap.size ≤ D ∧ wx.heap[D]? = some (.deferred (some [])) ∧ zU wx b4 4 [.bool false] ∧ (∀ x ∈ main.flatten, zce main' x.1 = some x.2) ∧ zk [] w wx) ?_ ?_
   ·refine Sr (Om rfl (Og (zF rfl) rfl (Od zeM rfl ?_)))
    refine Ol zgQ rfl (hmB.blk.cell' rfl) ?_
    refine Oc zxl rfl rfl rfl (f14 pm main e0 _ hmB.pg (by have := ht.le; omega)) ?_
    rintro v42 w42 ⟨q5, q3, vv, rfl, kq5, ip, kq3, hq3, hq5, c42⟩
    refine E3 3 4 42 rfl ?_
    have hcC := hcB.trans c42
    have hsB := hcB.size
    have hsC := hcC.size
    have hb4lt := k4.lt
    have k3 := k3.chg0 c42
    have k4 := k4.chg0 c42
    have hall : za4 main.flatten e0 = main.flatten := List.filter_eq_self.2 fun x _ => by simp [ztY]
    have hm4 := k4.lt
    refine zq ?_
    refine zrL (α := Ent) (gf := 100) (lb := [Pt q5, Pt q3]) (encs := fun x : Ent => #[.string x.1, .string x.2]) (N := main.flatten.length) [b4]
     (fun pre W => (∀ x ∈ pre, zce main' x.1 = some x.2) ∧ zk [] w42 W)
     (fun c pre W => c = .ret ∧ (∃ x ∈ pre, zce main' x.1 ≠ some x.2) ∧ zU W b4 4 [.bool false] ∧ zk [b4] w42 W)
     (fun x => [(44, .string x.2), (43, .string x.1), (3, Pt b3), (4, Pt b4), (42, .func (.func 100) #[] #[Pt q5, Pt q3])])
     (fun x => [(3, Pt b3), (4, Pt b4), (5, .string x.1), (6, .string x.2), (43, .string x.1), (44, .string x.2)])
     rfl zr7 ?_
     (zq1 w42 q5 q3 vv main e0 [b4] kq5 ip kq3 (by have := ht.le; omega) ht.wf.le ?_ ?_ hall) (fun _ => rfl) ?_ ?_ ?_ (fun pre W hI => hI.2.size) ?_ ?_ ?_ ?_ ?_
    ·intro b hb
     simp at hb
     subst hb
     exact hm4
    ·simp
     omega
    ·intro b hb
     simp at hb
     subst hb
     exact ⟨_, _, k4, rfl, rfl⟩
    ·rintro pre W W' T hT hc ⟨g1, g2⟩
     exact ⟨g1, g2.own hc hT⟩
    ·rintro c pre W W' T hT hc ⟨rfl, g1, g2, g3⟩
     exact ⟨rfl, g1, g2.chg hc (fun hm => by have := hT _ hm; omega), g3.trans' hc (fun y hy => .inr (hT y hy))⟩
    ·exact ⟨by simp, zk.refl _ _⟩
    ·intro x a ha
     exact ha.vars2 rfl rfl rfl
    ·intro l x W
     refine zb7 ?_
     refine yH ?_
     refine yy (gn rfl) rfl (St.vl (yh rfl) rfl rfl ?_)
     refine zbx [3, 4, 5, 43, 44] (F' := [(3, _), (4, _), (5, _), (43, _), (44, _)]) rfl ?_
     refine yH ?_
     refine yy (gn rfl) rfl (St.vl (yh rfl) rfl rfl ?_)
     refine zfR [3, 4, 5, 6, 43, 44] (F' := [(3, _), (4, _), (5, _), (6, _), (43, _), (44, _)]) rfl ?_
     exact ⟨rfl, rfl, rfl⟩
    ·rintro l pre x W ⟨g1, g2⟩ hlen
     have hmW' := hm'.chg0 (hcC.trans g2)
     have k3W := k3.chg0 g2
     have k4W := k4.chg0 g2
     refine zfg ?_
     refine zb7 ?_
     refine yH ?_
     refine yy (gn rfl) rfl (St.vl (zh ze3 rfl (k3W.cell' rfl)) rfl rfl ?_)
     refine yy (gn rfl) rfl (St.vl (zF rfl) rfl rfl ?_)
     refine yy (gn rfl) rfl (St.vl (zj zeM rfl) rfl rfl ?_)
     refine yy (gn rfl) rfl (St.vl (zh zgQ rfl (hmW'.blk.cell' rfl)) rfl rfl ?_)
     refine Xm rfl ?_
     refine yy (gn rfl) rfl (y5 zra rfl rfl rfl rfl (f15 pm' main' x.1 _ hmW'.pg ht'.wf (by have := ht'.le; omega)) ?_)
     rintro v51 w51 ⟨rfl, c51⟩
     refine Xm rfl ?_
     refine yy (gn rfl) rfl (St.vl (zP rfl rfl) rfl rfl ?_)
     refine yy (gn rfl) rfl (St.vl (zP rfl rfl) rfl rfl ?_)
     refine yy (gn rfl) rfl (St.vl (yh rfl) rfl rfl ?_)
     refine yy (gn rfl) rfl (St.vl (yh rfl) rfl rfl ?_)
     refine zbx [3, 4, 6, 7, 8, 43, 44] (F' := [(3, _), (4, _), (6, _), (7, _), (8, _), (43, _), (44, _)]) rfl ?_
     refine zb7 ?_
     have hfail : zce main' x.1 ≠ some x.2 → ∀ {wC : World}, zk [b4] w51 wC → zU wC b4 4 [.bool false] → zk [b4] W wC ∧ (Code.ret = .ret ∧ (∃ y ∈ pre ++ [x], zce main' y.1 ≠ some y.2) ∧ zU wC b4 4 [.bool false] ∧ zk [b4] w42 wC) := fun hne {wC} hc hb =>
      ⟨(c51.any (S := [b4])).transS hc, rfl, ⟨x, by simp, hne⟩, hb, ((g2.trans c51).any (S := [b4])).transS hc⟩
     cases hg : zce main' x.1 with
     | none =>
      refine yH ?_
      refine Xm rfl ?_
      refine yy (gn rfl) rfl (St.vl (zO rfl) rfl rfl ?_)
      refine Xm rfl ?_
      refine zuq rfl rfl rfl rfl rfl rfl ?_
      refine zuq rfl rfl rfl rfl rfl rfl ?_
      refine zuq rfl rfl rfl rfl rfl rfl ?_
      refine yy (gn rfl) rfl (St.vl (zL rfl rfl) rfl rfl ?_)
      refine zbx [3, 4, 43, 44, 60] (F' := [(3, _), (4, _), (43, _), (44, _), (60, _)]) rfl ?_
      refine zc4 rfl ?_
      refine zb7 ?_
      refine yH ?_
      refine yy (gn rfl) rfl (zu sz4 rfl rfl rfl rfl (k4W.chg0 c51) (by simp) (by simp [Value.oneCell']) ?_)
      intro wC nC cC kC
      refine zbx [4] (F' := [(4, _)]) rfl ?_
      refine zsF ?_
      repeat first | refine tr ?_ | refine br ?_
      exact hfail (by rw [hg]; simp) cC kC
     | some y =>
      by_cases hxy : x.2 = y
      ·refine yH ?_
       refine Xm rfl ?_
       refine yy (gn rfl) rfl (St.vl (zO rfl) rfl rfl ?_)
       refine Xm rfl ?_
       refine yy (gy rfl rfl rfl) rfl (St.vl (zal rfl) rfl rfl ?_)
       refine yy (gy rfl rfl rfl) rfl (St.vl (zal rfl) rfl rfl ?_)
       refine yy (gy rfl rfl rfl) rfl (St.vl (vf (zcH rfl rfl) (by simp [hxy])) rfl rfl ?_)
       refine yy (gn rfl) rfl (St.vl (zT rfl rfl) rfl rfl ?_)
       refine zbx [3, 4, 43, 44, 60] (F' := [(3, _), (4, _), (43, _), (44, _), (60, _)]) rfl ?_
       refine zbV rfl ?_
       refine zgN ?_
       refine zl ?_
       refine ⟨c51.any, fun z hz => ?_, g2.trans c51⟩
       rcases List.mem_append.1 hz with hz | hz
       ·exact g1 z hz
       simp at hz; subst hz; rw [hg, hxy]
      refine yH ?_
      refine Xm rfl ?_
      refine yy (gn rfl) rfl (St.vl (zO rfl) rfl rfl ?_)
      refine Xm rfl ?_
      refine yy (gy rfl rfl rfl) rfl (St.vl (zal rfl) rfl rfl ?_)
      refine yy (gy rfl rfl rfl) rfl (St.vl (zal rfl) rfl rfl ?_)
      refine yy (gy rfl rfl rfl) rfl (St.vl (vt (zcH rfl rfl) (by simp [hxy])) rfl rfl ?_)
      refine yy (gn rfl) rfl (St.vl (zT rfl rfl) rfl rfl ?_)
      refine zbx [3, 4, 43, 44, 60] (F' := [(3, _), (4, _), (43, _), (44, _), (60, _)]) rfl ?_
      refine zc4 rfl ?_
      refine zb7 ?_
      refine yH ?_
      refine yy (gn rfl) rfl (zu sz4 rfl rfl rfl rfl (k4W.chg0 c51) (by simp) (by simp [Value.oneCell']) ?_)
      intro wC nC cC kC
      refine zbx [4] (F' := [(4, _)]) rfl ?_
      refine zsF ?_
      repeat first | refine tr ?_ | refine br ?_
      exact hfail (by rw [hg]; simp; exact fun e => hxy e.symm) cC kC
    ·rintro D xs W hD rfl ⟨g1, g2⟩ hdf
     refine zl ?_
     exact ⟨D, _, rfl, by omega, hdf, k4.chg0 g2, g1, hcC.trans g2⟩
    rintro D c pre W' hD ⟨-, hpre⟩ ⟨rfl, ⟨x, hx, hne⟩, g2, g3⟩ hdf
    refine zi ?_
    repeat first | refine tr ?_ | refine br ?_
    have hDb : D ≠ b4 := by omega
    refine zjY (v := .bool false) (D := D) rfl ag4 rfl rfl hdf fun w' hc' => ?_
    have hnr : rows ≠ rows' := fun e => by
     exact hne (((zjg ht ht').1 e).2 x (hpre.subset hx))
    refine ⟨(g2.chg hc' (by simpa using hDb.symm)).cell' rfl, by simp [hnr], ?_⟩
    exact (hcC.own g3 (by intro y hy; simp at hy; have := c3.size; omega)).own hc' (by intro y hy; simp at hy; omega)
   rintro F wx ⟨D, f42, rfl, hD, hdf, hb4, hall, hcx⟩
   refine Sr ?_
   refine zE (gn rfl) (zu sz4 rfl rfl rfl rfl hb4 (by simp) (by simp [Value.oneCell']) ?_)
   intro wA nA cA kA
   refine za1 [4] (F' := [(4, _), (1000000, _)]) rfl (zi ?_)
   have kA : zU wA b4 4 [.bool true] := kA
   have hDb : D ≠ b4 := by rintro rfl; rw [show wx.heap[D]? = _ from hb4] at hdf; cases hdf
   refine zjY (v := .bool true) (D := D) rfl ag4 rfl rfl ((cA.block D (Array.getElem?_eq_some_iff.1 hdf).1 (by simpa using hDb)).trans hdf) fun w' hc' => ?_
   have hr : rows = rows' := (zjg ht ht').2 ⟨hl, hall⟩
   refine ⟨(kA.chg hc' (by simpa using hDb.symm)).cell' rfl, ?_, ?_⟩
   ·simp [hr]
   have h4 : w.heap.size ≤ b4 := by have := c3.size; omega
   exact (hcx.own cA (by intro y hy; simp at hy; omega)).own hc' (by intro y hy; simp at hy; omega)
  refine zJ (fun wz => zk [] w4 wz) mix (by kernel_rfl) hd ?_
  refine Tm rfl ?_
  refine Tp (fun _ => zF rfl) rfl ?_
  refine Td zd0 rfl ?_
  refine Tr (fun wz hz => zg zaW zaX rfl rfl (hmA.chg0 hz).scells) rfl ?_
  refine Tr (fun wz hz => zh ze3 rfl ((k3.chg0 hz).cell' rfl)) rfl ?_
  refine Tp (fun _ => zF rfl) rfl ?_
  refine Td zd0 rfl ?_
  refine Tr (fun wz hz => zg zaW zaX rfl rfl (hmA'.chg0 hz).scells) rfl ?_
  refine Tc ztC rfl rfl rfl (zmd c k u c' k' u' s s _ ((hmA.chg0 hd).sch) ((hmA'.chg0 hd).sch) (zbI ht.ok.right) (zbI ht'.ok.right)) ?_
  rintro v29 w29 ⟨e29, c29⟩
  rw [decide_eq_true rfl] at e29
  subst e29
  refine ⟨.inl (hd.trans c29), ?_⟩
  refine Tp (fun _ => zO rfl) rfl ?_
  refine Tm rfl (Tq rfl rfl rfl ?_)
  refine Tv rfl rfl ziC rfl rfl rfl (zfB _ ((hmA.chg0 hd).chg0 c29) ht) ?_
  rintro v33 w33 ⟨rfl, rfl⟩
  refine ⟨.inl (hd.trans c29), ?_⟩
  refine Ts rfl rfl (fun wz hz => zh ze3 rfl ((k3.chg0 hz).cell' rfl)) rfl ?_
  refine Tv rfl rfl ziC rfl rfl rfl (zfB _ ((hmA'.chg0 hd).chg0 c29) ht') ?_
  rintro v35 w35 ⟨rfl, rfl⟩
  refine ⟨.inl (hd.trans c29), ?_⟩
  refine Tg rfl rfl (fun _ => vt (zS rfl rfl) (by simp; omega)) rfl ?_
  refine Tp (fun _ => zT rfl rfl) rfl ?_
  refine D4 0 3 4 37 rfl (zd rfl (Sr ?_))
  refine zE (gn rfl) (zu sz4 rfl rfl rfl rfl ((k4.chg0 hd).chg0 c29) (by simp) (by simp [Value.oneCell']) ?_)
  intro wA nA cA kA
  refine E1 4 rfl (zi ?_)
  repeat first | refine tr ?_ | refine br ?_
  refine zpf rfl ag4 rfl (kA.cell' rfl) ?_
  have hne : rows ≠ rows' := fun e => hl (by rw [e])
  refine ⟨by simp [hne], ?_⟩
  exact ((hcA.trans hd).trans c29).own cA (by intro y hy; simp at hy; have := c3.size; omega)
 refine zJ (fun wz => zk [] w4 wz) mix (by kernel_rfl) hd ?_
 refine Tm rfl ?_
 refine Tp (fun _ => zF rfl) rfl ?_
 refine Td zd0 rfl ?_
 refine Tr (fun wz hz => zg zaW zaX rfl rfl (hmA.chg0 hz).scells) rfl ?_
 refine Tr (fun wz hz => zh ze3 rfl ((k3.chg0 hz).cell' rfl)) rfl ?_
 refine Tp (fun _ => zF rfl) rfl ?_
 refine Td zd0 rfl ?_
 refine Tr (fun wz hz => zg zaW zaX rfl rfl (hmA'.chg0 hz).scells) rfl ?_
 refine Tc ztC rfl rfl rfl (zmd c k u c' k' u' s s' _ ((hmA.chg0 hd).sch) ((hmA'.chg0 hd).sch) (zbI ht.ok.right) (zbI ht'.ok.right)) ?_
 rintro v29 w29 ⟨e29, c29⟩
 rw [decide_eq_false hse] at e29
 subst e29
 refine ⟨.inl (hd.trans c29), ?_⟩
 refine Tp (fun _ => zO rfl) rfl ?_
 refine Tm rfl (Tz rfl rfl (Tz rfl rfl (Tz rfl rfl (Tz rfl rfl (Tz rfl rfl ?_)))))
 refine Tp (fun _ => zL rfl rfl) rfl ?_
 refine D4 0 3 4 37 rfl (zd rfl (Sr ?_))
 refine zE (gn rfl) (zu sz4 rfl rfl rfl rfl ((k4.chg0 hd).chg0 c29) (by simp) (by simp [Value.oneCell']) ?_)
 intro wA nA cA kA
 refine E1 4 rfl (zi ?_)
 repeat first | refine tr ?_ | refine br ?_
 refine zpf rfl ag4 rfl (kA.cell' rfl) ?_
 refine ⟨by simp [hse], ?_⟩
 exact ((hcA.trans hd).trans c29).own cA (by intro y hy; simp at hy; have := c3.size; omega)
theorem zop (b : Bool) (w : World) : z9 TP 102 #[.bool b] w fun r w' => ∃ i : Int, r = Ii i ∧ i ≠ 0 ∧ w' = w := by
 refine A1 Tryz.func102 rfl rfl ?_
 refine Sr (Oa rfl (E1 0 rfl (ze (Sr (Om rfl (E1 3 rfl ?_))))))
 cases b with
 | true =>
  refine zd rfl (Sr (Oa rfl (E1 2 rfl (zi ?_))))
  repeat first | refine tr ?_ | refine br ?_
  refine zD rfl rfl ?_
  exact ⟨_, rfl, by decide, rfl⟩
 | false =>
  refine zb rfl (zm (Sr (Oa rfl (E1 2 rfl (zi ?_)))))
  refine zD rfl rfl ?_
  exact ⟨_, rfl, by decide, rfl⟩
theorem zrP (x y : zQ) (w : World) : z9 TP 101 #[x.v, y.v] w fun r w' => ∃ i : Int, r = Ii i ∧ (i = 0 ↔ x = y) ∧ zk [] w w' := by
 obtain ⟨xk, xi, xu, xb⟩ := x
 obtain ⟨yk, yi, yu, yb⟩ := y
 refine A2 Tryz.func101 rfl rfl ?_
 refine Sr ?_
 refine Ob rfl rfl ?_
 intro b2 w2 e2 n2 c2 k2
 refine Ob rfl rfl ?_
 intro b3 w3 e3 n3 c3 k3
 refine Oa rfl (E2 2 3 rfl ?_)
 have k2 := k2.chg0 c3
 have hc := c2.trans c3
 refine ze (zq (ze ?_))
 by_cases h1 : xk = yk
 ·refine za (Od zaw rfl ?_)
  refine Ol zcm rfl (k2.cell' rfl) ?_
  refine Od zaw rfl ?_
  refine Ol zcm rfl (k3.cell' rfl) ?_
  refine Og (vf (zS rfl rfl) (by simp [h1])) rfl ?_
  refine Oa rfl (E3 2 3 5 rfl (zb rfl (ze ?_)))
  by_cases h2 : xi = yi
  ·refine za (Od yY rfl ?_)
   refine Ol ag2 rfl (k2.cell' rfl) ?_
   refine Od yY rfl ?_
   refine Ol ag2 rfl (k3.cell' rfl) ?_
   refine Og (vf (zS rfl rfl) (by simp [h2])) rfl ?_
   refine Oa rfl (E3 2 3 17 rfl (zb rfl (ze ?_)))
   by_cases h3 : xu = yu
   ·refine za (Od zaZ rfl ?_)
    refine Ol zcZ rfl (k2.cell' rfl) ?_
    refine Od zaZ rfl ?_
    refine Ol zcZ rfl (k3.cell' rfl) ?_
    refine Og (vf (zS rfl rfl) (by simp [h3])) rfl ?_
    refine Oa rfl (E3 2 3 29 rfl (zb rfl (ze ?_)))
    by_cases h4 : xb = yb
    ·refine za (Od zaR rfl ?_)
     refine Ol ag9 rfl (k2.cell' rfl) ?_
     refine Od zaR rfl ?_
     refine Ol ag9 rfl (k3.cell' rfl) ?_
     refine Og (vf (zcH rfl rfl) (by simp [h4])) rfl ?_
     refine Oa rfl (E3 2 3 41 rfl (zb rfl (ye (zl (Sr (Oa rfl (E1 4 rfl (zi ?_))))))))
     refine zD rfl rfl ?_
     exact ⟨0, rfl, by simp [h1, h2, h3, h4], hc⟩
    refine za (Od zaR rfl ?_)
    refine Ol ag9 rfl (k2.cell' rfl) ?_
    refine Od zaR rfl ?_
    refine Ol ag9 rfl (k3.cell' rfl) ?_
    refine Og (vt (zcH rfl rfl) (by simp [h4])) rfl ?_
    refine Oa rfl (E3 2 3 41 rfl (zd rfl (Sr (Od zaR rfl ?_))))
    refine Ol ag9 rfl (k2.cell' rfl) ?_
    refine Od zaR rfl ?_
    refine Ol ag9 rfl (k3.cell' rfl) ?_
    refine Og (zgA rfl rfl) rfl ?_
    refine Oc zj7 rfl rfl rfl (zop _ _) ?_
    rintro v52 w52 ⟨i, rfl, hi, rfl⟩
    refine Oa rfl (E1 4 rfl (zi ?_))
    repeat first | refine tr ?_ | refine br ?_
    refine zD rfl rfl ?_
    exact ⟨i, rfl, by simp [h4, hi], hc⟩
   refine za (Od zaZ rfl ?_)
   refine Ol zcZ rfl (k2.cell' rfl) ?_
   refine Od zaZ rfl ?_
   refine Ol zcZ rfl (k3.cell' rfl) ?_
   refine Og (vt (zS rfl rfl) (by simp; omega)) rfl ?_
   refine Oa rfl (E3 2 3 29 rfl (zd rfl (Sr (Od zaZ rfl ?_))))
   refine Ol zcZ rfl (k2.cell' rfl) ?_
   refine Od zaZ rfl ?_
   refine Ol zcZ rfl (k3.cell' rfl) ?_
   refine Og (zC rfl rfl) rfl ?_
   refine Oc zj7 rfl rfl rfl (zop _ _) ?_
   rintro v40 w40 ⟨i, rfl, hi, rfl⟩
   refine Oa rfl (E1 4 rfl (zi ?_))
   repeat first | refine tr ?_ | refine br ?_
   refine zD rfl rfl ?_
   exact ⟨i, rfl, by simp [h3, hi], hc⟩
  refine za (Od yY rfl ?_)
  refine Ol ag2 rfl (k2.cell' rfl) ?_
  refine Od yY rfl ?_
  refine Ol ag2 rfl (k3.cell' rfl) ?_
  refine Og (vt (zS rfl rfl) (by simp [h2])) rfl ?_
  refine Oa rfl (E3 2 3 17 rfl (zd rfl (Sr (Od yY rfl ?_))))
  refine Ol ag2 rfl (k2.cell' rfl) ?_
  refine Od yY rfl ?_
  refine Ol ag2 rfl (k3.cell' rfl) ?_
  refine Og (zC rfl rfl) rfl ?_
  refine Oc zj7 rfl rfl rfl (zop _ _) ?_
  rintro v28 w28 ⟨i, rfl, hi, rfl⟩
  refine Oa rfl (E1 4 rfl (zi ?_))
  repeat first | refine tr ?_ | refine br ?_
  refine zD rfl rfl ?_
  exact ⟨i, rfl, by simp [h2, hi], hc⟩
 refine za (Od zaw rfl ?_)
 refine Ol zcm rfl (k2.cell' rfl) ?_
 refine Od zaw rfl ?_
 refine Ol zcm rfl (k3.cell' rfl) ?_
 refine Og (vt (zS rfl rfl) (by simp [h1])) rfl ?_
 refine Oa rfl (E3 2 3 5 rfl (zd rfl (Sr (Od zaw rfl ?_))))
 refine Ol zcm rfl (k2.cell' rfl) ?_
 refine Od zaw rfl ?_
 refine Ol zcm rfl (k3.cell' rfl) ?_
 refine Og (zC rfl rfl) rfl ?_
 refine Oc zj7 rfl rfl rfl (zop _ _) ?_
 rintro v16 w16 ⟨i, rfl, hi, rfl⟩
 refine Oa rfl (E1 4 rfl (zi ?_))
 repeat first | refine tr ?_ | refine br ?_
 refine zD rfl rfl ?_
 exact ⟨i, rfl, by simp [h1, hi], hc⟩
theorem zjk {α : Type} {l m : List α} {j : Nat} (h : l.take j = m.take j) (hl : l.length ≤ j ∨ m.length ≤ j) (he : l.length = m.length) : l = m := by
 rw [List.take_of_length_le (by omega), List.take_of_length_le (by omega)] at h
 exact h
theorem zqu (v u : Value) (l m : List zQ) (w : World) (hv : zK w v l) (hu : zK w u m) (hl : l.length ≤ 1048576) : z9 TP 69 #[v, u] w fun r w' => ∃ i : Int, r = Ii i ∧ (i = 0 ↔ l = m) ∧ zk [] w w' := by
 obtain ⟨pv, cv, rfl, _⟩ := id (z0.val hv)
 obtain ⟨pu, cu, rfl, _⟩ := id (z0.val hu)
 refine A2 Tryz.func69 rfl rfl ?_
 refine Sr (Oa rfl (E2 0 1 rfl ?_))
 refine yf (fun F wx => ∃ (j : Nat) (f16 : Value), F = [(0, .slice pv l.length cv), (1, .slice pu m.length cu), (5, Ii j), (16, f16)] ∧ l.take j = m.take j ∧ (l.length ≤ j ∨ m.length ≤ j) ∧ zk [] w wx) ?_ ?_
 ·refine Sr (Oa rfl (E3 0 1 5 rfl (zq ?_)))
  refine zW [0, 1, 5] (fun k F wx => ∃ j : Nat, k = l.length - j ∧ j ≤ l.length ∧ j ≤ m.length ∧ F = [(0, .slice pv l.length cv), (1, .slice pu m.length cu), (5, Ii j)] ∧ l.take j = m.take j ∧ zk [] w wx) (m := l.length - 0) ⟨0, rfl, Nat.zero_le _, Nat.zero_le _, rfl, by simp, zk.refl _ _⟩ ?_
  rintro k F wx ⟨j, rfl, hj, hj', rfl, htk, hcx⟩
  refine ze (ze ?_)
  by_cases h1 : j < l.length
  ·by_cases h2 : j < m.length
   ·refine za (Om rfl (Om rfl (On zao rfl ?_)))
    refine Og (vt (zC rfl rfl) (decide_eq_true (by omega))) rfl ?_
    refine Om rfl (Oj rfl rfl (Oj rfl rfl ?_))
    refine Oy rfl rfl (yc zao rfl) ?_
    refine Oy rfl rfl (vt (zC rfl rfl) (decide_eq_true (by omega))) ?_
    refine Ot rfl (E4 0 1 5 16 rfl (zd rfl (zm ?_)))
    have hx : l[j]? = some l[j] := by simp [h1]
    have hy : m[j]? = some m[j] := by simp [h2]
    generalize l[j] = x at hx
    generalize m[j] = y at hy
    refine ze (zq (ze ?_))
    have hd : zk [] wx wx.drew := zk.drew [] _
    have hcl1 : ∀ {wz : World}, zk [] wx wz → ∃ b off cap, Value.slice pv l.length cv = .slice (some ⟨b, off, none⟩) l.length cap ∧ zy wz b (off + j * 4) x.cs := fun hc => z0.at zbq (z0.chg0 hv (hcx.trans hc)) hx
    have hcl2 : ∀ {wz : World}, zk [] wx wz → ∃ b off cap, Value.slice pu m.length cu = .slice (some ⟨b, off, none⟩) m.length cap ∧ zy wz b (off + j * 4) y.cs := fun hc => z0.at zbq (z0.chg0 hu (hcx.trans hc)) hy
    obtain ⟨b, off, cap, hve, -⟩ := hcl1 (zk.refl [] wx)
    obtain ⟨b', off', cap', hue, -⟩ := hcl2 (zk.refl [] wx)
    cases hve
    cases hue
    have hc1 : ∀ {wz : World}, zk [] wx wz → zy wz b (off + j * 4) x.cs := fun hc => by
     obtain ⟨_, _, _, he, h⟩ := hcl1 hc
     cases he; exact h
    have hc2 : ∀ {wz : World}, zk [] wx wz → zy wz b' (off' + j * 4) y.cs := fun hc => by
     obtain ⟨_, _, _, he, h⟩ := hcl2 hc
     cases he; exact h
    refine zJ (fun wz => zk [] wx wz) mix (by kernel_rfl) hd ?_
    refine Tm rfl (Tm rfl ?_)
    refine Tp (fun _ => zf zao y6 rfl rfl _ rfl h1) rfl ?_
    refine Tr (fun wz hz => zg zbp y6 rfl rfl (hc1 hz)) rfl ?_
    refine Tm rfl (Tm rfl ?_)
    refine Tp (fun _ => zf zao y6 rfl rfl _ rfl h2) rfl ?_
    refine Tr (fun wz hz => zg zbp y6 rfl rfl (hc2 hz)) rfl ?_
    refine Tc zxr rfl rfl rfl (zrP x y _) ?_
    rintro v27 w27 ⟨i, rfl, hi, c27⟩
    refine ⟨.inl (hd.trans c27), ?_⟩
    refine Ta rfl (D4 0 1 5 6 rfl (ze ?_))
    by_cases hxy : x = y
    ·have hi0 := hi.2 hxy
     subst hi0
     refine za (Om rfl ?_)
     refine Og (vf (zS rfl rfl) (zcl (by omega))) rfl ?_
     refine E5 0 1 5 6 29 rfl (zb rfl (ye (zl (za (Om rfl ?_)))))
     refine Og (zI rfl rfl (by omega)) rfl ?_
     refine Oa rfl (N3 0 1 5 rfl ?_)
     refine ⟨l.length - (j + 1), by omega, j + 1, rfl, by omega, by omega, rfl, ?_, (hcx.trans hd).trans c27⟩
     rw [yj hx, yj hy, htk, hxy]
    have hi0 : i ≠ 0 := fun h => hxy (hi.1 h)
    refine za (Om rfl ?_)
    refine Og (vt (zS rfl rfl) (by simp [hi0])) rfl ?_
    refine E5 0 1 5 6 29 rfl (zd rfl (Sr (Om rfl (Oa rfl (E1 4 rfl (zi ?_))))))
    repeat first | refine tr ?_ | refine br ?_
    refine zD rfl rfl ?_
    refine ⟨i, rfl, ⟨fun h => absurd h hi0, fun h => ?_⟩, (hcx.trans hd).trans c27⟩
    rw [h, hy] at hx
    cases hx
    exact absurd rfl hxy
   refine za (Om rfl (Om rfl (On zao rfl ?_)))
   refine Og (vt (zC rfl rfl) (decide_eq_true (by omega))) rfl ?_
   refine Om rfl (Oj rfl rfl (Oj rfl rfl ?_))
   refine Oy rfl rfl (yc zao rfl) ?_
   refine Oy rfl rfl (vf (zC rfl rfl) (decide_eq_false (by omega))) ?_
   refine Ot rfl (E4 0 1 5 16 rfl (zb rfl ?_))
   refine zM ?_
   repeat first | refine te ?_ | refine bo rfl ?_
   refine zt _ ?_
   exact ⟨j, _, rfl, htk, .inr (by omega), hcx⟩
  refine za (Om rfl (Om rfl (On zao rfl ?_)))
  refine Og (vf (zC rfl rfl) (decide_eq_false (by omega))) rfl ?_
  refine Om rfl (Oz rfl rfl (Oz rfl rfl (Oz rfl rfl (Oz rfl rfl (Of rfl (E4 0 1 5 16 rfl (zb rfl ?_)))))))
  refine zM ?_
  repeat first | refine te ?_ | refine bo rfl ?_
  refine zt _ ?_
  exact ⟨j, _, rfl, htk, .inl (by omega), hcx⟩
 rintro F wx ⟨j, f16, rfl, htk, hend, hcx⟩
 refine ze (ze ?_)
 by_cases he : l.length = m.length
 ·refine za (Om rfl (On zao rfl (Om rfl (On zao rfl ?_))))
  refine Og (vt (zw rfl rfl) (by simp [he])) rfl ?_
  refine E3 0 1 35 rfl (zd rfl (Sr (Oa rfl (E1 4 rfl (zi ?_)))))
  repeat first | refine tr ?_ | refine br ?_
  refine zD rfl rfl ?_
  exact ⟨0, rfl, by simp [zjk htk hend he], hcx⟩
 refine za (Om rfl (On zao rfl (Om rfl (On zao rfl ?_))))
 refine Og (vf (zw rfl rfl) (by simp; omega)) rfl ?_
 refine E3 0 1 35 rfl (zb rfl (zm (Sr (Om rfl (On zao rfl (Om rfl (On zao rfl (Og (zC rfl rfl) rfl ?_))))))))
 refine Oc zj7 rfl rfl rfl (zop _ _) ?_
 rintro v41 w41 ⟨i, rfl, hi, rfl⟩
 refine Oa rfl (E1 4 rfl (zi ?_))
 refine zD rfl rfl ?_
 exact ⟨i, rfl, ⟨fun h => absurd h hi, fun h => absurd (by rw [h]) he⟩, hcx⟩
theorem zdo (v u : Value) (l m : List zQ) (w : World) (hv : zK w v l) (hu : zK w u m) (hl : l.length ≤ 1048576) : z9 TP 29 #[v, u] w fun r w' => r = .bool (decide (l = m)) ∧ zk [] w w' := by
 refine A2 Tryz.func29 rfl rfl ?_
 refine Sr (Oa rfl (E2 0 1 rfl (Sr (Om rfl (Om rfl ?_)))))
 refine Oc zxI rfl rfl rfl (zqu v u l m w hv hu hl) ?_
 rintro v7 w7 ⟨i, rfl, hi, c7⟩
 refine Og (zw rfl rfl) rfl (Oa rfl (E1 4 rfl (zi ?_)))
 refine zD rfl rfl ?_
 refine ⟨?_, c7⟩
 congr 1
 rw [decide_eq_decide]
 exact hi
theorem zeo (v u : Value) (l m : LV) (w : World) (hv : zcO w v l) (hu : zcO w u m) (hl : ∀ r ∈ l, r.length ≤ 1048576) (hn : l.length ≤ 1048576) : z9 TP 42 #[v, u] w fun r w' => r = .bool (decide (l = m)) ∧ zk [] w w' := by
 obtain ⟨pv, cv, rfl, _⟩ := id (zaI.val hv)
 obtain ⟨pu, cu, rfl, _⟩ := id (zaI.val hu)
 refine A2 Tryz.func42 rfl rfl ?_
 refine Sr (Oa rfl (E2 0 1 rfl (ze (ze ?_))))
 by_cases he : l.length = m.length
 ·refine za (Om rfl (On zah rfl (Om rfl (On zah rfl ?_))))
  refine Og (vf (zS rfl rfl) (by simp [he])) rfl ?_
  refine E3 0 1 10 rfl (zb rfl (zm (ze (Sr (Oa rfl (E3 0 1 5 rfl (zq ?_)))))))
  refine zW [0, 1, 5] (fun k F wx => ∃ j : Nat, k = l.length - j ∧ j ≤ l.length ∧ F = [(0, .slice pv l.length cv), (1, .slice pu m.length cu), (5, Ii j)] ∧ l.take j = m.take j ∧ zk [] w wx) (m := l.length - 0) ⟨0, rfl, Nat.zero_le _, rfl, by simp, zk.refl _ _⟩ ?_
  rintro k F wx ⟨j, rfl, hj, rfl, htk, hcx⟩
  refine ze (Sr (Om rfl (Om rfl (On zah rfl (Og (zC rfl rfl) rfl (E4 0 1 5 14 rfl ?_))))))
  refine zR rfl (fun hT => ?_) (fun hF => ?_)
  ·refine zm ?_
   have h1 : j < l.length := by have := of_decide_eq_true hT; omega
   have hx : l[j]? = some l[j] := by simp [h1]
   have hy : m[j]? = some (m[j]'(by omega)) := by simp
   generalize l[j] = x at hx
   generalize m[j]'(by omega) = y at hy
   have hxl := hl x (List.mem_of_getElem? hx)
   refine ze (zq (ze ?_))
   have hd : zk [] wx wx.drew := zk.drew [] _
   obtain ⟨b, off, cap, ux, hve, hc1, hux⟩ := zaI.at (hv.chg0 hcx) hx
   obtain ⟨b', off', cap', uy, hue, hc2, huy⟩ := zaI.at (hu.chg0 hcx) hy
   cases hve
   cases hue
   have g1 : ∀ {wz : World}, zk [] wx wz → wz.cell? ⟨b, off + j * 1, none⟩ = some ux := fun hc => zk.cell hc hc1
   have g2 : ∀ {wz : World}, zk [] wx wz → wz.cell? ⟨b', off' + j * 1, none⟩ = some uy := fun hc => zk.cell hc hc2
   refine zJ (fun wz => zk [] wx wz) mix (by kernel_rfl) hd ?_
   refine Tm rfl (Tm rfl ?_)
   refine Tp (fun _ => zf zah zcr rfl rfl _ rfl h1) rfl ?_
   refine Tr (fun wz hz => zh za7 rfl (g1 hz)) rfl ?_
   refine Tm rfl (Tm rfl ?_)
   refine Tp (fun _ => zf zah zcr rfl rfl _ rfl (show j < m.length by omega)) rfl ?_
   refine Tr (fun wz hz => zh za7 rfl (g2 hz)) rfl ?_
   refine Tc zh1 rfl rfl rfl (zdo ux uy x y _ (z0.chg0 hux hd) (z0.chg0 huy hd) hxl) ?_
   rintro v25 w25 ⟨rfl, c25⟩
   refine ⟨.inl (hd.trans c25), ?_⟩
   refine Tp (fun _ => zO rfl) rfl ?_
   refine D4 0 1 5 26 rfl ?_
   by_cases hxy : x = y
   ·rw [decide_eq_true hxy]
    refine zb rfl (ye (zl (za (Om rfl ?_))))
    refine Og (zI rfl rfl (by omega)) rfl ?_
    refine Oa rfl (N3 0 1 5 rfl ?_)
    refine ⟨l.length - (j + 1), by omega, j + 1, rfl, by omega, rfl, ?_, (hcx.trans hd).trans c25⟩
    rw [yj hx, yj hy, htk, hxy]
   rw [decide_eq_false hxy]
   refine zd rfl (Sr (Oa rfl (E1 4 rfl (zi ?_))))
   repeat first | refine tr ?_ | refine br ?_
   refine zD rfl rfl ?_
   refine ⟨?_, (hcx.trans hd).trans c25⟩
   rw [decide_eq_false fun h => ?_]
   rw [h, hy] at hx
   cases hx
   exact hxy rfl
  refine zM ?_
  repeat first | refine te ?_ | refine bo rfl ?_
  refine zt _ ?_
  have h1 : l.length ≤ j := by have := of_decide_eq_false hF; omega
  refine Sr (Oa rfl (E1 4 rfl (zi ?_)))
  refine zD rfl rfl ?_
  rw [decide_eq_true (zjk htk (.inl h1) he)]
  exact ⟨rfl, hcx⟩
 refine za (Om rfl (On zah rfl (Om rfl (On zah rfl ?_))))
 refine Og (vt (zS rfl rfl) (by simp; omega)) rfl ?_
 refine E3 0 1 10 rfl (zd rfl (Sr (Oa rfl (E1 4 rfl (zi ?_)))))
 repeat first | refine tr ?_ | refine br ?_
 refine zD rfl rfl ?_
 rw [decide_eq_false fun h => he (by rw [h])]
 exact ⟨rfl, zk.refl _ _⟩
section
variable {w : World} {t : Nat} {own : List Nat} {s : yo} {rows : LV}
theorem zuy (h : yA w t own s rows) (hE : EOk w) {v : Value} {row : List zQ} (hl : zK w v row) (hg : ∀ x ∈ row, x.Rng) (hn : row.length ≤ 1048576) :
 z9 TP 20 #[Pt t, v] w fun r w' => r = .tuple #[.string (if yV s row = 0 then zV s row else e0), Ii (yV s row)] ∧ zk [] w w' := by
 obtain ⟨pm, c, k, u, sv, xs, main, subs, rfl, hm, ht⟩ := h
 exact zwU v row w hE hm ht hl hg hn
theorem zrf (h : yA w t own s rows) (n : Int) {v : Value} {vals : List zQ} (hl : zK w v vals) (hg : ∀ x ∈ vals, x.Rng) :
 z9 TP 31 #[Pt t, Ii n, v] w fun r w' => ∃ o, r = .tuple #[o, .bool (zbv s rows n vals).isSome] ∧ zK w' o ((zbv s rows n vals).getD []) ∧ (∀ b ∈ zp o, w.heap.size ≤ b) ∧ zk [] w w' := by
 obtain ⟨pm, c, k, u, sv, xs, main, subs, rfl, hm, ht⟩ := h
 exact zoC n v vals w hm ht hl hg
theorem ztB (h : yA w t own s rows) :
 z9 TP 15 #[Pt t] w fun r w' => r = Ii rows.length ∧ w' = w := by
 obtain ⟨pm, c, k, u, sv, xs, main, subs, rfl, hm, ht⟩ := h
 exact zfB w hm ht
end
theorem zK.tab {w w' : World} {t : Nat} {own : List Nat} {s : yo} {rows : LV} (h : yA w t own s rows) {v : Value} {l : List zQ} (hv : zK w v l) (hc : zk own w w') : zK w' v l :=
 zK.own hv h.pages hc
theorem zU.tab {w w' : World} {t : Nat} {own : List Nat} {s : yo} {rows : LV} (h : yA w t own s rows) {b : Nat} {e : TypeId} {c : List Value} (hb : zU w b e c) (hne : Nat.beq e 147 = false) (hc : zk own w w') : zU w' b e c := by
 refine hb.chg hc fun hm => ?_
 obtain ⟨c', hp⟩ := h.pg b hm
 have := Option.some.inj ((show w.heap[b]? = _ from hb).symm.trans hp)
 cases this
 simp at hne
theorem zjA {s : yo} {rows : LV} {row : List zQ} (h : zb4 s rows row ≠ 0) : zcG s rows row = rows := by unfold zcG; rw [if_neg h]
theorem zrq {s : yo} {rows : LV} {row : List zQ} {k : ByteArray} (h : zcq s rows k row ≠ 0) : zet s rows k row = rows := by unfold zet; rw [if_neg h]
def vI (n : Int) : zQ := ⟨1, n, 0, e0⟩
theorem zjI {n : Int} (h : -9223372036854775808 ≤ n ∧ n ≤ 9223372036854775807) : (vI n).Rng := ⟨⟨by simp [vI], by simp [vI]⟩, h, by simp [vI]⟩
def sW : yo := ⟨[⟨⟨#[97]⟩, 1, 1, false⟩, ⟨⟨#[98]⟩, 1, 1, true⟩], [0], [[1]]⟩
def wk1 : LV := zcG sW [] [vI 1, vI 5]
def wk2 : LV := zcG sW wk1 [vI 2, zQ.null]
def wk3 : LV := zcG sW wk2 [vI 3, zQ.null]
def wk4 : LV := zfF sW wk3 [vI 2, vI 5]
theorem zx4 : yP sW = true := by decide +kernel
theorem zxJ : zb4 sW [] [vI 1, vI 5] = 0 := by decide +kernel
theorem zxZ : zb4 sW wk1 [vI 2, zQ.null] = 0 := by decide +kernel
theorem zyi : zb4 sW wk2 [vI 3, zQ.null] = 0 := by decide +kernel
theorem zwd : zb4 sW wk3 [vI 1, vI 6] = 220 := by decide +kernel
theorem ztu : zb4 sW wk3 [vI 4, vI 5] = 220 := by decide +kernel
theorem zxD : zdv sW wk3 [vI 2, vI 5] = 0 := by decide +kernel
theorem zx3 : zdY sW wk3 [vI 2, vI 5] = [[vI 1, vI 5], [vI 2, zQ.null]] := by decide +kernel
theorem zxL : zbv sW wk4 1 [vI 5] = some [vI 2, vI 5] := by decide +kernel
theorem zxH : yV sW [vI 3, zQ.null] = 0 := by decide +kernel
theorem zuT : zcq sW wk4 (zV sW [vI 3, zQ.null]) [vI 2, vI 7] = 220 := by decide +kernel
theorem zxi : wk4.length = 2 := by decide +kernel
theorem zc3 (n : Int) (w : World) : z9 TP 11 #[Ii n] w fun r w' => r = Ii n ∧ w' = w := by
 refine A1 Tryz.func11 rfl rfl ?_
 refine Sr (Oa rfl (E1 0 rfl (Sr (Om rfl (Oa rfl (E1 2 rfl (zi ?_)))))))
 refine zD rfl rfl ?_
 exact ⟨rfl, rfl⟩
theorem zix (n : Int) (w : World) : z9 TP 13 #[Ii n] w fun r w' => r = (vI n).v ∧ zk [] w w' := by
 refine A1 Tryz.func13 rfl rfl ?_
 refine Sr ?_
 refine zE (gn rfl) (zH zd6 rfl rfl ?_)
 intro b2 w2 e2 n2 c2 k2
 refine E2 0 2 rfl (Sr (Om rfl ?_))
 refine Og (z6 zoe zd6 rfl (vs := [_, _]) rfl (css := [_, _]) ⟨rfl, rfl, trivial⟩ rfl rfl (cs := [_, _, _, _]) rfl) rfl ?_
 refine zE (gn rfl) (zu y6 rfl rfl rfl rfl k2 (by simp) (zQ.one (vI n)) ?_)
 intro wA nA cA kA
 refine E1 2 rfl (zi ?_)
 refine zlh rfl zbp y6 rfl rfl (zy.of_blk0 kA) ?_
 exact ⟨rfl, c2.own cA (by intro y hy; simp at hy; omega)⟩
theorem zmy {w : World} {b : Nat} {l : List zQ} {n : Nat} (hb : zU w b 40 (fl zQ.cs l)) (hn : l.length ≤ maxLen) (he : l.length = n) : zK w (.slice (some ⟨b, 0, none⟩) n n) l := by
 subst he
 exact z0.of_blk zbq zQ.one hb hn
theorem zeI (n : Int) (x : zQ) (w : World) : z9 TP 41 #[Ii n, x.v] w fun r w' => zK w' r [vI n, x] ∧ (∀ b ∈ zp r, w.heap.size ≤ b) ∧ zk [] w w' := by
 refine A2 Tryz.func41 rfl rfl ?_
 refine Sr ?_
 refine Ob rfl rfl ?_
 intro b3 w3 e3 n3 c3 k3
 refine Oa rfl (E2 0 3 rfl ?_)
 have k3 : zU w3 b3 40 x.cs := k3
 refine ze ?_
 have hd : zk [] w3 w3.drew := zk.drew [] _
 refine zJ (fun wz => zk [] w3 wz) mix (by kernel_rfl) hd ?_
 refine Tm rfl ?_
 refine Tc zir rfl rfl rfl (zix n _) ?_
 rintro v6 w6 ⟨rfl, c6⟩
 refine ⟨.inl (hd.trans c6), ?_⟩
 refine Tr (fun wz hz => zg zbp y6 rfl rfl (zy.of_blk0 (k3.chg0 hz))) rfl ?_
 refine zas rfl (gn rfl) (zB zhg rfl (vs := [_, _]) rfl (css := [_, _]) ⟨rfl, rfl, trivial⟩ rfl rfl (cs := [_, _, _, _, _, _, _, _]) rfl rfl ?_)
 intro b8 w8 e8 n8 c8 k8
 refine ⟨.inl ((hd.trans c6).trans c8), ?_⟩
 refine Ta rfl (D1 4 rfl (zi ?_))
 refine zD rfl rfl ?_
 have hs := ((c3.trans hd).trans c6).size
 refine ⟨zmy (l := [vI n, x]) k8 (by simp [maxLen]) rfl, by intro b hb; simp [zp] at hb; omega, ((c3.trans hd).trans c6).trans c8⟩
structure WkS (w0 w : World) (t : Nat) (own : List Nat) (b3 : Nat) (rows : LV) : Prop where
 e : EOk w
 tab : yA w t own sW rows
 nul : zU w b3 40 zQ.null.cs
 chg : zk [] w0 w
 fr : ∀ p ∈ own, w0.heap.size ≤ p
section
variable {w0 w w' : World} {t : Nat} {own : List Nat} {b3 : Nat} {rows rows' : LV}
theorem WkS.chg0 (h : WkS w0 w t own b3 rows) (hc : zk [] w w') : WkS w0 w' t own b3 rows := ⟨h.e.chg0 hc, h.tab.chg0 hc, h.nul.chg0 hc, h.chg.trans hc, h.fr⟩
theorem WkS.step (h : WkS w0 w t own b3 rows) (hc : zk own w w') (ht : yA w' t own sW rows') : WkS w0 w' t own b3 rows' :=
 ⟨h.e.tab h.tab hc, ht, h.nul.tab h.tab rfl hc, h.chg.own hc h.fr, h.fr⟩
theorem WkS.ins (h : WkS w0 w t own b3 rows) {v : Value} {row : List zQ} (hl : zK w v row) (hg : ∀ x ∈ row, x.Rng) (hn : row.length ≤ 1048576) {e : Int} (he : zb4 sW rows row = e) (hr : zcG sW rows row = rows') :
 z9 TP 12 #[Pt t, v] w fun r w' => r = Ii e ∧ WkS w0 w' t own b3 rows' := by
 refine (zkK t own sW rows v row w h.e h.tab hl hg hn).mono fun r w' ⟨h1, h2, h3⟩ => ⟨by rw [h1, he], h.step h3 (hr ▸ h2)⟩
theorem WkS.ign (h : WkS w0 w t own b3 rows) {v : Value} {row : List zQ} (hl : zK w v row) (hg : ∀ x ∈ row, x.Rng) (hn : row.length ≤ 1048576) (he : zb4 sW rows row = 220) :
 z9 TP 38 #[Pt t, v] w fun r w' => r = .tuple #[.bool false, Ii 0] ∧ WkS w0 w' t own b3 rows := by
 refine (zlq t own sW rows v row w h.e h.tab hl hg hn).mono fun r w' ⟨h1, h2, h3⟩ => ⟨?_, h.step h3 ?_⟩
 ·rw [h1, zkT, zj4, he]; rfl
 rwa [zjA (by rw [he]; decide)] at h2
theorem WkS.rep (h : WkS w0 w t own b3 rows) {v : Value} {row : List zQ} (hl : zK w v row) (hg : ∀ x ∈ row, x.Rng) (hn : row.length ≤ 1048576) {g : LV} (he : zdv sW rows row = 0) (hG : zdY sW rows row = g) (hr : zfF sW rows row = rows') :
 z9 TP 14 #[Pt t, v] w fun r w' => ∃ o, r = .tuple #[o, Ii 0] ∧ zcO w' o g ∧ WkS w0 w' t own b3 rows' := by
 refine (ziP t own sW rows v row w h.e h.tab hl hg hn).mono fun r w' ⟨o, h1, h2, _, h3, h4⟩ => ⟨o, by rw [h1, he], hG ▸ h2, h.step h4 (hr ▸ h3)⟩
theorem WkS.find (h : WkS w0 w t own b3 rows) (n : Int) {v : Value} {vals r : List zQ} (hl : zK w v vals) (hg : ∀ x ∈ vals, x.Rng) (he : zbv sW rows n vals = some r) :
 z9 TP 31 #[Pt t, Ii n, v] w fun x w' => ∃ o, x = .tuple #[o, .bool true] ∧ zK w' o r ∧ WkS w0 w' t own b3 rows ∧ zk [] w w' := by
 refine (zrf h.tab n hl hg).mono fun x w' ⟨o, h1, h2, _, h3⟩ => ⟨o, ?_, ?_, h.chg0 h3, h3⟩
 ·rw [h1, he]; rfl
 rw [he] at h2; exact h2
theorem WkS.key (h : WkS w0 w t own b3 rows) {v : Value} {row : List zQ} (hl : zK w v row) (hg : ∀ x ∈ row, x.Rng) (hn : row.length ≤ 1048576) (he : yV sW row = 0) :
 z9 TP 20 #[Pt t, v] w fun r w' => r = .tuple #[.string (zV sW row), Ii 0] ∧ WkS w0 w' t own b3 rows ∧ zk [] w w' := by
 refine (zuy h.tab h.e hl hg hn).mono fun r w' ⟨h1, h2⟩ => ⟨?_, h.chg0 h2, h2⟩
 rw [h1, he, if_pos rfl]
theorem WkS.upd (h : WkS w0 w t own b3 rows) {v : Value} {row : List zQ} {key : ByteArray} (hl : zK w v row) (hg : ∀ x ∈ row, x.Rng) (hn : row.length ≤ 1048576) (he : zcq sW rows key row = 220) :
 z9 TP 39 #[Pt t, .string key, v] w fun r w' => ∃ o, r = .tuple #[o, Ii 220] ∧ WkS w0 w' t own b3 rows ∧ zk own w w' := by
 refine (zk8 t own sW rows v row key w h.e h.tab hl hg hn).mono fun r w' ⟨o, h1, _, _, h2, h3⟩ => ⟨o, by rw [h1, he], h.step h3 ?_, h3⟩
 rwa [zrq (by rw [he]; decide)] at h2
end
theorem zjz : zQ.null.Rng := ⟨by decide, by decide, by decide⟩
def wkG : LV := [ [vI 1, vI 5], [vI 2, zQ.null] ]
theorem zdi {a : Int} (ha : 0 ≤ a ∧ a ≤ 100) {x : zQ} (hx : x.Rng) : ∀ y ∈ [vI a, x], y.Rng := by
 intro y hy
 simp at hy
 rcases hy with rfl | rfl
 ·exact zjI ⟨by omega, by omega⟩
 exact hx
theorem zuF {w : World} {b17 b18 b19 b20 : Nat} (h17 : zU w b17 25 (fl Col.cs sW.cols)) (h18 : zU w b18 3 [Ii 0]) (h19 : zU w b19 3 [Ii 1]) (h20 : zU w b20 27 [.slice (some ⟨b19, 0, none⟩) 1 1]) :
 yO w (.slice (some ⟨b17, 0, none⟩) 2 2) (.slice (some ⟨b18, 0, none⟩) 1 1) (.slice (some ⟨b20, 0, none⟩) 1 1) sW :=
 ⟨z0.of_blk (l := sW.cols) zap Col.one h17 (by decide), z0.of_blk (l := sW.key) zev zjO h18 (by decide),
  ⟨[.slice (some ⟨b19, 0, none⟩) 1 1], (zv.of_blk (n := 1) h20 rfl (by simp [maxLen]) (by intro y hy; simp at hy; subst hy; rfl)).toOu, z0.of_blk (l := [1]) zev zjO h19 (by decide), trivial⟩⟩
theorem zmF (w : World) (hE : EOk w) : z9 TP 9 #[] w fun r w' => r = .bool true ∧ zk [] w w' := by
 refine z9.of_W (args := []) Tryz.func9 rfl rfl rfl rfl ?_
 refine Sr (Oa rfl (za1 [] (F' := []) rfl (ze ?_)))
 have g5 : (vI 5).Rng := zjI (by decide)
 have g6 : (vI 6).Rng := zjI (by decide)
 have g7 : (vI 7).Rng := zjI (by decide)
 refine za ?_
 refine Og (z6 zwR znw rfl (vs := [_, _, _]) rfl (css := [_, _, _]) ⟨rfl, rfl, rfl, trivial⟩ rfl rfl (cs := [_, _, _, _]) rfl) rfl ?_
 refine Og (z6 zwR znw rfl (vs := [_, _, _, _]) rfl (css := [_, _, _, _]) ⟨rfl, rfl, rfl, rfl, trivial⟩ rfl rfl (cs := [_, _, _, _]) rfl) rfl ?_
 refine zE (gn rfl) (zB zx0 rfl (vs := [_, _]) rfl (css := [_, _]) ⟨rfl, rfl, trivial⟩ rfl rfl (cs := [_, _, _, _, _, _, _, _]) rfl rfl ?_)
 intro b17 w17 e17 n17 c17 k17
 refine zE (gn rfl) (zB zqV rfl (vs := [_]) rfl (css := [_]) ⟨rfl, trivial⟩ rfl rfl (cs := [_]) rfl rfl ?_)
 intro b18 w18 e18 n18 c18 k18
 refine zE (gn rfl) (zB zqV rfl (vs := [_]) rfl (css := [_]) ⟨rfl, trivial⟩ rfl rfl (cs := [_]) rfl rfl ?_)
 intro b19 w19 e19 n19 c19 k19
 refine zE (gn rfl) (zB znv rfl (vs := [_]) rfl (css := [_]) ⟨rfl, trivial⟩ rfl rfl (cs := [_]) rfl rfl ?_)
 intro b20 w20 e20 n20 c20 k20
 refine Og (z6 zyn zxF rfl (vs := [_, _, _]) rfl (css := [_, _, _]) ⟨rfl, rfl, rfl, trivial⟩ rfl rfl (cs := [_, _, _]) rfl) rfl ?_
 refine Oc zu9 rfl rfl rfl (zu0 _ _ _ sW _ (zuF (((k17.chg0 c18).chg0 c19).chg0 c20) ((k18.chg0 c19).chg0 c20) (k19.chg0 c20) k20) zx4) ?_
 rintro v22 w22 ⟨t, own, rfl, hT22, tF22, oF22, c22⟩
 refine Om rfl (Oe rfl rfl (Oe rfl rfl (Oa rfl (Oa rfl (E2 1 2 rfl ?_)))))
 have hc22 : zk [] w w22 := (((c17.trans c18).trans c19).trans c20).trans c22
 refine Sr ?_
 refine zE (gn rfl) (zH zd6 rfl rfl ?_)
 intro b3 w3 e3 n3 c3 k3
 refine E3 1 2 3 rfl ?_
 have k3 : zU w3 b3 40 zQ.null.cs := k3
 have hS3 : WkS w w3 t own b3 [] := ⟨(hE.chg0 hc22).chg0 c3, hT22.chg0 c3, k3, hc22.trans c3, fun p hp => by have := oF22 p hp; have := (((c17.trans c18).trans c19).trans c20).size; omega⟩
 refine ze (Sr (Om rfl ?_))
 refine Oc ze0 rfl rfl rfl (zc3 _ _) ?_
 rintro v26 w26 ⟨rfl, rfl⟩
 refine Og (vf (zS rfl rfl) (zcl (by omega))) rfl ?_
 refine Om rfl (Oj rfl rfl ?_)
 refine Ow rfl rfl zir rfl rfl rfl (zix _ _) ?_
 rintro v30 w30 ⟨rfl, c30⟩
 refine Ow rfl rfl zhi rfl rfl rfl (zeI _ (vI 5) _) ?_
 rintro v31 w31 ⟨i31, f31, c31⟩
 refine Ow rfl rfl znI rfl rfl rfl (((hS3.chg0 c30).chg0 c31).ins i31 (zdi (by decide) g5) (by decide) zxJ (rows' := wk1) rfl) ?_
 rintro v32 w32 ⟨rfl, hS32⟩
 refine Ow rfl rfl ze0 rfl rfl rfl (zc3 _ _) ?_
 rintro v33 w33 ⟨rfl, rfl⟩
 refine Oy rfl rfl (vf (zS rfl rfl) (zcl (by omega))) ?_
 refine Of rfl (Om rfl (Oj rfl rfl ?_))
 refine Oy rfl rfl (zg zbp y6 rfl rfl (zy.of_blk0 hS32.nul)) ?_
 refine Ow rfl rfl zhi rfl rfl rfl (zeI _ zQ.null _) ?_
 rintro v39 w39 ⟨i39, f39, c39⟩
 refine Ow rfl rfl znI rfl rfl rfl ((hS32.chg0 c39).ins i39 (zdi (by decide) zjz) (by decide) zxZ (rows' := wk2) rfl) ?_
 rintro v40 w40 ⟨rfl, hS40⟩
 refine Ow rfl rfl ze0 rfl rfl rfl (zc3 _ _) ?_
 rintro v41 w41 ⟨rfl, rfl⟩
 refine Oy rfl rfl (vf (zS rfl rfl) (zcl (by omega))) ?_
 refine Of rfl (Om rfl (Oj rfl rfl ?_))
 refine Oy rfl rfl (zg zbp y6 rfl rfl (zy.of_blk0 hS40.nul)) ?_
 refine Ow rfl rfl zhi rfl rfl rfl (zeI _ zQ.null _) ?_
 rintro v47 w47 ⟨i47, f47, c47⟩
 refine Ow rfl rfl znI rfl rfl rfl ((hS40.chg0 c47).ins i47 (zdi (by decide) zjz) (by decide) zyi (rows' := wk3) rfl) ?_
 rintro v48 w48 ⟨rfl, hS48⟩
 refine Ow rfl rfl ze0 rfl rfl rfl (zc3 _ _) ?_
 rintro v49 w49 ⟨rfl, rfl⟩
 refine Oy rfl rfl (vf (zS rfl rfl) (zcl (by omega))) ?_
 refine Of rfl (Om rfl (Oj rfl rfl ?_))
 refine Ow rfl rfl zir rfl rfl rfl (zix _ _) ?_
 rintro v54 w54 ⟨rfl, c54⟩
 refine Ow rfl rfl zhi rfl rfl rfl (zeI _ (vI 6) _) ?_
 rintro v55 w55 ⟨i55, f55, c55⟩
 refine Ow rfl rfl znI rfl rfl rfl (((hS48.chg0 c54).chg0 c55).ins i55 (zdi (by decide) g6) (by decide) zwd (rows' := wk3) (zjA (by rw [zwd]; decide))) ?_
 rintro v56 w56 ⟨rfl, hS56⟩
 refine Ow rfl rfl ze0 rfl rfl rfl (zc3 _ _) ?_
 rintro v57 w57 ⟨rfl, rfl⟩
 refine Oy rfl rfl (vf (zS rfl rfl) (zcl (by omega))) ?_
 refine Of rfl (Om rfl (Oj rfl rfl ?_))
 refine Ow rfl rfl zir rfl rfl rfl (zix _ _) ?_
 rintro v62 w62 ⟨rfl, c62⟩
 refine Ow rfl rfl zhi rfl rfl rfl (zeI _ (vI 5) _) ?_
 rintro v63 w63 ⟨i63, f63, c63⟩
 refine Ow rfl rfl znI rfl rfl rfl (((hS56.chg0 c62).chg0 c63).ins i63 (zdi (by decide) g5) (by decide) ztu (rows' := wk3) (zjA (by rw [ztu]; decide))) ?_
 rintro v64 w64 ⟨rfl, hS64⟩
 refine Ow rfl rfl ze0 rfl rfl rfl (zc3 _ _) ?_
 rintro v65 w65 ⟨rfl, rfl⟩
 refine Oy rfl rfl (vf (zS rfl rfl) (zcl (by omega))) ?_
 refine Of rfl (E3 1 3 67 rfl (zb rfl (zm (Sr (Om rfl ?_)))))
 refine Oc zir rfl rfl rfl (zix _ _) ?_
 rintro v70 w70 ⟨rfl, c70⟩
 refine Oc zhi rfl rfl rfl (zeI _ (vI 5) _) ?_
 rintro v71 w71 ⟨i71, f71, c71⟩
 refine Oc zwv rfl rfl rfl (((hS64.chg0 c70).chg0 c71).ign i71 (zdi (by decide) g5) (by decide) ztu) ?_
 rintro v72 w72 ⟨rfl, hS72⟩
 refine Om rfl (Oe rfl rfl (Oe rfl rfl (Oa rfl (Oa rfl (E4 1 3 4 5 rfl (Sr (Om rfl ?_)))))))
 refine Oc zir rfl rfl rfl (zix _ _) ?_
 rintro v77 w77 ⟨rfl, c77⟩
 refine Oc zhi rfl rfl rfl (zeI _ (vI 5) _) ?_
 rintro v78 w78 ⟨i78, f78, c78⟩
 refine Oc zwB rfl rfl rfl (((hS72.chg0 c77).chg0 c78).rep i78 (zdi (by decide) g5) (by decide) zxD zx3 (rows' := wk4) rfl) ?_
 rintro v79 w79 ⟨o79, rfl, i79, hS79⟩
 refine Om rfl (Oe rfl rfl (Oe rfl rfl (Oa rfl (Oa rfl (E6 1 3 4 5 6 7 rfl (Sr (Om rfl ?_)))))))
 refine Oc zir rfl rfl rfl (zix _ _) ?_
 rintro v84 w84 ⟨rfl, c84⟩
 refine zE (gn rfl) (zB zhg rfl (vs := [_]) rfl (css := [_]) ⟨rfl, trivial⟩ rfl rfl (cs := [_, _, _, _]) rfl rfl ?_)
 intro b85 w85 e85 n85 c85 k85
 refine Oc zuV rfl rfl rfl (((hS79.chg0 c84).chg0 c85).find 1 (zmy (l := [vI 5]) k85 (by decide) rfl) (by intro y hy; simp at hy; subst hy; exact g5) zxL) ?_
 rintro v86 w86 ⟨o86, rfl, i86, hS86, c86⟩
 refine Om rfl (Oe rfl rfl (Oe rfl rfl (Oa rfl (Oa rfl (E8 1 3 4 5 6 7 8 9 rfl ?_)))))
 have i79 : zcO w86 o79 _ := ((i79.chg0 c84).chg0 c85).chg0 c86
 refine Sr (Om rfl ?_)
 refine Og (zg zbp y6 rfl rfl (zy.of_blk0 hS86.nul)) rfl ?_
 refine Oc zhi rfl rfl rfl (zeI _ zQ.null _) ?_
 rintro v92 w92 ⟨i92, f92, c92⟩
 refine Oc zxN rfl rfl rfl ((hS86.chg0 c92).key i92 (zdi (by decide) zjz) (by decide) zxH) ?_
 rintro v93 w93 ⟨rfl, hS93, c93⟩
 refine Om rfl (Oe rfl rfl (Oe rfl rfl (Oa rfl (Oa rfl (za1 [1, 3, 4, 5, 6, 7, 8, 9, 10, 11] (F' := [(1, _), (3, _), (4, _), (5, _), (6, _), (7, _), (8, _), (9, _), (10, _), (11, _)]) rfl (Sr (Om rfl (Om rfl ?_))))))))
 refine Oc zir rfl rfl rfl (zix _ _) ?_
 rintro v99 w99 ⟨rfl, c99⟩
 refine Oc zhi rfl rfl rfl (zeI _ (vI 7) _) ?_
 rintro v100 w100 ⟨i100, f100, c100⟩
 refine Oc zu6 rfl rfl rfl (((hS93.chg0 c99).chg0 c100).upd i100 (zdi (by decide) g7) (by decide) zuT) ?_
 rintro v101 w101 ⟨o101, rfl, hS101, c101⟩
 refine Om rfl (Oe rfl rfl (Oe rfl rfl (Oa rfl (Oa rfl (za1 [1, 3, 4, 5, 6, 7, 8, 9, 11, 13] (F' := [(1, _), (3, _), (4, _), (5, _), (6, _), (7, _), (8, _), (9, _), (11, _), (13, _)]) rfl ?_)))))
 have hT100 := ((hS93.chg0 c99).chg0 c100).tab
 have i79 : zcO w101 o79 _ := zcO.tab hT100 ((((i79.chg0 c92).chg0 c93).chg0 c99).chg0 c100) c101
 have i86 : zK w101 o86 _ := zK.tab hT100 ((((z0.chg0 i86 c92).chg0 c93).chg0 c99).chg0 c100) c101
 refine ze ?_
 have hd : zk [] w101 w101.drew := zk.drew [] _
 refine zJ (fun wz => zk [] w101 wz) mix (zjq (by kernel_rfl)) hd ?_
 refine Tm rfl ?_
 refine Tp (fun _ => zO rfl) rfl ?_
 refine Tm rfl (Tq rfl rfl rfl ?_)
 refine Tv rfl rfl ze0 rfl rfl rfl (zc3 _ _) ?_
 rintro v108 w108 ⟨rfl, rfl⟩
 refine ⟨.inl hd, ?_⟩
 refine Tq rfl rfl rfl ?_
 refine Tv rfl rfl ze0 rfl rfl rfl (zc3 _ _) ?_
 rintro v110 w110 ⟨rfl, rfl⟩
 refine ⟨.inl hd, ?_⟩
 refine Tg rfl rfl (fun _ => zI rfl rfl (by omega)) rfl ?_
 refine Tq rfl rfl rfl ?_
 refine Tv rfl rfl ze0 rfl rfl rfl (zc3 _ _) ?_
 rintro v113 w113 ⟨rfl, rfl⟩
 refine ⟨.inl hd, ?_⟩
 refine Tg rfl rfl (fun _ => zI rfl rfl (by omega)) rfl ?_
 refine Tg rfl rfl (fun _ => vt (zw rfl rfl) (decide_eq_true (by omega))) rfl ?_
 refine Tp (fun _ => zL rfl rfl) rfl ?_
 refine Tm rfl (Tq rfl rfl rfl ?_)
 refine Tv rfl rfl zir rfl rfl rfl (zix _ _) ?_
 rintro v119 w119 ⟨rfl, c119⟩
 refine ⟨.inl (hd.trans c119), ?_⟩
 refine Tv rfl rfl zhi rfl rfl rfl (zeI _ (vI 5) _) ?_
 rintro v120 w120 ⟨i120, f120, c120⟩
 obtain ⟨p120, q120, rfl, -⟩ := id (z0.val i120)
 refine ⟨.inl ((hd.trans c119).trans c120), ?_⟩
 refine Ts rfl rfl (fun wz hz => zg zbp y6 rfl rfl (zy.of_blk0 (hS101.nul.chg0 hz))) rfl ?_
 refine Tv rfl rfl zhi rfl rfl rfl (zeI _ zQ.null _) ?_
 rintro v122 w122 ⟨i122, f122, c122⟩
 obtain ⟨p122, q122, rfl, -⟩ := id (z0.val i122)
 refine ⟨.inl (((hd.trans c119).trans c120).trans c122), ?_⟩
 refine zas rfl (gy rfl rfl rfl) (zB zhh rfl (vs := [_, _]) rfl (css := [_, _]) ⟨rfl, rfl, trivial⟩ rfl rfl (cs := [_, _]) rfl rfl ?_)
 intro b123 w123 e123 n123 c123 k123
 refine ⟨.inl ((((hd.trans c119).trans c120).trans c122).trans c123), ?_⟩
 refine Tv rfl rfl zrI rfl rfl rfl (zeo _ _ wkG wkG _ (((((i79.chg0 hd).chg0 c119).chg0 c120).chg0 c122).chg0 c123) ⟨[_, _], (zv.of_blk (n := 2) k123 rfl (by simp [maxLen]) (by intro y hy; simp at hy; rcases hy with rfl | rfl; exact z0.one1 i120; exact z0.one1 i122)).toOu, z0.chg0 (z0.chg0 i120 c122) c123, z0.chg0 i122 c123, trivial⟩ (by decide) (by decide)) ?_
 rintro v124 w124 ⟨h124, c124⟩
 rw [decide_eq_true rfl] at h124
 subst h124
 refine ⟨.inl (((((hd.trans c119).trans c120).trans c122).trans c123).trans c124), ?_⟩
 refine Tp (fun _ => zL rfl rfl) rfl ?_
 refine Tm rfl (Tq rfl rfl rfl ?_)
 refine Tp (fun _ => zL rfl rfl) rfl ?_
 refine Tm rfl (Tq rfl rfl rfl ?_)
 refine Tv rfl rfl zir rfl rfl rfl (zix _ _) ?_
 rintro v131 w131 ⟨rfl, c131⟩
 refine ⟨.inl ((((((hd.trans c119).trans c120).trans c122).trans c123).trans c124).trans c131), ?_⟩
 refine Tv rfl rfl zhi rfl rfl rfl (zeI _ (vI 5) _) ?_
 rintro v132 w132 ⟨i132, f132, c132⟩
 refine ⟨.inl (((((((hd.trans c119).trans c120).trans c122).trans c123).trans c124).trans c131).trans c132), ?_⟩
 refine Tv rfl rfl zh1 rfl rfl rfl (zdo _ _ [vI 2, vI 5] [vI 2, vI 5] _ (z0.chg0 i86 (((((((hd.trans c119).trans c120).trans c122).trans c123).trans c124).trans c131).trans c132)) i132 (by decide)) ?_
 rintro v133 w133 ⟨h133, c133⟩
 rw [decide_eq_true rfl] at h133
 subst h133
 refine ⟨.inl ((((((((hd.trans c119).trans c120).trans c122).trans c123).trans c124).trans c131).trans c132).trans c133), ?_⟩
 refine Tp (fun _ => zL rfl rfl) rfl ?_
 refine Tm rfl (Tq rfl rfl rfl ?_)
 refine Tv rfl rfl ze0 rfl rfl rfl (zc3 _ _) ?_
 rintro v137 w137 ⟨rfl, rfl⟩
 refine ⟨.inl ((((((((hd.trans c119).trans c120).trans c122).trans c123).trans c124).trans c131).trans c132).trans c133), ?_⟩
 refine Tg rfl rfl (fun _ => vt (zw rfl rfl) (decide_eq_true (by omega))) rfl ?_
 refine Tp (fun _ => zL rfl rfl) rfl ?_
 refine Tm rfl (Tq rfl rfl rfl ?_)
 refine Tv rfl rfl ziC rfl rfl rfl (ztB (hS101.tab.chg0 ((((((((hd.trans c119).trans c120).trans c122).trans c123).trans c124).trans c131).trans c132).trans c133))) ?_
 rintro v142 w142 ⟨h142, rfl⟩
 rw [zxi] at h142
 subst h142
 refine ⟨.inl ((((((((hd.trans c119).trans c120).trans c122).trans c123).trans c124).trans c131).trans c132).trans c133), ?_⟩
 refine Tg rfl rfl (fun _ => vt (zw rfl rfl) (decide_eq_true (by omega))) rfl ?_
 refine Tp (fun _ => zL rfl rfl) rfl ?_
 refine Ta rfl (D1 0 rfl (zi ?_))
 refine zD rfl rfl ?_
 exact ⟨rfl, hS101.chg.trans ((((((((hd.trans c119).trans c120).trans c122).trans c123).trans c124).trans c131).trans c132).trans c133)⟩
structure zbX where
 what : Int
 at' : Int
 row : List zQ
 key : ByteArray
structure zbW where
 what : Int
 at' : Int
 row : Value
 key : ByteArray
def zbW.cs (a : zbW) : List Value := [Ii a.what, Ii a.at', a.row, .string a.key]
theorem zmw (a : zbW) : a.cs.length = 4 := rfl
def zbg (w : World) (x : zbW) (a : zbX) : Prop := x.what = a.what ∧ x.at' = a.at' ∧ x.key = a.key ∧ zK w x.row a.row ∧ (∀ y ∈ a.row, y.Rng) ∧ (-9223372036854775808 ≤ a.at' ∧ a.at' ≤ 9223372036854775807)
theorem zbg.chg0 {w w' : World} {x : zbW} {a : zbX} (h : zbg w x a) (hc : zk [] w w') : zbg w' x a := ⟨h.1, h.2.1, h.2.2.1, z0.chg0 h.2.2.2.1 hc, h.2.2.2.2⟩
theorem zbW.one {w : World} {x : zbW} {a : zbX} (h : zbg w x a) : ∀ u ∈ x.cs, u.oneCell' = true := by
 intro u hu
 simp [zbW.cs] at hu
 rcases hu with rfl | rfl | rfl | rfl
 ·rfl
 ·rfl
 ·exact z0.one1 h.2.2.2.1
 rfl
def zeD (w : World) : List zbW → List zbX → Prop
 | [], [] => True
 | x :: xs, a :: al => zbg w x a ∧ zeD w xs al
 | _, _ => False
theorem zeD.chg0 {w w' : World} (hc : zk [] w w') : ∀ {xs : List zbW} {al : List zbX}, zeD w xs al → zeD w' xs al
 | [], [], _ => trivial
 | _ :: _, _ :: _, h => ⟨h.1.chg0 hc, zeD.chg0 hc h.2⟩
theorem zeD.length {w : World} : ∀ {xs : List zbW} {al : List zbX}, zeD w xs al → xs.length = al.length
 | [], [], _ => rfl
 | _ :: _, _ :: _, h => by simp [zeD.length h.2]
theorem zeD.at {w : World} : ∀ {xs : List zbW} {al : List zbX} {i : Nat} {a : zbX}, zeD w xs al → al[i]? = some a → ∃ x, xs[i]? = some x ∧ zbg w x a
 | [], [], _, _, _, h => by simp at h
 | x :: _, _ :: _, 0, _, h, hi => by simp at hi; subst hi; exact ⟨x, rfl, h.1⟩
 | _ :: _, _ :: _, i + 1, _, h, hi => by simpa using h.2.at (by simpa using hi)
def zde (w : World) (v : Value) (al : List zbX) : Prop := ∃ xs, z0 w 50 4 zbW.cs v xs ∧ zeD w xs al
theorem zde.chg0 {w w' : World} {v : Value} {al : List zbX} (h : zde w v al) (hc : zk [] w w') : zde w' v al := let ⟨xs, h1, h2⟩ := h; ⟨xs, z0.chg0 h1 hc, h2.chg0 hc⟩
theorem zde.at {w : World} {v : Value} {al : List zbX} (h : zde w v al) {i : Nat} {a : zbX} (hi : al[i]? = some a) : ∃ x b off cap, v = .slice (some ⟨b, off, none⟩) al.length cap ∧ zy w b (off + i * 4) x.cs ∧ zbg w x a := by
 obtain ⟨xs, h1, h2⟩ := h
 obtain ⟨x, hx, hxa⟩ := h2.at hi
 obtain ⟨b, off, cap, hv, hc⟩ := z0.at zmw h1 hx
 exact ⟨x, b, off, cap, by rw [hv, h2.length], hc, hxa⟩
theorem zde.val {w : World} {v : Value} {al : List zbX} (h : zde w v al) : ∃ p c, v = .slice p al.length c ∧ al.length ≤ c := by
 obtain ⟨xs, h1, h2⟩ := h
 have := z0.val h1
 rwa [h2.length] at this
def zdW (a : zbX) : Prop := a.row.length ≤ 10 ∧ a.key.size ≤ 300 ∧ ∀ x ∈ a.row, x.b.size ≤ 300
end Go.Wk
