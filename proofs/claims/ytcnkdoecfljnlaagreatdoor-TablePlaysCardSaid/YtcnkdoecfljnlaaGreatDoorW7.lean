/- joined texts -/
import Derived.Test.YtcnkdoecfljnlaaGreatDoorW6
set_option linter.all false
namespace Go.Wk
open Go.Proofs
set_option maxRecDepth 10000
theorem zhq {l : List Int} {n : Nat} (h : ¬ (1 ≤ l.length ∧ l.length ≤ 4)) : zc7 l n = false := by simp only [zc7, decide_eq_false h, Bool.false_and]
theorem zfG {l : List Int} {n j : Nat} {x : Int} (hx : l[j]? = some x) (h : ¬ (0 ≤ x ∧ x < n) ∨ x ∈ l.take j) : zc7 l n = false := by
 cases hs : zc7 l n with
 | false => rfl
 | true =>
  obtain ⟨_, h2, h3⟩ := zar hs
  rcases h with h | h
  ·exact absurd (h2 x (List.mem_of_getElem? hx)) h
  exfalso
  obtain ⟨i, hi⟩ := List.mem_iff_getElem?.1 h
  have hil := (List.getElem?_eq_some_iff.1 hi).1
  rw [List.length_take] at hil
  rw [List.getElem?_take_of_lt (by omega)] at hi
  obtain ⟨hi', ei⟩ := List.getElem?_eq_some_iff.1 hi
  obtain ⟨hj', ej⟩ := List.getElem?_eq_some_iff.1 hx
  exact List.pairwise_iff_getElem.1 h3 i j hi' hj' (by omega) (ei.trans ej.symm)
theorem zlr {l : List Int} {x : Int} (h : l.Nodup) (hx : x ∉ l) : (l ++ [x]).Nodup := by
 unfold List.Nodup at *
 rw [List.pairwise_append]
 exact ⟨h, List.pairwise_singleton _ _, fun a ha b hb => by simp at hb; subst hb; rintro rfl; exact hx ha⟩
theorem zoM (c k u v : Value) (n : Nat) (l : List Int) (w : World) (hc : ∃ p d, c = .slice p n d) (ho : ∀ x ∈ [c, k, u], x.oneCell' = true) (hv : yE w v l) (hn : l.length ≤ 1048576) (hn' : n ≤ 1048576) :
 z6 TP 111 #[.agg #[c, k, u], v] w fun r w' => r = .bool (zc7 l n) ∧ zj [] w w' := by
 obtain ⟨pc, dc, rfl⟩ := hc
 obtain ⟨pv, cv, rfl, hle⟩ := z9.val hv
 refine A2 Tryz.func111 rfl rfl ?_
 refine Sr ?_
 refine Ob rfl rfl ?_
 intro b2 w2 e2 n2 c2 k2
 refine Oa rfl (E2 1 2 rfl ?_)
 have hv2 := z9.chg0 hv c2
 refine ze (ze ?_)
 by_cases h1 : 1 ≤ l.length
 ·by_cases h4 : l.length ≤ 4
  ·refine za (Om rfl (On zal rfl ?_))
   refine Og (vf (zB rfl rfl) (decide_eq_false (by omega))) rfl ?_
   refine Om rfl (Oj rfl rfl ?_)
   refine Oy rfl rfl (yc zal rfl) ?_
   refine Oy rfl rfl (vf (ye rfl rfl) (decide_eq_false (by omega))) ?_
   refine Of rfl (E3 1 2 14 rfl (zb rfl (zm (ze (Sr (Om rfl (On zal rfl (Om rfl (E5 1 2 15 16 17 rfl (zq ?_))))))))))
   refine zZ [1, 2, 15, 16, 17] (fun m F wx => wx = w2 ∧ ∃ j : Nat, m = l.length - j ∧ j ≤ l.length ∧ F = [(1, .slice pv l.length cv), (2, Pt b2), (15, .slice pv l.length cv), (16, Ii l.length), (17, Ii j)] ∧ (∀ x ∈ l.take j, 0 ≤ x ∧ x < n) ∧ (l.take j).Nodup) (m := l.length - 0) ⟨rfl, 0, rfl, Nat.zero_le _, rfl, by simp, by simp⟩ ?_
   rintro m F wx ⟨hwx, j, rfl, hj, rfl, hall, hnd⟩
   subst wx
   refine Sr (Og (zB rfl rfl) rfl (E6 1 2 15 16 17 18 rfl (ze ?_)))
   refine zR rfl (fun hT => ?_) (fun hF => ?_)
   ·refine zm ?_
    have hlt : j < l.length := by have := of_decide_eq_true hT; omega
    have hx : l[j]? = some l[j] := by simp [hlt]
    generalize l[j] = x at hx
    obtain ⟨b, off, cap, hve, hcell⟩ := yE.cell hv2 hx
    cases hve
    refine ze (zq (Sr (Om rfl ?_)))
    refine Og (zf zal sz3 rfl rfl _ rfl hlt) rfl ?_
    refine Ol ag3 rfl hcell ?_
    refine Oa rfl (Oa rfl (E7 1 2 5 6 15 16 17 rfl (ze ?_)))
    by_cases h0 : x < 0
    ·refine za (Om rfl ?_)
     refine Og (vt (zB rfl rfl) (decide_eq_true (by omega))) rfl ?_
     refine Om rfl (Oz rfl rfl (Oz rfl rfl (Oz rfl rfl (Oz rfl rfl (Oz rfl rfl (Oz rfl rfl (Ot rfl (Om rfl (Oz rfl rfl (Oz rfl rfl (Oz rfl rfl (Oz rfl rfl (Oz rfl rfl ?_)))))))))))))
     refine Ot rfl (E6 1 2 15 16 17 38 rfl (zd rfl (Sr (Oa rfl (E1 4 rfl (zi ?_))))))
     repeat first | refine tr ?_ | refine br ?_
     refine zC rfl rfl ?_
     exact ⟨by rw [zfG hx (.inl (by omega))], c2⟩
    by_cases hxn : x < n
    ·refine za (Om rfl ?_)
     refine Og (vf (zB rfl rfl) (decide_eq_false (by omega))) rfl ?_
     refine Om rfl (Oj rfl rfl ?_)
     refine Oy rfl rfl (zl zao rfl) ?_
     refine Oy rfl rfl (zl yv rfl) ?_
     refine Oy rfl rfl (zh zaB rfl (k2.cell' rfl)) ?_
     refine Oy rfl rfl (yc zat rfl) ?_
     refine Oy rfl rfl (vf (yn rfl rfl) (decide_eq_false (by omega))) ?_
     refine Of rfl (Om rfl (Oj rfl rfl (Oj rfl rfl ?_)))
     refine Oy rfl rfl (zbq zal sz3 rfl rfl _ rfl (by omega)) ?_
     refine Oj rfl rfl ?_
     refine Ow rfl rfl zuK rfl rfl rfl (zlg _ (l.take j) x w2 (z9.take zgd hv2 hj (by omega) (Nat.le_refl _)) (by rw [List.length_take]; omega)) ?_
     rintro v37 w37 ⟨rfl, rfl⟩
     refine Of rfl (E6 1 2 15 16 17 38 rfl ?_)
     refine zR rfl (fun hM => ?_) (fun hM => ?_)
     ·have hm : x ∈ l.take j := of_decide_eq_true hM
      refine Sr (Oa rfl (E1 4 rfl (zi ?_)))
      repeat first | refine tr ?_ | refine br ?_
      refine zC rfl rfl ?_
      exact ⟨by rw [zfG hx (.inr hm)], c2⟩
     have hm : x ∉ l.take j := of_decide_eq_false hM
     refine yf (zk (za ?_))
     refine Og (zH rfl rfl (by omega)) rfl ?_
     refine Om rfl (N5 1 2 15 16 17 rfl ?_)
     refine ⟨l.length - (j + 1), by omega, rfl, j + 1, rfl, by omega, rfl, ?_, ?_⟩
     ·intro y hy
      rw [List.take_add_one, hx] at hy
      rcases List.mem_append.1 hy with hy | hy
      ·exact hall y hy
      simp at hy; subst hy; omega
     rw [List.take_add_one, hx]
     exact zlr hnd hm
    refine za (Om rfl ?_)
    refine Og (vf (zB rfl rfl) (decide_eq_false (by omega))) rfl ?_
    refine Om rfl (Oj rfl rfl ?_)
    refine Oy rfl rfl (zl zao rfl) ?_
    refine Oy rfl rfl (zl yv rfl) ?_
    refine Oy rfl rfl (zh zaB rfl (k2.cell' rfl)) ?_
    refine Oy rfl rfl (yc zat rfl) ?_
    refine Oy rfl rfl (vt (yn rfl rfl) (decide_eq_true (by omega))) ?_
    refine Of rfl (Om rfl (Oz rfl rfl (Oz rfl rfl (Oz rfl rfl (Oz rfl rfl (Oz rfl rfl (Ot rfl (E6 1 2 15 16 17 38 rfl (zd rfl (Sr (Oa rfl (E1 4 rfl ?_))))))))))))
    refine zi ?_
    repeat first | refine tr ?_ | refine br ?_
    refine zC rfl rfl ?_
    exact ⟨by rw [zfG hx (.inl (by omega))], c2⟩
   refine zL ?_
   repeat first | refine te ?_ | refine bo rfl ?_
   refine zt _ ?_
   have he : l.length ≤ j := by have := of_decide_eq_false hF; omega
   refine Sr (Oa rfl (E1 4 rfl (zi ?_)))
   repeat first | refine tr ?_ | refine br ?_
   refine zC rfl rfl ?_
   rw [List.take_of_length_le he] at hall hnd
   refine ⟨?_, c2⟩
   congr 1
   simp only [zc7, Bool.and_eq_true, decide_eq_true_eq, List.all_eq_true, eq_comm (a := true)]
   exact ⟨⟨⟨h1, h4⟩, hall⟩, hnd⟩
  refine za (Om rfl (On zal rfl ?_))
  refine Og (vf (zB rfl rfl) (decide_eq_false (by omega))) rfl ?_
  refine Om rfl (Oj rfl rfl ?_)
  refine Oy rfl rfl (yc zal rfl) ?_
  refine Oy rfl rfl (vt (ye rfl rfl) (decide_eq_true (by omega))) ?_
  refine Of rfl (E3 1 2 14 rfl (zd rfl (Sr (Oa rfl (E1 4 rfl (zi ?_))))))
  repeat first | refine tr ?_ | refine br ?_
  refine zC rfl rfl ?_
  exact ⟨by rw [zhq (by omega)], c2⟩
 refine za (Om rfl (On zal rfl ?_))
 refine Og (vt (zB rfl rfl) (decide_eq_true (by omega))) rfl ?_
 refine Om rfl (Oz rfl rfl (Oz rfl rfl (Oz rfl rfl (Ot rfl (E3 1 2 14 rfl (zd rfl (Sr (Oa rfl (E1 4 rfl (zi ?_))))))))))
 repeat first | refine tr ?_ | refine br ?_
 refine zC rfl rfl ?_
 exact ⟨by rw [zhq (by omega)], c2⟩
theorem zwX (o c : Col) (b : Nat) (w : World) (hb : zS w b 25 c.cs) : z6 TP 114 #[o.v, Pt b] w fun r w' => r = .bool (decide (o.n = c.n)) ∧ zj [] w w' := by
 refine A2 Tryz.func114 rfl rfl ?_
 refine Sr ?_
 refine Ob rfl rfl ?_
 intro b2 w2 e2 n2 c2 k2
 refine Oa rfl (E2 1 2 rfl (Sr (Od zbG rfl ?_)))
 refine Ol ag9 rfl (k2.cell' rfl) ?_
 refine Od zbG rfl ?_
 refine Ol ag9 rfl ((hb.chg0 c2).cell' rfl) ?_
 refine Og (zju rfl rfl) rfl ?_
 refine Oa rfl (E1 3 rfl (zi ?_))
 refine zC rfl rfl ?_
 exact ⟨rfl, c2⟩
theorem zrs (i : Int) (s : ym) (c k u : Value) (b : Nat) (w : World) (hb : zS w b 143 [c, k, u]) (hc : zji w c s.cols) (hi : 0 ≤ i ∧ i < s.cols.length) : z6 TP 115 #[Ii i, Pt b] w fun r w' => r = .bool (zd1 s i).z ∧ zj [] w w' := by
 have hlt : i.toNat < s.cols.length := by omega
 have hx : s.cols[i.toNat]? = some s.cols[i.toNat] := by simp [hlt]
 unfold zd1
 rw [hx]
 dsimp only [Option.getD_some]
 generalize s.cols[i.toNat] = x at hx
 obtain ⟨b', off, cap, rfl, hcell⟩ := z9.at zau hc hx
 refine A2 Tryz.func115 rfl rfl ?_
 refine Sr (Oa rfl (E2 0 1 rfl (ze ?_)))
 obtain ⟨i', rfl⟩ : ∃ i' : Nat, i = (i' : Int) := ⟨i.toNat, by omega⟩
 refine za (Od zao rfl (Od yv rfl ?_))
 refine Ol zaB rfl (hb.cell' rfl) ?_
 refine Om rfl ?_
 refine Og (zf zat za1 rfl rfl _ rfl (by omega)) rfl ?_
 refine Od zfD rfl ?_
 refine Ol ag4 rfl (hcell 3 _ rfl) ?_
 refine Oa rfl (E1 3 rfl (zi ?_))
 refine zC rfl rfl ?_
 exact ⟨rfl, zj.refl _ _⟩
theorem zve (v c k u : Value) (l : List Int) (n : Nat) (b : Nat) (w : World) (hb : zS w b 143 [c, k, u]) (hc : ∃ p d, c = .slice p n d) (ho : ∀ x ∈ [c, k, u], x.oneCell' = true) (hv : yE w v l) (hn : l.length ≤ 1048576) (hn' : n ≤ 1048576) :
 z6 TP 118 #[v, Pt b] w fun r w' => r = .bool (!zc7 l n) ∧ zj [] w w' := by
 refine A2 Tryz.func118 rfl rfl ?_
 refine Sr (Oa rfl (E2 0 1 rfl (Sr ?_)))
 refine Og (zg zpm zpr rfl rfl (zz.of_blk0 hb)) rfl ?_
 refine Om rfl ?_
 refine Oc zpU rfl rfl rfl (zoM c k u v n l _ hc ho hv hn hn') ?_
 rintro v6 w6 ⟨rfl, c6⟩
 refine Og (zU rfl) rfl (Oa rfl (E1 3 rfl (zi ?_)))
 refine zC rfl rfl ?_
 exact ⟨rfl, c6⟩
theorem ziE : ∀ (l : List Col), (l.map (·.n)).Nodup ↔ ∀ j x, l[j]? = some x → (l.take j).any (fun o => decide (o.n = x.n)) = false := by
 intro l
 constructor
 ·intro h j x hx
  rw [List.any_eq_false]
  intro o ho
  obtain ⟨i, hi⟩ := List.mem_iff_getElem?.1 ho
  have hil := (List.getElem?_eq_some_iff.1 hi).1
  rw [List.length_take] at hil
  rw [List.getElem?_take_of_lt (by omega)] at hi
  obtain ⟨hi', ei⟩ := List.getElem?_eq_some_iff.1 hi
  obtain ⟨hj', ej⟩ := List.getElem?_eq_some_iff.1 hx
  have := List.pairwise_iff_getElem.1 h i j (by simpa using hi') (by simpa using hj') (by omega)
  simp only [List.getElem_map, ei, ej] at this
  simpa using this
 intro h
 unfold List.Nodup
 rw [List.pairwise_iff_getElem]
 intro i j hi hj hij
 rw [List.length_map] at hi hj
 simp only [List.getElem_map]
 have := List.any_eq_false.1 (h j l[j] (by simp [hj])) l[i] (List.mem_iff_getElem?.2 ⟨i, by rw [List.getElem?_take_of_lt hij]; simp [hi]⟩)
 simpa using this
theorem zk0 (s : ym) : yO s = (decide (1 ≤ s.cols.length) && decide (s.cols.length ≤ 8) && decide (s.uq.length ≤ 3) && zc7 s.key s.cols.length && (s.cols.all y5 && decide ((s.cols.map (·.n)).Nodup)) && (!(s.key.any fun i => (zd1 s i).z)) && !(s.uq.any fun l => !zc7 l s.cols.length)) := by
 rw [Bool.eq_iff_iff]
 simp only [yO, Bool.and_eq_true, decide_eq_true_eq, List.all_eq_true, Bool.not_eq_true', List.any_eq_false, Bool.not_eq_true, Bool.not_eq_false]
 constructor
 ·rintro ⟨⟨⟨⟨⟨⟨⟨h1, h2⟩, h3⟩, h4⟩, h5⟩, h6⟩, h7⟩, h8⟩
  exact ⟨⟨⟨⟨⟨⟨h1, h2⟩, h3⟩, h4⟩, h5, h6⟩, h7⟩, h8⟩
 rintro ⟨⟨⟨⟨⟨⟨h1, h2⟩, h3⟩, h4⟩, h5, h6⟩, h7⟩, h8⟩
 exact ⟨⟨⟨⟨⟨⟨⟨h1, h2⟩, h3⟩, h4⟩, h5⟩, h6⟩, h7⟩, h8⟩
structure ym.Sm (s : ym) : Prop where
 cols : s.cols.length ≤ 1048576
 key : s.key.length ≤ 1048576
 uq : s.uq.length ≤ 1048576
 each : ∀ l ∈ s.uq, l.length ≤ 1048576
set_option maxHeartbeats 1000000 in
theorem zk7 (c k u : Value) (s : ym) (w : World) (hs : yL w c k u s) (hm : s.Sm) : z6 TP 75 #[.agg #[c, k, u]] w fun r w' => r = .bool (yO s) ∧ zj [] w w' := by
 obtain ⟨m1, m2, m3, m4⟩ := hm
 have ho := hs.one
 have hcv : ∃ p d, c = .slice p s.cols.length d := by obtain ⟨p, d, h, _⟩ := z9.val hs.cols; exact ⟨p, d, h⟩
 obtain ⟨pc, dc, rfl, hdc⟩ := z9.val hs.cols
 obtain ⟨pk, dk, rfl, hdk⟩ := z9.val hs.key
 obtain ⟨pu, du, rfl, hdu⟩ := zaN.val hs.uq
 rw [zk0]
 refine A1 Tryz.func75 rfl rfl ?_
 refine Sr ?_
 refine Ob rfl rfl ?_
 intro b1 w1 e1 n1 c1 k1
 refine Oa rfl (E1 1 rfl ?_)
 have hs1 := hs.chg0 c1
 refine ze (ze ?_)
 by_cases h1 : 1 ≤ s.cols.length
 ·by_cases h8 : s.cols.length ≤ 8
  ·by_cases h3 : s.uq.length ≤ 3
   ·cases hset : zc7 s.key s.cols.length with
    | false =>
     refine za (Od zao rfl (Od yv rfl ?_))
     refine Ol zaB rfl (k1.cell' rfl) ?_
     refine On zat rfl ?_
     refine Og (vf (zB rfl rfl) (decide_eq_false (by omega))) rfl ?_
     refine Om rfl ?_
     refine Oy rfl rfl (zl zao rfl) ?_
     refine Oy rfl rfl (zl yv rfl) ?_
     refine Oy rfl rfl (zh zaB rfl (k1.cell' rfl)) ?_
     refine Oy rfl rfl (yc zat rfl) ?_
     refine Oy rfl rfl (vf (ye rfl rfl) (decide_eq_false (by omega))) ?_
     refine Of rfl (Om rfl ?_)
     refine Oy rfl rfl (zl zao rfl) ?_
     refine Oy rfl rfl (zl zaf rfl) ?_
     refine Oy rfl rfl (zh zbM rfl (k1.cell' rfl)) ?_
     refine Oy rfl rfl (yc zay rfl) ?_
     refine Oy rfl rfl (vf (ye rfl rfl) (decide_eq_false (by omega))) ?_
     refine Of rfl (Om rfl ?_)
     refine Oy rfl rfl (zg zpm zpr rfl rfl (zz.of_blk0 k1)) ?_
     refine Oy rfl rfl (zl zao rfl) ?_
     refine Oy rfl rfl (zl za7 rfl) ?_
     refine Oy rfl rfl (zh zbk rfl (k1.cell' rfl)) ?_
     refine Ow rfl rfl zpU rfl rfl rfl (zoM _ _ _ _ s.cols.length s.key _ hcv ho hs1.key m2 m1) ?_
     rintro v30 w30 ⟨h30, c30⟩
     rw [hset] at h30
     subst h30
     refine Oy rfl rfl (zU rfl) ?_
     refine Of rfl (E2 1 32 rfl (zd rfl (Sr (Oa rfl (E1 2 rfl (zi ?_))))))
     repeat first | refine tr ?_ | refine br ?_
     refine zC rfl rfl ?_
     exact ⟨by simp, c1.trans c30⟩
    | true =>
     refine za (Od zao rfl (Od yv rfl ?_))
     refine Ol zaB rfl (k1.cell' rfl) ?_
     refine On zat rfl ?_
     refine Og (vf (zB rfl rfl) (decide_eq_false (by omega))) rfl ?_
     refine Om rfl ?_
     refine Oy rfl rfl (zl zao rfl) ?_
     refine Oy rfl rfl (zl yv rfl) ?_
     refine Oy rfl rfl (zh zaB rfl (k1.cell' rfl)) ?_
     refine Oy rfl rfl (yc zat rfl) ?_
     refine Oy rfl rfl (vf (ye rfl rfl) (decide_eq_false (by omega))) ?_
     refine Of rfl (Om rfl ?_)
     refine Oy rfl rfl (zl zao rfl) ?_
     refine Oy rfl rfl (zl zaf rfl) ?_
     refine Oy rfl rfl (zh zbM rfl (k1.cell' rfl)) ?_
     refine Oy rfl rfl (yc zay rfl) ?_
     refine Oy rfl rfl (vf (ye rfl rfl) (decide_eq_false (by omega))) ?_
     refine Of rfl (Om rfl ?_)
     refine Oy rfl rfl (zg zpm zpr rfl rfl (zz.of_blk0 k1)) ?_
     refine Oy rfl rfl (zl zao rfl) ?_
     refine Oy rfl rfl (zl za7 rfl) ?_
     refine Oy rfl rfl (zh zbk rfl (k1.cell' rfl)) ?_
     refine Ow rfl rfl zpU rfl rfl rfl (zoM _ _ _ _ s.cols.length s.key _ hcv ho hs1.key m2 m1) ?_
     rintro v30 w30 ⟨h30, c30⟩
     rw [hset] at h30
     subst h30
     refine Oy rfl rfl (zU rfl) ?_
     refine Of rfl (E2 1 32 rfl (zb rfl (zm (ze (ze ?_)))))
     have hk1 := k1.chg0 c30
     have hc30 : zj [] w w30 := c1.trans c30
     refine za (Od zao rfl (Od yv rfl ?_))
     refine Ol zaB rfl (hk1.cell' rfl) ?_
     refine On zat rfl (Om rfl (E4 1 35 36 37 rfl (zq ?_)))
     refine zZ [1, 35, 36, 37] (fun m F wx => ∃ j : Nat, m = s.cols.length - j ∧ j ≤ s.cols.length ∧ F = [(1, Pt b1), (35, .slice pc s.cols.length dc), (36, Ii s.cols.length), (37, Ii j)] ∧ zj [] w30 wx ∧ (∀ x ∈ s.cols.take j, y5 x = true) ∧ (∀ i x, i < j → s.cols[i]? = some x → (s.cols.take i).any (fun o => decide (o.n = x.n)) = false)) (m := s.cols.length - 0) ⟨0, rfl, Nat.zero_le _, rfl, zj.refl _ _, by simp, by intro i x h; omega⟩ ?_
     rintro m F wx ⟨j, rfl, hj, rfl, hcx, hall, hnd⟩
     have hk1x := hk1.chg0 hcx
     have hsx := (hs.chg0 hc30).chg0 hcx
     refine Sr (Og (zB rfl rfl) rfl (E5 1 35 36 37 38 rfl (ze ?_)))
     refine zR rfl (fun hT => ?_) (fun hF => ?_)
     ·refine zm ?_
      have hlt : j < s.cols.length := by have := of_decide_eq_true hT; omega
      have hx : s.cols[j]? = some s.cols[j] := by simp [hlt]
      generalize s.cols[j] = x at hx
      obtain ⟨b, off, cap, hve, hcell⟩ := z9.at zau hsx.cols hx
      cases hve
      refine ze (zq (Sr (Om rfl ?_)))
      refine Og (zf zat za1 rfl rfl _ rfl hlt) rfl ?_
      refine Og (zg zec za1 rfl rfl hcell) rfl ?_
      refine zD (gn rfl) (zG znP rfl rfl ?_)
      intro b4 w4 e4 n4 c4 k4
      refine Oa rfl ?_
      refine zD (gn rfl) (zu za1 rfl rfl rfl rfl k4 (by simp [Col.cs]) (Col.one x) ?_)
      intro wA nA cA kA
      refine E6 1 3 4 35 36 37 rfl ?_
      have hcA : zj [] wx wA := c4.own cA (by intro y hy; simp at hy; omega)
      refine ze ?_
      cases hrc : y5 x with
      | false =>
       refine za ?_
       refine Og (zg zec za1 rfl rfl (zz.of_blk0 kA)) rfl ?_
       refine Oc zmF rfl rfl rfl (zhh x _) ?_
       rintro v43 w43 ⟨h43, c43⟩
       rw [hrc] at h43
       subst h43
       refine Og (zU rfl) rfl (Om rfl (Oz rfl rfl (Oz rfl rfl (Oz rfl rfl (Oz rfl rfl (Oz rfl rfl (Oz rfl rfl (Oz rfl rfl (Ot rfl (E5 1 35 36 37 53 rfl (zd rfl (Sr ?_))))))))))))
       refine Oa rfl (E1 2 rfl (zi ?_))
       repeat first | refine tr ?_ | refine br ?_
       refine zC rfl rfl ?_
       have : s.cols.all y5 = false := by
        cases ha : s.cols.all y5 with
        | false => rfl
        | true => have := List.all_eq_true.1 ha x (List.mem_of_getElem? hx); rw [hrc] at this; cases this
       exact ⟨by simp [this], ((hc30.trans hcx).trans hcA).trans c43⟩
      | true =>
       refine za ?_
       refine Og (zg zec za1 rfl rfl (zz.of_blk0 kA)) rfl ?_
       refine Oc zmF rfl rfl rfl (zhh x _) ?_
       rintro v43 w43 ⟨h43, c43⟩
       rw [hrc] at h43
       subst h43
       have hcx43 := (hcx.trans hcA).trans c43
       have hk43 := hk1.chg0 hcx43
       have hs43 := (hs.chg0 hc30).chg0 hcx43
       have kA43 := kA.chg0 c43
       refine Og (zU rfl) rfl (Om rfl ?_)
       refine Oy rfl rfl (zl zao rfl) ?_
       refine Oy rfl rfl (zl yv rfl) ?_
       refine Oy rfl rfl (zh zaB rfl (hk43.cell' rfl)) ?_
       refine Oj rfl rfl ?_
       refine Oy rfl rfl (zbq zat za1 rfl rfl _ rfl (by omega)) ?_
       refine Oy rfl rfl (zbg rfl rfl) ?_
       refine Ow rfl rfl zt9 rfl rfl rfl (zts zau _ (s.cols.take j) (fun o => decide (o.n = x.n)) 114 [Pt b4] _ (z9.take zau hs43.cols hj (by omega) (Nat.le_refl _)) (by rw [List.length_take]; omega) zvj (fun o _ w1 hw1 => zwX o x b4 w1 (kA43.chg0 hw1))) ?_
       rintro v52 w52 ⟨h52, c52⟩
       refine Of rfl (E5 1 35 36 37 53 rfl ?_)
       cases hany : (s.cols.take j).any (fun o => decide (o.n = x.n)) with
       | true =>
        rw [hany] at h52
        subst h52
        refine zd rfl (Sr (Oa rfl (E1 2 rfl (zi ?_))))
        repeat first | refine tr ?_ | refine br ?_
        refine zC rfl rfl ?_
        have : decide ((s.cols.map (·.n)).Nodup) = false := decide_eq_false fun h => by
         have := (ziE _).1 h j x hx
         rw [hany] at this; cases this
        exact ⟨by rw [this]; simp, (hc30.trans hcx43).trans c52⟩
       | false =>
        rw [hany] at h52
        subst h52
        refine zb rfl (yf (zk (za ?_)))
        refine Og (zH rfl rfl (by omega)) rfl ?_
        refine Om rfl (N4 1 35 36 37 rfl ?_)
        refine ⟨s.cols.length - (j + 1), by omega, j + 1, rfl, by omega, rfl, hcx43.trans c52, ?_, ?_⟩
        ·intro y hy
         rw [List.take_add_one, hx] at hy
         rcases List.mem_append.1 hy with hy | hy
         ·exact hall y hy
         simp at hy; subst hy; exact hrc
        intro i y hi hy
        rcases Nat.lt_or_ge i j with hij | hij
        ·exact hnd i y hij hy
        have : i = j := by omega
        subst this
        rw [hx] at hy
        cases hy
        exact hany
     refine zL ?_
     repeat first | refine te ?_ | refine bo rfl ?_
     refine zt _ ?_
     have he : s.cols.length ≤ j := by have := of_decide_eq_false hF; omega
     have hcx' := hc30.trans hcx
     have hall' : s.cols.all y5 = true := by
      rw [List.take_of_length_le he] at hall
      exact List.all_eq_true.2 hall
     have hnd' : decide ((s.cols.map (·.n)).Nodup) = true := decide_eq_true ((ziE _).2 fun i x hx => hnd i x (by have := (List.getElem?_eq_some_iff.1 hx).1; omega) hx)
     refine Sr ?_
     refine Og (zbg rfl rfl) rfl ?_
     refine Oa rfl (E2 1 5 rfl (ze ?_))
     have hkey := (zar hset).2.1
     cases hnull : s.key.any fun i => (zd1 s i).z with
     | true =>
      refine za (Od zao rfl (Od za7 rfl ?_))
      refine Ol zbk rfl (hk1x.cell' rfl) ?_
      refine Om rfl ?_
      refine Oc zsg rfl rfl rfl (zpc _ s.key (fun i => (zd1 s i).z) 115 [Pt b1] _ hsx.key m2 zrP (fun i hi w1 hw1 => zrs i s _ _ _ b1 w1 (hk1x.chg0 hw1) (z9.chg0 hsx.cols hw1) (hkey i hi))) ?_
      rintro v60 w60 ⟨h60, c60⟩
      rw [hnull] at h60
      subst h60
      refine Og (zU rfl) rfl (Om rfl (Oz rfl rfl (Oz rfl rfl (Oz rfl rfl (Oz rfl rfl (Oz rfl rfl (Oz rfl rfl (Of rfl (Oa rfl (E1 2 rfl (zi ?_)))))))))))
      repeat first | refine tr ?_ | refine br ?_
      refine zC rfl rfl ?_
      exact ⟨by simp, hcx'.trans c60⟩
     | false =>
      refine za (Od zao rfl (Od za7 rfl ?_))
      refine Ol zbk rfl (hk1x.cell' rfl) ?_
      refine Om rfl ?_
      refine Oc zsg rfl rfl rfl (zpc _ s.key (fun i => (zd1 s i).z) 115 [Pt b1] _ hsx.key m2 zrP (fun i hi w1 hw1 => zrs i s _ _ _ b1 w1 (hk1x.chg0 hw1) (z9.chg0 hsx.cols hw1) (hkey i hi))) ?_
      rintro v60 w60 ⟨h60, c60⟩
      rw [hnull] at h60
      subst h60
      refine Og (zU rfl) rfl (Om rfl ?_)
      refine Oy rfl rfl (zl zao rfl) ?_
      refine Oy rfl rfl (zl zaf rfl) ?_
      refine Oy rfl rfl (zh zbM rfl ((hk1x.chg0 c60).cell' rfl)) ?_
      refine Oy rfl rfl (zbg rfl rfl) ?_
      refine Ow rfl rfl zuC rfl rfl rfl (zp7 _ s.uq (fun l => !zc7 l s.cols.length) 118 [Pt b1] _ (zaN.chg0 hsx.uq c60) m3 zwx (fun l hl v w1 hw1 hv => zve v _ _ _ l s.cols.length b1 w1 ((hk1x.chg0 c60).chg0 hw1) hcv ho hv (m4 l hl) m1)) ?_
      rintro v67 w67 ⟨rfl, c67⟩
      refine Oy rfl rfl (zU rfl) ?_
      refine Ot rfl (Oa rfl (E1 2 rfl (zi ?_)))
      repeat first | refine tr ?_ | refine br ?_
      refine zC rfl rfl ?_
      exact ⟨by simp [h1, h8, h3, hall', hnd'], (hcx'.trans c60).trans c67⟩
   refine za (Od zao rfl (Od yv rfl ?_))
   refine Ol zaB rfl (k1.cell' rfl) ?_
   refine On zat rfl ?_
   refine Og (vf (zB rfl rfl) (decide_eq_false (by omega))) rfl ?_
   refine Om rfl ?_
   refine Oy rfl rfl (zl zao rfl) ?_
   refine Oy rfl rfl (zl yv rfl) ?_
   refine Oy rfl rfl (zh zaB rfl (k1.cell' rfl)) ?_
   refine Oy rfl rfl (yc zat rfl) ?_
   refine Oy rfl rfl (vf (ye rfl rfl) (decide_eq_false (by omega))) ?_
   refine Of rfl (Om rfl ?_)
   refine Oy rfl rfl (zl zao rfl) ?_
   refine Oy rfl rfl (zl zaf rfl) ?_
   refine Oy rfl rfl (zh zbM rfl (k1.cell' rfl)) ?_
   refine Oy rfl rfl (yc zay rfl) ?_
   refine Oy rfl rfl (vt (ye rfl rfl) (decide_eq_true (by omega))) ?_
   refine Of rfl (Om rfl (Oz rfl rfl (Oz rfl rfl (Oz rfl rfl (Oz rfl rfl (Oz rfl rfl (Oz rfl rfl (Ot rfl (E2 1 32 rfl (zd rfl (Sr (Oa rfl ?_))))))))))))
   refine E1 2 rfl (zi ?_)
   repeat first | refine tr ?_ | refine br ?_
   refine zC rfl rfl ?_
   exact ⟨by simp [h3], c1⟩
  refine za (Od zao rfl (Od yv rfl ?_))
  refine Ol zaB rfl (k1.cell' rfl) ?_
  refine On zat rfl ?_
  refine Og (vf (zB rfl rfl) (decide_eq_false (by omega))) rfl ?_
  refine Om rfl ?_
  refine Oy rfl rfl (zl zao rfl) ?_
  refine Oy rfl rfl (zl yv rfl) ?_
  refine Oy rfl rfl (zh zaB rfl (k1.cell' rfl)) ?_
  refine Oy rfl rfl (yc zat rfl) ?_
  refine Oy rfl rfl (vt (ye rfl rfl) (decide_eq_true (by omega))) ?_
  refine Of rfl (Om rfl (Oz rfl rfl (Oz rfl rfl (Oz rfl rfl (Oz rfl rfl (Oz rfl rfl (Ot rfl (Om rfl (Oz rfl rfl (Oz rfl rfl (Oz rfl rfl (Oz rfl rfl (Oz rfl rfl ?_)))))))))))))
  refine Oz rfl rfl (Ot rfl (E2 1 32 rfl (zd rfl (Sr (Oa rfl (E1 2 rfl (zi ?_)))))))
  repeat first | refine tr ?_ | refine br ?_
  refine zC rfl rfl ?_
  exact ⟨by simp [h8], c1⟩
 refine za (Od zao rfl (Od yv rfl ?_))
 refine Ol zaB rfl (k1.cell' rfl) ?_
 refine On zat rfl ?_
 refine Og (vt (zB rfl rfl) (decide_eq_true (by omega))) rfl ?_
 refine Om rfl (Oz rfl rfl (Oz rfl rfl (Oz rfl rfl (Oz rfl rfl (Oz rfl rfl (Ot rfl (Om rfl (Oz rfl rfl (Oz rfl rfl (Oz rfl rfl (Oz rfl rfl (Oz rfl rfl (Ot rfl ?_)))))))))))))
 refine Om rfl (Oz rfl rfl (Oz rfl rfl (Oz rfl rfl (Oz rfl rfl (Oz rfl rfl (Oz rfl rfl (Ot rfl (E2 1 32 rfl (zd rfl (Sr (Oa rfl (E1 2 rfl ?_))))))))))))
 refine zi ?_
 repeat first | refine tr ?_ | refine br ?_
 refine zC rfl rfl ?_
 exact ⟨by simp [h1], c1⟩
theorem ze9 (c k u : Value) (s : ym) (w : World) (hs : yL w c k u s) (hm : s.Sm) : z6 TP 43 #[.agg #[c, k, u]] w fun r w' => r = Ii (if yO s then 0 else 2) ∧ zj [] w w' := by
 refine A1 Tryz.func43 rfl rfl ?_
 refine Sr ?_
 refine Ob rfl rfl ?_
 intro b1 w1 e1 n1 c1 k1
 refine Oa rfl (E1 1 rfl (ze (ze ?_)))
 cases hr : yO s with
 | true =>
  refine za ?_
  refine Og (zg zbs zbm rfl rfl (zz.of_blk0 k1)) rfl ?_
  refine Og (z0 zrW zrT rfl (vs := [_]) rfl (css := [_]) ⟨rfl, trivial⟩ rfl rfl (cs := [_, _, _]) rfl) rfl ?_
  refine Oc zur rfl rfl rfl (zk7 c k u s _ (hs.chg0 c1) hm) ?_
  rintro v5 w5 ⟨h5, c5⟩
  rw [hr] at h5
  subst h5
  refine Og (zU rfl) rfl (E1 6 rfl (zb rfl (zm (Sr (Oa rfl (E1 2 rfl (zi ?_)))))))
  refine zC rfl rfl ?_
  exact ⟨rfl, c1.trans c5⟩
 | false =>
  refine za ?_
  refine Og (zg zbs zbm rfl rfl (zz.of_blk0 k1)) rfl ?_
  refine Og (z0 zrW zrT rfl (vs := [_]) rfl (css := [_]) ⟨rfl, trivial⟩ rfl rfl (cs := [_, _, _]) rfl) rfl ?_
  refine Oc zur rfl rfl rfl (zk7 c k u s _ (hs.chg0 c1) hm) ?_
  rintro v5 w5 ⟨h5, c5⟩
  rw [hr] at h5
  subst h5
  refine Og (zU rfl) rfl (E1 6 rfl (zd rfl (Sr (Oa rfl (E1 2 rfl (zi ?_))))))
  repeat first | refine tr ?_ | refine br ?_
  refine zC rfl rfl ?_
  exact ⟨rfl, c1.trans c5⟩
def hnd (t : Nat) : Value := .pointer (some ⟨5, t, none⟩)
def rty (t : Nat) : Value := .iface 247 (.agg #[hnd t])
def EOk (w : World) : Prop := w.cell? ⟨0, 0, none⟩ = some (rty 106)
theorem EOk.chg {S : List Nat} {w w' : World} (h : EOk w) (hc : zj S w w') (hs : 0 ∉ S) : EOk w' := by
 have hlt : 0 < w.heap.size := by
  rcases Nat.eq_zero_or_pos w.heap.size with h0 | h1
  ·unfold EOk World.cell? at h
   simp [h0] at h
  exact h1
 have := hc.block 0 hlt hs
 unfold EOk World.cell? at *
 rw [this]
 exact h
theorem EOk.chg0 {w w' : World} (h : EOk w) (hc : zj [] w w') : EOk w' := h.chg hc (by simp)
theorem EOk.ne {w : World} (h : EOk w) {b : Nat} {e : TypeId} {c : List Value} (hb : zS w b e c) (hc : c[0]? ≠ some (rty 106)) : 0 ≠ b := by
 rintro rfl
 exact hc (by rw [← hb.cell]; exact h)
def zdt (n : Int) : Value := .iface 32 (Ii n)
def zcs (w : World) (v : Value) (n : Int) : Prop :=
 v = zdt n ∨ (∃ b c, v = .iface 315 (Pt b) ∧ zS w b 317 [.string c, zdt n]) ∨ ∃ k, v = .iface 141 (.agg #[.string k, zdt n])
theorem zcs.chg {S : List Nat} {w w' : World} {v : Value} {n : Int} (h : zcs w v n) (hc : zj S w w') (hs : ∀ b c, zS w b 317 c → b ∉ S) : zcs w' v n := by
 rcases h with h | ⟨b, c, h, hb⟩ | h
 ·exact .inl h
 ·exact .inr (.inl ⟨b, c, h, hb.chg hc (hs b _ hb)⟩)
 exact .inr (.inr h)
theorem zcs.chg0 {w w' : World} {v : Value} {n : Int} (h : zcs w v n) (hc : zj [] w w') : zcs w' v n := h.chg hc (by simp)
theorem zcs.notNil {w : World} {v : Value} {n : Int} (h : zcs w v n) : zia v = some false := by
 rcases h with rfl | ⟨b, c, rfl, _⟩ | ⟨k, rfl⟩ <;> rfl
theorem zml : zey TP 109 = some Extern.ReflectliteType.typeOf := by kernel_rfl
theorem zrA : zey TP 120 = some (fun args => Extern.ReflectliteValue.unpack (args.getD 0 (.tuple #[]))) := by kernel_rfl
theorem zv4 : zey TP 121 = some (Extern.ReflectliteValue.methodAny (Extern.ReflectliteValue.valueError "reflectlite.Value.Type" 0) (fun t _ _ _ => Extern.ReflectliteType.toType t)) := by kernel_rfl
theorem zvN : zey TP 122 = some (Extern.ReflectliteValue.method (Extern.ReflectliteValue.valueError "reflectlite.Value.IsNil" 0) Extern.ReflectliteValue.isNil) := by kernel_rfl
theorem zv3 : zey TP 153 = some (Extern.ReflectliteValue.method (Extern.ReflectliteValue.valueError "reflectlite.Value.Elem" 0) Extern.ReflectliteValue.elem) := by kernel_rfl
theorem zuS : zey TP 154 = some Extern.ReflectliteValue.set := by kernel_rfl
theorem zsf : zey TP 298 = some (Extern.ReflectliteType.abiMethod fun t => do pure (.int .u8 (← Extern.Rtype.kind t))) := by kernel_rfl
theorem zuo : zey TP 311 = some (Extern.ReflectliteType.method Extern.ReflectliteType.elem) := by kernel_rfl
theorem zuG : zey TP 312 = some (Extern.ReflectliteType.relation "Implements" Extern.ReflectliteType.implements_) := by kernel_rfl
theorem zpT : zey TP 309 = some (Extern.ReflectliteType.relation "AssignableTo" Extern.ReflectliteType.assignableTo) := by kernel_rfl
theorem zwg : zey TP 310 = some (Extern.ReflectliteType.method fun t => do Extern.Rtype.noPackHeld "Comparable" t; pure (.bool (← typeInfo t).comparable)) := by kernel_rfl
theorem zkp (v : Value) (w : World) : (Extern.ReflectliteType.typeOf #[.iface 32 v]).run TP w = .ok (rty 32) w := by kernel_rfl
theorem znM (v : Value) (w : World) : (Extern.ReflectliteType.typeOf #[.iface 315 v]).run TP w = .ok (rty 315) w := by kernel_rfl
theorem znK (v : Value) (w : World) : (Extern.ReflectliteType.typeOf #[.iface 141 v]).run TP w = .ok (rty 141) w := by kernel_rfl
theorem zvC (w : World) : ((Extern.ReflectliteType.method fun t => do Extern.Rtype.noPackHeld "Comparable" t; pure (.bool (← typeInfo t).comparable)) #[.agg #[hnd 32]]).run TP w = .ok (.bool true) w := by kernel_rfl
theorem zoV (h : Value) : Mth TP 247 (.agg #[h]) "Kind" 298 h := fun w => by kernel_rfl
theorem ztc (h : Value) : Mth TP 247 (.agg #[h]) "Elem" 311 (.agg #[h]) := fun w => by kernel_rfl
theorem ztg (h : Value) : Mth TP 247 (.agg #[h]) "Implements" 312 (.agg #[h]) := fun w => by kernel_rfl
theorem zoJ (h : Value) : Mth TP 247 (.agg #[h]) "AssignableTo" 309 (.agg #[h]) := fun w => by kernel_rfl
theorem zuX (h : Value) : Mth TP 247 (.agg #[h]) "Comparable" 310 (.agg #[h]) := fun w => by kernel_rfl
theorem zqx (w : World) : ((Extern.ReflectliteType.abiMethod fun t => do pure (.int .u8 (← Extern.Rtype.kind t))) #[hnd 152]).run TP w = .ok (.int .u8 22) w := by kernel_rfl
theorem zqG (w : World) : ((Extern.ReflectliteType.abiMethod fun t => do pure (.int .u8 (← Extern.Rtype.kind t))) #[hnd 32]).run TP w = .ok (.int .u8 2) w := by kernel_rfl
theorem zrp (w : World) : (Extern.ReflectliteType.method Extern.ReflectliteType.elem #[.agg #[hnd 152]]).run TP w = .ok (rty 32) w := by kernel_rfl
theorem zsZ (w : World) : (Extern.ReflectliteType.relation "Implements" Extern.ReflectliteType.implements_ #[.agg #[hnd 32], rty 106]).run TP w = .ok (.bool true) w := by kernel_rfl
theorem zwd (w : World) : (Extern.ReflectliteType.relation "AssignableTo" Extern.ReflectliteType.assignableTo #[.agg #[hnd 32], rty 32]).run TP w = .ok (.bool true) w := by kernel_rfl
theorem ztf (w : World) : (Extern.ReflectliteType.relation "AssignableTo" Extern.ReflectliteType.assignableTo #[.agg #[hnd 315], rty 32]).run TP w = .ok (.bool false) w := by kernel_rfl
theorem zsT (w : World) : (Extern.ReflectliteType.relation "AssignableTo" Extern.ReflectliteType.assignableTo #[.agg #[hnd 141], rty 32]).run TP w = .ok (.bool false) w := by kernel_rfl
def rv (t : Nat) (a : Addr) (f : Nat) : Value := .agg #[hnd t, .pointer (some a), .int .u64 f]
theorem zsH (t : Addr) (w : World) : (Extern.ReflectliteValue.unpack (.iface 152 (.pointer (some t)))).run TP w = .ok (rv 152 ⟨w.heap.size, 0, none⟩ 150) (w.alloc (.cells #[.pointer (some t)] 152)) := by kernel_rfl
theorem ztz (n : Int) (w : World) : (Extern.ReflectliteValue.unpack (zdt n)).run TP w = .ok (rv 32 ⟨w.heap.size, 0, none⟩ 130) (w.alloc (.cells #[Ii n] 32)) := by kernel_rfl
theorem zsR (a : Addr) (w : World) : (Extern.ReflectliteValue.methodAny (Extern.ReflectliteValue.valueError "reflectlite.Value.Type" 0) (fun t _ _ _ => Extern.ReflectliteType.toType t) #[rv 152 a 150]).run TP w = .ok (rty 152) w := by kernel_rfl
theorem lit1 (v : Value) {h1 h2} : (#[v] : Array Value).getLit (n := 1) 0 h1 h2 = v := rfl
theorem lit20 (v x : Value) {h1 h2} : (#[v, x] : Array Value).getLit (n := 2) 0 h1 h2 = v := rfl
theorem lit21 (v x : Value) {h1 h2} : (#[v, x] : Array Value).getLit (n := 2) 1 h1 h2 = x := rfl
theorem zli (a : Addr) (w : World) : (Extern.ReflectliteValue.parts (rv 152 a 150)).run TP w = .ok (some (152, a, 150)) w := by kernel_rfl
theorem zqr (a p : Addr) (w : World) (ha : w.cell? a = some (.pointer (some p))) :
 (Extern.ReflectliteValue.method (Extern.ReflectliteValue.valueError "reflectlite.Value.IsNil" 0) Extern.ReflectliteValue.isNil #[rv 152 a 150]).run TP w = .ok (.bool false) w := by
 have hv := zli a w
 generalize rv 152 a 150 = v at hv ⊢
 conv => lhs; arg 2; whnf
 simp only [lit1, Sem.run_bind', hv, Result.andThen]
 simp [Extern.ReflectliteValue.isNil, loadVar, isAgg, underlying, ha, Result.andThen]
theorem zog (w : World) : (Extern.Rtype.elem? 152).run TP w = .ok (some 32) w := by kernel_rfl
theorem zxb (p : Addr) (w : World) : (Extern.ReflectliteValue.mk 32 p Extern.ReflectliteValue.flagAddr).run TP w = .ok (rv 32 p 386) w := by kernel_rfl
theorem zrn (a p : Addr) (w : World) (ha : w.cell? a = some (.pointer (some p))) :
 (Extern.ReflectliteValue.method (Extern.ReflectliteValue.valueError "reflectlite.Value.Elem" 0) Extern.ReflectliteValue.elem #[rv 152 a 150]).run TP w = .ok (rv 32 p 386) w := by
 have hv := zli a w
 generalize rv 152 a 150 = v at hv ⊢
 conv => lhs; arg 2; whnf
 simp only [lit1, Sem.run_bind', hv, Result.andThen]
 simp [Extern.ReflectliteValue.elem, loadVar, isAgg, underlying, ha, Result.andThen, zog, zxb]
theorem zpK (a : Addr) (w : World) : (Extern.ReflectliteValue.parts (rv 32 a 386)).run TP w = .ok (some (32, a, 386)) w := by kernel_rfl
theorem zo5 (a : Addr) (w : World) : (Extern.ReflectliteValue.parts (rv 32 a 130)).run TP w = .ok (some (32, a, 130)) w := by kernel_rfl
theorem zpR (w : World) : (Extern.Rtype.directlyAssignable 32 32).run TP w = .ok true w := by kernel_rfl
theorem zw4 (ta b : Addr) (n : Int) (old : Value) (w : World) (hb : w.cell? b = some (Ii n)) (ht : w.cell? ta = some old) (hf : w.frozen? ta = false) :
 (Extern.ReflectliteValue.set #[rv 32 ta 386, rv 32 b 130]).run TP w = .ok (.tuple #[]) (w.setCell ta (Ii n)) := by
 have h1 := zpK ta w
 have h2 := zo5 b w
 generalize rv 32 ta 386 = v at h1 ⊢
 generalize rv 32 b 130 = x at h2 ⊢
 conv => lhs; arg 2; whnf
 simp only [lit20, lit21, Sem.run_bind', Sem.run_bind, h1, h2, Result.andThen]
 simp [Extern.ReflectliteValue.flagAddr, loadVar, isAgg, underlying, hb, Result.andThen, zpR, storeVar, Value.cells, storeCells, Addr.add]
 rw [run_store TP w ta _ _ (by rfl)]
 simp [ht, hf]
theorem zS.setCell {w : World} {b : Nat} {e : TypeId} {x : Value} (h : zS w b e [x]) (v : Value) : zS (w.setCell ⟨b, 0, none⟩ v) b e [v] ∧ zj [b] w (w.setCell ⟨b, 0, none⟩ v) := by
 have hh : w.heap[b]? = some (.cells #[x] e (0, 0)) := h
 refine ⟨?_, rfl, rfl, rfl, by simp [World.setCell], fun k _ hn => ?_⟩
 ·unfold zS World.setCell
  simp only [Array.getElem?_modify, if_true, hh]
  rfl
 unfold World.setCell
 simp only [List.mem_singleton] at hn
 simp only [Array.getElem?_modify]
 rw [if_neg (fun e => hn e.symm)]
theorem zn9 (b : Nat) (c : ByteArray) (n : Int) (w : World) (hb : zS w b 317 [.string c, zdt n]) : z6 TP 320 #[Pt b] w fun r w' => r = zdt n ∧ w' = w := by
 refine A1 Tryz.func320 rfl rfl ?_
 refine Sr (Oa rfl (E1 0 rfl (Sr (Om rfl (Og (zE rfl) rfl (Od zqI rfl ?_))))))
 refine Ol zsn rfl (hb.cell' rfl) ?_
 refine Oa rfl (E1 2 rfl (zi ?_))
 refine zC rfl rfl ?_
 exact ⟨rfl, rfl⟩
theorem zpd (k : ByteArray) (n : Int) (w : World) : z6 TP 303 #[.agg #[.string k, zdt n]] w fun r w' => r = zdt n ∧ zj [] w w' := by
 refine A1 Tryz.func303 rfl rfl ?_
 refine Sr ?_
 refine Ob rfl rfl ?_
 intro b1 w1 e1 n1 c1 k1
 refine Oa rfl (E1 1 rfl (Sr (Od zqo rfl ?_)))
 refine Ol zsn rfl (k1.cell' rfl) ?_
 refine Oa rfl (E1 2 rfl (zi ?_))
 refine zC rfl rfl ?_
 exact ⟨rfl, c1⟩
theorem zn2 (v : Value) : Mth TP 315 v "Unwrap" 320 v := fun w => by kernel_rfl
theorem zoG (v : Value) : Mth TP 141 v "Unwrap" 303 v := fun w => by kernel_rfl
theorem zxe (v : Value) (n : Int) (bt : Nat) (old : Value) (a : Addr) (w : World) (hv : zcs w v n) (ht : zS w bt 32 [old]) (ha : w.cell? a = some (Pt bt)) (hab : a.block ≠ bt) :
 z6 TP 123 #[v, .iface 152 (Pt bt), rv 152 a 150, rty 32] w fun r w' => r = .bool true ∧ zS w' bt 32 [Ii n] ∧ zj [bt] w w' := by
 refine A4 Tryz.func123 rfl rfl ?_
 refine Sr ?_
 refine Ob rfl rfl ?_
 intro b6 w6 e6 n6 c6 k6
 refine Oa rfl (E4 0 1 3 6 rfl ?_)
 have k6 : zS w6 b6 202 [hnd 152, .pointer (some a), .int .u64 150] := k6
 refine zq ?_
 refine zZ [0, 1, 3, 6] (fun m F wx => ∃ u : Value, (zcs wx u n ∧ (m = 0 → u = zdt n)) ∧ F = [(0, u), (1, .iface 152 (Pt bt)), (3, rty 32), (6, Pt b6)] ∧ zj [] w6 wx) (m := 1) ⟨v, ⟨hv.chg0 c6, fun h => by omega⟩, rfl, zj.refl _ _⟩ ?_
 rintro m F wx ⟨u, ⟨hu, hm⟩, rfl, hcx⟩
 have hk6 := k6.chg0 hcx
 have htx := (ht.chg0 c6).chg0 hcx
 have hax := hcx.cell (c6.cell ha)
 have hbt := ht.lt
 refine zq (ze (ze ?_))
 rcases hu with rfl | hu
 ·refine za (Om rfl ?_)
  refine zD (gn rfl) (zc3 (P := TP) (n := Tryz.f123.ntmps) zml rfl rfl (zkp _ _) rfl ?_)
  skip
  refine Om rfl ?_
  refine zD (gn rfl) (zbF (zoJ _) zpT rfl rfl (zwd _) rfl ?_)
  skip
  refine E5 0 1 3 6 19 rfl (zd rfl (ze ?_))
  have hset := zw4 ⟨bt, 0, none⟩ ⟨wx.heap.size, 0, none⟩ n old (wx.alloc (.cells #[Ii n] 32)) ((zS.new wx 32 [Ii n]).cell' rfl) ((htx.chg0 (zj.alloc [] _ _)).cell' rfl) ((htx.chg0 (zj.alloc [] _ _)).free _ rfl)
  obtain ⟨hb2, hc2⟩ := (htx.chg0 (zj.alloc [] wx (.cells #[Ii n] 32))).setCell (Ii n)
  have hE : (Extern.ReflectliteValue.method (Extern.ReflectliteValue.valueError "reflectlite.Value.Elem" 0) Extern.ReflectliteValue.elem ([Value.agg [hnd 152, .pointer (some a), .int .u64 150].toArray].toArray)).run TP wx = .ok (rv 32 ⟨bt, 0, none⟩ 386) wx := zrn a ⟨bt, 0, none⟩ wx hax
  refine za ?_
  refine Og (zg zmW zjR rfl rfl (zz.of_blk0 hk6)) rfl ?_
  refine zD (gn rfl) (zc3 (P := TP) (n := Tryz.f123.ntmps) zv3 rfl rfl hE rfl ?_)
  skip
  refine Om rfl ?_
  refine zD (gn rfl) (zc3 (P := TP) (n := Tryz.f123.ntmps) zrA rfl rfl (ztz n wx) rfl ?_)
  skip
  refine zD (gn rfl) (zc3 (P := TP) (n := Tryz.f123.ntmps) zuS rfl rfl hset rfl ?_)
  skip
  refine zaV [] (F' := []) rfl (Sr (Oa rfl (E1 8 rfl (zi ?_))))
  repeat first | refine tr ?_ | refine br ?_
  refine zC rfl rfl ?_
  exact ⟨rfl, hb2, ((((c6.trans hcx).trans (zj.alloc [] _ _)).any (S := [bt])).transS hc2)⟩
 have hm1 : m ≠ 0 := fun h => by
  have := hm h
  subst this
  rcases hu with ⟨b, c, h, _⟩ | ⟨k, h⟩ <;> cases h
 rcases hu with ⟨b, c, rfl, hb⟩ | ⟨k, rfl⟩
 ·refine za (Om rfl ?_)
  refine zD (gn rfl) (zc3 (P := TP) (n := Tryz.f123.ntmps) zml rfl rfl (znM _ _) rfl ?_)
  skip
  refine Om rfl ?_
  refine zD (gn rfl) (zbF (zoJ _) zpT rfl rfl (ztf _) rfl ?_)
  skip
  refine E5 0 1 3 6 19 rfl (zb rfl (zm (ze (Sr (Om rfl ?_)))))
  refine Og (zcm zj7 zrI rfl) rfl ?_
  refine Om rfl (Oe rfl rfl (Oe rfl rfl (Oa rfl (Oa rfl (E6 0 1 3 6 9 10 rfl (Sr (Om rfl (Om rfl (Oz rfl rfl (Oz rfl rfl (Oz rfl rfl (Of rfl ?_))))))))))))
  refine E5 0 1 3 6 35 rfl (zb rfl (zm (Sr (Om rfl (E4 1 3 6 36 rfl (zq (Sr ?_)))))))
  refine Og (zcm zg1 zkY rfl) rfl ?_
  refine Oe rfl rfl (Oe rfl rfl (E6 1 3 6 36 38 39 rfl (zd rfl (Sr (Oa rfl (E4 1 3 6 11 rfl (Sr (Om rfl ?_))))))))
  refine zD (gn rfl) (ze6 (zn2 _) zrQ rfl rfl rfl (zn9 b c n _ hb) ?_)
  rintro v41 w41 ⟨rfl, rfl⟩
  refine Oa rfl (E4 0 1 3 6 rfl (Sr (Om rfl ?_)))
  refine Og (zbu za0 rfl rfl) rfl ?_
  refine E5 0 1 3 6 43 rfl (zb rfl (yf (zk (zk ?_))))
  exact ⟨0, by omega, _, ⟨.inl rfl, fun _ => rfl⟩, rfl, hcx⟩
 refine za (Om rfl ?_)
 refine zD (gn rfl) (zc3 (P := TP) (n := Tryz.f123.ntmps) zml rfl rfl (znK _ _) rfl ?_)
 skip
 refine Om rfl ?_
 refine zD (gn rfl) (zbF (zoJ _) zpT rfl rfl (zsT _) rfl ?_)
 skip
 refine E5 0 1 3 6 19 rfl (zb rfl (zm (ze (Sr (Om rfl ?_)))))
 refine Og (zcm zj0 zrI rfl) rfl ?_
 refine Om rfl (Oe rfl rfl (Oe rfl rfl (Oa rfl (Oa rfl (E6 0 1 3 6 9 10 rfl (Sr (Om rfl (Om rfl (Oz rfl rfl (Oz rfl rfl (Oz rfl rfl (Of rfl ?_))))))))))))
 refine E5 0 1 3 6 35 rfl (zb rfl (zm (Sr (Om rfl (E4 1 3 6 36 rfl (zq (Sr ?_)))))))
 refine Og (zcm zgM zkY rfl) rfl ?_
 refine Oe rfl rfl (Oe rfl rfl (E6 1 3 6 36 38 39 rfl (zd rfl (Sr (Oa rfl (E4 1 3 6 11 rfl (Sr (Om rfl ?_))))))))
 refine zD (gn rfl) (ze6 (zoG _) zr6 rfl rfl rfl (zpd k n _) ?_)
 rintro v41 w41 ⟨rfl, c41⟩
 refine Oa rfl (E4 0 1 3 6 rfl (Sr (Om rfl ?_)))
 refine Og (zbu za0 rfl rfl) rfl ?_
 refine E5 0 1 3 6 43 rfl (zb rfl (yf (zk (zk ?_))))
 exact ⟨0, by omega, _, ⟨.inl rfl, fun _ => rfl⟩, rfl, hcx.trans c41⟩
theorem zv7 (v : Value) (n : Int) (bt : Nat) (old : Value) (w : World) (hE : EOk w) (hv : zcs w v n) (ht : zS w bt 32 [old]) :
 z6 TP 79 #[v, .iface 152 (Pt bt)] w fun r w' => r = .bool true ∧ zS w' bt 32 [Ii n] ∧ zj [bt] w w' := by
 refine A2 Tryz.func79 rfl rfl ?_
 have hbt := ht.lt
 refine Sr (Oa rfl (E2 0 1 rfl (ze (ze ?_))))
 obtain ⟨x, hx⟩ : ∃ x, zia v = some x ∧ x = false := ⟨_, hv.notNil, rfl⟩
 refine za (Om rfl ?_)
 refine Og (zbu za0 rfl hv.notNil) rfl ?_
 refine E3 0 1 9 rfl (zb rfl (zm (ze (Sr (Om rfl ?_)))))
 refine Og (zbu zwa rfl rfl) rfl ?_
 refine E3 0 1 11 rfl (zb rfl (zm (ze ?_)))
 have hn1 := zS.new w 152 [Pt bt]
 have hc1 := zj.alloc [] w (.cells #[Pt bt] 152)
 generalize hw1 : w.alloc (.cells #[Pt bt] 152) = w1 at hc1
 have hv1 := zsH ⟨bt, 0, none⟩ w
 rw [hw1] at hv1
 have hn1 : zS w1 w.heap.size 152 [Pt bt] := hw1 ▸ hn1
 refine za (Om rfl ?_)
 refine zD (gn rfl) (zc3 (P := TP) (n := Tryz.f79.ntmps) zrA rfl rfl hv1 rfl ?_)
 skip
 refine zD (gn rfl) (zG zu0 rfl rfl ?_)
 intro b5 w5 e5 n5 c5 k5
 refine zD (gn rfl) (zu zjR rfl rfl rfl rfl k5 (by simp) (by intro u hu; simp at hu; rcases hu with rfl | rfl | rfl <;> rfl) ?_)
 intro wA nA cA kA
 refine E3 0 1 5 rfl ?_
 have kA : zS wA b5 202 [hnd 152, .pointer (some ⟨w.heap.size, 0, none⟩), .int .u64 150] := kA
 have hsz := hc1.size
 have hcA : zj [] w wA := (hc1.trans c5).own cA (by intro y hy; simp at hy; omega)
 have hnA := (hn1.chg0 c5).chg cA (by simp; have := hn1.lt; omega)
 have hEA := hE.chg0 hcA
 have htA := ht.chg0 hcA
 refine Sr ?_
 refine Og (zg zmW zjR rfl rfl (zz.of_blk0 kA)) rfl ?_
 refine zD (gn rfl) (zc3 (P := TP) (n := Tryz.f79.ntmps) zv4 rfl rfl (zsR ⟨w.heap.size, 0, none⟩ wA) rfl ?_)
 skip
 refine Oa rfl (E4 0 1 5 6 rfl (ze (Sr (Om rfl ?_))))
 refine zD (gn rfl) (zbF (zoV _) zsf rfl rfl (zqx _) rfl ?_)
 skip
 refine Og (vf (zT rfl rfl) (zcx (by omega))) rfl ?_
 refine Om rfl ?_
 refine Oy rfl rfl (zg zmW zjR rfl rfl (zz.of_blk0 kA)) ?_
 refine zD (gy rfl rfl rfl) (zc3 (P := TP) (n := Tryz.f79.ntmps) zvN rfl rfl (zqr ⟨w.heap.size, 0, none⟩ ⟨bt, 0, none⟩ wA (hnA.cell' rfl)) rfl ?_)
 skip
 refine Of rfl (E5 0 1 5 6 23 rfl (zb rfl (zm (Sr (Om rfl ?_)))))
 refine zD (gn rfl) (zbF (ztc _) zuo rfl rfl (zrp _) rfl ?_)
 skip
 refine Oa rfl (E4 0 1 5 7 rfl (ze (Sr (Om rfl ?_))))
 refine zD (gn rfl) (zbF (zoV _) zsf rfl rfl (zqG _) rfl ?_)
 skip
 refine Og (vt (zT rfl rfl) (zkE (by omega))) rfl ?_
 refine Om rfl (Oj rfl rfl ?_)
 refine Oy rfl rfl (zh zwL rfl hEA) ?_
 refine zD (gy rfl rfl rfl) (zbF (ztg _) zuG rfl rfl (zsZ _) rfl ?_)
 skip
 refine Oy rfl rfl (zU rfl) ?_
 refine Ot rfl (E5 0 1 5 7 35 rfl (zb rfl (zm (Sr (Om rfl (Om rfl ?_))))))
 refine Og (zg zmW zjR rfl rfl (zz.of_blk0 kA)) rfl ?_
 refine Om rfl ?_
 refine Oc zwh rfl rfl rfl (zxe v n bt old ⟨w.heap.size, 0, none⟩ wA (hv.chg0 hcA) htA (hnA.cell' rfl) (by simp; omega)) ?_
 rintro v41 w41 ⟨rfl, hb, hc⟩
 refine Oa rfl (E1 4 rfl (zi ?_))
 refine zC rfl rfl ?_
 exact ⟨rfl, hb, (hcA.any (S := [bt])).transS hc⟩
theorem zwR (t : Value) (w : World) : z6 TP 79 #[.nilIface, t] w fun r w' => r = .bool false ∧ w' = w := by
 refine A2 Tryz.func79 rfl rfl ?_
 refine Sr (Oa rfl (E2 0 1 rfl (ze (Sr (Om rfl ?_)))))
 refine Og (zbu za0 rfl rfl) rfl ?_
 refine E3 0 1 9 rfl (zd rfl (Sr (Oa rfl (E1 4 rfl (zi ?_)))))
 repeat first | refine tr ?_ | refine br ?_
 refine zC rfl rfl ?_
 exact ⟨rfl, rfl⟩
theorem zrN : (Tryz.prog.info? 32).map (·.comparable) = some true := by kernel_rfl
theorem zxc (v : Value) (n k : Int) (w : World) (hv : zcs w v n) : z6 TP 110 #[v, zdt k, .bool true] w fun r w' => r = .bool (decide (n = k)) ∧ zj [] w w' := by
 refine A3 Tryz.func110 rfl rfl ?_
 refine Sr (Oa rfl (E3 0 1 2 rfl (zq ?_)))
 refine zZ [0, 1, 2] (fun m F wx => ∃ u : Value, (zcs wx u n ∧ (m = 0 → u = zdt n)) ∧ F = [(0, u), (1, zdt k), (2, .bool true)] ∧ zj [] w wx) (m := 1) ⟨v, ⟨hv, fun h => by omega⟩, rfl, zj.refl _ _⟩ ?_
 rintro m F wx ⟨u, ⟨hu, hm⟩, rfl, hcx⟩
 refine zq (ze (ze ?_))
 rcases hu with rfl | hu
 ·by_cases hnk : n = k
  ·refine za (Om rfl (Om rfl (Oj rfl rfl (Oj rfl rfl ?_))))
   refine Oy rfl rfl (yA (v' := .bool true) (zkJ za0 zrN zkn rfl rfl) (by rw [decide_eq_true hnk])) ?_
   refine Ot rfl (E4 0 1 2 19 rfl (zd rfl (Sr (Oa rfl (E1 6 rfl (zi ?_))))))
   repeat first | refine tr ?_ | refine br ?_
   refine zC rfl rfl ?_
   exact ⟨by rw [decide_eq_true hnk], hcx⟩
  refine za (Om rfl (Om rfl (Oj rfl rfl (Oj rfl rfl ?_))))
  refine Oy rfl rfl (yA (v' := .bool false) (zkJ za0 zrN zkn rfl rfl) (by rw [decide_eq_false hnk])) ?_
  refine Ot rfl (E4 0 1 2 19 rfl (zb rfl (zm (ze (Sr (Om rfl ?_))))))
  refine Og (zcm zlB zpL rfl) rfl ?_
  refine Om rfl (Oe rfl rfl (Oe rfl rfl (Oa rfl (Oa rfl (E5 0 1 2 7 8 rfl (Sr (Om rfl (Om rfl (Oz rfl rfl (Oz rfl rfl (Oz rfl rfl (Of rfl ?_))))))))))))
  refine E4 0 1 2 30 rfl (zb rfl (zm (Sr (Om rfl (E3 1 2 31 rfl (zq (Sr ?_)))))))
  refine Og (zcm zlT zkY rfl) rfl ?_
  refine Oe rfl rfl (Oe rfl rfl (E5 1 2 31 33 34 rfl (zb rfl (Sr ?_))))
  refine Og (zcm zlR zvL rfl) rfl ?_
  refine Oe rfl rfl (Oe rfl rfl (E5 1 2 31 40 41 rfl (zb rfl (Sr (Oa rfl (zaV [] (F' := []) rfl (Sr (Oa rfl (E1 6 rfl (zi ?_))))))))))
  repeat first | refine tr ?_ | refine br ?_
  refine zC rfl rfl ?_
  exact ⟨by rw [decide_eq_false hnk], hcx⟩
 have hm1 : m ≠ 0 := fun h => by
  have := hm h
  subst this
  rcases hu with ⟨b, c, h, _⟩ | ⟨k, h⟩ <;> cases h
 rcases hu with ⟨b, c, rfl, hb⟩ | ⟨kk, rfl⟩
 ·refine za (Om rfl (Om rfl (Oj rfl rfl (Oj rfl rfl ?_))))
  refine Oy rfl rfl (zm8 za0 rfl rfl rfl) ?_
  refine Ot rfl (E4 0 1 2 19 rfl (zb rfl (zm (ze (Sr (Om rfl ?_))))))
  refine Og (zcm zke zpL rfl) rfl ?_
  refine Om rfl (Oe rfl rfl (Oe rfl rfl (Oa rfl (Oa rfl (E5 0 1 2 7 8 rfl (Sr (Om rfl (Om rfl (Oz rfl rfl (Oz rfl rfl (Oz rfl rfl (Of rfl ?_))))))))))))
  refine E4 0 1 2 30 rfl (zb rfl (zm (Sr (Om rfl (E3 1 2 31 rfl (zq (Sr ?_)))))))
  refine Og (zcm zg1 zkY rfl) rfl ?_
  refine Oe rfl rfl (Oe rfl rfl (E5 1 2 31 33 34 rfl (zd rfl (Sr (Oa rfl (E3 1 2 9 rfl (Sr (Om rfl ?_))))))))
  refine zD (gn rfl) (ze6 (zn2 _) zrQ rfl rfl rfl (zn9 b c n _ hb) ?_)
  rintro v36 w36 ⟨rfl, rfl⟩
  refine Oa rfl (E3 0 1 2 rfl (Sr (Om rfl ?_)))
  refine Og (zbu za0 rfl rfl) rfl ?_
  refine E4 0 1 2 38 rfl (zb rfl (yf (zk (zk ?_))))
  exact ⟨0, by omega, _, ⟨.inl rfl, fun _ => rfl⟩, rfl, hcx⟩
 refine za (Om rfl (Om rfl (Oj rfl rfl (Oj rfl rfl ?_))))
 refine Oy rfl rfl (zm8 za0 rfl rfl rfl) ?_
 refine Ot rfl (E4 0 1 2 19 rfl (zb rfl (zm (ze (Sr (Om rfl ?_))))))
 refine Og (zcm zlc zpL rfl) rfl ?_
 refine Om rfl (Oe rfl rfl (Oe rfl rfl (Oa rfl (Oa rfl (E5 0 1 2 7 8 rfl (Sr (Om rfl (Om rfl (Oz rfl rfl (Oz rfl rfl (Oz rfl rfl (Of rfl ?_))))))))))))
 refine E4 0 1 2 30 rfl (zb rfl (zm (Sr (Om rfl (E3 1 2 31 rfl (zq (Sr ?_)))))))
 refine Og (zcm zgM zkY rfl) rfl ?_
 refine Oe rfl rfl (Oe rfl rfl (E5 1 2 31 33 34 rfl (zd rfl (Sr (Oa rfl (E3 1 2 9 rfl (Sr (Om rfl ?_))))))))
 refine zD (gn rfl) (ze6 (zoG _) zr6 rfl rfl rfl (zpd kk n _) ?_)
 rintro v36 w36 ⟨rfl, c36⟩
 refine Oa rfl (E3 0 1 2 rfl (Sr (Om rfl ?_)))
 refine Og (zbu za0 rfl rfl) rfl ?_
 refine E4 0 1 2 38 rfl (zb rfl (yf (zk (zk ?_))))
 exact ⟨0, by omega, _, ⟨.inl rfl, fun _ => rfl⟩, rfl, hcx.trans c36⟩
theorem ztb (v : Value) (n k : Int) (w : World) (hv : zcs w v n) : z6 TP 74 #[v, zdt k] w fun r w' => r = .bool (decide (n = k)) ∧ zj [] w w' := by
 refine A2 Tryz.func74 rfl rfl ?_
 refine Sr (Oa rfl (E2 0 1 rfl (ze (ze ?_))))
 have hb : zp TP 110 = true := zrO
 refine za (Om rfl ?_)
 refine Og (zbu za0 rfl hv.notNil) rfl ?_
 refine Om rfl (Oj rfl rfl ?_)
 refine Oy rfl rfl (zbu za0 rfl rfl) ?_
 refine Of rfl (E3 0 1 11 rfl (zb rfl (zm (Sr (Om rfl ?_)))))
 refine zD (gn rfl) (zc3 (P := TP) (n := Tryz.f74.ntmps) zml rfl rfl (zkp _ _) rfl ?_)
 skip
 refine zD (gn rfl) (zbF (zuX _) zwg rfl rfl (zvC _) rfl ?_)
 skip
 refine Oa rfl (E3 0 1 5 rfl (Sr (Om rfl (Om rfl (Om rfl ?_)))))
 refine Oc zrO rfl rfl rfl (zxc v n k _ hv) ?_
 rintro v21 w21 ⟨rfl, c21⟩
 refine Oa rfl (E1 4 rfl (zi ?_))
 refine zC rfl rfl ?_
 exact ⟨rfl, c21⟩
theorem zvY (k : Int) (w : World) : z6 TP 74 #[.nilIface, zdt k] w fun r w' => r = .bool false ∧ w' = w := by
 refine A2 Tryz.func74 rfl rfl ?_
 refine Sr (Oa rfl (E2 0 1 rfl (ze (Sr (Om rfl ?_)))))
 refine Og (zbu za0 rfl rfl) rfl ?_
 refine Om rfl (Oz rfl rfl (Oz rfl rfl (Ot rfl (E3 0 1 11 rfl (zd rfl (Sr (Om rfl (Om rfl ?_))))))))
 refine Og (zoo za0 rfl rfl) rfl ?_
 refine Oa rfl (E1 4 rfl (zi ?_))
 repeat first | refine tr ?_ | refine br ?_
 refine zC rfl rfl ?_
 exact ⟨rfl, rfl⟩
theorem ztU (v : Value) (n : Int) (w : World) (hE : EOk w) (hv : v = .nilIface ∧ n = 0 ∨ zcs w v n) : z6 TP 124 #[v] w fun r w' => r = Ii n ∧ zj [] w w' := by
 refine A1 Tryz.func124 rfl rfl ?_
 refine Sr ?_
 refine zD (gn rfl) (zG ztV rfl rfl ?_)
 intro b2 w2 e2 n2 c2 k2
 refine E2 0 2 rfl (ze (ze ?_))
 rcases hv with ⟨rfl, rfl⟩ | hv
 ·refine za (Om rfl ?_)
  refine Og (yV zoY rfl) rfl ?_
  refine Oc ztM rfl rfl rfl (zwR _ _) ?_
  rintro v5 w5 ⟨rfl, rfl⟩
  refine Og (zU rfl) rfl (E2 2 6 rfl (zd rfl (Sr ?_)))
  refine zD (gn rfl) (zu zo7 rfl rfl rfl rfl k2 (by simp) (by intro u hu; simp at hu; subst hu; rfl) ?_)
  intro wA nA cA kA
  refine E1 2 rfl (zi ?_)
  repeat first | refine tr ?_ | refine br ?_
  refine zmk rfl zlx rfl (kA.cell' rfl) ?_
  exact ⟨rfl, c2.own cA (by intro y hy; simp at hy; omega)⟩
 refine za (Om rfl ?_)
 refine Og (yV zoY rfl) rfl ?_
 refine Oc ztM rfl rfl rfl (zv7 v n b2 _ _ (hE.chg0 c2) (hv.chg0 c2) k2) ?_
 rintro v5 w5 ⟨rfl, k5, c5⟩
 refine Og (zU rfl) rfl (E2 2 6 rfl (zb rfl (zm (Sr ?_))))
 refine Ol zlx rfl (k5.cell' rfl) ?_
 refine zD (gn rfl) (zu zo7 rfl rfl rfl rfl k5 (by simp) (by intro u hu; simp at hu; subst hu; rfl) ?_)
 intro wA nA cA kA
 refine E1 2 rfl (zi ?_)
 repeat first | refine tr ?_ | refine br ?_
 refine zmk rfl zlx rfl (kA.cell' rfl) ?_
 exact ⟨rfl, (c2.own c5 (by intro y hy; simp at hy; omega)).own cA (by intro y hy; simp at hy; omega)⟩
theorem zeE (v : Value) (n : Int) (w : World) (hE : EOk w) (hv : v = .nilIface ∧ n = 0 ∨ zcs w v n) : z6 TP 46 #[v] w fun r w' => r = Ii n ∧ zj [] w w' := by
 refine A1 Tryz.func46 rfl rfl ?_
 refine Sr ?_
 refine zD (gn rfl) (zG ztV rfl rfl ?_)
 intro b2 w2 e2 n2 c2 k2
 refine E2 0 2 rfl (ze (ze ?_))
 rcases hv with ⟨rfl, rfl⟩ | hv
 ·refine za (Om rfl ?_)
  refine Og (zbu za0 rfl rfl) rfl ?_
  refine Om rfl (Oz rfl rfl (Oz rfl rfl (Oz rfl rfl (Oz rfl rfl (Ot rfl (E2 2 10 rfl (zd rfl (Sr ?_))))))))
  refine zD (gn rfl) (zu zo7 rfl rfl rfl rfl k2 (by simp) (by intro u hu; simp at hu; subst hu; rfl) ?_)
  intro wA nA cA kA
  refine E1 2 rfl (zi ?_)
  repeat first | refine tr ?_ | refine br ?_
  refine zmk rfl zlx rfl (kA.cell' rfl) ?_
  exact ⟨rfl, c2.own cA (by intro y hy; simp at hy; omega)⟩
 refine za (Om rfl ?_)
 refine Og (zbu za0 rfl hv.notNil) rfl ?_
 refine Om rfl (Oj rfl rfl ?_)
 refine Oy rfl rfl (yV zoY rfl) ?_
 refine Ow rfl rfl ztM rfl rfl rfl (zv7 v n b2 _ _ (hE.chg0 c2) (hv.chg0 c2) k2) ?_
 rintro v8 w8 ⟨rfl, k5, c5⟩
 refine Oy rfl rfl (zU rfl) ?_
 refine Of rfl (E2 2 10 rfl (zb rfl (zm (Sr ?_))))
 refine Ol zlx rfl (k5.cell' rfl) ?_
 refine zD (gn rfl) (zu zo7 rfl rfl rfl rfl k5 (by simp) (by intro u hu; simp at hu; subst hu; rfl) ?_)
 intro wA nA cA kA
 refine E1 2 rfl (zi ?_)
 repeat first | refine tr ?_ | refine br ?_
 refine zmk rfl zlx rfl (kA.cell' rfl) ?_
 exact ⟨rfl, (c2.own c5 (by intro y hy; simp at hy; omega)).own cA (by intro y hy; simp at hy; omega)⟩
def ziH (w : World) (v : Value) (n : Int) : Prop := v = .nilIface ∧ n = 0 ∨ zcs w v n ∧ n ≠ 0
theorem ziH.weak {w : World} {v : Value} {n : Int} (h : ziH w v n) : v = .nilIface ∧ n = 0 ∨ zcs w v n := h.imp id (·.1)
theorem zhJ {w : World} {b : Nat} {c : ByteArray} {n : Int} (h : zS w b 317 [.string c, zdt n]) : zcs w (.iface 315 (Pt b)) n := .inr (.inl ⟨b, c, rfl, h⟩)
theorem zrb {c : Col} {x : zO} (h : y5 c = false) : y7 c x = 2 := by simp [y7, h]
theorem zqh {c : Col} {x : zO} (h : y5 c = true) (h2 : za6 x ≠ 0) : y7 c x = za6 x := by simp [y7, h, h2]
theorem zmS {c : Col} {x : zO} (h : y5 c = true) (h2 : za6 x = 0) (h3 : x.k = 0) : y7 c x = if c.z then 0 else 131 := by simp [y7, h, h2, h3]
theorem zqX {c : Col} {x : zO} (h : y5 c = true) (h2 : za6 x = 0) (h3 : x.k ≠ 0) (h4 : x.k ≠ c.t) : y7 c x = 132 := by simp [y7, h, h2, h3, h4]
theorem zmx {c : Col} {x : zO} (h : y5 c = true) (h2 : za6 x = 0) (h3 : x.k ≠ 0) (h4 : x.k = c.t) : y7 c x = if za8 c x then 133 else 0 := by
 simp only [y7, h, h2, h4]
 rw [h4] at h3
 simp [h3]
theorem zpk (c : Col) (x : zO) (w : World) (hx : x.Rng) : z6 TP 155 #[c.v, x.v] w fun r w' => ziH w' r (y7 c x) ∧ zj [] w w' := by
 refine A2 Tryz.func155 rfl rfl ?_
 refine Sr ?_
 refine Ob rfl rfl ?_
 intro b2 w2 e2 n2 c2 k2
 refine Ob rfl rfl ?_
 intro b3 w3 e3 n3 c3 k3
 refine Oa rfl (E2 2 3 rfl ?_)
 have hk2 := k2.chg0 c3
 have hc3 : zj [] w w3 := c2.trans c3
 refine ze (ze ?_)
 cases hr : y5 c with
 | false =>
  refine za ?_
  refine Og (zg zec za1 rfl rfl (zz.of_blk0 hk2)) rfl ?_
  refine Oc zmF rfl rfl rfl (zhh c _) ?_
  rintro v8 w8 ⟨h8, c8⟩
  rw [hr] at h8
  subst h8
  refine Og (zU rfl) rfl (E3 2 3 9 rfl (zd rfl (Sr (Od zbG rfl ?_))))
  refine Ol ag9 rfl ((hk2.chg0 c8).cell' rfl) ?_
  refine Og (yV zfs rfl) rfl ?_
  refine Og (z0 zjY zkm rfl (vs := [_, _]) rfl (css := [_, _]) ⟨rfl, rfl, trivial⟩ rfl rfl (cs := [_, _]) rfl) rfl ?_
  refine Ob rfl rfl ?_
  intro b14 w14 e14 n14 c14 k14
  refine Og (yV zkO rfl) rfl ?_
  refine Oa rfl (E1 4 rfl (zi ?_))
  repeat first | refine tr ?_ | refine br ?_
  refine zC rfl rfl ?_
  rw [zrb hr]
  exact ⟨.inr ⟨zhJ k14, by omega⟩, (hc3.trans c8).trans c14⟩
 | true =>
  refine za ?_
  refine Og (zg zec za1 rfl rfl (zz.of_blk0 hk2)) rfl ?_
  refine Oc zmF rfl rfl rfl (zhh c _) ?_
  rintro v8 w8 ⟨h8, c8⟩
  rw [hr] at h8
  subst h8
  refine Og (zU rfl) rfl (E3 2 3 9 rfl (zb rfl (zm (ze (Sr ?_)))))
  refine Og (zg zbd y4 rfl rfl (zz.of_blk0 (k3.chg0 c8))) rfl ?_
  refine Oc zr0 rfl rfl rfl (zms x _) ?_
  rintro v17 w17 ⟨rfl, c17⟩
  refine Oa rfl (E3 2 3 5 rfl ?_)
  have hc17 : zj [] w w17 := (hc3.trans c8).trans c17
  have hk2a := hk2.chg0 (c8.trans c17)
  have hk3a := k3.chg0 (c8.trans c17)
  refine ze ?_
  by_cases hc : za6 x = 0
  ·refine za (Om rfl ?_)
   refine Og (vf (zT rfl rfl) (by simp [hc])) rfl ?_
   refine E4 2 3 5 19 rfl (zb rfl (zm ?_))
   refine yd (fun F wA => ∃ b6 s f k, F = [(2, Pt b2), (3, Pt b3), (6, Pt b6)] ∧ zS wA b6 259 [.func (.func s) #[] #[], Ii c.t, .func (.func f) #[] #[]] ∧ zj [] w17 wA ∧ k = c.t ∧ zp TP f = true ∧ (∀ (x : zO) w, x.Rng → z6 TP f #[Ii c.s, x.v] w fun r w' => r = .bool (!za8 c x) ∧ zj [] w w')) ?_ ?_
   ·have htn : zfl c = true := by rw [zdK] at hr; simp only [Bool.and_eq_true] at hr; exact hr.1.1
    obtain ⟨s, f, kk, hg, hkk, _, hbf, _, hff⟩ := zeN htn
    have hC := (zj.drew [] w17)
    refine zea (fun wz => zj [] w17 wz) (zaE.seq [1, 2] (.two 0 (zaE.seq [] (.two 3 (zaE.seq [4, 5] .done) 4 (zaE.seq [3, 5] .done))) 4 (zaE.seq [0, 3, 5] .done))) mix (by kernel_rfl) hC ?_
    refine zQ rfl rfl (gn rfl) (fun _ => zl zfw rfl) rfl rfl ?_
    refine zcK rfl rfl (gn rfl) (fun wz hz => zh zlw rfl ((hk2a.chg0 hz).cell' rfl)) rfl rfl ?_
    refine zdZ ?_ ?_
    ·refine yT rfl rfl (gn rfl) (yU znd rfl rfl rfl rfl (zhb _) ?_)
     rintro v27 w27 ⟨b27, rfl, h27, k27, c27⟩
     have hN27 := hC.size
     have hC := hC.trans c27
     refine ⟨.inl hC, ?_⟩
     refine zdZ ?_ ?_
     ·refine yT rfl rfl (gn rfl) (St.vl (zcC (κ := zbn .i64) zfm (yp zaC) zc8 rfl rfl k27 hg rfl) rfl rfl ?_)
      refine ⟨.inl hC, ?_⟩
      refine yT rfl rfl (gn rfl) (zG zc8 rfl rfl ?_)
      intro b6 w6 e6 n6 c6 k6
      have hN6 := hC.size
      have hC := hC.trans c6
      have k27 := k27.chg0 c6
      refine ⟨.inl hC, ?_⟩
      refine yT rfl rfl (gn rfl) (zu ziO rfl rfl rfl rfl k6 (by simp) (by intro u hu; simp at hu; rcases hu with rfl | rfl | rfl <;> rfl) ?_)
      intro wA nA cA kA
      have hC := hC.own cA (by intro y hy; simp at hy; omega)
      refine ⟨.inl hC, ?_⟩
      refine zb4 [2, 3, 6] (F' := [(2, _), (3, _), (6, _)]) rfl ?_
      exact ⟨b6, s, f, c.t, rfl, by rw [← hkk]; exact kA, hC, rfl, hbf, hff hr⟩
     refine yT rfl rfl (gn rfl) (zG zc8 rfl rfl ?_)
     intro b6 w6 e6 n6 c6 k6
     have hN6 := hC.size
     have hC := hC.trans c6
     have k27 := k27.chg0 c6
     refine ⟨.inl hC, ?_⟩
     refine yT rfl rfl (gn rfl) (St.vl (zcC (κ := zbn .i64) zfm (yp zaC) zc8 rfl rfl k27 hg rfl) rfl rfl ?_)
     refine ⟨.inl hC, ?_⟩
     refine yT rfl rfl (gn rfl) (zu ziO rfl rfl rfl rfl k6 (by simp) (by intro u hu; simp at hu; rcases hu with rfl | rfl | rfl <;> rfl) ?_)
     intro wA nA cA kA
     have hC := hC.own cA (by intro y hy; simp at hy; omega)
     refine ⟨.inl hC, ?_⟩
     refine zb4 [2, 3, 6] (F' := [(2, _), (3, _), (6, _)]) rfl ?_
     exact ⟨b6, s, f, c.t, rfl, by rw [← hkk]; exact kA, hC, rfl, hbf, hff hr⟩
    refine yT rfl rfl (gn rfl) (zG zc8 rfl rfl ?_)
    intro b6 w6 e6 n6 c6 k6
    have hN6 := hC.size
    have hC := hC.trans c6
    refine ⟨.inl hC, ?_⟩
    refine yT rfl rfl (gn rfl) (yU znd rfl rfl rfl rfl (zhb _) ?_)
    rintro v27 w27 ⟨b27, rfl, h27, k27, c27⟩
    have hN27 := hC.size
    have hC := hC.trans c27
    have k6 := k6.chg0 c27
    refine ⟨.inl hC, ?_⟩
    refine yT rfl rfl (gn rfl) (St.vl (zcC (κ := zbn .i64) zfm (yp zaC) zc8 rfl rfl k27 hg rfl) rfl rfl ?_)
    refine ⟨.inl hC, ?_⟩
    refine yT rfl rfl (gn rfl) (zu ziO rfl rfl rfl rfl k6 (by simp) (by intro u hu; simp at hu; rcases hu with rfl | rfl | rfl <;> rfl) ?_)
    intro wA nA cA kA
    have hC := hC.own cA (by intro y hy; simp at hy; omega)
    refine ⟨.inl hC, ?_⟩
    refine zb4 [2, 3, 6] (F' := [(2, _), (3, _), (6, _)]) rfl ?_
    exact ⟨b6, s, f, c.t, rfl, by rw [← hkk]; exact kA, hC, rfl, hbf, hff hr⟩
   rintro F wA ⟨b6, s, f, k, rfl, kA, hcA, rfl, hbf, hff⟩
   have hk2b := hk2a.chg0 hcA
   have hk3b := hk3a.chg0 hcA
   have hwA := hc17.trans hcA
   refine ze (zq (ze ?_))
   by_cases h0 : x.k = 0
   ·refine za (Od zaq rfl ?_)
    refine Ol zcn rfl (hk3b.cell' rfl) ?_
    refine Og (vt (zw rfl rfl) (decide_eq_true (by omega))) rfl ?_
    refine Om rfl ?_
    refine Oy rfl rfl (zl zfD rfl) ?_
    refine Oy rfl rfl (zh ag4 rfl (hk2b.cell' rfl)) ?_
    refine Ot rfl (Oa rfl (E4 2 3 6 31 rfl ?_))
    refine zR rfl (fun hT => ?_) (fun hF => ?_)
    ·refine Sr (Oa rfl (E1 4 rfl (zi ?_)))
     repeat first | refine tr ?_ | refine br ?_
     refine zC rfl rfl ?_
     exact ⟨.inl ⟨rfl, by rw [zmS hr hc h0, hT]; rfl⟩, hwA⟩
    refine Sr (Od zaq rfl ?_)
    refine Ol zcn rfl (hk3b.cell' rfl) ?_
    refine Og (vt (zw rfl rfl) (decide_eq_true (by omega))) rfl ?_
    refine Oa rfl (E4 2 3 6 39 rfl (zd rfl (Sr (Od zbG rfl ?_))))
    refine Ol ag9 rfl (hk2b.cell' rfl) ?_
    refine Og (yV zfs rfl) rfl ?_
    refine Og (z0 zjY zkm rfl (vs := [_, _]) rfl (css := [_, _]) ⟨rfl, rfl, trivial⟩ rfl rfl (cs := [_, _]) rfl) rfl ?_
    refine Ob rfl rfl ?_
    intro b47 w47 e47 n47 c47 k47
    refine Og (yV zkO rfl) rfl ?_
    refine Oa rfl (E1 4 rfl (zi ?_))
    repeat first | refine tr ?_ | refine br ?_
    refine zC rfl rfl ?_
    rw [zmS hr hc h0, hF]
    exact ⟨.inr ⟨zhJ k47, by decide⟩, hwA.trans c47⟩
   refine za (Od zaq rfl ?_)
   refine Ol zcn rfl (hk3b.cell' rfl) ?_
   refine Og (vf (zw rfl rfl) (decide_eq_false (by omega))) rfl ?_
   refine Om rfl (Oz rfl rfl (Oz rfl rfl (Of rfl (Oa rfl (E4 2 3 6 31 rfl (zb rfl (Sr (Od zaq rfl ?_))))))))
   refine Ol zcn rfl (hk3b.cell' rfl) ?_
   refine Og (vf (zw rfl rfl) (decide_eq_false (by omega))) rfl ?_
   refine Oa rfl (E4 2 3 6 39 rfl (zb rfl (ze ?_)))
   by_cases h4 : x.k = c.t
   ·refine za (Od zaq rfl ?_)
    refine Ol zcn rfl (hk3b.cell' rfl) ?_
    refine Od zmo rfl ?_
    refine Ol zcn rfl (kA.cell' rfl) ?_
    refine Og (vf (zT rfl rfl) (zcx (by omega))) rfl ?_
    refine Oa rfl (E4 2 3 6 49 rfl (zb rfl (Sr (Od zqO rfl ?_))))
    refine Ol zwb rfl (kA.cell' rfl) ?_
    refine Od zbH rfl ?_
    refine Ol ag3 rfl (hk2b.cell' rfl) ?_
    refine Og (zg zbd y4 rfl rfl (zz.of_blk0 hk3b)) rfl ?_
    refine Oc hbf rfl rfl rfl (hff x _ hx) ?_
    rintro v67 w67 ⟨rfl, c67⟩
    refine Og (zU rfl) rfl (Oa rfl (E2 2 61 rfl ?_))
    cases hwd : za8 c x with
    | true =>
     refine zd rfl (Sr (Od zbG rfl ?_))
     refine Ol ag9 rfl ((hk2b.chg0 c67).cell' rfl) ?_
     refine Og (yV zfs rfl) rfl ?_
     refine Og (z0 zjY zkm rfl (vs := [_, _]) rfl (css := [_, _]) ⟨rfl, rfl, trivial⟩ rfl rfl (cs := [_, _]) rfl) rfl ?_
     refine Ob rfl rfl ?_
     intro b73 w73 e73 n73 c73 k73
     refine Og (yV zkO rfl) rfl ?_
     refine Oa rfl (E1 4 rfl (zi ?_))
     repeat first | refine tr ?_ | refine br ?_
     refine zC rfl rfl ?_
     rw [zmx hr hc h0 h4, hwd]
     exact ⟨.inr ⟨zhJ k73, by decide⟩, (hwA.trans c67).trans c73⟩
    | false =>
     refine zb rfl (yf (zk (Sr (Oa rfl (E1 4 rfl (zi ?_))))))
     repeat first | refine tr ?_ | refine br ?_
     refine zC rfl rfl ?_
     rw [zmx hr hc h0 h4, hwd]
     exact ⟨.inl ⟨rfl, rfl⟩, hwA.trans c67⟩
   refine za (Od zaq rfl ?_)
   refine Ol zcn rfl (hk3b.cell' rfl) ?_
   refine Od zmo rfl ?_
   refine Ol zcn rfl (kA.cell' rfl) ?_
   refine Og (vt (zT rfl rfl) (zkE (by omega))) rfl ?_
   refine Oa rfl (E4 2 3 6 49 rfl (zd rfl (Sr (Od zbG rfl ?_))))
   refine Ol ag9 rfl (hk2b.cell' rfl) ?_
   refine Og (yV zfs rfl) rfl ?_
   refine Og (z0 zjY zkm rfl (vs := [_, _]) rfl (css := [_, _]) ⟨rfl, rfl, trivial⟩ rfl rfl (cs := [_, _]) rfl) rfl ?_
   refine Ob rfl rfl ?_
   intro b59 w59 e59 n59 c59 k59
   refine Og (yV zkO rfl) rfl ?_
   refine Oa rfl (E1 4 rfl (zi ?_))
   repeat first | refine tr ?_ | refine br ?_
   refine zC rfl rfl ?_
   rw [zqX hr hc h0 h4]
   exact ⟨.inr ⟨zhJ k59, by decide⟩, hwA.trans c59⟩
  refine za (Om rfl ?_)
  refine Og (vt (zT rfl rfl) (by simp [hc])) rfl ?_
  refine E4 2 3 5 19 rfl (zd rfl (Sr (Od zbG rfl ?_)))
  refine Ol ag9 rfl (hk2a.cell' rfl) ?_
  refine Om rfl ?_
  refine Og (yV zfs rfl) rfl ?_
  refine Og (z0 zjY zkm rfl (vs := [_, _]) rfl (css := [_, _]) ⟨rfl, rfl, trivial⟩ rfl rfl (cs := [_, _]) rfl) rfl ?_
  refine Ob rfl rfl ?_
  intro b25 w25 e25 n25 c25 k25
  refine Og (yV zkO rfl) rfl ?_
  refine Oa rfl (E1 4 rfl (zi ?_))
  repeat first | refine tr ?_ | refine br ?_
  refine zC rfl rfl ?_
  rw [zqh hr hc]
  exact ⟨.inr ⟨zhJ k25, hc⟩, hc17.trans c25⟩
theorem zgv : ∀ {cs : List Col} {xs : List zO} {j : Nat} {c : Col} {x : zO}, cs[j]? = some c → xs[j]? = some x → y7 c x ≠ 0 → (∀ (i : Nat) c x, i < j → cs[i]? = some c → xs[i]? = some x → y7 c x = 0) → zaQ cs xs = y7 c x
 | [], _, _, _, _, h, _, _, _ => by simp at h
 | _ :: _, [], _, _, _, _, h, _, _ => by simp at h
 | c' :: cs, x' :: xs, 0, c, x, hc, hx, hn, _ => by
  simp at hc hx; subst hc hx
  simp [zaQ, hn]
 | c' :: cs, x' :: xs, j + 1, c, x, hc, hx, hn, ha => by
  have h0 := ha 0 c' x' (by omega) rfl rfl
  unfold zaQ
  rw [if_neg (by simp [h0])]
  exact zgv (by simpa using hc) (by simpa using hx) hn (fun i c x hi h1 h2 => ha (i + 1) c x (by omega) (by simpa using h1) (by simpa using h2))
theorem zgm : ∀ {cs : List Col} {xs : List zO}, (∀ (i : Nat) c x, cs[i]? = some c → xs[i]? = some x → y7 c x = 0) → zaQ cs xs = 0
 | [], _, _ => by simp [zaQ]
 | _ :: _, [], _ => by simp [zaQ]
 | c :: cs, x :: xs, h => by
  unfold zaQ
  rw [if_neg (by simp [h 0 c x rfl rfl])]
  exact zgm fun i c x h1 h2 => h (i + 1) c x (by simpa using h1) (by simpa using h2)
theorem zwY (c k u v : Value) (s : ym) (l : List zO) (w : World) (hs : yL w c k u s) (hl : zI w v l) (hg : ∀ x ∈ l, x.Rng) (hn : l.length ≤ 1048576) (hn' : s.cols.length ≤ 1048576) :
 z6 TP 125 #[.agg #[c, k, u], v] w fun r w' => ziH w' r (if l.length ≠ s.cols.length then 130 else zaQ s.cols l) ∧ zj [] w w' := by
 obtain ⟨pc, dc, rfl, hdc⟩ := z9.val hs.cols
 obtain ⟨pv, cv, rfl, hle⟩ := z9.val hl
 refine A2 Tryz.func125 rfl rfl ?_
 refine Sr ?_
 refine Ob rfl rfl ?_
 intro b2 w2 e2 n2 c2 k2
 refine Oa rfl (E2 1 2 rfl (ze (ze ?_)))
 by_cases he : l.length = s.cols.length
 ·refine za (Om rfl (On zak rfl (Od yv rfl ?_)))
  refine Ol zaB rfl (k2.cell' rfl) ?_
  refine On zat rfl ?_
  refine Og (vf (zT rfl rfl) (zcx (by omega))) rfl ?_
  refine E3 1 2 13 rfl (zb rfl (zm ?_))
  rw [if_neg (by simp [he])]
  refine ze (Sr (Om rfl (On zak rfl (Om rfl (E4 2 15 16 17 rfl (zq ?_))))))
  refine zZ [2, 15, 16, 17] (fun m F wx => ∃ j : Nat, m = l.length - j ∧ j ≤ l.length ∧ F = [(2, Pt b2), (15, .slice pv l.length cv), (16, Ii l.length), (17, Ii j)] ∧ zj [] w2 wx ∧ (∀ i c x, i < j → s.cols[i]? = some c → l[i]? = some x → y7 c x = 0)) (m := l.length - 0) ⟨0, rfl, Nat.zero_le _, rfl, zj.refl _ _, by intro i c x h; omega⟩ ?_
  rintro m F wx ⟨j, rfl, hj, rfl, hcx, hall⟩
  have hcw : zj [] w wx := c2.trans hcx
  have hk2 := k2.chg0 hcx
  refine Sr (Og (zB rfl rfl) rfl (E5 2 15 16 17 18 rfl (ze ?_)))
  refine zR rfl (fun hT => ?_) (fun hF => ?_)
  ·refine zm ?_
   have hlt : j < l.length := by have := of_decide_eq_true hT; omega
   have hx : l[j]? = some l[j] := by simp [hlt]
   generalize l[j] = x at hx
   have hlt2 : j < s.cols.length := by omega
   have hcc : s.cols[j]? = some s.cols[j] := by simp [hlt2]
   generalize s.cols[j] = c at hcc
   obtain ⟨b, off, cap, hv, hcell⟩ := z9.at zbe (z9.chg0 hl hcw) hx
   cases hv
   obtain ⟨bc, oc, cc, hvc, hcellc⟩ := z9.at zau (z9.chg0 hs.cols hcw) hcc
   cases hvc
   refine ze (zq (Sr (Om rfl ?_)))
   refine Og (zf zak y4 rfl rfl _ rfl hlt) rfl ?_
   refine Og (zg zbd y4 rfl rfl hcell) rfl ?_
   refine zD (gn rfl) (zG zd2 rfl rfl ?_)
   intro b6 w6 e6 n6 c6 k6
   refine Oa rfl ?_
   refine zD (gn rfl) (zu y4 rfl rfl rfl rfl k6 (by simp [zO.cs]) (zO.one x) ?_)
   intro wA nA cA kA
   refine E6 2 5 6 15 16 17 rfl ?_
   have hcA : zj [] wx wA := c6.own cA (by intro y hy; simp at hy; omega)
   have kA : zS wA b6 40 x.cs := kA
   have hk2A := hk2.chg0 hcA
   have hdA : zj [] wA wA.drew := zj.drew [] _
   refine ze ?_
   by_cases hf : y7 c x = 0
   ·refine zJ (fun wz => zj [] wA wz) mix (by kernel_rfl) hdA ?_
    refine Td yv rfl ?_
    refine Tr (fun wz hz => zh zaB rfl ((hk2A.chg0 hz).cell' rfl)) rfl ?_
    refine Tm rfl ?_
    refine Tp (fun _ => zf zat za1 rfl rfl _ rfl hlt2) rfl ?_
    refine Tr (fun wz hz => zg zec za1 rfl rfl ((hcellc.chg0 hcA).chg0 hz)) rfl ?_
    refine Tr (fun wz hz => zg zbd y4 rfl rfl (zz.of_blk0 (kA.chg0 hz))) rfl ?_
    refine Tc zsc rfl rfl rfl (zpk c x _ (hg x (List.mem_of_getElem? hx))) ?_
    rintro v28 w28 ⟨h28, c28⟩
    have h28 := h28.resolve_right (fun h => h.2 hf)
    obtain ⟨rfl, _⟩ := h28
    refine ⟨.inl (hdA.trans c28), ?_⟩
    refine Ta rfl (D5 2 7 15 16 17 rfl (Sr (Om rfl ?_)))
    refine Og (zbT za0 rfl rfl) rfl ?_
    refine Om rfl (Oz rfl rfl (Oz rfl rfl (Oz rfl rfl (Oz rfl rfl (Of rfl (E6 2 7 15 16 17 36 rfl (zb rfl (yf (zk (za ?_))))))))))
    refine Og (zH rfl rfl (by omega)) rfl ?_
    refine Om rfl (N4 2 15 16 17 rfl ?_)
    refine ⟨l.length - (j + 1), by omega, j + 1, rfl, by omega, rfl, ((hcx.trans hcA).trans hdA).trans c28, ?_⟩
    intro i c' x' hi hc' hx'
    rcases Nat.lt_or_ge i j with hij | hij
    ·exact hall i c' x' hij hc' hx'
    have : i = j := by omega
    subst this
    rw [hx] at hx'; rw [hcc] at hc'
    cases hx'; cases hc'
    exact hf
   refine zJ (fun wz => zj [] wA wz) mix (by kernel_rfl) hdA ?_
   refine Td yv rfl ?_
   refine Tr (fun wz hz => zh zaB rfl ((hk2A.chg0 hz).cell' rfl)) rfl ?_
   refine Tm rfl ?_
   refine Tp (fun _ => zf zat za1 rfl rfl _ rfl hlt2) rfl ?_
   refine Tr (fun wz hz => zg zec za1 rfl rfl ((hcellc.chg0 hcA).chg0 hz)) rfl ?_
   refine Tr (fun wz hz => zg zbd y4 rfl rfl (zz.of_blk0 (kA.chg0 hz))) rfl ?_
   refine Tc zsc rfl rfl rfl (zpk c x _ (hg x (List.mem_of_getElem? hx))) ?_
   rintro v28 w28 ⟨h28, c28⟩
   have h28 := (h28.resolve_left (fun h => hf h.2)).1
   refine ⟨.inl (hdA.trans c28), ?_⟩
   refine Ta rfl (D5 2 7 15 16 17 rfl (Sr (Om rfl ?_)))
   refine Og (zbT za0 rfl h28.notNil) rfl ?_
   refine Om rfl (Oj rfl rfl ?_)
   refine Oy rfl rfl (yV zfs rfl) ?_
   refine Ow rfl rfl zrj rfl rfl rfl (ztb v28 (y7 c x) 0 _ h28) ?_
   rintro v34 w34 ⟨h34, c34⟩
   rw [decide_eq_false hf] at h34
   subst h34
   refine Oy rfl rfl (zU rfl) ?_
   refine Ot rfl (E6 2 7 15 16 17 36 rfl (zd rfl (Sr (Om rfl (Oa rfl (E1 4 rfl (zi ?_)))))))
   repeat first | refine tr ?_ | refine br ?_
   refine zC rfl rfl ?_
   rw [zgv hcc hx hf hall]
   exact ⟨.inr ⟨h28.chg0 c34, hf⟩, (((hcw.trans hcA).trans hdA).trans c28).trans c34⟩
  refine zL ?_
  repeat first | refine te ?_ | refine bo rfl ?_
  refine zt _ ?_
  have hge : l.length ≤ j := by have := of_decide_eq_false hF; omega
  refine Sr (Oa rfl (E1 4 rfl (zi ?_)))
  repeat first | refine tr ?_ | refine br ?_
  refine zC rfl rfl ?_
  refine ⟨.inl ⟨rfl, zgm fun i c x h1 h2 => hall i c x ?_ h1 h2⟩, hcw⟩
  have := (List.getElem?_eq_some_iff.1 h2).1
  omega
 refine za (Om rfl (On zak rfl (Od yv rfl ?_)))
 refine Ol zaB rfl (k2.cell' rfl) ?_
 refine On zat rfl ?_
 refine Og (vt (zT rfl rfl) (zkE (by omega))) rfl ?_
 refine E3 1 2 13 rfl (zd rfl (Sr ?_))
 refine Og (yV zfs rfl) rfl ?_
 refine Oa rfl (E1 4 rfl (zi ?_))
 repeat first | refine tr ?_ | refine br ?_
 refine zC rfl rfl ?_
 rw [if_pos he]
 exact ⟨.inr ⟨.inl rfl, by omega⟩, c2⟩
theorem zry (c k u v : Value) (s : ym) (l : List zO) (w : World) (hE : EOk w) (hs : yL w c k u s) (hm : s.Sm) (hl : zI w v l) (hg : ∀ x ∈ l, x.Rng) (hn : l.length ≤ 1048576) :
 z6 TP 80 #[.agg #[c, k, u], v] w fun r w' => r = Ii (yZ s l) ∧ zj [] w w' := by
 refine A2 Tryz.func80 rfl rfl ?_
 refine Sr ?_
 refine Ob rfl rfl ?_
 intro b2 w2 e2 n2 c2 k2
 refine Oa rfl (E2 1 2 rfl (ze (ze ?_)))
 unfold yZ
 cases hr : yO s with
 | false =>
  refine za ?_
  refine Og (zg zbs zbm rfl rfl (zz.of_blk0 k2)) rfl ?_
  refine Oc znG rfl rfl rfl (ze9 c k u s _ (hs.chg0 c2) hm) ?_
  rintro v7 w7 ⟨h7, c7⟩
  rw [hr] at h7
  change v7 = Ii 2 at h7
  subst h7
  refine Oa rfl (E3 1 2 5 rfl (Sr (Om rfl ?_)))
  refine Og (vt (zT rfl rfl) (zkE (by omega))) rfl ?_
  refine E4 1 2 5 9 rfl (zd rfl (Sr (Om rfl (Oa rfl (E1 4 rfl (zi ?_))))))
  repeat first | refine tr ?_ | refine br ?_
  refine zC rfl rfl ?_
  exact ⟨rfl, c2.trans c7⟩
 | true =>
  refine za ?_
  refine Og (zg zbs zbm rfl rfl (zz.of_blk0 k2)) rfl ?_
  refine Oc znG rfl rfl rfl (ze9 c k u s _ (hs.chg0 c2) hm) ?_
  rintro v7 w7 ⟨h7, c7⟩
  rw [hr] at h7
  change v7 = Ii 0 at h7
  subst h7
  refine Oa rfl (E3 1 2 5 rfl (Sr (Om rfl ?_)))
  refine Og (vf (zT rfl rfl) (zcx (by omega))) rfl ?_
  refine E4 1 2 5 9 rfl (zb rfl (zm (ze ?_)))
  have hc7 := c2.trans c7
  refine za ?_
  refine Og (zg zbs zbm rfl rfl (zz.of_blk0 (k2.chg0 c7))) rfl ?_
  refine Om rfl ?_
  refine Oc zwr rfl rfl rfl (zwY c k u v s l _ (hs.chg0 hc7) (z9.chg0 hl hc7) hg hn hm.cols) ?_
  rintro v13 w13 ⟨h13, c13⟩
  refine Oc zwD rfl rfl rfl (ztU _ _ _ (hE.chg0 (hc7.trans c13)) h13.weak) ?_
  rintro v14 w14 ⟨rfl, c14⟩
  refine Oa rfl (E1 4 rfl (zi ?_))
  refine zC rfl rfl ?_
  exact ⟨by simp, (hc7.trans c13).trans c14⟩
theorem ziY {row : List zO} {st : List Int} {j : Nat} {i : Int} (h : st[j]? = some i) : zX row (st.take (j + 1)) = zX row (st.take j) ++ [zcl row i] := by
 rw [zdY, zdY, List.take_add_one, h, List.map_append]
 rfl
theorem z9.push {α : Type} {w : World} {e k : Nat} {f : α → List Value} {v : Value} {l : List α} {x : α} {n : Nat} {xs : List Value} (h : zv w e k v n xs) (hn : n = l.length + 1) (hx : xs = fl f l ++ f x) : yr w e k f v (l ++ [x]) := by
 subst hn hx
 unfold yr
 rw [List.length_append, znZ, show fl f [x] = f x by simp [fl]]
 exact h
theorem zeB (row : List zO) (st : List Int) : (zX row st).length = st.length := by simp [zX]
theorem zs0 (v vi : Value) (row : List zO) (st : List Int) (w : World) (hv : zI w v row) (hi : yE w vi st) (hr : ∀ i ∈ st, 0 ≤ i ∧ i < row.length) (hn : row.length ≤ 1048576) (hn' : st.length ≤ 1048576) :
 z6 TP 92 #[v, vi] w fun r w' => ∃ u, r = .tuple #[u, Ii 0] ∧ zI w' u (zX row st) ∧ (∀ b ∈ zn u, w.heap.size ≤ b) ∧ zj [] w w' := by
 obtain ⟨pi, ci, rfl, hci⟩ := z9.val hi
 refine A2 Tryz.func92 rfl rfl ?_
 refine Sr (Oa rfl (Oa rfl (E2 0 1 rfl (Sr (Oa rfl (E3 0 1 6 rfl (ze (Sr (Om rfl (On zal rfl ?_))))))))))
 refine Om rfl (E5 0 6 9 10 11 rfl (zq ?_))
 refine zZ [0, 6, 9, 10, 11] (fun m F wx => ∃ (j : Nat) (u : Value), m = st.length - j ∧ j ≤ st.length ∧ F = [(0, v), (6, u), (9, .slice pi st.length ci), (10, Ii st.length), (11, Ii j)] ∧ yr wx 40 4 zO.cs u (zX row (st.take j)) ∧ (∀ b ∈ zn u, w.heap.size ≤ b) ∧ zj [] w wx) (m := st.length - 0) ⟨0, _, rfl, Nat.zero_le _, rfl, yr.nil _ _ _ _, by simp [zn], zj.refl _ _⟩ ?_
 rintro m F wx ⟨j, u, rfl, hj, rfl, hu, hfu, hcx⟩
 have hvx := z9.chg0 hv hcx
 refine Sr (Og (zB rfl rfl) rfl (E6 0 6 9 10 11 12 rfl (ze ?_)))
 refine zR rfl (fun hT => ?_) (fun hF => ?_)
 ·refine zm ?_
  have hlt : j < st.length := by have := of_decide_eq_true hT; omega
  have hx : st[j]? = some st[j] := by simp [hlt]
  generalize st[j] = i at hx
  have hri := hr i (List.mem_of_getElem? hx)
  obtain ⟨i, rfl⟩ : ∃ k : Nat, i = (k : Int) := ⟨i.toNat, by omega⟩
  obtain ⟨bi, oi, cap, hve, hcell⟩ := yE.cell (z9.chg0 hi hcx) hx
  cases hve
  have hir : i < row.length := by omega
  have hxv : row[i]? = some row[i] := by simp [hir]
  have hat : zcl row (i : Int) = row[i] := by unfold zcl; rw [Int.toNat_natCast, hxv]; rfl
  generalize row[i] = x at hxv hat
  obtain ⟨bv, ov, cv, hve, hcv⟩ := z9.at zbe hvx hxv
  subst hve
  refine ze (zq (Sr ?_))
  refine Og (zf zal sz3 rfl rfl _ rfl hlt) rfl ?_
  refine Ol ag3 rfl hcell ?_
  refine Oa rfl (E6 0 6 8 9 10 11 rfl (ze (Sr (Om rfl ?_))))
  refine Og (vf (zB rfl rfl) (decide_eq_false (by omega))) rfl ?_
  refine Om rfl (Oj rfl rfl (Oj rfl rfl ?_))
  refine Oy rfl rfl (yc zak rfl) ?_
  refine Oy rfl rfl (vf (yn rfl rfl) (decide_eq_false (by omega))) ?_
  refine Of rfl (E7 0 6 8 9 10 11 22 rfl (zb rfl (zm ?_)))
  have hl : (zX row (st.take j)).length = j := by rw [zeB, List.length_take]; omega
  refine za (Om rfl (Om rfl (Om rfl ?_)))
  refine Og (zf zak y4 rfl rfl _ rfl hir) rfl ?_
  refine Og (zg zbd y4 rfl rfl hcv) rfl ?_
  refine zD (gn rfl) (zy zg6 rfl (vs := [_]) rfl (css := [_]) ⟨rfl, trivial⟩ rfl rfl (cs := [_, _, _, _]) rfl rfl ?_)
  intro b28 w28 e28 n28 c28 k28
  refine zD (gn rfl) (yq zg6 zak rfl rfl (zv.chg0 hu c28) (zv.of_blk (n := 1) k28 rfl (by simp [maxLen]) (zO.one x)) (by rw [hl]; simp only [maxLen]; omega) (by rw [hl]; omega) rfl ?_)
  intro v29 w29 i29 c29 o29 z29
  refine Oa rfl (N5 0 6 9 10 11 rfl (zk (za ?_)))
  refine Og (zH rfl rfl (by omega)) rfl ?_
  refine Om rfl (N5 0 6 9 10 11 rfl ?_)
  have hsz := hcx.size
  have hs28 := c28.size
  refine ⟨st.length - (j + 1), by omega, j + 1, v29, rfl, by omega, rfl, ?_, yy o29 hfu (by omega), ?_⟩
  ·rw [ziY hx, hat]
   exact z9.push i29 rfl rfl
  exact (hcx.trans c28).own c29 hfu
 refine zL ?_
 repeat first | refine te ?_ | refine bo rfl ?_
 refine zt _ ?_
 have he : st.length ≤ j := by have := of_decide_eq_false hF; omega
 refine Sr (Om rfl (Oa rfl (Oa rfl (E2 4 5 rfl (zi ?_)))))
 refine zaO rfl rfl rfl ?_
 rw [List.take_of_length_le he] at hu
 exact ⟨u, rfl, hu.arr, hfu, hcx⟩
theorem zt5 (x y : Col) : zdU [1, 0, 0, 2] x.cs y.cs = some (decide (x = y)) := by
 obtain ⟨n, t, s, z⟩ := x
 obtain ⟨n', t', s', z'⟩ := y
 simp only [Col.cs, zdU, zkh, if_true, Option.some.injEq, Col.mk.injEq]
 rw [Bool.eq_iff_iff]
 simp
theorem zqV (v : Value) (l : List Int) (w : World) (h : yE w v l) (hn : l.length ≤ 1048576) : z6 TP 78 #[v] w fun r w' => yr w' 3 1 ics r l ∧ (∀ b ∈ zn r, w.heap.size ≤ b) ∧ zj [] w w' := by
 obtain ⟨p, c, rfl, _⟩ := z9.val h
 refine A1 Tryz.func78 rfl rfl ?_
 refine Sr (Oa rfl (E1 0 rfl (ze (Sr (Om rfl ?_)))))
 refine Og (zi9 zal rfl rfl) rfl ?_
 refine E2 0 4 rfl ?_
 refine zR rfl (fun hT => ?_) (fun hF => ?_)
 ·refine Sr (Oa rfl (E1 2 rfl (zi ?_)))
  refine za4 ?_
  refine zC rfl rfl ?_
  obtain ⟨p', cap, he, _, _, _, _, h6⟩ := h
  simp only [Value.slice.injEq] at he
  obtain ⟨rfl, _, _⟩ := he
  have h2 : l.length = 0 := by
   rcases Nat.eq_zero_or_pos l.length with h0 | h0
   ·exact h0
   obtain ⟨b, off, rfl, _⟩ := h6 h0
   simp at hT
  have : l = [] := List.length_eq_zero_iff.1 h2
  subst this
  exact ⟨yr.nil _ _ _ _, by simp [zn], zj.refl _ _⟩
 refine zm (Sr ?_)
 refine zD (gn rfl) (zy zqU rfl (vs := []) rfl (css := []) trivial rfl rfl (cs := []) rfl rfl ?_)
 intro b5 w5 e5 n5 c5 k5
 refine Om rfl ?_
 refine zD (gn rfl) (zcM zqU zal rfl rfl (zv.of_blk (n := 0) k5 (by simp) (by simp [maxLen]) (by simp)) (Rd.chg0 h c5) (by simp only [maxLen]; omega) (by omega) rfl ?_)
 intro v7 w7 i7 c7 o7 z7
 refine Oa rfl (E1 2 rfl (zi ?_))
 refine zC rfl rfl ?_
 refine ⟨by unfold yr; simpa using i7, ?_, c5.own c7 (by simp [zn, ← e5])⟩
 rcases o7 with o7 | ⟨b, o7, hb⟩
 ·rw [o7]; simp [zn, ← e5]
 rw [o7]; intro x hx; simp at hx; subst hx; have := c5.size; omega
def zcJ (w : World) (v : Value) (l : List UInt8) : Prop := zv w 5 1 v l.length (bv l)
theorem zmC {n : Nat} (h : n < 9223372036854775808) : n ^^^ 9223372036854775808 = n + 9223372036854775808 := by
 have e : (9223372036854775808 : Nat) = 2 ^ 63 := by decide
 rw [e] at *
 apply Nat.eq_of_testBit_eq
 intro j
 rw [Nat.testBit_xor, Nat.testBit_two_pow, Nat.add_comm]
 rcases Nat.lt_trichotomy j 63 with hj | hj | hj
 ·rw [Nat.testBit_two_pow_add_gt hj, decide_eq_false (by omega), Bool.xor_false]
 ·subst hj
  rw [Nat.testBit_two_pow_add_eq, decide_eq_true rfl, Bool.xor_true]
 have p1 : (2 : Nat) ^ 64 ≤ 2 ^ j := Nat.pow_le_pow_right (by decide) hj
 have h1 : (2 ^ 63 + n).testBit j = false := Nat.testBit_lt_two_pow (by simp only [Nat.reducePow] at h p1 ⊢; omega)
 have h2 : n.testBit j = false := Nat.testBit_lt_two_pow (by simp only [Nat.reducePow] at h p1 ⊢; omega)
 rw [h1, h2, decide_eq_false (by omega)]
 rfl
theorem zoD {n : Nat} (h : n < 9223372036854775808) : (n + 9223372036854775808) ^^^ 9223372036854775808 = n := by
 rw [← zmC h, Nat.xor_assoc, Nat.xor_self, Nat.xor_zero]
theorem zkZ {i : Int} (h : -9223372036854775808 ≤ i ∧ i ≤ 9223372036854775807) : (i % 18446744073709551616).toNat ^^^ 9223372036854775808 = (i + 9223372036854775808).toNat := by
 rcases Int.lt_or_le i 0 with h0 | h0
 ·have e : (i % 18446744073709551616).toNat = (i + 9223372036854775808).toNat + 9223372036854775808 := by omega
  rw [e, zoD (by omega)]
 have e : (i % 18446744073709551616).toNat = i.toNat := by omega
 rw [e, zmC (by omega)]
 omega
theorem zox (i : Int) (w : World) (h : -9223372036854775808 ≤ i ∧ i ≤ 9223372036854775807) : z6 TP 193 #[Ii i] w fun r w' => r = .int .u64 ((i + 9223372036854775808).toNat : Nat) ∧ w' = w := by
 refine A1 Tryz.func193 rfl rfl ?_
 refine Sr (Oa rfl (E1 0 rfl (Sr (Om rfl ?_))))
 refine Og (yo zbj zdD rfl (show IntKind.u64.wrap i = (((i % 18446744073709551616).toNat : Nat) : Int) by rw [zb7]; omega)) rfl ?_
 refine Og (zkP (b := 9223372036854775808) rfl rfl (by omega) (by decide)) rfl ?_
 refine Oa rfl (E1 2 rfl (zi ?_))
 refine zC rfl rfl ?_
 exact ⟨by rw [zkZ h], rfl⟩
def zfv (x : zO) : List UInt8 := if x.k = 1 then be (x.i + 9223372036854775808).toNat 8 else if x.k = 2 then zb1 x.u else if x.k = 3 then [UInt8.ofNat x.i.toNat] else if x.k = 4 then zc5 x.b.data.toList else []
theorem zmi (x : zO) : zdB x = UInt8.ofNat x.k.toNat :: zfv x := rfl
def zoi : List (Int × Value) := [(0, zep 189 190), (1, zep 191 194), (2, zep 197 199), (3, zep 202 203), (4, zep 204 205)]
theorem zqb (w : World) : z6 TP 144 #[] w fun r w' => ∃ b, r = .map (some b) ∧ w.heap.size ≤ b ∧ y8 (zbn .i64) w' b zoi ∧ zj [] w w' := by
 refine z6.of_W (args := []) Tryz.func144 rfl rfl rfl rfl ?_
 refine Sr (Oa rfl (zaV [] (F' := []) rfl (Sr ?_)))
 refine zD (gn rfl) (zcU (zbn .i64) rfl ?_)
 intro b1 w1 e1 n1 c1 k1
 refine Og (z0 zky ziS rfl (vs := [_, _]) rfl (css := [_, _]) ⟨rfl, rfl, trivial⟩ rfl rfl (cs := [_, _]) rfl) rfl ?_
 refine zD (gn rfl) (zaM (κ := zbn .i64) zim (yp zaK) rfl rfl rfl k1 ?_)
 intro wA nA cA kA
 refine Og (z0 zky ziS rfl (vs := [_, _]) rfl (css := [_, _]) ⟨rfl, rfl, trivial⟩ rfl rfl (cs := [_, _]) rfl) rfl ?_
 refine zD (gn rfl) (zaM (κ := zbn .i64) zim (yp zaK) rfl rfl rfl kA ?_)
 intro wB nB cB kB
 refine Og (z0 zky ziS rfl (vs := [_, _]) rfl (css := [_, _]) ⟨rfl, rfl, trivial⟩ rfl rfl (cs := [_, _]) rfl) rfl ?_
 refine zD (gn rfl) (zaM (κ := zbn .i64) zim (yp zaK) rfl rfl rfl kB ?_)
 intro wC nC cC kC
 refine Og (z0 zky ziS rfl (vs := [_, _]) rfl (css := [_, _]) ⟨rfl, rfl, trivial⟩ rfl rfl (cs := [_, _]) rfl) rfl ?_
 refine zD (gn rfl) (zaM (κ := zbn .i64) zim (yp zaK) rfl rfl rfl kC ?_)
 intro wD nD cD kD
 refine Og (z0 zky ziS rfl (vs := [_, _]) rfl (css := [_, _]) ⟨rfl, rfl, trivial⟩ rfl rfl (cs := [_, _]) rfl) rfl ?_
 refine zD (gn rfl) (zaM (κ := zbn .i64) zim (yp zaK) rfl rfl rfl kD ?_)
 intro wE nE cE kE
 refine Om rfl (Oa rfl (E1 0 rfl (zi ?_)))
 refine zC rfl rfl ?_
 exact ⟨b1, rfl, by omega, kE, c1.own (((((cA.transS cB).transS cC).transS cD).transS cE)) (by intro x hx; simp at hx; omega)⟩
theorem zte (x : zO) (w : World) : z6 TP 189 #[x.v] w fun r w' => zcJ w' r [] ∧ (∀ b ∈ zn r, w.heap.size ≤ b) ∧ zj [] w w' := by
 refine A1 Tryz.func189 rfl rfl ?_
 refine Sr ?_
 refine Ob rfl rfl ?_
 intro b1 w1 e1 n1 c1 k1
 refine Oa rfl (zaV [] (F' := []) rfl (Sr (Oa rfl (E1 2 rfl (zi ?_)))))
 refine zC rfl rfl ?_
 exact ⟨zv.nil _ _ _, by simp [zn], c1⟩
theorem zsr (x : zO) (w : World) (hx : x.Rng) : z6 TP 191 #[x.v] w fun r w' => zcJ w' r (be (x.i + 9223372036854775808).toNat 8) ∧ (∀ b ∈ zn r, w.heap.size ≤ b) ∧ zj [] w w' := by
 have hi := hx.i
 refine A1 Tryz.func191 rfl rfl ?_
 refine Sr ?_
 refine Ob rfl rfl ?_
 intro b1 w1 e1 n1 c1 k1
 refine Oa rfl (E1 1 rfl (Sr (Od yW rfl ?_)))
 refine Ol ag2 rfl (k1.cell' rfl) ?_
 refine Oc zu6 rfl rfl rfl (zox x.i _ hi) ?_
 rintro v8 w8 ⟨rfl, rfl⟩
 refine Oc zru rfl rfl rfl (zmO _ 8 _ (by omega) (by decide) (by simp only [Nat.reducePow]; omega)) ?_
 rintro v9 w9 ⟨v9, rfl, i9, f9, c9⟩
 refine Om rfl (Oe rfl rfl (Oe rfl rfl (Oa rfl (Oa rfl (E1 3 rfl (Sr (Om rfl (Oa rfl (E1 2 rfl (zi ?_))))))))))
 refine zC rfl rfl ?_
 have hs := c1.size
 exact ⟨by unfold zcJ; rw [za3]; exact i9, fun b hb => Nat.le_trans hs (f9 b hb), c1.trans c9⟩
theorem ztW (x : zO) (w : World) (hx : x.Rng) : z6 TP 197 #[x.v] w fun r w' => zcJ w' r (zb1 x.u) ∧ (∀ b ∈ zn r, w.heap.size ≤ b) ∧ zj [] w w' := by
 refine A1 Tryz.func197 rfl rfl ?_
 refine Sr ?_
 refine Ob rfl rfl ?_
 intro b1 w1 e1 n1 c1 k1
 refine Oa rfl (E1 1 rfl (Sr (Od zaR rfl ?_)))
 refine Ol zcW rfl (k1.cell' rfl) ?_
 refine Oc zr1 rfl rfl rfl (zjQ x.u _ hx.u) ?_
 rintro v5 w5 ⟨i5, f5, c5⟩
 refine Oa rfl (E1 2 rfl (zi ?_))
 refine zC rfl rfl ?_
 have hs := c1.size
 exact ⟨i5, fun b hb => Nat.le_trans hs (f5 b hb), c1.trans c5⟩
theorem zsK (x : zO) (w : World) (hx : x.i = 0 ∨ x.i = 1) : z6 TP 202 #[x.v] w fun r w' => zcJ w' r [UInt8.ofNat x.i.toNat] ∧ (∀ b ∈ zn r, w.heap.size ≤ b) ∧ zj [] w w' := by
 refine A1 Tryz.func202 rfl rfl ?_
 refine Sr ?_
 refine Ob rfl rfl ?_
 intro b1 w1 e1 n1 c1 k1
 refine Oa rfl (E1 1 rfl (Sr (Od yW rfl ?_)))
 refine Ol ag2 rfl (k1.cell' rfl) ?_
 refine Og (yo zas zdD rfl (show IntKind.u8.wrap x.i = (((UInt8.ofNat x.i.toNat).toNat : Nat) : Int) by rcases hx with h | h <;> rw [h] <;> rfl)) rfl ?_
 refine zD (gn rfl) (zy zaF rfl (vs := [_]) rfl (css := [_]) ⟨rfl, trivial⟩ rfl rfl (cs := [_]) rfl rfl ?_)
 intro b6 w6 e6 n6 c6 k6
 refine Oa rfl (E1 2 rfl (zi ?_))
 refine zC rfl rfl ?_
 have hs := c1.size
 exact ⟨zv.of_blk (n := 1) k6 rfl (by simp [maxLen]) (zbZ _), by intro b hb; simp [zn] at hb; omega, c1.trans c6⟩
def chN (len j : Nat) : Nat := min 8 (len - 8 * j)
def chV (b len j : Nat) : Value := cut (some ⟨b, 0, none⟩) (8 * j) (8 * j + chN len j) (8 * j + chN len j) 1
theorem zqC (v : Value) (w : World) : z6 TP 252 #[v, Ii 8] w fun r w' => ∃ b2 b3, r = .func (.func 269) #[] #[Pt b2, Pt b3] ∧ zS w' b2 132 v.cells.toList ∧ zS w' b3 3 [Ii 8] ∧ w.heap.size ≤ b2 ∧ w.heap.size ≤ b3 ∧ zj [] w w' := by
 refine A2 Tryz.func252 rfl rfl ?_
 refine Sr ?_
 refine Ob rfl rfl ?_
 intro b2 w2 e2 n2 c2 k2
 refine Ob rfl rfl ?_
 intro b3 w3 e3 n3 c3 k3
 refine Oa rfl (E2 2 3 rfl (ze (Sr ?_)))
 refine Ol ag3 rfl (k3.cell' rfl) ?_
 refine Og (vf (zB rfl rfl) (decide_eq_false (by omega))) rfl ?_
 refine E3 2 3 6 rfl (zb rfl (zm (Sr ?_)))
 refine Og (zbg rfl rfl) rfl ?_
 refine Oa rfl (E1 4 rfl (zi ?_))
 refine zC rfl rfl ?_
 have hs := c2.size
 exact ⟨b2, b3, rfl, k2.chg0 c3, k3, by omega, by omega, c2.trans c3⟩
theorem zvy (w : World) (b2 b3 b len cap : Nat) (S0 : List Nat) (keep : TypeId → Bool) (h2 : zS w b2 132 [.slice (some ⟨b, 0, none⟩) len cap]) (h3 : zS w b3 3 [Ii 8]) (hl : len ≤ cap) (hn : len ≤ 1048576) (k2 : b2 ∉ S0) (k3 : b3 ∉ S0) :
 znD TP 269 #[Pt b2, Pt b3] (fun j : Nat => #[chV b len j]) S0 keep (fun j _ => 8 * j < len) (fun xs _ => xs = List.range ((len + 7) / 8)) (fun _ _ => True) ((len + 7) / 8) w := by
 intro l J Jx W hcw hJ hJx hY h0
 have hab : ∀ {pre : List Nat} {W1 W2 : World}, zj [] W1 W2 → J pre W1 → J pre W2 := fun hc hj => hJ _ _ _ none hj hc.grown0 (fun _ e => by cases e)
 have f2 : ∀ {W1 : World}, Kp S0 w.heap.size w W1 → zS W1 b2 132 [.slice (some ⟨b, 0, none⟩) len cap] := fun hk => (hk.2 b2 h2.lt k2).trans h2
 have f3 : ∀ {W1 : World}, Kp S0 w.heap.size w W1 → zS W1 b3 3 [Ii 8] := fun hk => (hk.2 b3 h3.lt k3).trans h3
 have hkw : Kp S0 w.heap.size w W := ⟨hcw.size, fun k hk _ => hcw.block k hk (by simp)⟩
 have hmono : ∀ {W1 W2 : World}, Kp S0 w.heap.size w W1 → zj [] W1 W2 → Kp S0 w.heap.size w W2 := fun hk hc => ⟨Nat.le_trans hk.1 hc.size, fun k hlt hn => (hc.block k (Nat.lt_of_lt_of_le hlt hk.1) (by simp)).trans (hk.2 k hlt hn)⟩
 refine CallsIn.mono (R := fun e W' => ∃ u, e = .returned u ∧ (fun (_ : Value) W' => (∃ xs, xs = List.range ((len + 7) / 8) ∧ J xs W') ∨ (∃ pre, True ∧ Jx pre W')) u W') ?_ (fun e W' ⟨u, he, h⟩ => ⟨⟨u, he⟩, h⟩)
 refine CallsIn.of_WX (args := [_, _, _]) Tryz.func269 rfl rfl rfl rfl (zg9 ?_)
 refine Sr (Oa rfl (E4 0 1 2 4 rfl (zq ?_)))
 refine zZ [0, 1, 2, 4] (fun m F wx => ∃ j : Nat, m = (len + 7) / 8 - j ∧ j ≤ (len + 7) / 8 ∧ F = [(0, .func (.yield l) #[] #[]), (1, Pt b2), (2, Pt b3), (4, Ii (8 * j : Nat))] ∧ Kp S0 w.heap.size w wx ∧ J (List.range j) wx) (m := (len + 7) / 8 - 0) ⟨0, rfl, Nat.zero_le _, rfl, hkw, h0⟩ ?_
 rintro m F wx ⟨j, rfl, hj, rfl, hkx, hJx0⟩
 refine ze (Sr (Om rfl ?_))
 refine Ol zfO rfl ((f2 hkx).cell' rfl) ?_
 refine On yR rfl (Og (zB rfl rfl) rfl (E5 0 1 2 4 9 rfl ?_))
 refine zR rfl (fun hT => ?_) (fun hF => ?_)
 ·refine zm ?_
  have hlt : 8 * j < len := by have := of_decide_eq_true hT; omega
  refine ze (zq (ze ?_))
  have hd : zj [] wx wx.drew := zj.drew [] _
  refine zJ (fun wz => zj [] wx wz) mix (by kernel_rfl) hd ?_
  refine Tr (fun wz hz => zh ag3 rfl ((f3 (hmono hkx hz)).cell' rfl)) rfl ?_
  refine Tr (fun wz hz => zh zfO rfl ((f2 (hmono hkx hz)).cell' rfl)) rfl ?_
  refine Tm rfl ?_
  refine Tp (fun _ => zaL yR sz5 rfl rfl _ rfl (show 8 * j ≤ len by omega)) rfl ?_
  refine Tp (fun _ => yc yR rfl) rfl ?_
  refine Tp (fun _ => zlY rfl rfl) rfl ?_
  refine Ta rfl (D5 0 1 2 4 5 rfl ?_)
  have hmin : (if ((len - 8 * j : Nat) : Int) < 8 then ((len - 8 * j : Nat) : Int) else 8) = ((chN len j : Nat) : Int) := by unfold chN; split <;> omega
  rw [hmin]
  have hkd := hmono hkx hd
  have hch : 8 * j + chN len j ≤ len := by unfold chN; omega
  have hch0 : chN len j ≤ 8 := by unfold chN; omega
  have hy := hY (List.range j) j wx.drew (hab hd hJx0) hlt (by rw [List.length_range]; omega)
  refine ze ?_
  refine ze2 ?_
  refine Xm rfl ?_
  refine yQ (gn rfl) rfl (St.vl (zh zfO rfl ((f2 hkd).cell' rfl)) rfl rfl ?_)
  refine Xm rfl (Xm rfl (Xm rfl ?_))
  refine yQ (gn rfl) rfl (St.vl (yA (v' := Ii ((8 * j + chN len j : Nat) : Int)) (zH rfl rfl (by omega)) (by congr 1)) rfl rfl ?_)
  refine Xm rfl (Xm rfl ?_)
  refine yQ (gn rfl) rfl (St.vl (yA (v' := Ii ((8 * j + chN len j : Nat) : Int)) (zH rfl rfl (by omega)) (by congr 1)) rfl rfl ?_)
  refine yQ (gn rfl) rfl (St.vl (zeb yR sz5 rfl rfl rfl rfl _ _ _ rfl rfl rfl (by omega) (Nat.le_refl _) (by omega)) rfl rfl ?_)
  refine zfF (gn rfl) rfl rfl rfl hy ?_
  rintro v29 w29 hR29
  obtain ⟨b29, rfl, hb29⟩ := yb hR29
  refine ⟨_, rfl, ?_⟩
  refine yQ (gn rfl) rfl (St.vl (zU rfl) rfl rfl ?_)
  refine zcu [0, 1, 2, 4, 30] (F' := [(0, _), (1, _), (2, _), (4, _), (30, _)]) rfl ?_
  rcases hb29 with ⟨rfl, hJ29, hk29⟩ | ⟨rfl, hJ29⟩
  ·refine zb rfl (yf (zk ?_))
   have hkf : Kp S0 w.heap.size w w29 := hkd.trans hk29.kp
   refine za (Om rfl ?_)
   refine Ol ag3 rfl ((f3 hkf).cell' rfl) ?_
   refine Og (yA (v' := Ii ((8 * (j + 1) : Nat) : Int)) (zH rfl rfl (by omega)) (by congr 1)) rfl ?_
   refine Oa rfl (N4 0 1 2 4 rfl ?_)
   refine ⟨(len + 7) / 8 - (j + 1), by omega, j + 1, rfl, by omega, rfl, hkf, ?_⟩
   rw [List.range_succ]
   exact hJ29
  refine zd rfl (zi ?_)
  repeat first | refine tr ?_ | refine br ?_
  refine zpg rfl ?_
  exact .inr ⟨_, trivial, hJ29⟩
 refine zL ?_
 repeat first | refine te ?_ | refine bo rfl ?_
 refine zt _ ?_
 refine zgf rfl ?_
 have he : j = (len + 7) / 8 := by have := of_decide_eq_false hF; omega
 subst he
 exact .inl ⟨_, rfl, hJx0⟩
end Go.Wk
