/- joined texts -/
import Derived.Test.YtcnkdoecfljnlaaGreatDoorY6
set_option linter.all false
namespace Go.Wk
open Go.Proofs
set_option maxRecDepth 10000
theorem zhI {l : List Int} {n : Nat} (h : ¬ (1 ≤ l.length ∧ l.length ≤ 4)) : zc9 l n = false := by simp only [zc9, decide_eq_false h, Bool.false_and]
theorem zgq {l : List Int} {n j : Nat} {x : Int} (hx : l[j]? = some x) (h : ¬ (0 ≤ x ∧ x < n) ∨ x ∈ l.take j) : zc9 l n = false := by
 cases hs : zc9 l n with
 | false => rfl
 | true =>
  obtain ⟨_, h2, h3⟩ := zax hs
  rcases h with h | h
  ·exact absurd (h2 x (List.mem_of_getElem? hx)) h
  exfalso
  obtain ⟨i, hi⟩ := List.mem_iff_getElem?.1 h
  have hil := (List.getElem?_eq_some_iff.1 hi).1
  rw [List.length_take] at hil
  rw [List.getElem?_take_of_lt (by omega)] at hi
  obtain ⟨hi', ei⟩ := List.getElem?_eq_some_iff.1 hi
  obtain ⟨hj', ej⟩ := List.getElem?_eq_some_iff.1 hx
  exact List.pairwise_iff_getElem.1 h3 i j hi' hj' (by omega) (ei.trans ej.symm)
theorem zmj {l : List Int} {x : Int} (h : l.Nodup) (hx : x ∉ l) : (l ++ [x]).Nodup := by
 unfold List.Nodup at *
 rw [List.pairwise_append]
 exact ⟨h, List.pairwise_singleton _ _, fun a ha b hb => by simp at hb; subst hb; rintro rfl; exact hx ha⟩
theorem zpw (c k u v : Value) (n : Nat) (l : List Int) (w : World) (hc : ∃ p d, c = .slice p n d) (ho : ∀ x ∈ [c, k, u], x.oneCell' = true) (hv : yC w v l) (hn : l.length ≤ 1048576) (hn' : n ≤ 1048576) :
 z9 TP 111 #[.agg #[c, k, u], v] w fun r w' => r = .bool (zc9 l n) ∧ zk [] w w' := by
 obtain ⟨pc, dc, rfl⟩ := hc
 obtain ⟨pv, cv, rfl, hle⟩ := z0.val hv
 refine A2 Tryz.func111 rfl rfl ?_
 refine Sr ?_
 refine Ob rfl rfl ?_
 intro b2 w2 e2 n2 c2 k2
 refine Oa rfl (E2 1 2 rfl ?_)
 have hv2 := z0.chg0 hv c2
 refine ze (ze ?_)
 by_cases h1 : 1 ≤ l.length
 ·by_cases h4 : l.length ≤ 4
  ·refine za (Om rfl (On zab rfl ?_))
   refine Og (vf (zC rfl rfl) (decide_eq_false (by omega))) rfl ?_
   refine Om rfl (Oj rfl rfl ?_)
   refine Oy rfl rfl (yc zab rfl) ?_
   refine Oy rfl rfl (vf (yg rfl rfl) (decide_eq_false (by omega))) ?_
   refine Of rfl (E3 1 2 14 rfl (zb rfl (zm (ze (Sr (Om rfl (On zab rfl (Om rfl (E5 1 2 15 16 17 rfl (zq ?_))))))))))
   refine zW [1, 2, 15, 16, 17] (fun m F wx => wx = w2 ∧ ∃ j : Nat, m = l.length - j ∧ j ≤ l.length ∧ F = [(1, .slice pv l.length cv), (2, Pt b2), (15, .slice pv l.length cv), (16, Ii l.length), (17, Ii j)] ∧ (∀ x ∈ l.take j, 0 ≤ x ∧ x < n) ∧ (l.take j).Nodup) (m := l.length - 0) ⟨rfl, 0, rfl, Nat.zero_le _, rfl, by simp, by simp⟩ ?_
   rintro m F wx ⟨hwx, j, rfl, hj, rfl, hall, hnd⟩
   subst wx
   refine Sr (Og (zC rfl rfl) rfl (E6 1 2 15 16 17 18 rfl (ze ?_)))
   refine zR rfl (fun hT => ?_) (fun hF => ?_)
   ·refine zm ?_
    have hlt : j < l.length := by have := of_decide_eq_true hT; omega
    have hx : l[j]? = some l[j] := by simp [hlt]
    generalize l[j] = x at hx
    obtain ⟨b, off, cap, hve, hcell⟩ := yC.cell hv2 hx
    cases hve
    refine ze (zq (Sr (Om rfl ?_)))
    refine Og (zf zab sz3 rfl rfl _ rfl hlt) rfl ?_
    refine Ol ag3 rfl hcell ?_
    refine Oa rfl (Oa rfl (E7 1 2 5 6 15 16 17 rfl (ze ?_)))
    by_cases h0 : x < 0
    ·refine za (Om rfl ?_)
     refine Og (vt (zC rfl rfl) (decide_eq_true (by omega))) rfl ?_
     refine Om rfl (Oz rfl rfl (Oz rfl rfl (Oz rfl rfl (Oz rfl rfl (Oz rfl rfl (Oz rfl rfl (Ot rfl (Om rfl (Oz rfl rfl (Oz rfl rfl (Oz rfl rfl (Oz rfl rfl (Oz rfl rfl ?_)))))))))))))
     refine Ot rfl (E6 1 2 15 16 17 38 rfl (zd rfl (Sr (Oa rfl (E1 4 rfl (zi ?_))))))
     repeat first | refine tr ?_ | refine br ?_
     refine zD rfl rfl ?_
     exact ⟨by rw [zgq hx (.inl (by omega))], c2⟩
    by_cases hxn : x < n
    ·refine za (Om rfl ?_)
     refine Og (vf (zC rfl rfl) (decide_eq_false (by omega))) rfl ?_
     refine Om rfl (Oj rfl rfl ?_)
     refine Oy rfl rfl (zj zau rfl) ?_
     refine Oy rfl rfl (zj yn rfl) ?_
     refine Oy rfl rfl (zh zav rfl (k2.cell' rfl)) ?_
     refine Oy rfl rfl (yc zaj rfl) ?_
     refine Oy rfl rfl (vf (yp rfl rfl) (decide_eq_false (by omega))) ?_
     refine Of rfl (Om rfl (Oj rfl rfl (Oj rfl rfl ?_)))
     refine Oy rfl rfl (zby zab sz3 rfl rfl _ rfl (by omega)) ?_
     refine Oj rfl rfl ?_
     refine Ow rfl rfl zxf rfl rfl rfl (zk6 _ (l.take j) x w2 (z0.take zev hv2 hj (by omega) (Nat.le_refl _)) (by rw [List.length_take]; omega)) ?_
     rintro v37 w37 ⟨rfl, rfl⟩
     refine Of rfl (E6 1 2 15 16 17 38 rfl ?_)
     refine zR rfl (fun hM => ?_) (fun hM => ?_)
     ·have hm : x ∈ l.take j := of_decide_eq_true hM
      refine Sr (Oa rfl (E1 4 rfl (zi ?_)))
      repeat first | refine tr ?_ | refine br ?_
      refine zD rfl rfl ?_
      exact ⟨by rw [zgq hx (.inr hm)], c2⟩
     have hm : x ∉ l.take j := of_decide_eq_false hM
     refine ye (zl (za ?_))
     refine Og (zI rfl rfl (by omega)) rfl ?_
     refine Om rfl (N5 1 2 15 16 17 rfl ?_)
     refine ⟨l.length - (j + 1), by omega, rfl, j + 1, rfl, by omega, rfl, ?_, ?_⟩
     ·intro y hy
      rw [List.take_add_one, hx] at hy
      rcases List.mem_append.1 hy with hy | hy
      ·exact hall y hy
      simp at hy; subst hy; omega
     rw [List.take_add_one, hx]
     exact zmj hnd hm
    refine za (Om rfl ?_)
    refine Og (vf (zC rfl rfl) (decide_eq_false (by omega))) rfl ?_
    refine Om rfl (Oj rfl rfl ?_)
    refine Oy rfl rfl (zj zau rfl) ?_
    refine Oy rfl rfl (zj yn rfl) ?_
    refine Oy rfl rfl (zh zav rfl (k2.cell' rfl)) ?_
    refine Oy rfl rfl (yc zaj rfl) ?_
    refine Oy rfl rfl (vt (yp rfl rfl) (decide_eq_true (by omega))) ?_
    refine Of rfl (Om rfl (Oz rfl rfl (Oz rfl rfl (Oz rfl rfl (Oz rfl rfl (Oz rfl rfl (Ot rfl (E6 1 2 15 16 17 38 rfl (zd rfl (Sr (Oa rfl (E1 4 rfl ?_))))))))))))
    refine zi ?_
    repeat first | refine tr ?_ | refine br ?_
    refine zD rfl rfl ?_
    exact ⟨by rw [zgq hx (.inl (by omega))], c2⟩
   refine zM ?_
   repeat first | refine te ?_ | refine bo rfl ?_
   refine zt _ ?_
   have he : l.length ≤ j := by have := of_decide_eq_false hF; omega
   refine Sr (Oa rfl (E1 4 rfl (zi ?_)))
   repeat first | refine tr ?_ | refine br ?_
   refine zD rfl rfl ?_
   rw [List.take_of_length_le he] at hall hnd
   refine ⟨?_, c2⟩
   congr 1
   simp only [zc9, Bool.and_eq_true, decide_eq_true_eq, List.all_eq_true, eq_comm (a := true)]
   exact ⟨⟨⟨h1, h4⟩, hall⟩, hnd⟩
  refine za (Om rfl (On zab rfl ?_))
  refine Og (vf (zC rfl rfl) (decide_eq_false (by omega))) rfl ?_
  refine Om rfl (Oj rfl rfl ?_)
  refine Oy rfl rfl (yc zab rfl) ?_
  refine Oy rfl rfl (vt (yg rfl rfl) (decide_eq_true (by omega))) ?_
  refine Of rfl (E3 1 2 14 rfl (zd rfl (Sr (Oa rfl (E1 4 rfl (zi ?_))))))
  repeat first | refine tr ?_ | refine br ?_
  refine zD rfl rfl ?_
  exact ⟨by rw [zhI (by omega)], c2⟩
 refine za (Om rfl (On zab rfl ?_))
 refine Og (vt (zC rfl rfl) (decide_eq_true (by omega))) rfl ?_
 refine Om rfl (Oz rfl rfl (Oz rfl rfl (Oz rfl rfl (Ot rfl (E3 1 2 14 rfl (zd rfl (Sr (Oa rfl (E1 4 rfl (zi ?_))))))))))
 repeat first | refine tr ?_ | refine br ?_
 refine zD rfl rfl ?_
 exact ⟨by rw [zhI (by omega)], c2⟩
theorem zvz (o c : Col) (b : Nat) (w : World) (hb : zU w b 25 c.cs) : z9 TP 114 #[o.v, Pt b] w fun r w' => r = .bool (decide (o.n = c.n)) ∧ zk [] w w' := by
 refine A2 Tryz.func114 rfl rfl ?_
 refine Sr ?_
 refine Ob rfl rfl ?_
 intro b2 w2 e2 n2 c2 k2
 refine Oa rfl (E2 1 2 rfl (Sr (Od zbO rfl ?_)))
 refine Ol ag9 rfl (k2.cell' rfl) ?_
 refine Od zbO rfl ?_
 refine Ol ag9 rfl ((hb.chg0 c2).cell' rfl) ?_
 refine Og (zjB rfl rfl) rfl ?_
 refine Oa rfl (E1 3 rfl (zi ?_))
 refine zD rfl rfl ?_
 exact ⟨rfl, c2⟩
theorem zsh (i : Int) (s : yo) (c k u : Value) (b : Nat) (w : World) (hb : zU w b 143 [c, k, u]) (hc : zgz w c s.cols) (hi : 0 ≤ i ∧ i < s.cols.length) : z9 TP 115 #[Ii i, Pt b] w fun r w' => r = .bool (zef s i).z ∧ zk [] w w' := by
 have hlt : i.toNat < s.cols.length := by omega
 have hx : s.cols[i.toNat]? = some s.cols[i.toNat] := by simp [hlt]
 unfold zef
 rw [hx]
 dsimp only [Option.getD_some]
 generalize s.cols[i.toNat] = x at hx
 obtain ⟨b', off, cap, rfl, hcell⟩ := z0.at zap hc hx
 refine A2 Tryz.func115 rfl rfl ?_
 refine Sr (Oa rfl (E2 0 1 rfl (ze ?_)))
 obtain ⟨i', rfl⟩ : ∃ i' : Nat, i = (i' : Int) := ⟨i.toNat, by omega⟩
 refine za (Od zau rfl (Od yn rfl ?_))
 refine Ol zav rfl (hb.cell' rfl) ?_
 refine Om rfl ?_
 refine Og (zf zaj zaT rfl rfl _ rfl (by omega)) rfl ?_
 refine Od zfQ rfl ?_
 refine Ol ag4 rfl (hcell 3 _ rfl) ?_
 refine Oa rfl (E1 3 rfl (zi ?_))
 refine zD rfl rfl ?_
 exact ⟨rfl, zk.refl _ _⟩
theorem zxt (v c k u : Value) (l : List Int) (n : Nat) (b : Nat) (w : World) (hb : zU w b 143 [c, k, u]) (hc : ∃ p d, c = .slice p n d) (ho : ∀ x ∈ [c, k, u], x.oneCell' = true) (hv : yC w v l) (hn : l.length ≤ 1048576) (hn' : n ≤ 1048576) :
 z9 TP 118 #[v, Pt b] w fun r w' => r = .bool (!zc9 l n) ∧ zk [] w w' := by
 refine A2 Tryz.func118 rfl rfl ?_
 refine Sr (Oa rfl (E2 0 1 rfl (Sr ?_)))
 refine Og (zg zpU zoz rfl rfl (zy.of_blk0 hb)) rfl ?_
 refine Om rfl ?_
 refine Oc zoH rfl rfl rfl (zpw c k u v n l _ hc ho hv hn hn') ?_
 rintro v6 w6 ⟨rfl, c6⟩
 refine Og (zO rfl) rfl (Oa rfl (E1 3 rfl (zi ?_)))
 refine zD rfl rfl ?_
 exact ⟨rfl, c6⟩
theorem ziE : ∀ (l : List Col), (l.map (·.n)).Nodup ↔ ∀ j x, l[j]? = some x → (l.take j).any (fun o => decide (o.n = x.n)) = false := by
 intro l
 constructor
 ·intro h j x hx
  rw [List.any_eq_false]
  intro o ho
  obtain ⟨i, hi⟩ := List.mem_iff_getElem?.1 ho
  have hil := (List.getElem?_eq_some_iff.1 hi).1
  rw [List.length_take] at hil
  rw [List.getElem?_take_of_lt (by omega)] at hi
  obtain ⟨hi', ei⟩ := List.getElem?_eq_some_iff.1 hi
  obtain ⟨hj', ej⟩ := List.getElem?_eq_some_iff.1 hx
  have := List.pairwise_iff_getElem.1 h i j (by simpa using hi') (by simpa using hj') (by omega)
  simp only [List.getElem_map, ei, ej] at this
  simpa using this
 intro h
 unfold List.Nodup
 rw [List.pairwise_iff_getElem]
 intro i j hi hj hij
 rw [List.length_map] at hi hj
 simp only [List.getElem_map]
 have := List.any_eq_false.1 (h j l[j] (by simp [hj])) l[i] (List.mem_iff_getElem?.2 ⟨i, by rw [List.getElem?_take_of_lt hij]; simp [hi]⟩)
 simpa using this
theorem zlm (s : yo) : yP s = (decide (1 ≤ s.cols.length) && decide (s.cols.length ≤ 8) && decide (s.uq.length ≤ 3) && zc9 s.key s.cols.length && (s.cols.all y7 && decide ((s.cols.map (·.n)).Nodup)) && (!(s.key.any fun i => (zef s i).z)) && !(s.uq.any fun l => !zc9 l s.cols.length)) := by
 rw [Bool.eq_iff_iff]
 simp only [yP, Bool.and_eq_true, decide_eq_true_eq, List.all_eq_true, Bool.not_eq_true', List.any_eq_false, Bool.not_eq_true, Bool.not_eq_false]
 constructor
 ·rintro ⟨⟨⟨⟨⟨⟨⟨h1, h2⟩, h3⟩, h4⟩, h5⟩, h6⟩, h7⟩, h8⟩
  exact ⟨⟨⟨⟨⟨⟨h1, h2⟩, h3⟩, h4⟩, h5, h6⟩, h7⟩, h8⟩
 rintro ⟨⟨⟨⟨⟨⟨h1, h2⟩, h3⟩, h4⟩, h5, h6⟩, h7⟩, h8⟩
 exact ⟨⟨⟨⟨⟨⟨⟨h1, h2⟩, h3⟩, h4⟩, h5⟩, h6⟩, h7⟩, h8⟩
structure yo.Sm (s : yo) : Prop where
 cols : s.cols.length ≤ 1048576
 key : s.key.length ≤ 1048576
 uq : s.uq.length ≤ 1048576
 each : ∀ l ∈ s.uq, l.length ≤ 1048576
set_option maxHeartbeats 1000000 in
theorem zkv (c k u : Value) (s : yo) (w : World) (hs : yO w c k u s) (hm : s.Sm) : z9 TP 75 #[.agg #[c, k, u]] w fun r w' => r = .bool (yP s) ∧ zk [] w w' := by
 obtain ⟨m1, m2, m3, m4⟩ := hm
 have ho := hs.one
 have hcv : ∃ p d, c = .slice p s.cols.length d := by obtain ⟨p, d, h, _⟩ := z0.val hs.cols; exact ⟨p, d, h⟩
 obtain ⟨pc, dc, rfl, hdc⟩ := z0.val hs.cols
 obtain ⟨pk, dk, rfl, hdk⟩ := z0.val hs.key
 obtain ⟨pu, du, rfl, hdu⟩ := zaI.val hs.uq
 rw [zlm]
 refine A1 Tryz.func75 rfl rfl ?_
 refine Sr ?_
 refine Ob rfl rfl ?_
 intro b1 w1 e1 n1 c1 k1
 refine Oa rfl (E1 1 rfl ?_)
 have hs1 := hs.chg0 c1
 refine ze (ze ?_)
 by_cases h1 : 1 ≤ s.cols.length
 ·by_cases h8 : s.cols.length ≤ 8
  ·by_cases h3 : s.uq.length ≤ 3
   ·cases hset : zc9 s.key s.cols.length with
    | false =>
     refine za (Od zau rfl (Od yn rfl ?_))
     refine Ol zav rfl (k1.cell' rfl) ?_
     refine On zaj rfl ?_
     refine Og (vf (zC rfl rfl) (decide_eq_false (by omega))) rfl ?_
     refine Om rfl ?_
     refine Oy rfl rfl (zj zau rfl) ?_
     refine Oy rfl rfl (zj yn rfl) ?_
     refine Oy rfl rfl (zh zav rfl (k1.cell' rfl)) ?_
     refine Oy rfl rfl (yc zaj rfl) ?_
     refine Oy rfl rfl (vf (yg rfl rfl) (decide_eq_false (by omega))) ?_
     refine Of rfl (Om rfl ?_)
     refine Oy rfl rfl (zj zau rfl) ?_
     refine Oy rfl rfl (zj y8 rfl) ?_
     refine Oy rfl rfl (zh zbM rfl (k1.cell' rfl)) ?_
     refine Oy rfl rfl (yc zaq rfl) ?_
     refine Oy rfl rfl (vf (yg rfl rfl) (decide_eq_false (by omega))) ?_
     refine Of rfl (Om rfl ?_)
     refine Oy rfl rfl (zg zpU zoz rfl rfl (zy.of_blk0 k1)) ?_
     refine Oy rfl rfl (zj zau rfl) ?_
     refine Oy rfl rfl (zj zaK rfl) ?_
     refine Oy rfl rfl (zh za3 rfl (k1.cell' rfl)) ?_
     refine Ow rfl rfl zoH rfl rfl rfl (zpw _ _ _ _ s.cols.length s.key _ hcv ho hs1.key m2 m1) ?_
     rintro v30 w30 ⟨h30, c30⟩
     rw [hset] at h30
     subst h30
     refine Oy rfl rfl (zO rfl) ?_
     refine Of rfl (E2 1 32 rfl (zd rfl (Sr (Oa rfl (E1 2 rfl (zi ?_))))))
     repeat first | refine tr ?_ | refine br ?_
     refine zD rfl rfl ?_
     exact ⟨by simp, c1.trans c30⟩
    | true =>
     refine za (Od zau rfl (Od yn rfl ?_))
     refine Ol zav rfl (k1.cell' rfl) ?_
     refine On zaj rfl ?_
     refine Og (vf (zC rfl rfl) (decide_eq_false (by omega))) rfl ?_
     refine Om rfl ?_
     refine Oy rfl rfl (zj zau rfl) ?_
     refine Oy rfl rfl (zj yn rfl) ?_
     refine Oy rfl rfl (zh zav rfl (k1.cell' rfl)) ?_
     refine Oy rfl rfl (yc zaj rfl) ?_
     refine Oy rfl rfl (vf (yg rfl rfl) (decide_eq_false (by omega))) ?_
     refine Of rfl (Om rfl ?_)
     refine Oy rfl rfl (zj zau rfl) ?_
     refine Oy rfl rfl (zj y8 rfl) ?_
     refine Oy rfl rfl (zh zbM rfl (k1.cell' rfl)) ?_
     refine Oy rfl rfl (yc zaq rfl) ?_
     refine Oy rfl rfl (vf (yg rfl rfl) (decide_eq_false (by omega))) ?_
     refine Of rfl (Om rfl ?_)
     refine Oy rfl rfl (zg zpU zoz rfl rfl (zy.of_blk0 k1)) ?_
     refine Oy rfl rfl (zj zau rfl) ?_
     refine Oy rfl rfl (zj zaK rfl) ?_
     refine Oy rfl rfl (zh za3 rfl (k1.cell' rfl)) ?_
     refine Ow rfl rfl zoH rfl rfl rfl (zpw _ _ _ _ s.cols.length s.key _ hcv ho hs1.key m2 m1) ?_
     rintro v30 w30 ⟨h30, c30⟩
     rw [hset] at h30
     subst h30
     refine Oy rfl rfl (zO rfl) ?_
     refine Of rfl (E2 1 32 rfl (zb rfl (zm (ze (ze ?_)))))
     have hk1 := k1.chg0 c30
     have hc30 : zk [] w w30 := c1.trans c30
     refine za (Od zau rfl (Od yn rfl ?_))
     refine Ol zav rfl (hk1.cell' rfl) ?_
     refine On zaj rfl (Om rfl (E4 1 35 36 37 rfl (zq ?_)))
     refine zW [1, 35, 36, 37] (fun m F wx => ∃ j : Nat, m = s.cols.length - j ∧ j ≤ s.cols.length ∧ F = [(1, Pt b1), (35, .slice pc s.cols.length dc), (36, Ii s.cols.length), (37, Ii j)] ∧ zk [] w30 wx ∧ (∀ x ∈ s.cols.take j, y7 x = true) ∧ (∀ i x, i < j → s.cols[i]? = some x → (s.cols.take i).any (fun o => decide (o.n = x.n)) = false)) (m := s.cols.length - 0) ⟨0, rfl, Nat.zero_le _, rfl, zk.refl _ _, by simp, by intro i x h; omega⟩ ?_
     rintro m F wx ⟨j, rfl, hj, rfl, hcx, hall, hnd⟩
     have hk1x := hk1.chg0 hcx
     have hsx := (hs.chg0 hc30).chg0 hcx
     refine Sr (Og (zC rfl rfl) rfl (E5 1 35 36 37 38 rfl (ze ?_)))
     refine zR rfl (fun hT => ?_) (fun hF => ?_)
     ·refine zm ?_
      have hlt : j < s.cols.length := by have := of_decide_eq_true hT; omega
      have hx : s.cols[j]? = some s.cols[j] := by simp [hlt]
      generalize s.cols[j] = x at hx
      obtain ⟨b, off, cap, hve, hcell⟩ := z0.at zap hsx.cols hx
      cases hve
      refine ze (zq (Sr (Om rfl ?_)))
      refine Og (zf zaj zaT rfl rfl _ rfl hlt) rfl ?_
      refine Og (zg zdX zaT rfl rfl hcell) rfl ?_
      refine zE (gn rfl) (zH znw rfl rfl ?_)
      intro b4 w4 e4 n4 c4 k4
      refine Oa rfl ?_
      refine zE (gn rfl) (zu zaT rfl rfl rfl rfl k4 (by simp [Col.cs]) (Col.one x) ?_)
      intro wA nA cA kA
      refine E6 1 3 4 35 36 37 rfl ?_
      have hcA : zk [] wx wA := c4.own cA (by intro y hy; simp at hy; omega)
      refine ze ?_
      cases hrc : y7 x with
      | false =>
       refine za ?_
       refine Og (zg zdX zaT rfl rfl (zy.of_blk0 kA)) rfl ?_
       refine Oc znb rfl rfl rfl (zhm x _) ?_
       rintro v43 w43 ⟨h43, c43⟩
       rw [hrc] at h43
       subst h43
       refine Og (zO rfl) rfl (Om rfl (Oz rfl rfl (Oz rfl rfl (Oz rfl rfl (Oz rfl rfl (Oz rfl rfl (Oz rfl rfl (Oz rfl rfl (Ot rfl (E5 1 35 36 37 53 rfl (zd rfl (Sr ?_))))))))))))
       refine Oa rfl (E1 2 rfl (zi ?_))
       repeat first | refine tr ?_ | refine br ?_
       refine zD rfl rfl ?_
       have : s.cols.all y7 = false := by
        cases ha : s.cols.all y7 with
        | false => rfl
        | true => have := List.all_eq_true.1 ha x (List.mem_of_getElem? hx); rw [hrc] at this; cases this
       exact ⟨by simp [this], ((hc30.trans hcx).trans hcA).trans c43⟩
      | true =>
       refine za ?_
       refine Og (zg zdX zaT rfl rfl (zy.of_blk0 kA)) rfl ?_
       refine Oc znb rfl rfl rfl (zhm x _) ?_
       rintro v43 w43 ⟨h43, c43⟩
       rw [hrc] at h43
       subst h43
       have hcx43 := (hcx.trans hcA).trans c43
       have hk43 := hk1.chg0 hcx43
       have hs43 := (hs.chg0 hc30).chg0 hcx43
       have kA43 := kA.chg0 c43
       refine Og (zO rfl) rfl (Om rfl ?_)
       refine Oy rfl rfl (zj zau rfl) ?_
       refine Oy rfl rfl (zj yn rfl) ?_
       refine Oy rfl rfl (zh zav rfl (hk43.cell' rfl)) ?_
       refine Oj rfl rfl ?_
       refine Oy rfl rfl (zby zaj zaT rfl rfl _ rfl (by omega)) ?_
       refine Oy rfl rfl (zbr rfl rfl) ?_
       refine Ow rfl rfl zv6 rfl rfl rfl (zue zap _ (s.cols.take j) (fun o => decide (o.n = x.n)) 114 [Pt b4] _ (z0.take zap hs43.cols hj (by omega) (Nat.le_refl _)) (by rw [List.length_take]; omega) zvZ (fun o _ w1 hw1 => zvz o x b4 w1 (kA43.chg0 hw1))) ?_
       rintro v52 w52 ⟨h52, c52⟩
       refine Of rfl (E5 1 35 36 37 53 rfl ?_)
       cases hany : (s.cols.take j).any (fun o => decide (o.n = x.n)) with
       | true =>
        rw [hany] at h52
        subst h52
        refine zd rfl (Sr (Oa rfl (E1 2 rfl (zi ?_))))
        repeat first | refine tr ?_ | refine br ?_
        refine zD rfl rfl ?_
        have : decide ((s.cols.map (·.n)).Nodup) = false := decide_eq_false fun h => by
         have := (ziE _).1 h j x hx
         rw [hany] at this; cases this
        exact ⟨by rw [this]; simp, (hc30.trans hcx43).trans c52⟩
       | false =>
        rw [hany] at h52
        subst h52
        refine zb rfl (ye (zl (za ?_)))
        refine Og (zI rfl rfl (by omega)) rfl ?_
        refine Om rfl (N4 1 35 36 37 rfl ?_)
        refine ⟨s.cols.length - (j + 1), by omega, j + 1, rfl, by omega, rfl, hcx43.trans c52, ?_, ?_⟩
        ·intro y hy
         rw [List.take_add_one, hx] at hy
         rcases List.mem_append.1 hy with hy | hy
         ·exact hall y hy
         simp at hy; subst hy; exact hrc
        intro i y hi hy
        rcases Nat.lt_or_ge i j with hij | hij
        ·exact hnd i y hij hy
        have : i = j := by omega
        subst this
        rw [hx] at hy
        cases hy
        exact hany
     refine zM ?_
     repeat first | refine te ?_ | refine bo rfl ?_
     refine zt _ ?_
     have he : s.cols.length ≤ j := by have := of_decide_eq_false hF; omega
     have hcx' := hc30.trans hcx
     have hall' : s.cols.all y7 = true := by
      rw [List.take_of_length_le he] at hall
      exact List.all_eq_true.2 hall
     have hnd' : decide ((s.cols.map (·.n)).Nodup) = true := decide_eq_true ((ziE _).2 fun i x hx => hnd i x (by have := (List.getElem?_eq_some_iff.1 hx).1; omega) hx)
     refine Sr ?_
     refine Og (zbr rfl rfl) rfl ?_
     refine Oa rfl (E2 1 5 rfl (ze ?_))
     have hkey := (zax hset).2.1
     cases hnull : s.key.any fun i => (zef s i).z with
     | true =>
      refine za (Od zau rfl (Od zaK rfl ?_))
      refine Ol za3 rfl (hk1x.cell' rfl) ?_
      refine Om rfl ?_
      refine Oc zsE rfl rfl rfl (zpF _ s.key (fun i => (zef s i).z) 115 [Pt b1] _ hsx.key m2 zsD (fun i hi w1 hw1 => zsh i s _ _ _ b1 w1 (hk1x.chg0 hw1) (z0.chg0 hsx.cols hw1) (hkey i hi))) ?_
      rintro v60 w60 ⟨h60, c60⟩
      rw [hnull] at h60
      subst h60
      refine Og (zO rfl) rfl (Om rfl (Oz rfl rfl (Oz rfl rfl (Oz rfl rfl (Oz rfl rfl (Oz rfl rfl (Oz rfl rfl (Of rfl (Oa rfl (E1 2 rfl (zi ?_)))))))))))
      repeat first | refine tr ?_ | refine br ?_
      refine zD rfl rfl ?_
      exact ⟨by simp, hcx'.trans c60⟩
     | false =>
      refine za (Od zau rfl (Od zaK rfl ?_))
      refine Ol za3 rfl (hk1x.cell' rfl) ?_
      refine Om rfl ?_
      refine Oc zsE rfl rfl rfl (zpF _ s.key (fun i => (zef s i).z) 115 [Pt b1] _ hsx.key m2 zsD (fun i hi w1 hw1 => zsh i s _ _ _ b1 w1 (hk1x.chg0 hw1) (z0.chg0 hsx.cols hw1) (hkey i hi))) ?_
      rintro v60 w60 ⟨h60, c60⟩
      rw [hnull] at h60
      subst h60
      refine Og (zO rfl) rfl (Om rfl ?_)
      refine Oy rfl rfl (zj zau rfl) ?_
      refine Oy rfl rfl (zj y8 rfl) ?_
      refine Oy rfl rfl (zh zbM rfl ((hk1x.chg0 c60).cell' rfl)) ?_
      refine Oy rfl rfl (zbr rfl rfl) ?_
      refine Ow rfl rfl zxm rfl rfl rfl (zqT _ s.uq (fun l => !zc9 l s.cols.length) 118 [Pt b1] _ (zaI.chg0 hsx.uq c60) m3 zuE (fun l hl v w1 hw1 hv => zxt v _ _ _ l s.cols.length b1 w1 ((hk1x.chg0 c60).chg0 hw1) hcv ho hv (m4 l hl) m1)) ?_
      rintro v67 w67 ⟨rfl, c67⟩
      refine Oy rfl rfl (zO rfl) ?_
      refine Ot rfl (Oa rfl (E1 2 rfl (zi ?_)))
      repeat first | refine tr ?_ | refine br ?_
      refine zD rfl rfl ?_
      exact ⟨by simp [h1, h8, h3, hall', hnd'], (hcx'.trans c60).trans c67⟩
   refine za (Od zau rfl (Od yn rfl ?_))
   refine Ol zav rfl (k1.cell' rfl) ?_
   refine On zaj rfl ?_
   refine Og (vf (zC rfl rfl) (decide_eq_false (by omega))) rfl ?_
   refine Om rfl ?_
   refine Oy rfl rfl (zj zau rfl) ?_
   refine Oy rfl rfl (zj yn rfl) ?_
   refine Oy rfl rfl (zh zav rfl (k1.cell' rfl)) ?_
   refine Oy rfl rfl (yc zaj rfl) ?_
   refine Oy rfl rfl (vf (yg rfl rfl) (decide_eq_false (by omega))) ?_
   refine Of rfl (Om rfl ?_)
   refine Oy rfl rfl (zj zau rfl) ?_
   refine Oy rfl rfl (zj y8 rfl) ?_
   refine Oy rfl rfl (zh zbM rfl (k1.cell' rfl)) ?_
   refine Oy rfl rfl (yc zaq rfl) ?_
   refine Oy rfl rfl (vt (yg rfl rfl) (decide_eq_true (by omega))) ?_
   refine Of rfl (Om rfl (Oz rfl rfl (Oz rfl rfl (Oz rfl rfl (Oz rfl rfl (Oz rfl rfl (Oz rfl rfl (Ot rfl (E2 1 32 rfl (zd rfl (Sr (Oa rfl ?_))))))))))))
   refine E1 2 rfl (zi ?_)
   repeat first | refine tr ?_ | refine br ?_
   refine zD rfl rfl ?_
   exact ⟨by simp [h3], c1⟩
  refine za (Od zau rfl (Od yn rfl ?_))
  refine Ol zav rfl (k1.cell' rfl) ?_
  refine On zaj rfl ?_
  refine Og (vf (zC rfl rfl) (decide_eq_false (by omega))) rfl ?_
  refine Om rfl ?_
  refine Oy rfl rfl (zj zau rfl) ?_
  refine Oy rfl rfl (zj yn rfl) ?_
  refine Oy rfl rfl (zh zav rfl (k1.cell' rfl)) ?_
  refine Oy rfl rfl (yc zaj rfl) ?_
  refine Oy rfl rfl (vt (yg rfl rfl) (decide_eq_true (by omega))) ?_
  refine Of rfl (Om rfl (Oz rfl rfl (Oz rfl rfl (Oz rfl rfl (Oz rfl rfl (Oz rfl rfl (Ot rfl (Om rfl (Oz rfl rfl (Oz rfl rfl (Oz rfl rfl (Oz rfl rfl (Oz rfl rfl ?_)))))))))))))
  refine Oz rfl rfl (Ot rfl (E2 1 32 rfl (zd rfl (Sr (Oa rfl (E1 2 rfl (zi ?_)))))))
  repeat first | refine tr ?_ | refine br ?_
  refine zD rfl rfl ?_
  exact ⟨by simp [h8], c1⟩
 refine za (Od zau rfl (Od yn rfl ?_))
 refine Ol zav rfl (k1.cell' rfl) ?_
 refine On zaj rfl ?_
 refine Og (vt (zC rfl rfl) (decide_eq_true (by omega))) rfl ?_
 refine Om rfl (Oz rfl rfl (Oz rfl rfl (Oz rfl rfl (Oz rfl rfl (Oz rfl rfl (Ot rfl (Om rfl (Oz rfl rfl (Oz rfl rfl (Oz rfl rfl (Oz rfl rfl (Oz rfl rfl (Ot rfl ?_)))))))))))))
 refine Om rfl (Oz rfl rfl (Oz rfl rfl (Oz rfl rfl (Oz rfl rfl (Oz rfl rfl (Oz rfl rfl (Ot rfl (E2 1 32 rfl (zd rfl (Sr (Oa rfl (E1 2 rfl ?_))))))))))))
 refine zi ?_
 repeat first | refine tr ?_ | refine br ?_
 refine zD rfl rfl ?_
 exact ⟨by simp [h1], c1⟩
theorem zgc (c k u : Value) (s : yo) (w : World) (hs : yO w c k u s) (hm : s.Sm) : z9 TP 43 #[.agg #[c, k, u]] w fun r w' => r = Ii (if yP s then 0 else 2) ∧ zk [] w w' := by
 refine A1 Tryz.func43 rfl rfl ?_
 refine Sr ?_
 refine Ob rfl rfl ?_
 intro b1 w1 e1 n1 c1 k1
 refine Oa rfl (E1 1 rfl (ze (ze ?_)))
 cases hr : yP s with
 | true =>
  refine za ?_
  refine Og (zg zaW zaX rfl rfl (zy.of_blk0 k1)) rfl ?_
  refine Og (z6 zsC zrY rfl (vs := [_]) rfl (css := [_]) ⟨rfl, trivial⟩ rfl rfl (cs := [_, _, _]) rfl) rfl ?_
  refine Oc zxo rfl rfl rfl (zkv c k u s _ (hs.chg0 c1) hm) ?_
  rintro v5 w5 ⟨h5, c5⟩
  rw [hr] at h5
  subst h5
  refine Og (zO rfl) rfl (E1 6 rfl (zb rfl (zm (Sr (Oa rfl (E1 2 rfl (zi ?_)))))))
  refine zD rfl rfl ?_
  exact ⟨rfl, c1.trans c5⟩
 | false =>
  refine za ?_
  refine Og (zg zaW zaX rfl rfl (zy.of_blk0 k1)) rfl ?_
  refine Og (z6 zsC zrY rfl (vs := [_]) rfl (css := [_]) ⟨rfl, trivial⟩ rfl rfl (cs := [_, _, _]) rfl) rfl ?_
  refine Oc zxo rfl rfl rfl (zkv c k u s _ (hs.chg0 c1) hm) ?_
  rintro v5 w5 ⟨h5, c5⟩
  rw [hr] at h5
  subst h5
  refine Og (zO rfl) rfl (E1 6 rfl (zd rfl (Sr (Oa rfl (E1 2 rfl (zi ?_))))))
  repeat first | refine tr ?_ | refine br ?_
  refine zD rfl rfl ?_
  exact ⟨rfl, c1.trans c5⟩
def hnd (t : Nat) : Value := .pointer (some ⟨5, t, none⟩)
def rty (t : Nat) : Value := .iface 247 (.agg #[hnd t])
def EOk (w : World) : Prop := w.cell? ⟨0, 0, none⟩ = some (rty 106)
theorem EOk.chg {S : List Nat} {w w' : World} (h : EOk w) (hc : zk S w w') (hs : 0 ∉ S) : EOk w' := by
 have hlt : 0 < w.heap.size := by
  rcases Nat.eq_zero_or_pos w.heap.size with h0 | h1
  ·unfold EOk World.cell? at h
   simp [h0] at h
  exact h1
 have := hc.block 0 hlt hs
 unfold EOk World.cell? at *
 rw [this]
 exact h
theorem EOk.chg0 {w w' : World} (h : EOk w) (hc : zk [] w w') : EOk w' := h.chg hc (by simp)
theorem EOk.ne {w : World} (h : EOk w) {b : Nat} {e : TypeId} {c : List Value} (hb : zU w b e c) (hc : c[0]? ≠ some (rty 106)) : 0 ≠ b := by
 rintro rfl
 exact hc (by rw [← hb.cell]; exact h)
def zdD (n : Int) : Value := .iface 32 (Ii n)
def zcw (w : World) (v : Value) (n : Int) : Prop :=
 v = zdD n ∨ (∃ b c, v = .iface 315 (Pt b) ∧ zU w b 317 [.string c, zdD n]) ∨ ∃ k, v = .iface 141 (.agg #[.string k, zdD n])
theorem zcw.chg {S : List Nat} {w w' : World} {v : Value} {n : Int} (h : zcw w v n) (hc : zk S w w') (hs : ∀ b c, zU w b 317 c → b ∉ S) : zcw w' v n := by
 rcases h with h | ⟨b, c, h, hb⟩ | h
 ·exact .inl h
 ·exact .inr (.inl ⟨b, c, h, hb.chg hc (hs b _ hb)⟩)
 exact .inr (.inr h)
theorem zcw.chg0 {w w' : World} {v : Value} {n : Int} (h : zcw w v n) (hc : zk [] w w') : zcw w' v n := h.chg hc (by simp)
theorem zcw.notNil {w : World} {v : Value} {n : Int} (h : zcw w v n) : ziq v = some false := by
 rcases h with rfl | ⟨b, c, rfl, _⟩ | ⟨k, rfl⟩ <;> rfl
theorem zns : ze5 TP 109 = some Extern.ReflectliteType.typeOf := by kernel_rfl
theorem zsu : ze5 TP 120 = some (fun args => Extern.ReflectliteValue.unpack (args.getD 0 (.tuple #[]))) := by kernel_rfl
theorem zw0 : ze5 TP 121 = some (Extern.ReflectliteValue.methodAny (Extern.ReflectliteValue.valueError "reflectlite.Value.Type" 0) (fun t _ _ _ => Extern.ReflectliteType.toType t)) := by kernel_rfl
theorem zuQ : ze5 TP 122 = some (Extern.ReflectliteValue.method (Extern.ReflectliteValue.valueError "reflectlite.Value.IsNil" 0) Extern.ReflectliteValue.isNil) := by kernel_rfl
theorem zxd : ze5 TP 153 = some (Extern.ReflectliteValue.method (Extern.ReflectliteValue.valueError "reflectlite.Value.Elem" 0) Extern.ReflectliteValue.elem) := by kernel_rfl
theorem zww : ze5 TP 154 = some Extern.ReflectliteValue.set := by kernel_rfl
theorem zsM : ze5 TP 298 = some (Extern.ReflectliteType.abiMethod fun t => do pure (.int .u8 (← Extern.Rtype.kind t))) := by kernel_rfl
theorem zuY : ze5 TP 311 = some (Extern.ReflectliteType.method Extern.ReflectliteType.elem) := by kernel_rfl
theorem zvf : ze5 TP 312 = some (Extern.ReflectliteType.relation "Implements" Extern.ReflectliteType.implements_) := by kernel_rfl
theorem zo1 : ze5 TP 309 = some (Extern.ReflectliteType.relation "AssignableTo" Extern.ReflectliteType.assignableTo) := by kernel_rfl
theorem zvQ : ze5 TP 310 = some (Extern.ReflectliteType.method fun t => do Extern.Rtype.noPackHeld "Comparable" t; pure (.bool (← typeInfo t).comparable)) := by kernel_rfl
theorem zkV (v : Value) (w : World) : (Extern.ReflectliteType.typeOf #[.iface 32 v]).run TP w = .ok (rty 32) w := by kernel_rfl
theorem zog (v : Value) (w : World) : (Extern.ReflectliteType.typeOf #[.iface 315 v]).run TP w = .ok (rty 315) w := by kernel_rfl
theorem zn9 (v : Value) (w : World) : (Extern.ReflectliteType.typeOf #[.iface 141 v]).run TP w = .ok (rty 141) w := by kernel_rfl
theorem zvM (w : World) : ((Extern.ReflectliteType.method fun t => do Extern.Rtype.noPackHeld "Comparable" t; pure (.bool (← typeInfo t).comparable)) #[.agg #[hnd 32]]).run TP w = .ok (.bool true) w := by kernel_rfl
theorem zpM (h : Value) : Mth TP 247 (.agg #[h]) "Kind" 298 h := fun w => by kernel_rfl
theorem zt4 (h : Value) : Mth TP 247 (.agg #[h]) "Elem" 311 (.agg #[h]) := fun w => by kernel_rfl
theorem zul (h : Value) : Mth TP 247 (.agg #[h]) "Implements" 312 (.agg #[h]) := fun w => by kernel_rfl
theorem zqk (h : Value) : Mth TP 247 (.agg #[h]) "AssignableTo" 309 (.agg #[h]) := fun w => by kernel_rfl
theorem zwh (h : Value) : Mth TP 247 (.agg #[h]) "Comparable" 310 (.agg #[h]) := fun w => by kernel_rfl
theorem zrw (w : World) : ((Extern.ReflectliteType.abiMethod fun t => do pure (.int .u8 (← Extern.Rtype.kind t))) #[hnd 152]).run TP w = .ok (.int .u8 22) w := by kernel_rfl
theorem zqK (w : World) : ((Extern.ReflectliteType.abiMethod fun t => do pure (.int .u8 (← Extern.Rtype.kind t))) #[hnd 32]).run TP w = .ok (.int .u8 2) w := by kernel_rfl
theorem zqA (w : World) : (Extern.ReflectliteType.method Extern.ReflectliteType.elem #[.agg #[hnd 152]]).run TP w = .ok (rty 32) w := by kernel_rfl
theorem ztA (w : World) : (Extern.ReflectliteType.relation "Implements" Extern.ReflectliteType.implements_ #[.agg #[hnd 32], rty 106]).run TP w = .ok (.bool true) w := by kernel_rfl
theorem zu1 (w : World) : (Extern.ReflectliteType.relation "AssignableTo" Extern.ReflectliteType.assignableTo #[.agg #[hnd 32], rty 32]).run TP w = .ok (.bool true) w := by kernel_rfl
theorem zs4 (w : World) : (Extern.ReflectliteType.relation "AssignableTo" Extern.ReflectliteType.assignableTo #[.agg #[hnd 315], rty 32]).run TP w = .ok (.bool false) w := by kernel_rfl
theorem ztM (w : World) : (Extern.ReflectliteType.relation "AssignableTo" Extern.ReflectliteType.assignableTo #[.agg #[hnd 141], rty 32]).run TP w = .ok (.bool false) w := by kernel_rfl
def rv (t : Nat) (a : Addr) (f : Nat) : Value := .agg #[hnd t, .pointer (some a), .int .u64 f]
theorem zud (t : Addr) (w : World) : (Extern.ReflectliteValue.unpack (.iface 152 (.pointer (some t)))).run TP w = .ok (rv 152 ⟨w.heap.size, 0, none⟩ 150) (w.alloc (.cells #[.pointer (some t)] 152)) := by kernel_rfl
theorem zto (n : Int) (w : World) : (Extern.ReflectliteValue.unpack (zdD n)).run TP w = .ok (rv 32 ⟨w.heap.size, 0, none⟩ 130) (w.alloc (.cells #[Ii n] 32)) := by kernel_rfl
theorem zuw (a : Addr) (w : World) : (Extern.ReflectliteValue.methodAny (Extern.ReflectliteValue.valueError "reflectlite.Value.Type" 0) (fun t _ _ _ => Extern.ReflectliteType.toType t) #[rv 152 a 150]).run TP w = .ok (rty 152) w := by kernel_rfl
theorem lit1 (v : Value) {h1 h2} : (#[v] : Array Value).getLit (n := 1) 0 h1 h2 = v := rfl
theorem lit20 (v x : Value) {h1 h2} : (#[v, x] : Array Value).getLit (n := 2) 0 h1 h2 = v := rfl
theorem lit21 (v x : Value) {h1 h2} : (#[v, x] : Array Value).getLit (n := 2) 1 h1 h2 = x := rfl
theorem zka (a : Addr) (w : World) : (Extern.ReflectliteValue.parts (rv 152 a 150)).run TP w = .ok (some (152, a, 150)) w := by kernel_rfl
theorem zqC (a p : Addr) (w : World) (ha : w.cell? a = some (.pointer (some p))) :
 (Extern.ReflectliteValue.method (Extern.ReflectliteValue.valueError "reflectlite.Value.IsNil" 0) Extern.ReflectliteValue.isNil #[rv 152 a 150]).run TP w = .ok (.bool false) w := by
 have hv := zka a w
 generalize rv 152 a 150 = v at hv ⊢
 conv => lhs; arg 2; whnf
 simp only [lit1, Sem.run_bind', hv, Result.andThen]
 simp [Extern.ReflectliteValue.isNil, loadVar, isAgg, underlying, ha, Result.andThen]
theorem zp0 (w : World) : (Extern.Rtype.elem? 152).run TP w = .ok (some 32) w := by kernel_rfl
theorem zyg (p : Addr) (w : World) : (Extern.ReflectliteValue.mk 32 p Extern.ReflectliteValue.flagAddr).run TP w = .ok (rv 32 p 386) w := by kernel_rfl
theorem zrj (a p : Addr) (w : World) (ha : w.cell? a = some (.pointer (some p))) :
 (Extern.ReflectliteValue.method (Extern.ReflectliteValue.valueError "reflectlite.Value.Elem" 0) Extern.ReflectliteValue.elem #[rv 152 a 150]).run TP w = .ok (rv 32 p 386) w := by
 have hv := zka a w
 generalize rv 152 a 150 = v at hv ⊢
 conv => lhs; arg 2; whnf
 simp only [lit1, Sem.run_bind', hv, Result.andThen]
 simp [Extern.ReflectliteValue.elem, loadVar, isAgg, underlying, ha, Result.andThen, zp0, zyg]
theorem zo7 (a : Addr) (w : World) : (Extern.ReflectliteValue.parts (rv 32 a 386)).run TP w = .ok (some (32, a, 386)) w := by kernel_rfl
theorem zpZ (a : Addr) (w : World) : (Extern.ReflectliteValue.parts (rv 32 a 130)).run TP w = .ok (some (32, a, 130)) w := by kernel_rfl
theorem zoL (w : World) : (Extern.Rtype.directlyAssignable 32 32).run TP w = .ok true w := by kernel_rfl
theorem zwk (ta b : Addr) (n : Int) (old : Value) (w : World) (hb : w.cell? b = some (Ii n)) (ht : w.cell? ta = some old) (hf : w.frozen? ta = false) :
 (Extern.ReflectliteValue.set #[rv 32 ta 386, rv 32 b 130]).run TP w = .ok (.tuple #[]) (w.setCell ta (Ii n)) := by
 have h1 := zo7 ta w
 have h2 := zpZ b w
 generalize rv 32 ta 386 = v at h1 ⊢
 generalize rv 32 b 130 = x at h2 ⊢
 conv => lhs; arg 2; whnf
 simp only [lit20, lit21, Sem.run_bind', Sem.run_bind, h1, h2, Result.andThen]
 simp [Extern.ReflectliteValue.flagAddr, loadVar, isAgg, underlying, hb, Result.andThen, zoL, storeVar, Value.cells, storeCells, Addr.add]
 rw [run_store TP w ta _ _ (by rfl)]
 simp [ht, hf]
theorem zU.setCell {w : World} {b : Nat} {e : TypeId} {x : Value} (h : zU w b e [x]) (v : Value) : zU (w.setCell ⟨b, 0, none⟩ v) b e [v] ∧ zk [b] w (w.setCell ⟨b, 0, none⟩ v) := by
 have hh : w.heap[b]? = some (.cells #[x] e (0, 0)) := h
 refine ⟨?_, rfl, rfl, rfl, by simp [World.setCell], fun k _ hn => ?_⟩
 ·unfold zU World.setCell
  simp only [Array.getElem?_modify, if_true, hh]
  rfl
 unfold World.setCell
 simp only [List.mem_singleton] at hn
 simp only [Array.getElem?_modify]
 rw [if_neg (fun e => hn e.symm)]
theorem zo0 (b : Nat) (c : ByteArray) (n : Int) (w : World) (hb : zU w b 317 [.string c, zdD n]) : z9 TP 320 #[Pt b] w fun r w' => r = zdD n ∧ w' = w := by
 refine A1 Tryz.func320 rfl rfl ?_
 refine Sr (Oa rfl (E1 0 rfl (Sr (Om rfl (Og (zF rfl) rfl (Od zrT rfl ?_))))))
 refine Ol zsG rfl (hb.cell' rfl) ?_
 refine Oa rfl (E1 2 rfl (zi ?_))
 refine zD rfl rfl ?_
 exact ⟨rfl, rfl⟩
theorem zoA (k : ByteArray) (n : Int) (w : World) : z9 TP 303 #[.agg #[.string k, zdD n]] w fun r w' => r = zdD n ∧ zk [] w w' := by
 refine A1 Tryz.func303 rfl rfl ?_
 refine Sr ?_
 refine Ob rfl rfl ?_
 intro b1 w1 e1 n1 c1 k1
 refine Oa rfl (E1 1 rfl (Sr (Od zqU rfl ?_)))
 refine Ol zsG rfl (k1.cell' rfl) ?_
 refine Oa rfl (E1 2 rfl (zi ?_))
 refine zD rfl rfl ?_
 exact ⟨rfl, c1⟩
theorem zpP (v : Value) : Mth TP 315 v "Unwrap" 320 v := fun w => by kernel_rfl
theorem zpR (v : Value) : Mth TP 141 v "Unwrap" 303 v := fun w => by kernel_rfl
theorem zxE (v : Value) (n : Int) (bt : Nat) (old : Value) (a : Addr) (w : World) (hv : zcw w v n) (ht : zU w bt 32 [old]) (ha : w.cell? a = some (Pt bt)) (hab : a.block ≠ bt) :
 z9 TP 123 #[v, .iface 152 (Pt bt), rv 152 a 150, rty 32] w fun r w' => r = .bool true ∧ zU w' bt 32 [Ii n] ∧ zk [bt] w w' := by
 refine A4 Tryz.func123 rfl rfl ?_
 refine Sr ?_
 refine Ob rfl rfl ?_
 intro b6 w6 e6 n6 c6 k6
 refine Oa rfl (E4 0 1 3 6 rfl ?_)
 have k6 : zU w6 b6 202 [hnd 152, .pointer (some a), .int .u64 150] := k6
 refine zq ?_
 refine zW [0, 1, 3, 6] (fun m F wx => ∃ u : Value, (zcw wx u n ∧ (m = 0 → u = zdD n)) ∧ F = [(0, u), (1, .iface 152 (Pt bt)), (3, rty 32), (6, Pt b6)] ∧ zk [] w6 wx) (m := 1) ⟨v, ⟨hv.chg0 c6, fun h => by omega⟩, rfl, zk.refl _ _⟩ ?_
 rintro m F wx ⟨u, ⟨hu, hm⟩, rfl, hcx⟩
 have hk6 := k6.chg0 hcx
 have htx := (ht.chg0 c6).chg0 hcx
 have hax := hcx.cell (c6.cell ha)
 have hbt := ht.lt
 refine zq (ze (ze ?_))
 rcases hu with rfl | hu
 ·refine za (Om rfl ?_)
  refine zE (gn rfl) (zc8 (P := TP) (n := Tryz.f123.ntmps) zns rfl rfl (zkV _ _) rfl ?_)
  skip
  refine Om rfl ?_
  refine zE (gn rfl) (zbQ (zqk _) zo1 rfl rfl (zu1 _) rfl ?_)
  skip
  refine E5 0 1 3 6 19 rfl (zd rfl (ze ?_))
  have hset := zwk ⟨bt, 0, none⟩ ⟨wx.heap.size, 0, none⟩ n old (wx.alloc (.cells #[Ii n] 32)) ((zU.new wx 32 [Ii n]).cell' rfl) ((htx.chg0 (zk.alloc [] _ _)).cell' rfl) ((htx.chg0 (zk.alloc [] _ _)).free _ rfl)
  obtain ⟨hb2, hc2⟩ := (htx.chg0 (zk.alloc [] wx (.cells #[Ii n] 32))).setCell (Ii n)
  have hE : (Extern.ReflectliteValue.method (Extern.ReflectliteValue.valueError "reflectlite.Value.Elem" 0) Extern.ReflectliteValue.elem ([Value.agg [hnd 152, .pointer (some a), .int .u64 150].toArray].toArray)).run TP wx = .ok (rv 32 ⟨bt, 0, none⟩ 386) wx := zrj a ⟨bt, 0, none⟩ wx hax
  refine za ?_
  refine Og (zg zmr zkl rfl rfl (zy.of_blk0 hk6)) rfl ?_
  refine zE (gn rfl) (zc8 (P := TP) (n := Tryz.f123.ntmps) zxd rfl rfl hE rfl ?_)
  skip
  refine Om rfl ?_
  refine zE (gn rfl) (zc8 (P := TP) (n := Tryz.f123.ntmps) zsu rfl rfl (zto n wx) rfl ?_)
  skip
  refine zE (gn rfl) (zc8 (P := TP) (n := Tryz.f123.ntmps) zww rfl rfl hset rfl ?_)
  skip
  refine za1 [] (F' := []) rfl (Sr (Oa rfl (E1 8 rfl (zi ?_))))
  repeat first | refine tr ?_ | refine br ?_
  refine zD rfl rfl ?_
  exact ⟨rfl, hb2, ((((c6.trans hcx).trans (zk.alloc [] _ _)).any (S := [bt])).transS hc2)⟩
 have hm1 : m ≠ 0 := fun h => by
  have := hm h
  subst this
  rcases hu with ⟨b, c, h, _⟩ | ⟨k, h⟩ <;> cases h
 rcases hu with ⟨b, c, rfl, hb⟩ | ⟨k, rfl⟩
 ·refine za (Om rfl ?_)
  refine zE (gn rfl) (zc8 (P := TP) (n := Tryz.f123.ntmps) zns rfl rfl (zog _ _) rfl ?_)
  skip
  refine Om rfl ?_
  refine zE (gn rfl) (zbQ (zqk _) zo1 rfl rfl (zs4 _) rfl ?_)
  skip
  refine E5 0 1 3 6 19 rfl (zb rfl (zm (ze (Sr (Om rfl ?_)))))
  refine Og (zcn zk4 zsJ rfl) rfl ?_
  refine Om rfl (Oe rfl rfl (Oe rfl rfl (Oa rfl (Oa rfl (E6 0 1 3 6 9 10 rfl (Sr (Om rfl (Om rfl (Oz rfl rfl (Oz rfl rfl (Oz rfl rfl (Of rfl ?_))))))))))))
  refine E5 0 1 3 6 35 rfl (zb rfl (zm (Sr (Om rfl (E4 1 3 6 36 rfl (zq (Sr ?_)))))))
  refine Og (zcn zg8 zkt rfl) rfl ?_
  refine Oe rfl rfl (Oe rfl rfl (E6 1 3 6 36 38 39 rfl (zd rfl (Sr (Oa rfl (E4 1 3 6 11 rfl (Sr (Om rfl ?_))))))))
  refine zE (gn rfl) (zfj (zpP _) zst rfl rfl rfl (zo0 b c n _ hb) ?_)
  rintro v41 w41 ⟨rfl, rfl⟩
  refine Oa rfl (E4 0 1 3 6 rfl (Sr (Om rfl ?_)))
  refine Og (zbF zbc rfl rfl) rfl ?_
  refine E5 0 1 3 6 43 rfl (zb rfl (ye (zl (zl ?_))))
  exact ⟨0, by omega, _, ⟨.inl rfl, fun _ => rfl⟩, rfl, hcx⟩
 refine za (Om rfl ?_)
 refine zE (gn rfl) (zc8 (P := TP) (n := Tryz.f123.ntmps) zns rfl rfl (zn9 _ _) rfl ?_)
 skip
 refine Om rfl ?_
 refine zE (gn rfl) (zbQ (zqk _) zo1 rfl rfl (ztM _) rfl ?_)
 skip
 refine E5 0 1 3 6 19 rfl (zb rfl (zm (ze (Sr (Om rfl ?_)))))
 refine Og (zcn zly zsJ rfl) rfl ?_
 refine Om rfl (Oe rfl rfl (Oe rfl rfl (Oa rfl (Oa rfl (E6 0 1 3 6 9 10 rfl (Sr (Om rfl (Om rfl (Oz rfl rfl (Oz rfl rfl (Oz rfl rfl (Of rfl ?_))))))))))))
 refine E5 0 1 3 6 35 rfl (zb rfl (zm (Sr (Om rfl (E4 1 3 6 36 rfl (zq (Sr ?_)))))))
 refine Og (zcn zg0 zkt rfl) rfl ?_
 refine Oe rfl rfl (Oe rfl rfl (E6 1 3 6 36 38 39 rfl (zd rfl (Sr (Oa rfl (E4 1 3 6 11 rfl (Sr (Om rfl ?_))))))))
 refine zE (gn rfl) (zfj (zpR _) zsU rfl rfl rfl (zoA k n _) ?_)
 rintro v41 w41 ⟨rfl, c41⟩
 refine Oa rfl (E4 0 1 3 6 rfl (Sr (Om rfl ?_)))
 refine Og (zbF zbc rfl rfl) rfl ?_
 refine E5 0 1 3 6 43 rfl (zb rfl (ye (zl (zl ?_))))
 exact ⟨0, by omega, _, ⟨.inl rfl, fun _ => rfl⟩, rfl, hcx.trans c41⟩
theorem zvp (v : Value) (n : Int) (bt : Nat) (old : Value) (w : World) (hE : EOk w) (hv : zcw w v n) (ht : zU w bt 32 [old]) :
 z9 TP 79 #[v, .iface 152 (Pt bt)] w fun r w' => r = .bool true ∧ zU w' bt 32 [Ii n] ∧ zk [bt] w w' := by
 refine A2 Tryz.func79 rfl rfl ?_
 have hbt := ht.lt
 refine Sr (Oa rfl (E2 0 1 rfl (ze (ze ?_))))
 obtain ⟨x, hx⟩ : ∃ x, ziq v = some x ∧ x = false := ⟨_, hv.notNil, rfl⟩
 refine za (Om rfl ?_)
 refine Og (zbF zbc rfl hv.notNil) rfl ?_
 refine E3 0 1 9 rfl (zb rfl (zm (ze (Sr (Om rfl ?_)))))
 refine Og (zbF zvy rfl rfl) rfl ?_
 refine E3 0 1 11 rfl (zb rfl (zm (ze ?_)))
 have hn1 := zU.new w 152 [Pt bt]
 have hc1 := zk.alloc [] w (.cells #[Pt bt] 152)
 generalize hw1 : w.alloc (.cells #[Pt bt] 152) = w1 at hc1
 have hv1 := zud ⟨bt, 0, none⟩ w
 rw [hw1] at hv1
 have hn1 : zU w1 w.heap.size 152 [Pt bt] := hw1 ▸ hn1
 refine za (Om rfl ?_)
 refine zE (gn rfl) (zc8 (P := TP) (n := Tryz.f79.ntmps) zsu rfl rfl hv1 rfl ?_)
 skip
 refine zE (gn rfl) (zH zvo rfl rfl ?_)
 intro b5 w5 e5 n5 c5 k5
 refine zE (gn rfl) (zu zkl rfl rfl rfl rfl k5 (by simp) (by intro u hu; simp at hu; rcases hu with rfl | rfl | rfl <;> rfl) ?_)
 intro wA nA cA kA
 refine E3 0 1 5 rfl ?_
 have kA : zU wA b5 202 [hnd 152, .pointer (some ⟨w.heap.size, 0, none⟩), .int .u64 150] := kA
 have hsz := hc1.size
 have hcA : zk [] w wA := (hc1.trans c5).own cA (by intro y hy; simp at hy; omega)
 have hnA := (hn1.chg0 c5).chg cA (by simp; have := hn1.lt; omega)
 have hEA := hE.chg0 hcA
 have htA := ht.chg0 hcA
 refine Sr ?_
 refine Og (zg zmr zkl rfl rfl (zy.of_blk0 kA)) rfl ?_
 refine zE (gn rfl) (zc8 (P := TP) (n := Tryz.f79.ntmps) zw0 rfl rfl (zuw ⟨w.heap.size, 0, none⟩ wA) rfl ?_)
 skip
 refine Oa rfl (E4 0 1 5 6 rfl (ze (Sr (Om rfl ?_))))
 refine zE (gn rfl) (zbQ (zpM _) zsM rfl rfl (zrw _) rfl ?_)
 skip
 refine Og (vf (zS rfl rfl) (zcl (by omega))) rfl ?_
 refine Om rfl ?_
 refine Oy rfl rfl (zg zmr zkl rfl rfl (zy.of_blk0 kA)) ?_
 refine zE (gy rfl rfl rfl) (zc8 (P := TP) (n := Tryz.f79.ntmps) zuQ rfl rfl (zqC ⟨w.heap.size, 0, none⟩ ⟨bt, 0, none⟩ wA (hnA.cell' rfl)) rfl ?_)
 skip
 refine Of rfl (E5 0 1 5 6 23 rfl (zb rfl (zm (Sr (Om rfl ?_)))))
 refine zE (gn rfl) (zbQ (zt4 _) zuY rfl rfl (zqA _) rfl ?_)
 skip
 refine Oa rfl (E4 0 1 5 7 rfl (ze (Sr (Om rfl ?_))))
 refine zE (gn rfl) (zbQ (zpM _) zsM rfl rfl (zqK _) rfl ?_)
 skip
 refine Og (vt (zS rfl rfl) (zhL (by omega))) rfl ?_
 refine Om rfl (Oj rfl rfl ?_)
 refine Oy rfl rfl (zh zvU rfl hEA) ?_
 refine zE (gy rfl rfl rfl) (zbQ (zul _) zvf rfl rfl (ztA _) rfl ?_)
 skip
 refine Oy rfl rfl (zO rfl) ?_
 refine Ot rfl (E5 0 1 5 7 35 rfl (zb rfl (zm (Sr (Om rfl (Om rfl ?_))))))
 refine Og (zg zmr zkl rfl rfl (zy.of_blk0 kA)) rfl ?_
 refine Om rfl ?_
 refine Oc zvh rfl rfl rfl (zxE v n bt old ⟨w.heap.size, 0, none⟩ wA (hv.chg0 hcA) htA (hnA.cell' rfl) (by simp; omega)) ?_
 rintro v41 w41 ⟨rfl, hb, hc⟩
 refine Oa rfl (E1 4 rfl (zi ?_))
 refine zD rfl rfl ?_
 exact ⟨rfl, hb, (hcA.any (S := [bt])).transS hc⟩
theorem zuZ (t : Value) (w : World) : z9 TP 79 #[.nilIface, t] w fun r w' => r = .bool false ∧ w' = w := by
 refine A2 Tryz.func79 rfl rfl ?_
 refine Sr (Oa rfl (E2 0 1 rfl (ze (Sr (Om rfl ?_)))))
 refine Og (zbF zbc rfl rfl) rfl ?_
 refine E3 0 1 9 rfl (zd rfl (Sr (Oa rfl (E1 4 rfl (zi ?_)))))
 repeat first | refine tr ?_ | refine br ?_
 refine zD rfl rfl ?_
 exact ⟨rfl, rfl⟩
theorem zsy : (Tryz.prog.info? 32).map (·.comparable) = some true := by kernel_rfl
theorem zxG (v : Value) (n k : Int) (w : World) (hv : zcw w v n) : z9 TP 110 #[v, zdD k, .bool true] w fun r w' => r = .bool (decide (n = k)) ∧ zk [] w w' := by
 refine A3 Tryz.func110 rfl rfl ?_
 refine Sr (Oa rfl (E3 0 1 2 rfl (zq ?_)))
 refine zW [0, 1, 2] (fun m F wx => ∃ u : Value, (zcw wx u n ∧ (m = 0 → u = zdD n)) ∧ F = [(0, u), (1, zdD k), (2, .bool true)] ∧ zk [] w wx) (m := 1) ⟨v, ⟨hv, fun h => by omega⟩, rfl, zk.refl _ _⟩ ?_
 rintro m F wx ⟨u, ⟨hu, hm⟩, rfl, hcx⟩
 refine zq (ze (ze ?_))
 rcases hu with rfl | hu
 ·by_cases hnk : n = k
  ·refine za (Om rfl (Om rfl (Oj rfl rfl (Oj rfl rfl ?_))))
   refine Oy rfl rfl (yE (v' := .bool true) (zlv zbc zsy zj0 rfl rfl) (by rw [decide_eq_true hnk])) ?_
   refine Ot rfl (E4 0 1 2 19 rfl (zd rfl (Sr (Oa rfl (E1 6 rfl (zi ?_))))))
   repeat first | refine tr ?_ | refine br ?_
   refine zD rfl rfl ?_
   exact ⟨by rw [decide_eq_true hnk], hcx⟩
  refine za (Om rfl (Om rfl (Oj rfl rfl (Oj rfl rfl ?_))))
  refine Oy rfl rfl (yE (v' := .bool false) (zlv zbc zsy zj0 rfl rfl) (by rw [decide_eq_false hnk])) ?_
  refine Ot rfl (E4 0 1 2 19 rfl (zb rfl (zm (ze (Sr (Om rfl ?_))))))
  refine Og (zcn zlT zpx rfl) rfl ?_
  refine Om rfl (Oe rfl rfl (Oe rfl rfl (Oa rfl (Oa rfl (E5 0 1 2 7 8 rfl (Sr (Om rfl (Om rfl (Oz rfl rfl (Oz rfl rfl (Oz rfl rfl (Of rfl ?_))))))))))))
  refine E4 0 1 2 30 rfl (zb rfl (zm (Sr (Om rfl (E3 1 2 31 rfl (zq (Sr ?_)))))))
  refine Og (zcn zlQ zkt rfl) rfl ?_
  refine Oe rfl rfl (Oe rfl rfl (E5 1 2 31 33 34 rfl (zb rfl (Sr ?_))))
  refine Og (zcn zlW zwH rfl) rfl ?_
  refine Oe rfl rfl (Oe rfl rfl (E5 1 2 31 40 41 rfl (zb rfl (Sr (Oa rfl (za1 [] (F' := []) rfl (Sr (Oa rfl (E1 6 rfl (zi ?_))))))))))
  repeat first | refine tr ?_ | refine br ?_
  refine zD rfl rfl ?_
  exact ⟨by rw [decide_eq_false hnk], hcx⟩
 have hm1 : m ≠ 0 := fun h => by
  have := hm h
  subst this
  rcases hu with ⟨b, c, h, _⟩ | ⟨k, h⟩ <;> cases h
 rcases hu with ⟨b, c, rfl, hb⟩ | ⟨kk, rfl⟩
 ·refine za (Om rfl (Om rfl (Oj rfl rfl (Oj rfl rfl ?_))))
  refine Oy rfl rfl (zmD zbc rfl rfl rfl) ?_
  refine Ot rfl (E4 0 1 2 19 rfl (zb rfl (zm (ze (Sr (Om rfl ?_))))))
  refine Og (zcn zjV zpx rfl) rfl ?_
  refine Om rfl (Oe rfl rfl (Oe rfl rfl (Oa rfl (Oa rfl (E5 0 1 2 7 8 rfl (Sr (Om rfl (Om rfl (Oz rfl rfl (Oz rfl rfl (Oz rfl rfl (Of rfl ?_))))))))))))
  refine E4 0 1 2 30 rfl (zb rfl (zm (Sr (Om rfl (E3 1 2 31 rfl (zq (Sr ?_)))))))
  refine Og (zcn zg8 zkt rfl) rfl ?_
  refine Oe rfl rfl (Oe rfl rfl (E5 1 2 31 33 34 rfl (zd rfl (Sr (Oa rfl (E3 1 2 9 rfl (Sr (Om rfl ?_))))))))
  refine zE (gn rfl) (zfj (zpP _) zst rfl rfl rfl (zo0 b c n _ hb) ?_)
  rintro v36 w36 ⟨rfl, rfl⟩
  refine Oa rfl (E3 0 1 2 rfl (Sr (Om rfl ?_)))
  refine Og (zbF zbc rfl rfl) rfl ?_
  refine E4 0 1 2 38 rfl (zb rfl (ye (zl (zl ?_))))
  exact ⟨0, by omega, _, ⟨.inl rfl, fun _ => rfl⟩, rfl, hcx⟩
 refine za (Om rfl (Om rfl (Oj rfl rfl (Oj rfl rfl ?_))))
 refine Oy rfl rfl (zmD zbc rfl rfl rfl) ?_
 refine Ot rfl (E4 0 1 2 19 rfl (zb rfl (zm (ze (Sr (Om rfl ?_))))))
 refine Og (zcn zld zpx rfl) rfl ?_
 refine Om rfl (Oe rfl rfl (Oe rfl rfl (Oa rfl (Oa rfl (E5 0 1 2 7 8 rfl (Sr (Om rfl (Om rfl (Oz rfl rfl (Oz rfl rfl (Oz rfl rfl (Of rfl ?_))))))))))))
 refine E4 0 1 2 30 rfl (zb rfl (zm (Sr (Om rfl (E3 1 2 31 rfl (zq (Sr ?_)))))))
 refine Og (zcn zg0 zkt rfl) rfl ?_
 refine Oe rfl rfl (Oe rfl rfl (E5 1 2 31 33 34 rfl (zd rfl (Sr (Oa rfl (E3 1 2 9 rfl (Sr (Om rfl ?_))))))))
 refine zE (gn rfl) (zfj (zpR _) zsU rfl rfl rfl (zoA kk n _) ?_)
 rintro v36 w36 ⟨rfl, c36⟩
 refine Oa rfl (E3 0 1 2 rfl (Sr (Om rfl ?_)))
 refine Og (zbF zbc rfl rfl) rfl ?_
 refine E4 0 1 2 38 rfl (zb rfl (ye (zl (zl ?_))))
 exact ⟨0, by omega, _, ⟨.inl rfl, fun _ => rfl⟩, rfl, hcx.trans c36⟩
theorem ztz (v : Value) (n k : Int) (w : World) (hv : zcw w v n) : z9 TP 74 #[v, zdD k] w fun r w' => r = .bool (decide (n = k)) ∧ zk [] w w' := by
 refine A2 Tryz.func74 rfl rfl ?_
 refine Sr (Oa rfl (E2 0 1 rfl (ze (ze ?_))))
 have hb : zn TP 110 = true := zsn
 refine za (Om rfl ?_)
 refine Og (zbF zbc rfl hv.notNil) rfl ?_
 refine Om rfl (Oj rfl rfl ?_)
 refine Oy rfl rfl (zbF zbc rfl rfl) ?_
 refine Of rfl (E3 0 1 11 rfl (zb rfl (zm (Sr (Om rfl ?_)))))
 refine zE (gn rfl) (zc8 (P := TP) (n := Tryz.f74.ntmps) zns rfl rfl (zkV _ _) rfl ?_)
 skip
 refine zE (gn rfl) (zbQ (zwh _) zvQ rfl rfl (zvM _) rfl ?_)
 skip
 refine Oa rfl (E3 0 1 5 rfl (Sr (Om rfl (Om rfl (Om rfl ?_)))))
 refine Oc zsn rfl rfl rfl (zxG v n k _ hv) ?_
 rintro v21 w21 ⟨rfl, c21⟩
 refine Oa rfl (E1 4 rfl (zi ?_))
 refine zD rfl rfl ?_
 exact ⟨rfl, c21⟩
theorem zwc (k : Int) (w : World) : z9 TP 74 #[.nilIface, zdD k] w fun r w' => r = .bool false ∧ w' = w := by
 refine A2 Tryz.func74 rfl rfl ?_
 refine Sr (Oa rfl (E2 0 1 rfl (ze (Sr (Om rfl ?_)))))
 refine Og (zbF zbc rfl rfl) rfl ?_
 refine Om rfl (Oz rfl rfl (Oz rfl rfl (Ot rfl (E3 0 1 11 rfl (zd rfl (Sr (Om rfl (Om rfl ?_))))))))
 refine Og (zp2 zbc rfl rfl) rfl ?_
 refine Oa rfl (E1 4 rfl (zi ?_))
 repeat first | refine tr ?_ | refine br ?_
 refine zD rfl rfl ?_
 exact ⟨rfl, rfl⟩
theorem zs7 (v : Value) (n : Int) (w : World) (hE : EOk w) (hv : v = .nilIface ∧ n = 0 ∨ zcw w v n) : z9 TP 124 #[v] w fun r w' => r = Ii n ∧ zk [] w w' := by
 refine A1 Tryz.func124 rfl rfl ?_
 refine Sr ?_
 refine zE (gn rfl) (zH zuh rfl rfl ?_)
 intro b2 w2 e2 n2 c2 k2
 refine E2 0 2 rfl (ze (ze ?_))
 rcases hv with ⟨rfl, rfl⟩ | hv
 ·refine za (Om rfl ?_)
  refine Og (yW zoJ rfl) rfl ?_
  refine Oc zt6 rfl rfl rfl (zuZ _ _) ?_
  rintro v5 w5 ⟨rfl, rfl⟩
  refine Og (zO rfl) rfl (E2 2 6 rfl (zd rfl (Sr ?_)))
  refine zE (gn rfl) (zu zqb rfl rfl rfl rfl k2 (by simp) (by intro u hu; simp at hu; subst hu; rfl) ?_)
  intro wA nA cA kA
  refine E1 2 rfl (zi ?_)
  repeat first | refine tr ?_ | refine br ?_
  refine zm9 rfl zl7 rfl (kA.cell' rfl) ?_
  exact ⟨rfl, c2.own cA (by intro y hy; simp at hy; omega)⟩
 refine za (Om rfl ?_)
 refine Og (yW zoJ rfl) rfl ?_
 refine Oc zt6 rfl rfl rfl (zvp v n b2 _ _ (hE.chg0 c2) (hv.chg0 c2) k2) ?_
 rintro v5 w5 ⟨rfl, k5, c5⟩
 refine Og (zO rfl) rfl (E2 2 6 rfl (zb rfl (zm (Sr ?_))))
 refine Ol zl7 rfl (k5.cell' rfl) ?_
 refine zE (gn rfl) (zu zqb rfl rfl rfl rfl k5 (by simp) (by intro u hu; simp at hu; subst hu; rfl) ?_)
 intro wA nA cA kA
 refine E1 2 rfl (zi ?_)
 repeat first | refine tr ?_ | refine br ?_
 refine zm9 rfl zl7 rfl (kA.cell' rfl) ?_
 exact ⟨rfl, (c2.own c5 (by intro y hy; simp at hy; omega)).own cA (by intro y hy; simp at hy; omega)⟩
theorem ze9 (v : Value) (n : Int) (w : World) (hE : EOk w) (hv : v = .nilIface ∧ n = 0 ∨ zcw w v n) : z9 TP 46 #[v] w fun r w' => r = Ii n ∧ zk [] w w' := by
 refine A1 Tryz.func46 rfl rfl ?_
 refine Sr ?_
 refine zE (gn rfl) (zH zuh rfl rfl ?_)
 intro b2 w2 e2 n2 c2 k2
 refine E2 0 2 rfl (ze (ze ?_))
 rcases hv with ⟨rfl, rfl⟩ | hv
 ·refine za (Om rfl ?_)
  refine Og (zbF zbc rfl rfl) rfl ?_
  refine Om rfl (Oz rfl rfl (Oz rfl rfl (Oz rfl rfl (Oz rfl rfl (Ot rfl (E2 2 10 rfl (zd rfl (Sr ?_))))))))
  refine zE (gn rfl) (zu zqb rfl rfl rfl rfl k2 (by simp) (by intro u hu; simp at hu; subst hu; rfl) ?_)
  intro wA nA cA kA
  refine E1 2 rfl (zi ?_)
  repeat first | refine tr ?_ | refine br ?_
  refine zm9 rfl zl7 rfl (kA.cell' rfl) ?_
  exact ⟨rfl, c2.own cA (by intro y hy; simp at hy; omega)⟩
 refine za (Om rfl ?_)
 refine Og (zbF zbc rfl hv.notNil) rfl ?_
 refine Om rfl (Oj rfl rfl ?_)
 refine Oy rfl rfl (yW zoJ rfl) ?_
 refine Ow rfl rfl zt6 rfl rfl rfl (zvp v n b2 _ _ (hE.chg0 c2) (hv.chg0 c2) k2) ?_
 rintro v8 w8 ⟨rfl, k5, c5⟩
 refine Oy rfl rfl (zO rfl) ?_
 refine Of rfl (E2 2 10 rfl (zb rfl (zm (Sr ?_))))
 refine Ol zl7 rfl (k5.cell' rfl) ?_
 refine zE (gn rfl) (zu zqb rfl rfl rfl rfl k5 (by simp) (by intro u hu; simp at hu; subst hu; rfl) ?_)
 intro wA nA cA kA
 refine E1 2 rfl (zi ?_)
 repeat first | refine tr ?_ | refine br ?_
 refine zm9 rfl zl7 rfl (kA.cell' rfl) ?_
 exact ⟨rfl, (c2.own c5 (by intro y hy; simp at hy; omega)).own cA (by intro y hy; simp at hy; omega)⟩
def zi2 (w : World) (v : Value) (n : Int) : Prop := v = .nilIface ∧ n = 0 ∨ zcw w v n ∧ n ≠ 0
theorem zi2.weak {w : World} {v : Value} {n : Int} (h : zi2 w v n) : v = .nilIface ∧ n = 0 ∨ zcw w v n := h.imp id (·.1)
theorem zhO {w : World} {b : Nat} {c : ByteArray} {n : Int} (h : zU w b 317 [.string c, zdD n]) : zcw w (.iface 315 (Pt b)) n := .inr (.inl ⟨b, c, rfl, h⟩)
theorem zqH {c : Col} {x : zQ} (h : y7 c = false) : yZ c x = 2 := by simp [yZ, h]
theorem zrO {c : Col} {x : zQ} (h : y7 c = true) (h2 : zbi x ≠ 0) : yZ c x = zbi x := by simp [yZ, h, h2]
theorem znt {c : Col} {x : zQ} (h : y7 c = true) (h2 : zbi x = 0) (h3 : x.k = 0) : yZ c x = if c.z then 0 else 131 := by simp [yZ, h, h2, h3]
theorem zqD {c : Col} {x : zQ} (h : y7 c = true) (h2 : zbi x = 0) (h3 : x.k ≠ 0) (h4 : x.k ≠ c.t) : yZ c x = 132 := by simp [yZ, h, h2, h3, h4]
theorem znk {c : Col} {x : zQ} (h : y7 c = true) (h2 : zbi x = 0) (h3 : x.k ≠ 0) (h4 : x.k = c.t) : yZ c x = if zbb c x then 133 else 0 := by
 simp only [yZ, h, h2, h4]
 rw [h4] at h3
 simp [h3]
theorem zqh (c : Col) (x : zQ) (w : World) (hx : x.Rng) : z9 TP 155 #[c.v, x.v] w fun r w' => zi2 w' r (yZ c x) ∧ zk [] w w' := by
 refine A2 Tryz.func155 rfl rfl ?_
 refine Sr ?_
 refine Ob rfl rfl ?_
 intro b2 w2 e2 n2 c2 k2
 refine Ob rfl rfl ?_
 intro b3 w3 e3 n3 c3 k3
 refine Oa rfl (E2 2 3 rfl ?_)
 have hk2 := k2.chg0 c3
 have hc3 : zk [] w w3 := c2.trans c3
 refine ze (ze ?_)
 cases hr : y7 c with
 | false =>
  refine za ?_
  refine Og (zg zdX zaT rfl rfl (zy.of_blk0 hk2)) rfl ?_
  refine Oc znb rfl rfl rfl (zhm c _) ?_
  rintro v8 w8 ⟨h8, c8⟩
  rw [hr] at h8
  subst h8
  refine Og (zO rfl) rfl (E3 2 3 9 rfl (zd rfl (Sr (Od zbO rfl ?_))))
  refine Ol ag9 rfl ((hk2.chg0 c8).cell' rfl) ?_
  refine Og (yW zfN rfl) rfl ?_
  refine Og (z6 zls zlr rfl (vs := [_, _]) rfl (css := [_, _]) ⟨rfl, rfl, trivial⟩ rfl rfl (cs := [_, _]) rfl) rfl ?_
  refine Ob rfl rfl ?_
  intro b14 w14 e14 n14 c14 k14
  refine Og (yW zki rfl) rfl ?_
  refine Oa rfl (E1 4 rfl (zi ?_))
  repeat first | refine tr ?_ | refine br ?_
  refine zD rfl rfl ?_
  rw [zqH hr]
  exact ⟨.inr ⟨zhO k14, by omega⟩, (hc3.trans c8).trans c14⟩
 | true =>
  refine za ?_
  refine Og (zg zdX zaT rfl rfl (zy.of_blk0 hk2)) rfl ?_
  refine Oc znb rfl rfl rfl (zhm c _) ?_
  rintro v8 w8 ⟨h8, c8⟩
  rw [hr] at h8
  subst h8
  refine Og (zO rfl) rfl (E3 2 3 9 rfl (zb rfl (zm (ze (Sr ?_)))))
  refine Og (zg zbp y6 rfl rfl (zy.of_blk0 (k3.chg0 c8))) rfl ?_
  refine Oc zsV rfl rfl rfl (zmW x _) ?_
  rintro v17 w17 ⟨rfl, c17⟩
  refine Oa rfl (E3 2 3 5 rfl ?_)
  have hc17 : zk [] w w17 := (hc3.trans c8).trans c17
  have hk2a := hk2.chg0 (c8.trans c17)
  have hk3a := k3.chg0 (c8.trans c17)
  refine ze ?_
  by_cases hc : zbi x = 0
  ·refine za (Om rfl ?_)
   refine Og (vf (zS rfl rfl) (by simp [hc])) rfl ?_
   refine E4 2 3 5 19 rfl (zb rfl (zm ?_))
   refine yf (fun F wA => ∃ b6 s f k, F = [(2, Pt b2), (3, Pt b3), (6, Pt b6)] ∧ zU wA b6 259 [.func (.func s) #[] #[], Ii c.t, .func (.func f) #[] #[]] ∧ zk [] w17 wA ∧ k = c.t ∧ zn TP f = true ∧ (∀ (x : zQ) w, x.Rng → z9 TP f #[Ii c.s, x.v] w fun r w' => r = .bool (!zbb c x) ∧ zk [] w w')) ?_ ?_
   ·have htn : zfw c = true := by rw [zdL] at hr; simp only [Bool.and_eq_true] at hr; exact hr.1.1
    obtain ⟨s, f, kk, hg, hkk, _, hbf, _, hff⟩ := zeO htn
    have hC := (zk.drew [] w17)
    refine zfe (fun wz => zk [] w17 wz) (zaU.seq [1, 2] (.two 0 (zaU.seq [] (.two 3 (zaU.seq [4, 5] .done) 4 (zaU.seq [3, 5] .done))) 4 (zaU.seq [0, 3, 5] .done))) mix (by kernel_rfl) hC ?_
    refine yd rfl rfl (gn rfl) (fun _ => zj zfP rfl) rfl rfl ?_
    refine zdp rfl rfl (gn rfl) (fun wz hz => zh zmk rfl ((hk2a.chg0 hz).cell' rfl)) rfl rfl ?_
    refine zeF ?_ ?_
    ·refine zaa rfl rfl (gn rfl) (y5 zmN rfl rfl rfl rfl (zhk _) ?_)
     rintro v27 w27 ⟨b27, rfl, h27, k27, c27⟩
     have hN27 := hC.size
     have hC := hC.trans c27
     refine ⟨.inl hC, ?_⟩
     refine zeF ?_ ?_
     ·refine zaa rfl rfl (gn rfl) (St.vl (zcI (κ := zbB .i64) zfA (yv zaF) zdf rfl rfl k27 hg rfl) rfl rfl ?_)
      refine ⟨.inl hC, ?_⟩
      refine zaa rfl rfl (gn rfl) (zH zdf rfl rfl ?_)
      intro b6 w6 e6 n6 c6 k6
      have hN6 := hC.size
      have hC := hC.trans c6
      have k27 := k27.chg0 c6
      refine ⟨.inl hC, ?_⟩
      refine zaa rfl rfl (gn rfl) (zu zi3 rfl rfl rfl rfl k6 (by simp) (by intro u hu; simp at hu; rcases hu with rfl | rfl | rfl <;> rfl) ?_)
      intro wA nA cA kA
      have hC := hC.own cA (by intro y hy; simp at hy; omega)
      refine ⟨.inl hC, ?_⟩
      refine zcB [2, 3, 6] (F' := [(2, _), (3, _), (6, _)]) rfl ?_
      exact ⟨b6, s, f, c.t, rfl, by rw [← hkk]; exact kA, hC, rfl, hbf, hff hr⟩
     refine zaa rfl rfl (gn rfl) (zH zdf rfl rfl ?_)
     intro b6 w6 e6 n6 c6 k6
     have hN6 := hC.size
     have hC := hC.trans c6
     have k27 := k27.chg0 c6
     refine ⟨.inl hC, ?_⟩
     refine zaa rfl rfl (gn rfl) (St.vl (zcI (κ := zbB .i64) zfA (yv zaF) zdf rfl rfl k27 hg rfl) rfl rfl ?_)
     refine ⟨.inl hC, ?_⟩
     refine zaa rfl rfl (gn rfl) (zu zi3 rfl rfl rfl rfl k6 (by simp) (by intro u hu; simp at hu; rcases hu with rfl | rfl | rfl <;> rfl) ?_)
     intro wA nA cA kA
     have hC := hC.own cA (by intro y hy; simp at hy; omega)
     refine ⟨.inl hC, ?_⟩
     refine zcB [2, 3, 6] (F' := [(2, _), (3, _), (6, _)]) rfl ?_
     exact ⟨b6, s, f, c.t, rfl, by rw [← hkk]; exact kA, hC, rfl, hbf, hff hr⟩
    refine zaa rfl rfl (gn rfl) (zH zdf rfl rfl ?_)
    intro b6 w6 e6 n6 c6 k6
    have hN6 := hC.size
    have hC := hC.trans c6
    refine ⟨.inl hC, ?_⟩
    refine zaa rfl rfl (gn rfl) (y5 zmN rfl rfl rfl rfl (zhk _) ?_)
    rintro v27 w27 ⟨b27, rfl, h27, k27, c27⟩
    have hN27 := hC.size
    have hC := hC.trans c27
    have k6 := k6.chg0 c27
    refine ⟨.inl hC, ?_⟩
    refine zaa rfl rfl (gn rfl) (St.vl (zcI (κ := zbB .i64) zfA (yv zaF) zdf rfl rfl k27 hg rfl) rfl rfl ?_)
    refine ⟨.inl hC, ?_⟩
    refine zaa rfl rfl (gn rfl) (zu zi3 rfl rfl rfl rfl k6 (by simp) (by intro u hu; simp at hu; rcases hu with rfl | rfl | rfl <;> rfl) ?_)
    intro wA nA cA kA
    have hC := hC.own cA (by intro y hy; simp at hy; omega)
    refine ⟨.inl hC, ?_⟩
    refine zcB [2, 3, 6] (F' := [(2, _), (3, _), (6, _)]) rfl ?_
    exact ⟨b6, s, f, c.t, rfl, by rw [← hkk]; exact kA, hC, rfl, hbf, hff hr⟩
   rintro F wA ⟨b6, s, f, k, rfl, kA, hcA, rfl, hbf, hff⟩
   have hk2b := hk2a.chg0 hcA
   have hk3b := hk3a.chg0 hcA
   have hwA := hc17.trans hcA
   refine ze (zq (ze ?_))
   by_cases h0 : x.k = 0
   ·refine za (Od zaw rfl ?_)
    refine Ol zcm rfl (hk3b.cell' rfl) ?_
    refine Og (vt (zw rfl rfl) (decide_eq_true (by omega))) rfl ?_
    refine Om rfl ?_
    refine Oy rfl rfl (zj zfQ rfl) ?_
    refine Oy rfl rfl (zh ag4 rfl (hk2b.cell' rfl)) ?_
    refine Ot rfl (Oa rfl (E4 2 3 6 31 rfl ?_))
    refine zR rfl (fun hT => ?_) (fun hF => ?_)
    ·refine Sr (Oa rfl (E1 4 rfl (zi ?_)))
     repeat first | refine tr ?_ | refine br ?_
     refine zD rfl rfl ?_
     exact ⟨.inl ⟨rfl, by rw [znt hr hc h0, hT]; rfl⟩, hwA⟩
    refine Sr (Od zaw rfl ?_)
    refine Ol zcm rfl (hk3b.cell' rfl) ?_
    refine Og (vt (zw rfl rfl) (decide_eq_true (by omega))) rfl ?_
    refine Oa rfl (E4 2 3 6 39 rfl (zd rfl (Sr (Od zbO rfl ?_))))
    refine Ol ag9 rfl (hk2b.cell' rfl) ?_
    refine Og (yW zfN rfl) rfl ?_
    refine Og (z6 zls zlr rfl (vs := [_, _]) rfl (css := [_, _]) ⟨rfl, rfl, trivial⟩ rfl rfl (cs := [_, _]) rfl) rfl ?_
    refine Ob rfl rfl ?_
    intro b47 w47 e47 n47 c47 k47
    refine Og (yW zki rfl) rfl ?_
    refine Oa rfl (E1 4 rfl (zi ?_))
    repeat first | refine tr ?_ | refine br ?_
    refine zD rfl rfl ?_
    rw [znt hr hc h0, hF]
    exact ⟨.inr ⟨zhO k47, by decide⟩, hwA.trans c47⟩
   refine za (Od zaw rfl ?_)
   refine Ol zcm rfl (hk3b.cell' rfl) ?_
   refine Og (vf (zw rfl rfl) (decide_eq_false (by omega))) rfl ?_
   refine Om rfl (Oz rfl rfl (Oz rfl rfl (Of rfl (Oa rfl (E4 2 3 6 31 rfl (zb rfl (Sr (Od zaw rfl ?_))))))))
   refine Ol zcm rfl (hk3b.cell' rfl) ?_
   refine Og (vf (zw rfl rfl) (decide_eq_false (by omega))) rfl ?_
   refine Oa rfl (E4 2 3 6 39 rfl (zb rfl (ze ?_)))
   by_cases h4 : x.k = c.t
   ·refine za (Od zaw rfl ?_)
    refine Ol zcm rfl (hk3b.cell' rfl) ?_
    refine Od zmE rfl ?_
    refine Ol zcm rfl (kA.cell' rfl) ?_
    refine Og (vf (zS rfl rfl) (zcl (by omega))) rfl ?_
    refine Oa rfl (E4 2 3 6 49 rfl (zb rfl (Sr (Od zqz rfl ?_))))
    refine Ol zwu rfl (kA.cell' rfl) ?_
    refine Od zbH rfl ?_
    refine Ol ag3 rfl (hk2b.cell' rfl) ?_
    refine Og (zg zbp y6 rfl rfl (zy.of_blk0 hk3b)) rfl ?_
    refine Oc hbf rfl rfl rfl (hff x _ hx) ?_
    rintro v67 w67 ⟨rfl, c67⟩
    refine Og (zO rfl) rfl (Oa rfl (E2 2 61 rfl ?_))
    cases hwd : zbb c x with
    | true =>
     refine zd rfl (Sr (Od zbO rfl ?_))
     refine Ol ag9 rfl ((hk2b.chg0 c67).cell' rfl) ?_
     refine Og (yW zfN rfl) rfl ?_
     refine Og (z6 zls zlr rfl (vs := [_, _]) rfl (css := [_, _]) ⟨rfl, rfl, trivial⟩ rfl rfl (cs := [_, _]) rfl) rfl ?_
     refine Ob rfl rfl ?_
     intro b73 w73 e73 n73 c73 k73
     refine Og (yW zki rfl) rfl ?_
     refine Oa rfl (E1 4 rfl (zi ?_))
     repeat first | refine tr ?_ | refine br ?_
     refine zD rfl rfl ?_
     rw [znk hr hc h0 h4, hwd]
     exact ⟨.inr ⟨zhO k73, by decide⟩, (hwA.trans c67).trans c73⟩
    | false =>
     refine zb rfl (ye (zl (Sr (Oa rfl (E1 4 rfl (zi ?_))))))
     repeat first | refine tr ?_ | refine br ?_
     refine zD rfl rfl ?_
     rw [znk hr hc h0 h4, hwd]
     exact ⟨.inl ⟨rfl, rfl⟩, hwA.trans c67⟩
   refine za (Od zaw rfl ?_)
   refine Ol zcm rfl (hk3b.cell' rfl) ?_
   refine Od zmE rfl ?_
   refine Ol zcm rfl (kA.cell' rfl) ?_
   refine Og (vt (zS rfl rfl) (zhL (by omega))) rfl ?_
   refine Oa rfl (E4 2 3 6 49 rfl (zd rfl (Sr (Od zbO rfl ?_))))
   refine Ol ag9 rfl (hk2b.cell' rfl) ?_
   refine Og (yW zfN rfl) rfl ?_
   refine Og (z6 zls zlr rfl (vs := [_, _]) rfl (css := [_, _]) ⟨rfl, rfl, trivial⟩ rfl rfl (cs := [_, _]) rfl) rfl ?_
   refine Ob rfl rfl ?_
   intro b59 w59 e59 n59 c59 k59
   refine Og (yW zki rfl) rfl ?_
   refine Oa rfl (E1 4 rfl (zi ?_))
   repeat first | refine tr ?_ | refine br ?_
   refine zD rfl rfl ?_
   rw [zqD hr hc h0 h4]
   exact ⟨.inr ⟨zhO k59, by decide⟩, hwA.trans c59⟩
  refine za (Om rfl ?_)
  refine Og (vt (zS rfl rfl) (by simp [hc])) rfl ?_
  refine E4 2 3 5 19 rfl (zd rfl (Sr (Od zbO rfl ?_)))
  refine Ol ag9 rfl (hk2a.cell' rfl) ?_
  refine Om rfl ?_
  refine Og (yW zfN rfl) rfl ?_
  refine Og (z6 zls zlr rfl (vs := [_, _]) rfl (css := [_, _]) ⟨rfl, rfl, trivial⟩ rfl rfl (cs := [_, _]) rfl) rfl ?_
  refine Ob rfl rfl ?_
  intro b25 w25 e25 n25 c25 k25
  refine Og (yW zki rfl) rfl ?_
  refine Oa rfl (E1 4 rfl (zi ?_))
  repeat first | refine tr ?_ | refine br ?_
  refine zD rfl rfl ?_
  rw [zrO hr hc]
  exact ⟨.inr ⟨zhO k25, hc⟩, hc17.trans c25⟩
theorem zgy : ∀ {cs : List Col} {xs : List zQ} {j : Nat} {c : Col} {x : zQ}, cs[j]? = some c → xs[j]? = some x → yZ c x ≠ 0 → (∀ (i : Nat) c x, i < j → cs[i]? = some c → xs[i]? = some x → yZ c x = 0) → zaJ cs xs = yZ c x
 | [], _, _, _, _, h, _, _, _ => by simp at h
 | _ :: _, [], _, _, _, _, h, _, _ => by simp at h
 | c' :: cs, x' :: xs, 0, c, x, hc, hx, hn, _ => by
  simp at hc hx; subst hc hx
  simp [zaJ, hn]
 | c' :: cs, x' :: xs, j + 1, c, x, hc, hx, hn, ha => by
  have h0 := ha 0 c' x' (by omega) rfl rfl
  unfold zaJ
  rw [if_neg (by simp [h0])]
  exact zgy (by simpa using hc) (by simpa using hx) hn (fun i c x hi h1 h2 => ha (i + 1) c x (by omega) (by simpa using h1) (by simpa using h2))
theorem zgH : ∀ {cs : List Col} {xs : List zQ}, (∀ (i : Nat) c x, cs[i]? = some c → xs[i]? = some x → yZ c x = 0) → zaJ cs xs = 0
 | [], _, _ => by simp [zaJ]
 | _ :: _, [], _ => by simp [zaJ]
 | c :: cs, x :: xs, h => by
  unfold zaJ
  rw [if_neg (by simp [h 0 c x rfl rfl])]
  exact zgH fun i c x h1 h2 => h (i + 1) c x (by simpa using h1) (by simpa using h2)
theorem zvG (c k u v : Value) (s : yo) (l : List zQ) (w : World) (hs : yO w c k u s) (hl : zK w v l) (hg : ∀ x ∈ l, x.Rng) (hn : l.length ≤ 1048576) (hn' : s.cols.length ≤ 1048576) :
 z9 TP 125 #[.agg #[c, k, u], v] w fun r w' => zi2 w' r (if l.length ≠ s.cols.length then 130 else zaJ s.cols l) ∧ zk [] w w' := by
 obtain ⟨pc, dc, rfl, hdc⟩ := z0.val hs.cols
 obtain ⟨pv, cv, rfl, hle⟩ := z0.val hl
 refine A2 Tryz.func125 rfl rfl ?_
 refine Sr ?_
 refine Ob rfl rfl ?_
 intro b2 w2 e2 n2 c2 k2
 refine Oa rfl (E2 1 2 rfl (ze (ze ?_)))
 by_cases he : l.length = s.cols.length
 ·refine za (Om rfl (On zao rfl (Od yn rfl ?_)))
  refine Ol zav rfl (k2.cell' rfl) ?_
  refine On zaj rfl ?_
  refine Og (vf (zS rfl rfl) (zcl (by omega))) rfl ?_
  refine E3 1 2 13 rfl (zb rfl (zm ?_))
  rw [if_neg (by simp [he])]
  refine ze (Sr (Om rfl (On zao rfl (Om rfl (E4 2 15 16 17 rfl (zq ?_))))))
  refine zW [2, 15, 16, 17] (fun m F wx => ∃ j : Nat, m = l.length - j ∧ j ≤ l.length ∧ F = [(2, Pt b2), (15, .slice pv l.length cv), (16, Ii l.length), (17, Ii j)] ∧ zk [] w2 wx ∧ (∀ i c x, i < j → s.cols[i]? = some c → l[i]? = some x → yZ c x = 0)) (m := l.length - 0) ⟨0, rfl, Nat.zero_le _, rfl, zk.refl _ _, by intro i c x h; omega⟩ ?_
  rintro m F wx ⟨j, rfl, hj, rfl, hcx, hall⟩
  have hcw : zk [] w wx := c2.trans hcx
  have hk2 := k2.chg0 hcx
  refine Sr (Og (zC rfl rfl) rfl (E5 2 15 16 17 18 rfl (ze ?_)))
  refine zR rfl (fun hT => ?_) (fun hF => ?_)
  ·refine zm ?_
   have hlt : j < l.length := by have := of_decide_eq_true hT; omega
   have hx : l[j]? = some l[j] := by simp [hlt]
   generalize l[j] = x at hx
   have hlt2 : j < s.cols.length := by omega
   have hcc : s.cols[j]? = some s.cols[j] := by simp [hlt2]
   generalize s.cols[j] = c at hcc
   obtain ⟨b, off, cap, hv, hcell⟩ := z0.at zbq (z0.chg0 hl hcw) hx
   cases hv
   obtain ⟨bc, oc, cc, hvc, hcellc⟩ := z0.at zap (z0.chg0 hs.cols hcw) hcc
   cases hvc
   refine ze (zq (Sr (Om rfl ?_)))
   refine Og (zf zao y6 rfl rfl _ rfl hlt) rfl ?_
   refine Og (zg zbp y6 rfl rfl hcell) rfl ?_
   refine zE (gn rfl) (zH zd6 rfl rfl ?_)
   intro b6 w6 e6 n6 c6 k6
   refine Oa rfl ?_
   refine zE (gn rfl) (zu y6 rfl rfl rfl rfl k6 (by simp [zQ.cs]) (zQ.one x) ?_)
   intro wA nA cA kA
   refine E6 2 5 6 15 16 17 rfl ?_
   have hcA : zk [] wx wA := c6.own cA (by intro y hy; simp at hy; omega)
   have kA : zU wA b6 40 x.cs := kA
   have hk2A := hk2.chg0 hcA
   have hdA : zk [] wA wA.drew := zk.drew [] _
   refine ze ?_
   by_cases hf : yZ c x = 0
   ·refine zJ (fun wz => zk [] wA wz) mix (by kernel_rfl) hdA ?_
    refine Td yn rfl ?_
    refine Tr (fun wz hz => zh zav rfl ((hk2A.chg0 hz).cell' rfl)) rfl ?_
    refine Tm rfl ?_
    refine Tp (fun _ => zf zaj zaT rfl rfl _ rfl hlt2) rfl ?_
    refine Tr (fun wz hz => zg zdX zaT rfl rfl ((hcellc.chg0 hcA).chg0 hz)) rfl ?_
    refine Tr (fun wz hz => zg zbp y6 rfl rfl (zy.of_blk0 (kA.chg0 hz))) rfl ?_
    refine Tc zrX rfl rfl rfl (zqh c x _ (hg x (List.mem_of_getElem? hx))) ?_
    rintro v28 w28 ⟨h28, c28⟩
    have h28 := h28.resolve_right (fun h => h.2 hf)
    obtain ⟨rfl, _⟩ := h28
    refine ⟨.inl (hdA.trans c28), ?_⟩
    refine Ta rfl (D5 2 7 15 16 17 rfl (Sr (Om rfl ?_)))
    refine Og (zb1 zbc rfl rfl) rfl ?_
    refine Om rfl (Oz rfl rfl (Oz rfl rfl (Oz rfl rfl (Oz rfl rfl (Of rfl (E6 2 7 15 16 17 36 rfl (zb rfl (ye (zl (za ?_))))))))))
    refine Og (zI rfl rfl (by omega)) rfl ?_
    refine Om rfl (N4 2 15 16 17 rfl ?_)
    refine ⟨l.length - (j + 1), by omega, j + 1, rfl, by omega, rfl, ((hcx.trans hcA).trans hdA).trans c28, ?_⟩
    intro i c' x' hi hc' hx'
    rcases Nat.lt_or_ge i j with hij | hij
    ·exact hall i c' x' hij hc' hx'
    have : i = j := by omega
    subst this
    rw [hx] at hx'; rw [hcc] at hc'
    cases hx'; cases hc'
    exact hf
   refine zJ (fun wz => zk [] wA wz) mix (by kernel_rfl) hdA ?_
   refine Td yn rfl ?_
   refine Tr (fun wz hz => zh zav rfl ((hk2A.chg0 hz).cell' rfl)) rfl ?_
   refine Tm rfl ?_
   refine Tp (fun _ => zf zaj zaT rfl rfl _ rfl hlt2) rfl ?_
   refine Tr (fun wz hz => zg zdX zaT rfl rfl ((hcellc.chg0 hcA).chg0 hz)) rfl ?_
   refine Tr (fun wz hz => zg zbp y6 rfl rfl (zy.of_blk0 (kA.chg0 hz))) rfl ?_
   refine Tc zrX rfl rfl rfl (zqh c x _ (hg x (List.mem_of_getElem? hx))) ?_
   rintro v28 w28 ⟨h28, c28⟩
   have h28 := (h28.resolve_left (fun h => hf h.2)).1
   refine ⟨.inl (hdA.trans c28), ?_⟩
   refine Ta rfl (D5 2 7 15 16 17 rfl (Sr (Om rfl ?_)))
   refine Og (zb1 zbc rfl h28.notNil) rfl ?_
   refine Om rfl (Oj rfl rfl ?_)
   refine Oy rfl rfl (yW zfN rfl) ?_
   refine Ow rfl rfl zrQ rfl rfl rfl (ztz v28 (yZ c x) 0 _ h28) ?_
   rintro v34 w34 ⟨h34, c34⟩
   rw [decide_eq_false hf] at h34
   subst h34
   refine Oy rfl rfl (zO rfl) ?_
   refine Ot rfl (E6 2 7 15 16 17 36 rfl (zd rfl (Sr (Om rfl (Oa rfl (E1 4 rfl (zi ?_)))))))
   repeat first | refine tr ?_ | refine br ?_
   refine zD rfl rfl ?_
   rw [zgy hcc hx hf hall]
   exact ⟨.inr ⟨h28.chg0 c34, hf⟩, (((hcw.trans hcA).trans hdA).trans c28).trans c34⟩
  refine zM ?_
  repeat first | refine te ?_ | refine bo rfl ?_
  refine zt _ ?_
  have hge : l.length ≤ j := by have := of_decide_eq_false hF; omega
  refine Sr (Oa rfl (E1 4 rfl (zi ?_)))
  repeat first | refine tr ?_ | refine br ?_
  refine zD rfl rfl ?_
  refine ⟨.inl ⟨rfl, zgH fun i c x h1 h2 => hall i c x ?_ h1 h2⟩, hcw⟩
  have := (List.getElem?_eq_some_iff.1 h2).1
  omega
 refine za (Om rfl (On zao rfl (Od yn rfl ?_)))
 refine Ol zav rfl (k2.cell' rfl) ?_
 refine On zaj rfl ?_
 refine Og (vt (zS rfl rfl) (zhL (by omega))) rfl ?_
 refine E3 1 2 13 rfl (zd rfl (Sr ?_))
 refine Og (yW zfN rfl) rfl ?_
 refine Oa rfl (E1 4 rfl (zi ?_))
 repeat first | refine tr ?_ | refine br ?_
 refine zD rfl rfl ?_
 rw [if_pos he]
 exact ⟨.inr ⟨.inl rfl, by omega⟩, c2⟩
theorem zsT (c k u v : Value) (s : yo) (l : List zQ) (w : World) (hE : EOk w) (hs : yO w c k u s) (hm : s.Sm) (hl : zK w v l) (hg : ∀ x ∈ l, x.Rng) (hn : l.length ≤ 1048576) :
 z9 TP 80 #[.agg #[c, k, u], v] w fun r w' => r = Ii (yV s l) ∧ zk [] w w' := by
 refine A2 Tryz.func80 rfl rfl ?_
 refine Sr ?_
 refine Ob rfl rfl ?_
 intro b2 w2 e2 n2 c2 k2
 refine Oa rfl (E2 1 2 rfl (ze (ze ?_)))
 unfold yV
 cases hr : yP s with
 | false =>
  refine za ?_
  refine Og (zg zaW zaX rfl rfl (zy.of_blk0 k2)) rfl ?_
  refine Oc zpl rfl rfl rfl (zgc c k u s _ (hs.chg0 c2) hm) ?_
  rintro v7 w7 ⟨h7, c7⟩
  rw [hr] at h7
  change v7 = Ii 2 at h7
  subst h7
  refine Oa rfl (E3 1 2 5 rfl (Sr (Om rfl ?_)))
  refine Og (vt (zS rfl rfl) (zhL (by omega))) rfl ?_
  refine E4 1 2 5 9 rfl (zd rfl (Sr (Om rfl (Oa rfl (E1 4 rfl (zi ?_))))))
  repeat first | refine tr ?_ | refine br ?_
  refine zD rfl rfl ?_
  exact ⟨rfl, c2.trans c7⟩
 | true =>
  refine za ?_
  refine Og (zg zaW zaX rfl rfl (zy.of_blk0 k2)) rfl ?_
  refine Oc zpl rfl rfl rfl (zgc c k u s _ (hs.chg0 c2) hm) ?_
  rintro v7 w7 ⟨h7, c7⟩
  rw [hr] at h7
  change v7 = Ii 0 at h7
  subst h7
  refine Oa rfl (E3 1 2 5 rfl (Sr (Om rfl ?_)))
  refine Og (vf (zS rfl rfl) (zcl (by omega))) rfl ?_
  refine E4 1 2 5 9 rfl (zb rfl (zm (ze ?_)))
  have hc7 := c2.trans c7
  refine za ?_
  refine Og (zg zaW zaX rfl rfl (zy.of_blk0 (k2.chg0 c7))) rfl ?_
  refine Om rfl ?_
  refine Oc zuG rfl rfl rfl (zvG c k u v s l _ (hs.chg0 hc7) (z0.chg0 hl hc7) hg hn hm.cols) ?_
  rintro v13 w13 ⟨h13, c13⟩
  refine Oc zwz rfl rfl rfl (zs7 _ _ _ (hE.chg0 (hc7.trans c13)) h13.weak) ?_
  rintro v14 w14 ⟨rfl, c14⟩
  refine Oa rfl (E1 4 rfl (zi ?_))
  refine zD rfl rfl ?_
  exact ⟨by simp, (hc7.trans c13).trans c14⟩
theorem ziW {row : List zQ} {st : List Int} {j : Nat} {i : Int} (h : st[j]? = some i) : zZ row (st.take (j + 1)) = zZ row (st.take j) ++ [zcv row i] := by
 rw [zei, zei, List.take_add_one, h, List.map_append]
 rfl
theorem z0.push {α : Type} {w : World} {e k : Nat} {f : α → List Value} {v : Value} {l : List α} {x : α} {n : Nat} {xs : List Value} (h : zv w e k v n xs) (hn : n = l.length + 1) (hx : xs = fl f l ++ f x) : yw w e k f v (l ++ [x]) := by
 subst hn hx
 unfold yw
 rw [List.length_append, zn8, show fl f [x] = f x by simp [fl]]
 exact h
theorem zeZ (row : List zQ) (st : List Int) : (zZ row st).length = st.length := by simp [zZ]
theorem ztl (v vi : Value) (row : List zQ) (st : List Int) (w : World) (hv : zK w v row) (hi : yC w vi st) (hr : ∀ i ∈ st, 0 ≤ i ∧ i < row.length) (hn : row.length ≤ 1048576) (hn' : st.length ≤ 1048576) :
 z9 TP 92 #[v, vi] w fun r w' => ∃ u, r = .tuple #[u, Ii 0] ∧ zK w' u (zZ row st) ∧ (∀ b ∈ zp u, w.heap.size ≤ b) ∧ zk [] w w' := by
 obtain ⟨pi, ci, rfl, hci⟩ := z0.val hi
 refine A2 Tryz.func92 rfl rfl ?_
 refine Sr (Oa rfl (Oa rfl (E2 0 1 rfl (Sr (Oa rfl (E3 0 1 6 rfl (ze (Sr (Om rfl (On zab rfl ?_))))))))))
 refine Om rfl (E5 0 6 9 10 11 rfl (zq ?_))
 refine zW [0, 6, 9, 10, 11] (fun m F wx => ∃ (j : Nat) (u : Value), m = st.length - j ∧ j ≤ st.length ∧ F = [(0, v), (6, u), (9, .slice pi st.length ci), (10, Ii st.length), (11, Ii j)] ∧ yw wx 40 4 zQ.cs u (zZ row (st.take j)) ∧ (∀ b ∈ zp u, w.heap.size ≤ b) ∧ zk [] w wx) (m := st.length - 0) ⟨0, _, rfl, Nat.zero_le _, rfl, yw.nil _ _ _ _, by simp [zp], zk.refl _ _⟩ ?_
 rintro m F wx ⟨j, u, rfl, hj, rfl, hu, hfu, hcx⟩
 have hvx := z0.chg0 hv hcx
 refine Sr (Og (zC rfl rfl) rfl (E6 0 6 9 10 11 12 rfl (ze ?_)))
 refine zR rfl (fun hT => ?_) (fun hF => ?_)
 ·refine zm ?_
  have hlt : j < st.length := by have := of_decide_eq_true hT; omega
  have hx : st[j]? = some st[j] := by simp [hlt]
  generalize st[j] = i at hx
  have hri := hr i (List.mem_of_getElem? hx)
  obtain ⟨i, rfl⟩ : ∃ k : Nat, i = (k : Int) := ⟨i.toNat, by omega⟩
  obtain ⟨bi, oi, cap, hve, hcell⟩ := yC.cell (z0.chg0 hi hcx) hx
  cases hve
  have hir : i < row.length := by omega
  have hxv : row[i]? = some row[i] := by simp [hir]
  have hat : zcv row (i : Int) = row[i] := by unfold zcv; rw [Int.toNat_natCast, hxv]; rfl
  generalize row[i] = x at hxv hat
  obtain ⟨bv, ov, cv, hve, hcv⟩ := z0.at zbq hvx hxv
  subst hve
  refine ze (zq (Sr ?_))
  refine Og (zf zab sz3 rfl rfl _ rfl hlt) rfl ?_
  refine Ol ag3 rfl hcell ?_
  refine Oa rfl (E6 0 6 8 9 10 11 rfl (ze (Sr (Om rfl ?_))))
  refine Og (vf (zC rfl rfl) (decide_eq_false (by omega))) rfl ?_
  refine Om rfl (Oj rfl rfl (Oj rfl rfl ?_))
  refine Oy rfl rfl (yc zao rfl) ?_
  refine Oy rfl rfl (vf (yp rfl rfl) (decide_eq_false (by omega))) ?_
  refine Of rfl (E7 0 6 8 9 10 11 22 rfl (zb rfl (zm ?_)))
  have hl : (zZ row (st.take j)).length = j := by rw [zeZ, List.length_take]; omega
  refine za (Om rfl (Om rfl (Om rfl ?_)))
  refine Og (zf zao y6 rfl rfl _ rfl hir) rfl ?_
  refine Og (zg zbp y6 rfl rfl hcv) rfl ?_
  refine zE (gn rfl) (zB zhg rfl (vs := [_]) rfl (css := [_]) ⟨rfl, trivial⟩ rfl rfl (cs := [_, _, _, _]) rfl rfl ?_)
  intro b28 w28 e28 n28 c28 k28
  refine zE (gn rfl) (yt zhg zao rfl rfl (zv.chg0 hu c28) (zv.of_blk (n := 1) k28 rfl (by simp [maxLen]) (zQ.one x)) (by rw [hl]; simp only [maxLen]; omega) (by rw [hl]; omega) rfl ?_)
  intro v29 w29 i29 c29 o29 z29
  refine Oa rfl (N5 0 6 9 10 11 rfl (zl (za ?_)))
  refine Og (zI rfl rfl (by omega)) rfl ?_
  refine Om rfl (N5 0 6 9 10 11 rfl ?_)
  have hsz := hcx.size
  have hs28 := c28.size
  refine ⟨st.length - (j + 1), by omega, j + 1, v29, rfl, by omega, rfl, ?_, yB o29 hfu (by omega), ?_⟩
  ·rw [ziW hx, hat]
   exact z0.push i29 rfl rfl
  exact (hcx.trans c28).own c29 hfu
 refine zM ?_
 repeat first | refine te ?_ | refine bo rfl ?_
 refine zt _ ?_
 have he : st.length ≤ j := by have := of_decide_eq_false hF; omega
 refine Sr (Om rfl (Oa rfl (Oa rfl (E2 4 5 rfl (zi ?_)))))
 refine zaV rfl rfl rfl ?_
 rw [List.take_of_length_le he] at hu
 exact ⟨u, rfl, hu.arr, hfu, hcx⟩
theorem zpO (x y : Col) : zd7 [1, 0, 0, 2] x.cs y.cs = some (decide (x = y)) := by
 obtain ⟨n, t, s, z⟩ := x
 obtain ⟨n', t', s', z'⟩ := y
 simp only [Col.cs, zd7, zlx, if_true, Option.some.injEq, Col.mk.injEq]
 rw [Bool.eq_iff_iff]
 simp
theorem zjF (u v : Value) (l m : List Col) (w : World) (hu : zgz w u l) (hv : zgz w v m) (hn : l.length ≤ 1048576) (hn' : m.length ≤ 1048576) :
 z9 TP 106 #[u, v] w fun r w' => r = .bool (decide (l = m)) ∧ zk [] w w' := by
 obtain ⟨pu, cu, rfl, hcu⟩ := z0.val hu
 obtain ⟨pv, cv, rfl, hcv⟩ := z0.val hv
 refine A2 Tryz.func106 rfl rfl ?_
 refine Sr (Oa rfl (E2 0 1 rfl (ze (ze ?_))))
 by_cases he : l.length = m.length
 ·refine za (Om rfl (On zaj rfl (Om rfl (On zaj rfl ?_))))
  refine Og (vf (zS rfl rfl) (zcl (by omega))) rfl ?_
  refine E3 0 1 10 rfl (zb rfl (zm (ze (Sr (Om rfl (On zaj rfl (Om rfl (E4 0 1 12 13 rfl (zq ?_)))))))))
  refine zW [0, 1, 12, 13] (fun n F wx => ∃ j : Nat, n = l.length - j ∧ j ≤ l.length ∧ F = [(0, .slice pu l.length cu), (1, .slice pv m.length cv), (12, Ii l.length), (13, Ii j)] ∧ l.take j = m.take j ∧ zk [] w wx) (m := l.length - 0) ⟨0, rfl, Nat.zero_le _, rfl, by simp, zk.refl _ _⟩ ?_
  rintro n F wx ⟨j, rfl, hj, rfl, heq, hcx⟩
  refine Sr (Og (zC rfl rfl) rfl (E5 0 1 12 13 14 rfl (ze ?_)))
  refine zR rfl (fun hT => ?_) (fun hF => ?_)
  ·refine zm ?_
   have hlt : j < l.length := by have := of_decide_eq_true hT; omega
   have hlt2 : j < m.length := by omega
   have hx : l[j]? = some l[j] := by simp [hlt]
   have hy : m[j]? = some m[j] := by simp [hlt2]
   generalize l[j] = x at hx
   generalize m[j] = y at hy
   obtain ⟨b, off, cap, hve, hc1⟩ := z0.at zap (z0.chg0 hu hcx) hx
   cases hve
   obtain ⟨b', off', cap', hve, hc2⟩ := z0.at zap (z0.chg0 hv hcx) hy
   cases hve
   have hd : zk [] wx wx.drew := zk.drew [] _
   refine ze (zq (Sr (Om rfl (Oa rfl (E5 0 1 5 12 13 rfl (ze ?_))))))
   refine zJ (fun wz => zk [] wx wz) mix (by kernel_rfl) hd ?_
   refine Tm rfl (Tm rfl ?_)
   refine Tp (fun _ => zf zaj zaT rfl rfl _ rfl hlt) rfl ?_
   refine Tr (fun wz hz => zg zdX zaT rfl rfl (hc1.chg0 hz)) rfl ?_
   refine Tm rfl (Tm rfl ?_)
   refine Tp (fun _ => zf zaj zaT rfl rfl _ rfl hlt2) rfl ?_
   refine Tr (fun wz hz => zg zdX zaT rfl rfl (hc2.chg0 hz)) rfl ?_
   refine Tp (fun _ => zhN zv2 rfl rfl (zpO x y)) rfl ?_
   refine D5 0 1 12 13 24 rfl ?_
   refine zR rfl (fun hT => ?_) (fun hF => ?_)
   ·have hne : x ≠ y := by simpa using hT
    refine Sr (Oa rfl (E1 4 rfl (zi ?_)))
    repeat first | refine tr ?_ | refine br ?_
    refine zD rfl rfl ?_
    refine ⟨?_, hcx.trans hd⟩
    have : l ≠ m := by
     rintro rfl
     rw [hx] at hy
     exact hne (Option.some.inj hy)
    rw [decide_eq_false this]
   have hxy : x = y := by simpa using hF
   refine ye (zl (za ?_))
   refine Og (zI rfl rfl (by omega)) rfl ?_
   refine Om rfl (N4 0 1 12 13 rfl ?_)
   refine ⟨l.length - (j + 1), by omega, j + 1, rfl, by omega, rfl, ?_, hcx.trans hd⟩
   rw [List.take_add_one, List.take_add_one, hx, hy, heq, hxy]
  refine zM ?_
  repeat first | refine te ?_ | refine bo rfl ?_
  refine zt _ ?_
  have hge : l.length ≤ j := by have := of_decide_eq_false hF; omega
  refine Sr (Oa rfl (E1 4 rfl (zi ?_)))
  repeat first | refine tr ?_ | refine br ?_
  refine zD rfl rfl ?_
  rw [List.take_of_length_le hge, List.take_of_length_le (by omega)] at heq
  exact ⟨by rw [decide_eq_true heq], hcx⟩
 refine za (Om rfl (On zaj rfl (Om rfl (On zaj rfl ?_))))
 refine Og (vt (zS rfl rfl) (zhL (by omega))) rfl ?_
 refine E3 0 1 10 rfl (zd rfl (Sr (Oa rfl (E1 4 rfl (zi ?_)))))
 repeat first | refine tr ?_ | refine br ?_
 refine zD rfl rfl ?_
 have : l ≠ m := fun h => he (by rw [h])
 exact ⟨by rw [decide_eq_false this], zk.refl _ _⟩
theorem zlG (u v : Value) (l m : List Int) (w : World) (hu : yC w u l) (hv : yC w v m) (hn : l.length ≤ 1048576) (hn' : m.length ≤ 1048576) :
 z9 TP 107 #[u, v] w fun r w' => r = .bool (decide (l = m)) ∧ zk [] w w' := by
 obtain ⟨pu, cu, rfl, hcu⟩ := z0.val hu
 obtain ⟨pv, cv, rfl, hcv⟩ := z0.val hv
 refine A2 Tryz.func107 rfl rfl ?_
 refine Sr (Oa rfl (E2 0 1 rfl (ze (ze ?_))))
 by_cases he : l.length = m.length
 ·refine za (Om rfl (On zab rfl (Om rfl (On zab rfl ?_))))
  refine Og (vf (zS rfl rfl) (zcl (by omega))) rfl ?_
  refine E3 0 1 10 rfl (zb rfl (zm (ze (Sr (Om rfl (On zab rfl (Om rfl (E4 0 1 12 13 rfl (zq ?_)))))))))
  refine zW [0, 1, 12, 13] (fun n F wx => ∃ j : Nat, n = l.length - j ∧ j ≤ l.length ∧ F = [(0, .slice pu l.length cu), (1, .slice pv m.length cv), (12, Ii l.length), (13, Ii j)] ∧ l.take j = m.take j ∧ zk [] w wx) (m := l.length - 0) ⟨0, rfl, Nat.zero_le _, rfl, by simp, zk.refl _ _⟩ ?_
  rintro n F wx ⟨j, rfl, hj, rfl, heq, hcx⟩
  refine Sr (Og (zC rfl rfl) rfl (E5 0 1 12 13 14 rfl (ze ?_)))
  refine zR rfl (fun hT => ?_) (fun hF => ?_)
  ·refine zm ?_
   have hlt : j < l.length := by have := of_decide_eq_true hT; omega
   have hlt2 : j < m.length := by omega
   have hx : l[j]? = some l[j] := by simp [hlt]
   have hy : m[j]? = some m[j] := by simp [hlt2]
   generalize l[j] = x at hx
   generalize m[j] = y at hy
   obtain ⟨b, off, cap, hve, hc1⟩ := z0.at zev (z0.chg0 hu hcx) hx
   cases hve
   obtain ⟨b', off', cap', hve, hc2⟩ := z0.at zev (z0.chg0 hv hcx) hy
   cases hve
   have hd : zk [] wx wx.drew := zk.drew [] _
   refine ze (zq (Sr (Om rfl (Oa rfl (E5 0 1 5 12 13 rfl (ze ?_))))))
   refine zJ (fun wz => zk [] wx wz) mix (by kernel_rfl) hd ?_
   refine Tm rfl (Tm rfl ?_)
   refine Tp (fun _ => zf zab sz3 rfl rfl _ rfl hlt) rfl ?_
   refine Tr (fun wz hz => zh ag3 rfl (hc1.chg0 hz 0 _ rfl)) rfl ?_
   refine Tm rfl (Tm rfl ?_)
   refine Tp (fun _ => zf zab sz3 rfl rfl _ rfl hlt2) rfl ?_
   refine Tr (fun wz hz => zh ag3 rfl (hc2.chg0 hz 0 _ rfl)) rfl ?_
   refine Tp (fun _ => zS rfl rfl) rfl ?_
   refine D5 0 1 12 13 24 rfl ?_
   refine zR rfl (fun hT => ?_) (fun hF => ?_)
   ·have hne : x ≠ y := by simpa using hT
    refine Sr (Oa rfl (E1 4 rfl (zi ?_)))
    repeat first | refine tr ?_ | refine br ?_
    refine zD rfl rfl ?_
    refine ⟨?_, hcx.trans hd⟩
    have : l ≠ m := by
     rintro rfl
     rw [hx] at hy
     exact hne (Option.some.inj hy)
    rw [decide_eq_false this]
   have hxy : x = y := by simpa using hF
   refine ye (zl (za ?_))
   refine Og (zI rfl rfl (by omega)) rfl ?_
   refine Om rfl (N4 0 1 12 13 rfl ?_)
   refine ⟨l.length - (j + 1), by omega, j + 1, rfl, by omega, rfl, ?_, hcx.trans hd⟩
   rw [List.take_add_one, List.take_add_one, hx, hy, heq, hxy]
  refine zM ?_
  repeat first | refine te ?_ | refine bo rfl ?_
  refine zt _ ?_
  have hge : l.length ≤ j := by have := of_decide_eq_false hF; omega
  refine Sr (Oa rfl (E1 4 rfl (zi ?_)))
  repeat first | refine tr ?_ | refine br ?_
  refine zD rfl rfl ?_
  rw [List.take_of_length_le hge, List.take_of_length_le (by omega)] at heq
  exact ⟨by rw [decide_eq_true heq], hcx⟩
 refine za (Om rfl (On zab rfl (Om rfl (On zab rfl ?_))))
 refine Og (vt (zS rfl rfl) (zhL (by omega))) rfl ?_
 refine E3 0 1 10 rfl (zd rfl (Sr (Oa rfl (E1 4 rfl (zi ?_)))))
 repeat first | refine tr ?_ | refine br ?_
 refine zD rfl rfl ?_
 have : l ≠ m := fun h => he (by rw [h])
 exact ⟨by rw [decide_eq_false this], zk.refl _ _⟩
theorem zq9 (v : Value) (l : List Int) (w : World) (h : yC w v l) (hn : l.length ≤ 1048576) : z9 TP 78 #[v] w fun r w' => yw w' 3 1 ics r l ∧ (∀ b ∈ zp r, w.heap.size ≤ b) ∧ zk [] w w' := by
 obtain ⟨p, c, rfl, _⟩ := z0.val h
 refine A1 Tryz.func78 rfl rfl ?_
 refine Sr (Oa rfl (E1 0 rfl (ze (Sr (Om rfl ?_)))))
 refine Og (zjv zab rfl rfl) rfl ?_
 refine E2 0 4 rfl ?_
 refine zR rfl (fun hT => ?_) (fun hF => ?_)
 ·refine Sr (Oa rfl (E1 2 rfl (zi ?_)))
  refine zbj ?_
  refine zD rfl rfl ?_
  obtain ⟨p', cap, he, _, _, _, _, h6⟩ := h
  simp only [Value.slice.injEq] at he
  obtain ⟨rfl, _, _⟩ := he
  have h2 : l.length = 0 := by
   rcases Nat.eq_zero_or_pos l.length with h0 | h0
   ·exact h0
   obtain ⟨b, off, rfl, _⟩ := h6 h0
   simp at hT
  have : l = [] := List.length_eq_zero_iff.1 h2
  subst this
  exact ⟨yw.nil _ _ _ _, by simp [zp], zk.refl _ _⟩
 refine zm (Sr ?_)
 refine zE (gn rfl) (zB zqV rfl (vs := []) rfl (css := []) trivial rfl rfl (cs := []) rfl rfl ?_)
 intro b5 w5 e5 n5 c5 k5
 refine Om rfl ?_
 refine zE (gn rfl) (zcQ zqV zab rfl rfl (zv.of_blk (n := 0) k5 (by simp) (by simp [maxLen]) (by simp)) (Rd.chg0 h c5) (by simp only [maxLen]; omega) (by omega) rfl ?_)
 intro v7 w7 i7 c7 o7 z7
 refine Oa rfl (E1 2 rfl (zi ?_))
 refine zD rfl rfl ?_
 refine ⟨by unfold yw; simpa using i7, ?_, c5.own c7 (by simp [zp, ← e5])⟩
 rcases o7 with o7 | ⟨b, o7, hb⟩
 ·rw [o7]; simp [zp, ← e5]
 rw [o7]; intro x hx; simp at hx; subst hx; have := c5.size; omega
theorem zvN (u v : Value) (ls ms : List (List Int)) (w : World) (hu : zbt w u ls) (hv : zbt w v ms) (hn : ls.length ≤ 1048576) (hn' : ms.length ≤ 1048576) (h1 : ∀ l ∈ ls, l.length ≤ 1048576) (h2 : ∀ l ∈ ms, l.length ≤ 1048576) :
 z9 TP 146 #[u, v, .func (.func 107) #[] #[]] w fun r w' => r = .bool (decide (ls = ms)) ∧ zk [] w w' := by
 obtain ⟨pu, cu, rfl, hcu⟩ := zaI.val hu
 obtain ⟨pv, cv, rfl, hcv⟩ := zaI.val hv
 refine A3 Tryz.func146 rfl rfl ?_
 refine Sr (Oa rfl (E3 0 1 2 rfl (ze (ze ?_))))
 by_cases he : ls.length = ms.length
 ·refine za (Om rfl (On zaq rfl (Om rfl (On zaq rfl ?_))))
  refine Og (vf (zS rfl rfl) (zcl (by omega))) rfl ?_
  refine E4 0 1 2 14 rfl (zb rfl (zm (ze (Sr (Om rfl (On zaq rfl (Om rfl (E5 1 2 15 16 17 rfl (zq ?_)))))))))
  refine zW [1, 2, 15, 16, 17] (fun n F wx => ∃ j : Nat, n = ls.length - j ∧ j ≤ ls.length ∧ F = [(1, .slice pv ms.length cv), (2, .func (.func 107) #[] #[]), (15, .slice pu ls.length cu), (16, Ii ls.length), (17, Ii j)] ∧ ls.take j = ms.take j ∧ zk [] w wx) (m := ls.length - 0) ⟨0, rfl, Nat.zero_le _, rfl, by simp, zk.refl _ _⟩ ?_
  rintro n F wx ⟨j, rfl, hj, rfl, heq, hcx⟩
  refine Sr (Og (zC rfl rfl) rfl (E6 1 2 15 16 17 18 rfl (ze ?_)))
  refine zR rfl (fun hT => ?_) (fun hF => ?_)
  ·refine zm ?_
   have hlt : j < ls.length := by have := of_decide_eq_true hT; omega
   have hlt2 : j < ms.length := by omega
   have hx : ls[j]? = some ls[j] := by simp [hlt]
   have hy : ms[j]? = some ms[j] := by simp [hlt2]
   generalize ls[j] = x at hx
   generalize ms[j] = y at hy
   obtain ⟨b, off, cap, ux, hve, hc1, hux⟩ := zaI.at (hu.chg0 hcx) hx
   cases hve
   obtain ⟨b', off', cap', uy, hve, hc2, huy⟩ := zaI.at (hv.chg0 hcx) hy
   cases hve
   refine ze (zq (Sr (Om rfl ?_)))
   refine Og (zf zaq zeA rfl rfl _ rfl hlt) rfl ?_
   refine Ol za3 rfl hc1 ?_
   refine Oa rfl (Oa rfl (E7 1 2 7 8 15 16 17 rfl (Sr (Om rfl (Om rfl ?_)))))
   refine Og (zf zaq zeA rfl rfl _ rfl hlt2) rfl ?_
   refine Ol za3 rfl hc2 ?_
   refine Oa rfl (E7 1 2 8 9 15 16 17 rfl (Sr (Om rfl (Om rfl (Om rfl ?_)))))
   refine Oc zoB rfl rfl rfl (zlG ux uy x y _ hux huy (h1 x (List.mem_of_getElem? hx)) (h2 y (List.mem_of_getElem? hy))) ?_
   rintro v29 w29 ⟨rfl, c29⟩
   refine Og (zO rfl) rfl (E6 1 2 15 16 17 30 rfl ?_)
   refine zR rfl (fun hT => ?_) (fun hF => ?_)
   ·have hne : x ≠ y := by simpa using hT
    refine Sr (Oa rfl (E1 6 rfl (zi ?_)))
    repeat first | refine tr ?_ | refine br ?_
    refine zD rfl rfl ?_
    refine ⟨?_, hcx.trans c29⟩
    have : ls ≠ ms := by
     rintro rfl
     rw [hx] at hy
     exact hne (Option.some.inj hy)
    rw [decide_eq_false this]
   have hxy : x = y := by simpa using hF
   refine ye (zl (za ?_))
   refine Og (zI rfl rfl (by omega)) rfl ?_
   refine Om rfl (N5 1 2 15 16 17 rfl ?_)
   refine ⟨ls.length - (j + 1), by omega, j + 1, rfl, by omega, rfl, ?_, hcx.trans c29⟩
   rw [List.take_add_one, List.take_add_one, hx, hy, heq, hxy]
  refine zM ?_
  repeat first | refine te ?_ | refine bo rfl ?_
  refine zt _ ?_
  have hge : ls.length ≤ j := by have := of_decide_eq_false hF; omega
  refine Sr (Oa rfl (E1 6 rfl (zi ?_)))
  repeat first | refine tr ?_ | refine br ?_
  refine zD rfl rfl ?_
  rw [List.take_of_length_le hge, List.take_of_length_le (by omega)] at heq
  exact ⟨by rw [decide_eq_true heq], hcx⟩
 refine za (Om rfl (On zaq rfl (Om rfl (On zaq rfl ?_))))
 refine Og (vt (zS rfl rfl) (zhL (by omega))) rfl ?_
 refine E4 0 1 2 14 rfl (zd rfl (Sr (Oa rfl (E1 6 rfl (zi ?_)))))
 repeat first | refine tr ?_ | refine br ?_
 refine zD rfl rfl ?_
 have : ls ≠ ms := fun h => he (by rw [h])
 exact ⟨by rw [decide_eq_false this], zk.refl _ _⟩
theorem zqJ (u v : Value) (ls ms : List (List Int)) (w : World) (hu : zbt w u ls) (hv : zbt w v ms) (hn : ls.length ≤ 1048576) (hn' : ms.length ≤ 1048576) (h1 : ∀ l ∈ ls, l.length ≤ 1048576) (h2 : ∀ l ∈ ms, l.length ≤ 1048576) :
 z9 TP 108 #[u, v, .func (.func 107) #[] #[]] w fun r w' => r = .bool (decide (ls = ms)) ∧ zk [] w w' := by
 refine A3 Tryz.func108 rfl rfl ?_
 refine Sr (Oa rfl (E3 0 1 2 rfl (Sr (Om rfl (Om rfl (Om rfl ?_))))))
 refine Oc zuN rfl rfl rfl (zvN u v ls ms _ hu hv hn hn' h1 h2) ?_
 rintro v10 w10 ⟨rfl, c10⟩
 refine Oa rfl (E1 6 rfl (zi ?_))
 refine zD rfl rfl ?_
 exact ⟨rfl, c10⟩
theorem zmd (a b c a' b' c' : Value) (s t : yo) (w : World) (hs : yO w a b c s) (ht : yO w a' b' c' t) (ms : s.Sm) (mt : t.Sm) :
 z9 TP 73 #[.agg #[a, b, c], .agg #[a', b', c']] w fun r w' => r = .bool (decide (s = t)) ∧ zk [] w w' := by
 have hdec : decide (s = t) = (decide (s.cols = t.cols) && decide (s.key = t.key) && decide (s.uq = t.uq)) := by
  obtain ⟨x, y, z⟩ := s
  obtain ⟨x', y', z'⟩ := t
  rw [Bool.eq_iff_iff]
  simp [and_assoc]
 rw [hdec]
 refine A2 Tryz.func73 rfl rfl ?_
 refine Sr ?_
 refine Ob rfl rfl ?_
 intro b2 w2 e2 n2 c2 k2
 refine Ob rfl rfl ?_
 intro b3 w3 e3 n3 c3 k3
 refine Oa rfl (E2 2 3 rfl ?_)
 have hk2 := k2.chg0 c3
 have hc3 : zk [] w w3 := c2.trans c3
 have hs3 := hs.chg0 hc3
 have ht3 := ht.chg0 hc3
 refine ze ?_
 by_cases h1 : s.cols = t.cols
 ·by_cases h2 : s.key = t.key
  ·refine za (Od yn rfl ?_)
   refine Ol zav rfl (hk2.cell' rfl) ?_
   refine Od yn rfl ?_
   refine Ol zav rfl (k3.cell' rfl) ?_
   refine Oc zo5 rfl rfl rfl (zjF _ _ _ _ _ hs3.cols ht3.cols ms.cols mt.cols) ?_
   rintro v9 w9 ⟨h9, c9⟩
   rw [decide_eq_true h1] at h9
   subst h9
   refine Om rfl ?_
   refine Oy rfl rfl (zj zaK rfl) ?_
   refine Oy rfl rfl (zh za3 rfl ((hk2.chg0 c9).cell' rfl)) ?_
   refine Oy rfl rfl (zj zaK rfl) ?_
   refine Oy rfl rfl (zh za3 rfl ((k3.chg0 c9).cell' rfl)) ?_
   refine Ow rfl rfl zoB rfl rfl rfl (zlG _ _ _ _ _ (z0.chg0 hs3.key c9) (z0.chg0 ht3.key c9) ms.key mt.key) ?_
   rintro v15 w15 ⟨h15, c15⟩
   rw [decide_eq_true h2] at h15
   subst h15
   refine Ot rfl (Om rfl ?_)
   refine Oy rfl rfl (zj y8 rfl) ?_
   refine Oy rfl rfl (zh zbM rfl ((hk2.chg0 (c9.trans c15)).cell' rfl)) ?_
   refine Oy rfl rfl (zj y8 rfl) ?_
   refine Oy rfl rfl (zh zbM rfl ((k3.chg0 (c9.trans c15)).cell' rfl)) ?_
   refine Ow rfl rfl zvP rfl rfl rfl (zqJ _ _ _ _ _ (hs3.uq.chg0 (c9.trans c15)) (ht3.uq.chg0 (c9.trans c15)) ms.uq mt.uq ms.each mt.each) ?_
   rintro v22 w22 ⟨rfl, c22⟩
   refine Ot rfl (Oa rfl (E1 4 rfl (zi ?_)))
   refine zD rfl rfl ?_
   exact ⟨by simp [h1, h2], ((hc3.trans c9).trans c15).trans c22⟩
  refine za (Od yn rfl ?_)
  refine Ol zav rfl (hk2.cell' rfl) ?_
  refine Od yn rfl ?_
  refine Ol zav rfl (k3.cell' rfl) ?_
  refine Oc zo5 rfl rfl rfl (zjF _ _ _ _ _ hs3.cols ht3.cols ms.cols mt.cols) ?_
  rintro v9 w9 ⟨h9, c9⟩
  rw [decide_eq_true h1] at h9
  subst h9
  refine Om rfl ?_
  refine Oy rfl rfl (zj zaK rfl) ?_
  refine Oy rfl rfl (zh za3 rfl ((hk2.chg0 c9).cell' rfl)) ?_
  refine Oy rfl rfl (zj zaK rfl) ?_
  refine Oy rfl rfl (zh za3 rfl ((k3.chg0 c9).cell' rfl)) ?_
  refine Ow rfl rfl zoB rfl rfl rfl (zlG _ _ _ _ _ (z0.chg0 hs3.key c9) (z0.chg0 ht3.key c9) ms.key mt.key) ?_
  rintro v15 w15 ⟨h15, c15⟩
  rw [decide_eq_false h2] at h15
  subst h15
  refine Ot rfl (Om rfl (Oz rfl rfl (Oz rfl rfl (Oz rfl rfl (Oz rfl rfl (Oz rfl rfl (Of rfl (Oa rfl (E1 4 rfl (zi ?_))))))))))
  refine zD rfl rfl ?_
  exact ⟨by simp [h2], (hc3.trans c9).trans c15⟩
 refine za (Od yn rfl ?_)
 refine Ol zav rfl (hk2.cell' rfl) ?_
 refine Od yn rfl ?_
 refine Ol zav rfl (k3.cell' rfl) ?_
 refine Oc zo5 rfl rfl rfl (zjF _ _ _ _ _ hs3.cols ht3.cols ms.cols mt.cols) ?_
 rintro v9 w9 ⟨h9, c9⟩
 rw [decide_eq_false h1] at h9
 subst h9
 refine Om rfl (Oz rfl rfl (Oz rfl rfl (Oz rfl rfl (Oz rfl rfl (Oz rfl rfl (Of rfl (Om rfl (Oz rfl rfl (Oz rfl rfl (Oz rfl rfl (Oz rfl rfl (Oz rfl rfl (Of rfl ?_)))))))))))))
 refine Oa rfl (E1 4 rfl (zi ?_))
 refine zD rfl rfl ?_
 exact ⟨by simp [h1], hc3.trans c9⟩
def zcF (w : World) (v : Value) (l : List UInt8) : Prop := zv w 5 1 v l.length (bv l)
theorem znq {n : Nat} (h : n < 9223372036854775808) : n ^^^ 9223372036854775808 = n + 9223372036854775808 := by
 have e : (9223372036854775808 : Nat) = 2 ^ 63 := by decide
 rw [e] at *
 apply Nat.eq_of_testBit_eq
 intro j
 rw [Nat.testBit_xor, Nat.testBit_two_pow, Nat.add_comm]
 rcases Nat.lt_trichotomy j 63 with hj | hj | hj
 ·rw [Nat.testBit_two_pow_add_gt hj, decide_eq_false (by omega), Bool.xor_false]
 ·subst hj
  rw [Nat.testBit_two_pow_add_eq, decide_eq_true rfl, Bool.xor_true]
 have p1 : (2 : Nat) ^ 64 ≤ 2 ^ j := Nat.pow_le_pow_right (by decide) hj
 have h1 : (2 ^ 63 + n).testBit j = false := Nat.testBit_lt_two_pow (by simp only [Nat.reducePow] at h p1 ⊢; omega)
 have h2 : n.testBit j = false := Nat.testBit_lt_two_pow (by simp only [Nat.reducePow] at h p1 ⊢; omega)
 rw [h1, h2, decide_eq_false (by omega)]
 rfl
theorem zp6 {n : Nat} (h : n < 9223372036854775808) : (n + 9223372036854775808) ^^^ 9223372036854775808 = n := by
 rw [← znq h, Nat.xor_assoc, Nat.xor_self, Nat.xor_zero]
theorem zj5 {i : Int} (h : -9223372036854775808 ≤ i ∧ i ≤ 9223372036854775807) : (i % 18446744073709551616).toNat ^^^ 9223372036854775808 = (i + 9223372036854775808).toNat := by
 rcases Int.lt_or_le i 0 with h0 | h0
 ·have e : (i % 18446744073709551616).toNat = (i + 9223372036854775808).toNat + 9223372036854775808 := by omega
  rw [e, zp6 (by omega)]
 have e : (i % 18446744073709551616).toNat = i.toNat := by omega
 rw [e, znq (by omega)]
 omega
theorem zoE (i : Int) (w : World) (h : -9223372036854775808 ≤ i ∧ i ≤ 9223372036854775807) : z9 TP 193 #[Ii i] w fun r w' => r = .int .u64 ((i + 9223372036854775808).toNat : Nat) ∧ w' = w := by
 refine A1 Tryz.func193 rfl rfl ?_
 refine Sr (Oa rfl (E1 0 rfl (Sr (Om rfl ?_))))
 refine Og (yq zbz zdK rfl (show IntKind.u64.wrap i = (((i % 18446744073709551616).toNat : Nat) : Int) by rw [zci]; omega)) rfl ?_
 refine Og (zkp (b := 9223372036854775808) rfl rfl (by omega) (by decide)) rfl ?_
 refine Oa rfl (E1 2 rfl (zi ?_))
 refine zD rfl rfl ?_
 exact ⟨by rw [zj5 h], rfl⟩
def zfO (x : zQ) : List UInt8 := if x.k = 1 then be (x.i + 9223372036854775808).toNat 8 else if x.k = 2 then zbU x.u else if x.k = 3 then [UInt8.ofNat x.i.toNat] else if x.k = 4 then zda x.b.data.toList else []
theorem znm (x : zQ) : zdE x = UInt8.ofNat x.k.toNat :: zfO x := rfl
def zpE : List (Int × Value) := [(0, zeG 189 190), (1, zeG 191 194), (2, zeG 197 199), (3, zeG 202 203), (4, zeG 204 205)]
theorem zqX (w : World) : z9 TP 144 #[] w fun r w' => ∃ b, r = .map (some b) ∧ w.heap.size ≤ b ∧ zae (zbB .i64) w' b zpE ∧ zk [] w w' := by
 refine z9.of_W (args := []) Tryz.func144 rfl rfl rfl rfl ?_
 refine Sr (Oa rfl (za1 [] (F' := []) rfl (Sr ?_)))
 refine zE (gn rfl) (zcX (zbB .i64) rfl ?_)
 intro b1 w1 e1 n1 c1 k1
 refine Og (z6 zlt zja rfl (vs := [_, _]) rfl (css := [_, _]) ⟨rfl, rfl, trivial⟩ rfl rfl (cs := [_, _]) rfl) rfl ?_
 refine zE (gn rfl) (zaS (κ := zbB .i64) ziY (yv zaP) rfl rfl rfl k1 ?_)
 intro wA nA cA kA
 refine Og (z6 zlt zja rfl (vs := [_, _]) rfl (css := [_, _]) ⟨rfl, rfl, trivial⟩ rfl rfl (cs := [_, _]) rfl) rfl ?_
 refine zE (gn rfl) (zaS (κ := zbB .i64) ziY (yv zaP) rfl rfl rfl kA ?_)
 intro wB nB cB kB
 refine Og (z6 zlt zja rfl (vs := [_, _]) rfl (css := [_, _]) ⟨rfl, rfl, trivial⟩ rfl rfl (cs := [_, _]) rfl) rfl ?_
 refine zE (gn rfl) (zaS (κ := zbB .i64) ziY (yv zaP) rfl rfl rfl kB ?_)
 intro wC nC cC kC
 refine Og (z6 zlt zja rfl (vs := [_, _]) rfl (css := [_, _]) ⟨rfl, rfl, trivial⟩ rfl rfl (cs := [_, _]) rfl) rfl ?_
 refine zE (gn rfl) (zaS (κ := zbB .i64) ziY (yv zaP) rfl rfl rfl kC ?_)
 intro wD nD cD kD
 refine Og (z6 zlt zja rfl (vs := [_, _]) rfl (css := [_, _]) ⟨rfl, rfl, trivial⟩ rfl rfl (cs := [_, _]) rfl) rfl ?_
 refine zE (gn rfl) (zaS (κ := zbB .i64) ziY (yv zaP) rfl rfl rfl kD ?_)
 intro wE nE cE kE
 refine Om rfl (Oa rfl (E1 0 rfl (zi ?_)))
 refine zD rfl rfl ?_
 exact ⟨b1, rfl, by omega, kE, c1.own (((((cA.transS cB).transS cC).transS cD).transS cE)) (by intro x hx; simp at hx; omega)⟩
theorem ztE (x : zQ) (w : World) : z9 TP 189 #[x.v] w fun r w' => zcF w' r [] ∧ (∀ b ∈ zp r, w.heap.size ≤ b) ∧ zk [] w w' := by
 refine A1 Tryz.func189 rfl rfl ?_
 refine Sr ?_
 refine Ob rfl rfl ?_
 intro b1 w1 e1 n1 c1 k1
 refine Oa rfl (za1 [] (F' := []) rfl (Sr (Oa rfl (E1 2 rfl (zi ?_)))))
 refine zD rfl rfl ?_
 exact ⟨zv.nil _ _ _, by simp [zp], c1⟩
theorem ztU (x : zQ) (w : World) (hx : x.Rng) : z9 TP 191 #[x.v] w fun r w' => zcF w' r (be (x.i + 9223372036854775808).toNat 8) ∧ (∀ b ∈ zp r, w.heap.size ≤ b) ∧ zk [] w w' := by
 have hi := hx.i
 refine A1 Tryz.func191 rfl rfl ?_
 refine Sr ?_
 refine Ob rfl rfl ?_
 intro b1 w1 e1 n1 c1 k1
 refine Oa rfl (E1 1 rfl (Sr (Od yY rfl ?_)))
 refine Ol ag2 rfl (k1.cell' rfl) ?_
 refine Oc zuH rfl rfl rfl (zoE x.i _ hi) ?_
 rintro v8 w8 ⟨rfl, rfl⟩
 refine Oc zsP rfl rfl rfl (zmz _ 8 _ (by omega) (by decide) (by simp only [Nat.reducePow]; omega)) ?_
 rintro v9 w9 ⟨v9, rfl, i9, f9, c9⟩
 refine Om rfl (Oe rfl rfl (Oe rfl rfl (Oa rfl (Oa rfl (E1 3 rfl (Sr (Om rfl (Oa rfl (E1 2 rfl (zi ?_))))))))))
 refine zD rfl rfl ?_
 have hs := c1.size
 exact ⟨by unfold zcF; rw [zaB]; exact i9, fun b hb => Nat.le_trans hs (f9 b hb), c1.trans c9⟩
theorem zug (x : zQ) (w : World) (hx : x.Rng) : z9 TP 197 #[x.v] w fun r w' => zcF w' r (zbU x.u) ∧ (∀ b ∈ zp r, w.heap.size ≤ b) ∧ zk [] w w' := by
 refine A1 Tryz.func197 rfl rfl ?_
 refine Sr ?_
 refine Ob rfl rfl ?_
 intro b1 w1 e1 n1 c1 k1
 refine Oa rfl (E1 1 rfl (Sr (Od zaZ rfl ?_)))
 refine Ol zcZ rfl (k1.cell' rfl) ?_
 refine Oc zsI rfl rfl rfl (zks x.u _ hx.u) ?_
 rintro v5 w5 ⟨i5, f5, c5⟩
 refine Oa rfl (E1 2 rfl (zi ?_))
 refine zD rfl rfl ?_
 have hs := c1.size
 exact ⟨i5, fun b hb => Nat.le_trans hs (f5 b hb), c1.trans c5⟩
theorem zuc (x : zQ) (w : World) (hx : x.i = 0 ∨ x.i = 1) : z9 TP 202 #[x.v] w fun r w' => zcF w' r [UInt8.ofNat x.i.toNat] ∧ (∀ b ∈ zp r, w.heap.size ≤ b) ∧ zk [] w w' := by
 refine A1 Tryz.func202 rfl rfl ?_
 refine Sr ?_
 refine Ob rfl rfl ?_
 intro b1 w1 e1 n1 c1 k1
 refine Oa rfl (E1 1 rfl (Sr (Od yY rfl ?_)))
 refine Ol ag2 rfl (k1.cell' rfl) ?_
 refine Og (yq zay zdK rfl (show IntKind.u8.wrap x.i = (((UInt8.ofNat x.i.toNat).toNat : Nat) : Int) by rcases hx with h | h <;> rw [h] <;> rfl)) rfl ?_
 refine zE (gn rfl) (zB zaL rfl (vs := [_]) rfl (css := [_]) ⟨rfl, trivial⟩ rfl rfl (cs := [_]) rfl rfl ?_)
 intro b6 w6 e6 n6 c6 k6
 refine Oa rfl (E1 2 rfl (zi ?_))
 refine zD rfl rfl ?_
 have hs := c1.size
 exact ⟨zv.of_blk (n := 1) k6 rfl (by simp [maxLen]) (zcd _), by intro b hb; simp [zp] at hb; omega, c1.trans c6⟩
def chN (len j : Nat) : Nat := min 8 (len - 8 * j)
def chV (b len j : Nat) : Value := cut (some ⟨b, 0, none⟩) (8 * j) (8 * j + chN len j) (8 * j + chN len j) 1
theorem zqx (v : Value) (w : World) : z9 TP 252 #[v, Ii 8] w fun r w' => ∃ b2 b3, r = .func (.func 269) #[] #[Pt b2, Pt b3] ∧ zU w' b2 132 v.cells.toList ∧ zU w' b3 3 [Ii 8] ∧ w.heap.size ≤ b2 ∧ w.heap.size ≤ b3 ∧ zk [] w w' := by
 refine A2 Tryz.func252 rfl rfl ?_
 refine Sr ?_
 refine Ob rfl rfl ?_
 intro b2 w2 e2 n2 c2 k2
 refine Ob rfl rfl ?_
 intro b3 w3 e3 n3 c3 k3
 refine Oa rfl (E2 2 3 rfl (ze (Sr ?_)))
 refine Ol ag3 rfl (k3.cell' rfl) ?_
 refine Og (vf (zC rfl rfl) (decide_eq_false (by omega))) rfl ?_
 refine E3 2 3 6 rfl (zb rfl (zm (Sr ?_)))
 refine Og (zbr rfl rfl) rfl ?_
 refine Oa rfl (E1 4 rfl (zi ?_))
 refine zD rfl rfl ?_
 have hs := c2.size
 exact ⟨b2, b3, rfl, k2.chg0 c3, k3, by omega, by omega, c2.trans c3⟩
theorem zwX (w : World) (b2 b3 b len cap : Nat) (S0 : List Nat) (keep : TypeId → Bool) (h2 : zU w b2 132 [.slice (some ⟨b, 0, none⟩) len cap]) (h3 : zU w b3 3 [Ii 8]) (hl : len ≤ cap) (hn : len ≤ 1048576) (k2 : b2 ∉ S0) (k3 : b3 ∉ S0) :
 zny TP 269 #[Pt b2, Pt b3] (fun j : Nat => #[chV b len j]) S0 keep (fun j _ => 8 * j < len) (fun xs _ => xs = List.range ((len + 7) / 8)) (fun _ _ => True) ((len + 7) / 8) w := by
 intro l J Jx W hcw hJ hJx hY h0
 have hab : ∀ {pre : List Nat} {W1 W2 : World}, zk [] W1 W2 → J pre W1 → J pre W2 := fun hc hj => hJ _ _ _ none hj hc.grown0 (fun _ e => by cases e)
 have f2 : ∀ {W1 : World}, Kp S0 w.heap.size w W1 → zU W1 b2 132 [.slice (some ⟨b, 0, none⟩) len cap] := fun hk => (hk.2 b2 h2.lt k2).trans h2
 have f3 : ∀ {W1 : World}, Kp S0 w.heap.size w W1 → zU W1 b3 3 [Ii 8] := fun hk => (hk.2 b3 h3.lt k3).trans h3
 have hkw : Kp S0 w.heap.size w W := ⟨hcw.size, fun k hk _ => hcw.block k hk (by simp)⟩
 have hmono : ∀ {W1 W2 : World}, Kp S0 w.heap.size w W1 → zk [] W1 W2 → Kp S0 w.heap.size w W2 := fun hk hc => ⟨Nat.le_trans hk.1 hc.size, fun k hlt hn => (hc.block k (Nat.lt_of_lt_of_le hlt hk.1) (by simp)).trans (hk.2 k hlt hn)⟩
 refine CallsIn.mono (R := fun e W' => ∃ u, e = .returned u ∧ (fun (_ : Value) W' => (∃ xs, xs = List.range ((len + 7) / 8) ∧ J xs W') ∨ (∃ pre, True ∧ Jx pre W')) u W') ?_ (fun e W' ⟨u, he, h⟩ => ⟨⟨u, he⟩, h⟩)
 refine CallsIn.of_WX (args := [_, _, _]) Tryz.func269 rfl rfl rfl rfl (zhp ?_)
 refine Sr (Oa rfl (E4 0 1 2 4 rfl (zq ?_)))
 refine zW [0, 1, 2, 4] (fun m F wx => ∃ j : Nat, m = (len + 7) / 8 - j ∧ j ≤ (len + 7) / 8 ∧ F = [(0, .func (.yield l) #[] #[]), (1, Pt b2), (2, Pt b3), (4, Ii (8 * j : Nat))] ∧ Kp S0 w.heap.size w wx ∧ J (List.range j) wx) (m := (len + 7) / 8 - 0) ⟨0, rfl, Nat.zero_le _, rfl, hkw, h0⟩ ?_
 rintro m F wx ⟨j, rfl, hj, rfl, hkx, hJx0⟩
 refine ze (Sr (Om rfl ?_))
 refine Ol zf3 rfl ((f2 hkx).cell' rfl) ?_
 refine On yT rfl (Og (zC rfl rfl) rfl (E5 0 1 2 4 9 rfl ?_))
 refine zR rfl (fun hT => ?_) (fun hF => ?_)
 ·refine zm ?_
  have hlt : 8 * j < len := by have := of_decide_eq_true hT; omega
  refine ze (zq (ze ?_))
  have hd : zk [] wx wx.drew := zk.drew [] _
  refine zJ (fun wz => zk [] wx wz) mix (by kernel_rfl) hd ?_
  refine Tr (fun wz hz => zh ag3 rfl ((f3 (hmono hkx hz)).cell' rfl)) rfl ?_
  refine Tr (fun wz hz => zh zf3 rfl ((f2 (hmono hkx hz)).cell' rfl)) rfl ?_
  refine Tm rfl ?_
  refine Tp (fun _ => zaO yT sz5 rfl rfl _ rfl (show 8 * j ≤ len by omega)) rfl ?_
  refine Tp (fun _ => yc yT rfl) rfl ?_
  refine Tp (fun _ => zml rfl rfl) rfl ?_
  refine Ta rfl (D5 0 1 2 4 5 rfl ?_)
  have hmin : (if ((len - 8 * j : Nat) : Int) < 8 then ((len - 8 * j : Nat) : Int) else 8) = ((chN len j : Nat) : Int) := by unfold chN; split <;> omega
  rw [hmin]
  have hkd := hmono hkx hd
  have hch : 8 * j + chN len j ≤ len := by unfold chN; omega
  have hch0 : chN len j ≤ 8 := by unfold chN; omega
  have hy := hY (List.range j) j wx.drew (hab hd hJx0) hlt (by rw [List.length_range]; omega)
  refine ze ?_
  refine zfi ?_
  refine Xm rfl ?_
  refine yy (gn rfl) rfl (St.vl (zh zf3 rfl ((f2 hkd).cell' rfl)) rfl rfl ?_)
  refine Xm rfl (Xm rfl (Xm rfl ?_))
  refine yy (gn rfl) rfl (St.vl (yE (v' := Ii ((8 * j + chN len j : Nat) : Int)) (zI rfl rfl (by omega)) (by congr 1)) rfl rfl ?_)
  refine Xm rfl (Xm rfl ?_)
  refine yy (gn rfl) rfl (St.vl (yE (v' := Ii ((8 * j + chN len j : Nat) : Int)) (zI rfl rfl (by omega)) (by congr 1)) rfl rfl ?_)
  refine yy (gn rfl) rfl (St.vl (zew yT sz5 rfl rfl rfl rfl _ _ _ rfl rfl rfl (by omega) (Nat.le_refl _) (by omega)) rfl rfl ?_)
  refine zfW (gn rfl) rfl rfl rfl hy ?_
  rintro v29 w29 hR29
  obtain ⟨b29, rfl, hb29⟩ := yb hR29
  refine ⟨_, rfl, ?_⟩
  refine yy (gn rfl) rfl (St.vl (zO rfl) rfl rfl ?_)
  refine zbx [0, 1, 2, 4, 30] (F' := [(0, _), (1, _), (2, _), (4, _), (30, _)]) rfl ?_
  rcases hb29 with ⟨rfl, hJ29, hk29⟩ | ⟨rfl, hJ29⟩
  ·refine zb rfl (ye (zl ?_))
   have hkf : Kp S0 w.heap.size w w29 := hkd.trans hk29.kp
   refine za (Om rfl ?_)
   refine Ol ag3 rfl ((f3 hkf).cell' rfl) ?_
   refine Og (yE (v' := Ii ((8 * (j + 1) : Nat) : Int)) (zI rfl rfl (by omega)) (by congr 1)) rfl ?_
   refine Oa rfl (N4 0 1 2 4 rfl ?_)
   refine ⟨(len + 7) / 8 - (j + 1), by omega, j + 1, rfl, by omega, rfl, hkf, ?_⟩
   rw [List.range_succ]
   exact hJ29
  refine zd rfl (zi ?_)
  repeat first | refine tr ?_ | refine br ?_
  refine zqd rfl ?_
  exact .inr ⟨_, trivial, hJ29⟩
 refine zM ?_
 repeat first | refine te ?_ | refine bo rfl ?_
 refine zt _ ?_
 refine zge rfl ?_
 have he : j = (len + 7) / 8 := by have := of_decide_eq_false hF; omega
 subst he
 exact .inl ⟨_, rfl, hJx0⟩
end Go.Wk
