/- joined texts -/
import Derived.Test.YtcnkdoecfljnlaaGreatDoorY3
set_option linter.all false
namespace Go.Wk
open Go.Proofs
set_option maxRecDepth 10000
theorem zws : ze5 TP 262 = some Extern.BytealgCompare.compare := by kernel_rfl
theorem zkb (s u : ByteArray) (w : World) : (Extern.BytealgCompare.compare #[.string s, .string u]).run TP w = .ok (Ii (zgI s u)) w := by
 change Sem.run TP (do pure (goInt (Extern.BytealgCompare.cmp (← Extern.Bytes.bytesOf (.string s)) (← Extern.Bytes.bytesOf (.string u))))) w = _
 simp [Extern.Bytes.bytesOf, goInt, zgI]
theorem f58 (s u : ByteArray) (w : World) : z9 TP 235 #[.string s, .string u] w fun v w' => v = Ii (zgI s u) ∧ w' = w := by
 refine z9.of_W (args := [.string s, .string u]) Tryz.func235 rfl rfl rfl rfl ?_
 refine Sr (Oa rfl (E2 0 1 rfl (Sr (Om rfl (Om rfl ?_)))))
 refine zE (gn rfl) (zc8 zws rfl rfl (zkb _ _ _) rfl ?_)
 refine Oa rfl (E1 4 rfl (zi ?_))
 refine zD rfl rfl ?_
 exact ⟨rfl, rfl⟩
theorem f52 (s u : ByteArray) (w : World) : z9 TP 186 #[.string s, .string u] w fun v w' => v = Ii (zgI s u) ∧ w' = w := by
 refine z9.of_W (args := [.string s, .string u]) Tryz.func186 rfl rfl rfl rfl ?_
 refine Sr (Oa rfl (E2 0 1 rfl (Sr (Om rfl (Om rfl ?_)))))
 refine Oc zu7 rfl rfl rfl (f58 _ _ _) ?_
 rintro v7 w7 ⟨rfl, rfl⟩
 refine Oa rfl (E1 4 rfl (zi ?_))
 refine zD rfl rfl ?_
 exact ⟨rfl, rfl⟩
abbrev Ent := ByteArray × ByteArray
abbrev LE := List (List Ent)
def flat (es : List Ent) : List Value := es.flatMap fun x => [.string x.1, .string x.2]
theorem zdn (x : Ent) (es : List Ent) : flat (x :: es) = .string x.1 :: .string x.2 :: flat es := rfl
theorem zc2 (a b : List Ent) : flat (a ++ b) = flat a ++ flat b := by simp [flat]
theorem zeR (es : List Ent) : (flat es).length = es.length * 2 := by
 induction es with
 | nil => rfl
 | cons x es ih => rw [zdn]; simp only [List.length_cons, ih]; omega
theorem zfl (es : List Ent) (i : Nat) : flat (es.drop i) = (flat es).drop (i * 2) := by
 induction es generalizing i with
 | nil => simp [flat]
 | cons x es ih =>
  cases i with
  | zero => simp
  | succ i => rw [List.drop_succ_cons, ih, zdn, show (i + 1) * 2 = (i * 2) + 1 + 1 by omega]; rfl
theorem zgT (es : List Ent) (i : Nat) : flat (es.take i) = (flat es).take (i * 2) := by
 induction es generalizing i with
 | nil => simp [flat]
 | cons x es ih =>
  cases i with
  | zero => simp [flat]
  | succ i => rw [List.take_succ_cons, zdn, ih, zdn, show (i + 1) * 2 = (i * 2) + 1 + 1 by omega]; rfl
theorem zk0 (es : List Ent) : ∀ u ∈ flat es, u.oneCell' = true := by
 intro u hu
 simp only [flat, List.mem_flatMap] at hu
 obtain ⟨x, _, hu⟩ := hu
 simp at hu
 rcases hu with rfl | rfl <;> rfl
theorem zqM {es : List Ent} {i : Nat} {x : Ent} (h : es[i]? = some x) : ((flat es).drop (i * 2)).take 2 = [.string x.1, .string x.2] := by
 rw [← zfl]
 have : es.drop i = x :: es.drop (i + 1) := by
  rw [List.getElem?_eq_some_iff] at h
  obtain ⟨hl, rfl⟩ := h
  exact List.drop_eq_getElem_cons hl
 rw [this, zdn]
 rfl
def yL (w : World) (v : Value) (es : List Ent) : Prop := zv w 175 2 v es.length (flat es)
theorem yL.chg {S : List Nat} {w w' : World} {v : Value} {es : List Ent} (h : yL w v es) (hc : zk S w w') (hb : ∀ b ∈ zp v, b ∉ S) : yL w' v es := zv.chg h hc hb
theorem yL.chg0 {w w' : World} {v : Value} {es : List Ent} (h : yL w v es) (hc : zk [] w w') : yL w' v es := zv.chg0 h hc
theorem yL.at' {w : World} {v : Value} {es : List Ent} (h : yL w v es) {i : Nat} {x : Ent} (hx : es[i]? = some x) : ∃ b off cap, v = .slice (some ⟨b, off, none⟩) es.length cap ∧ zy w b (off + i * 2) [.string x.1, .string x.2] := by
 have hi : i < es.length := (List.getElem?_eq_some_iff.1 hx).1
 obtain ⟨b, off, cap, hv, hc⟩ := zv.atk h hi
 rw [zqM hx] at hc
 exact ⟨b, off, cap, hv, hc⟩
theorem f41 (k x : ByteArray) (w : World) : z9 TP 139 #[.agg #[.string k, .string x]] w fun r w' => r = .string k ∧ zk [] w w' := by
 refine z9.of_W (args := [.agg #[.string k, .string x]]) Tryz.func139 rfl rfl rfl rfl ?_
 refine Sr ?_
 refine Ob rfl rfl ?_
 intro b1 w1 e1 n1 c1 k1
 refine Oa rfl (E1 1 rfl (Sr (Od zgd rfl ?_)))
 refine Ol ag9 rfl (k1.cell' rfl) ?_
 refine Oa rfl (E1 2 rfl (zi ?_))
 refine zD rfl rfl ?_
 exact ⟨rfl, c1⟩
theorem f49 (v : Value) (k x : ByteArray) (es : List Ent) (w : World) (h : yL w v ((k, x) :: es)) : z9 TP 183 #[v] w fun r w' => r = .string k ∧ w' = w := by
 obtain ⟨b, off, cap, rfl, hc⟩ := h.at' (i := 0) rfl
 refine A1 Tryz.func183 rfl rfl ?_
 refine Sr (Oa rfl (E1 0 rfl (Sr (Om rfl ?_))))
 refine Og (zf yJ zai rfl rfl 0 rfl (by simp)) rfl ?_
 refine Od zgd rfl ?_
 refine Ol ag9 rfl (hc 0 _ rfl) ?_
 refine Oa rfl (E1 2 rfl (zi ?_))
 refine zD rfl rfl ?_
 exact ⟨rfl, rfl⟩
theorem f51 (k x key : ByteArray) (b : Nat) (w : World) (hb : zU w b 231 [.func (.func 139) #[] #[]]) : z9 TP 185 #[.agg #[.string k, .string x], .string key, Pt b] w fun r w' => r = Ii (zgI k key) ∧ zk [] w w' := by
 refine A3 Tryz.func185 rfl rfl ?_
 refine Sr ?_
 refine Ob rfl rfl ?_
 intro b3 w3 e3 n3 c3 k3
 refine Oa rfl (E3 1 2 3 rfl (Sr ?_))
 refine Ol zwK rfl ((hb.chg0 c3).cell' rfl) ?_
 refine Og (zg znh zai rfl rfl (zy.of_blk0 k3)) rfl ?_
 refine Oc zwW rfl rfl rfl (f41 k x _) ?_
 rintro v8 w8 ⟨rfl, c8⟩
 refine Om rfl ?_
 refine Oc zsg rfl rfl rfl (f52 _ _ _) ?_
 rintro v10 w10 ⟨rfl, rfl⟩
 refine Oa rfl (E1 5 rfl (zi ?_))
 refine zD rfl rfl ?_
 exact ⟨rfl, c3.trans c8⟩
theorem f57 (v : Value) (k x key : ByteArray) (es : List Ent) (b : Nat) (w : World) (hl : yL w v ((k, x) :: es)) (hb : zU w b 288 [.func (.func 183) #[] #[]]) : z9 TP 234 #[v, .string key, Pt b] w fun r w' => r = Ii (zgI k key) ∧ w' = w := by
 refine A3 Tryz.func234 rfl rfl ?_
 refine Sr (Oa rfl (E3 0 1 2 rfl (Sr ?_)))
 refine Ol zxg rfl (hb.cell' rfl) ?_
 refine Om rfl ?_
 refine Oc zvV rfl rfl rfl (f49 _ _ _ _ _ hl) ?_
 rintro v8 w8 ⟨rfl, rfl⟩
 refine Om rfl ?_
 refine Oc zsg rfl rfl rfl (f52 _ _ _) ?_
 rintro v10 w10 ⟨rfl, rfl⟩
 refine Oa rfl (E1 5 rfl (zi ?_))
 refine zD rfl rfl ?_
 exact ⟨rfl, rfl⟩
def zlF (ks : List ByteArray) (key : ByteArray) (i : Nat) : Prop := i ≤ ks.length ∧ ∀ j k, ks[j]? = some k → (blt k key = true ↔ j < i)
def znR (ks : List ByteArray) (key : ByteArray) : Prop := ∀ (i j : Nat) (a b : ByteArray), i ≤ j → ks[i]? = some a → ks[j]? = some b → blt b key = true → blt a key = true
def zbD (ks : List ByteArray) (key : ByteArray) (lo hi : Nat) : Prop := lo ≤ hi ∧ hi ≤ ks.length ∧ (∀ (j : Nat) (k : ByteArray), j < lo → ks[j]? = some k → blt k key = true) ∧ (∀ (j : Nat) (k : ByteArray), hi ≤ j → ks[j]? = some k → blt k key = false)
def zb3 (ks : List ByteArray) (key : ByteArray) (i : Nat) : Bool := match ks[i]? with | some k => decide (k = key) | none => false
theorem zbD.start (ks : List ByteArray) (key : ByteArray) : zbD ks key 0 ks.length :=
 ⟨Nat.zero_le _, Nat.le_refl _, fun j k h => by omega, fun j k h hk => by simp [List.getElem?_eq_none h] at hk⟩
theorem zbD.low {ks : List ByteArray} {key k : ByteArray} {lo hi h : Nat} (hb : zbD ks key lo hi) (hm : znR ks key) (h1 : lo ≤ h) (h2 : h < hi) (hk : ks[h]? = some k) (hlt : blt k key = true) : zbD ks key (h + 1) hi :=
 ⟨by omega, hb.2.1, fun j a hj ha => hm j h a k (by omega) ha hk hlt, hb.2.2.2⟩
theorem zbD.high {ks : List ByteArray} {key k : ByteArray} {lo hi h : Nat} (hb : zbD ks key lo hi) (hm : znR ks key) (h1 : lo ≤ h) (h2 : h < hi) (hk : ks[h]? = some k) (hlt : blt k key = false) : zbD ks key lo h :=
 ⟨h1, by have := hb.2.1; omega, hb.2.2.1, fun j a hj ha => by
  cases hx : blt a key with
  | false => rfl
  | true => rw [hm h j k a hj hk ha hx] at hlt; cases hlt⟩
theorem zbD.done {ks : List ByteArray} {key : ByteArray} {lo hi : Nat} (hb : zbD ks key lo hi) (he : hi ≤ lo) : zlF ks key lo := by
 have : lo = hi := by have := hb.1; omega
 subst this
 refine ⟨hb.2.1, fun j k hk => ⟨fun h => ?_, fun h => hb.2.2.1 j k h hk⟩⟩
 rcases Nat.lt_or_ge j lo with h' | h'
 ·exact h'
 rw [hb.2.2.2 j k h' hk] at h; cases h
theorem zmO {lo hi : Nat} (h : lo < hi) : lo ≤ (lo + hi) / 2 ∧ (lo + hi) / 2 < hi := by omega
theorem f50 (v : Value) (es : List Ent) (key : ByteArray) (b : Nat) (w : World) (hl : yL w v es) (hn : es.length ≤ 4611686018427387903) (hb : zU w b 231 [.func (.func 139) #[] #[]]) (hm : znR (es.map (·.1)) key) :
 z9 TP 184 #[v, .string key, .func (.func 185) #[] #[Pt b]] w fun r w' => ∃ i : Nat, r = .tuple #[Ii i, .bool (zb3 (es.map (·.1)) key i)] ∧ zlF (es.map (·.1)) key i ∧ zk [] w w' := by
 obtain ⟨p, c, rfl, _⟩ := hl.val
 refine A3 Tryz.func184 rfl rfl ?_
 refine Sr (Oa rfl (Oa rfl (E3 0 1 2 rfl (Sr (Om rfl (On zh0 rfl (Oa rfl (E4 0 1 2 8 rfl (Sr (Om rfl ?_))))))))))
 refine Oa rfl (Oa rfl (E6 0 1 2 8 9 10 rfl (ze (zq ?_))))
 refine zW [0, 1, 2, 8, 9, 10] (fun m F wx => ∃ lo hi : Nat, m = hi - lo ∧ F = [(0, .slice p es.length c), (1, .string key), (2, .func (.func 185) #[] #[Pt b]), (8, Ii es.length), (9, Ii lo), (10, Ii hi)] ∧ zbD (es.map (·.1)) key lo hi ∧ zk [] w wx) (m := es.length - 0) ⟨0, es.length, rfl, rfl, by simpa using zbD.start (es.map (·.1)) key, zk.refl _ _⟩ ?_
 rintro m F wx ⟨lo, hi, rfl, rfl, hbt, hcx⟩
 have hle := hbt.2.1
 rw [List.length_map] at hle
 refine ze (Sr (Om rfl (Om rfl (Og (zC rfl rfl) rfl (E7 0 1 2 8 9 10 17 rfl ?_)))))
 refine zR rfl (fun hT => ?_) (fun hF => ?_)
 ·refine zm ?_
  have hlt : lo < hi := by simpa using hT
  have hh := zmO hlt
  have hk : es[(lo + hi) / 2]? = some es[(lo + hi) / 2] := by simp
  have hlw := hl.chg0 hcx
  obtain ⟨bb, off, cap, hv, hcs⟩ := hlw.at' hk
  cases hv
  refine zq (Sr (Om rfl (Om rfl ?_)))
  refine Og (zI rfl rfl (by omega)) rfl ?_
  refine Og (yq zcM zak rfl (show IntKind.u64.wrap ((lo : Int) + (hi : Int)) = ((lo + hi : Nat) : Int) from by rw [IntWalk.u64_in _ ⟨by omega, by omega⟩]; omega)) rfl ?_
  refine Og (zbP 1 rfl rfl (by omega) (by decide) (show ((lo + hi : Nat) : Int).fdiv 2 = (((lo + hi) / 2 : Nat) : Int) from by rw [Int.fdiv_eq_ediv_of_nonneg _ (by omega)]; omega)) rfl ?_
  refine Og (yq zak zcM rfl (show IntKind.i64.wrap (((lo + hi) / 2 : Nat) : Int) = (((lo + hi) / 2 : Nat) : Int) from IntWalk.i64_in _ ⟨by omega, by omega⟩)) rfl ?_
  refine Oa rfl (E7 0 1 2 8 9 10 11 rfl (Sr (Om rfl (Om rfl (Om rfl ?_)))))
  refine Og (zf zh0 zai rfl rfl _ rfl (by omega)) rfl ?_
  refine Og (zg znh zai rfl rfl hcs) rfl ?_
  refine Om rfl ?_
  refine Oc zsO rfl rfl rfl (f51 _ _ key b _ (hb.chg0 hcx)) ?_
  rintro v30 w30 ⟨rfl, c30⟩
  refine Og (zC rfl rfl) rfl (E8 0 1 2 8 9 10 11 31 rfl ?_)
  have hkm : (es.map (·.1))[(lo + hi) / 2]? = some es[(lo + hi) / 2].1 := by rw [List.getElem?_map, hk]; rfl
  refine zR rfl (fun hT => ?_) (fun hF => ?_)
  ·have hlt2 := (zhl _ _).1 (of_decide_eq_true hT)
   refine za (Om rfl ?_)
   refine Og (zI rfl rfl (by omega)) rfl ?_
   refine Oa rfl (N6 0 1 2 8 9 10 rfl ?_)
   refine ⟨hi - ((lo + hi) / 2 + 1), by omega, (lo + hi) / 2 + 1, hi, rfl, rfl, hbt.low hm hh.1 hh.2 hkm hlt2, hcx.trans c30⟩
  have hlt2 : blt es[(lo + hi) / 2].1 key = false := by
   cases hx : blt es[(lo + hi) / 2].1 key with
   | false => rfl
   | true => have := (zhl _ _).2 hx; simp at hF; omega
  refine za (Om rfl (Oa rfl (N6 0 1 2 8 9 10 rfl ?_)))
  refine ⟨(lo + hi) / 2 - lo, by omega, lo, (lo + hi) / 2, rfl, rfl, hbt.high hm hh.1 hh.2 hkm hlt2, hcx.trans c30⟩
 refine zM ?_
 repeat first | refine te ?_ | refine bo rfl ?_
 refine zt _ ?_
 have hge : hi ≤ lo := by simpa using hF
 have hlb := hbt.done hge
 refine ze ?_
 by_cases hlt : lo < es.length
 ·have hk : es[lo]? = some es[lo] := by simp
  have hlw := hl.chg0 hcx
  obtain ⟨bb, off, cap, hv, hcs⟩ := hlw.at' hk
  cases hv
  have hhas : zb3 (es.map (·.1)) key lo = decide (zgI es[lo].1 key = 0) := by
   simp only [zb3, List.getElem?_map, hk, Option.map_some]
   exact decide_eq_decide.2 (zm4 _ _).symm
  refine za (Om rfl (Om rfl (Om rfl ?_)))
  refine Og (vt (zC rfl rfl) (by simpa using hlt)) rfl ?_
  refine Om rfl (Oj rfl rfl (Oj rfl rfl (Oj rfl rfl ?_)))
  refine Oy rfl rfl (zf zh0 zai rfl rfl _ rfl hlt) ?_
  refine Oy rfl rfl (zg znh zai rfl rfl hcs) ?_
  refine Oj rfl rfl ?_
  refine Ow rfl rfl zsO rfl rfl rfl (f51 _ _ key b _ (hb.chg0 hcx)) ?_
  rintro v46 w46 ⟨rfl, c46⟩
  refine Oy rfl rfl (zsL (zw rfl rfl) hhas.symm) ?_
  refine Ot rfl (Oa rfl (Oa rfl (E2 6 7 rfl (zi ?_))))
  refine zaV rfl rfl rfl ?_
  exact ⟨lo, rfl, hlb, hcx.trans c46⟩
 have hhas : zb3 (es.map (·.1)) key lo = false := by
  simp only [zb3, List.getElem?_map, List.getElem?_eq_none (Nat.not_lt.1 hlt), Option.map_none]
 refine za (Om rfl (Om rfl (Om rfl ?_)))
 refine Og (vf (zC rfl rfl) (by simpa using hlt)) rfl ?_
 refine Om rfl ?_
 iterate 8 refine zdy rfl rfl rfl rfl rfl rfl ?_
 refine Of rfl (Oa rfl (Oa rfl (E2 6 7 rfl (zi ?_))))
 refine zaV rfl rfl rfl ?_
 exact ⟨lo, by rw [hhas], hlb, hcx⟩
def yR (l : List Ent) : ByteArray := match l with | x :: _ => x.1 | [] => ⟨#[]⟩
def lbN (l : List Ent) (key : ByteArray) : Nat := (l.takeWhile fun x => blt x.1 key).length
def zdr (l : List Ent) (key : ByteArray) : Bool := zb3 (l.map (·.1)) key (lbN l key)
def yQ (ls : LE) (key : ByteArray) : Nat := (ls.takeWhile fun l => !blt key (yR l)).length
def Srt (l : List Ent) : Prop := l.Pairwise fun a b => blt a.1 b.1 = true
theorem zb2 {α : Type} (p : α → Bool) : ∀ (l : List α) (i : Nat), i ≤ l.length → (∀ j k, l[j]? = some k → (p k = true ↔ j < i)) → (l.takeWhile p).length = i
 | [], i, h, _ => by simp at h; simp [h]
 | x :: l, i, h, hp => by
  have h0 := hp 0 x rfl
  cases i with
  | zero =>
   have : p x = false := by
    cases hx : p x with
    | false => rfl
    | true => have := h0.1 hx; omega
   simp [List.takeWhile, this]
  | succ i =>
   have : p x = true := h0.2 (by omega)
   have ih := zb2 p l i (by simpa using h) (fun j k hk => by
    have := hp (j + 1) k (by simpa using hk)
    rw [this]; omega)
   simp [List.takeWhile, this, ih]
theorem zlF.eq {l : List Ent} {key : ByteArray} {i : Nat} (h : zlF (l.map (·.1)) key i) : i = lbN l key := by
 refine (zb2 _ l i (by simpa using h.1) (fun j k hk => ?_)).symm
 exact h.2 j k.1 (by rw [List.getElem?_map, hk]; rfl)
theorem Srt.at {l : List Ent} (h : Srt l) {i j : Nat} {a b : Ent} (hij : i < j) (ha : l[i]? = some a) (hb : l[j]? = some b) : blt a.1 b.1 = true := by
 obtain ⟨h1, rfl⟩ := List.getElem?_eq_some_iff.1 ha
 obtain ⟨h2, rfl⟩ := List.getElem?_eq_some_iff.1 hb
 exact List.pairwise_iff_getElem.1 h i j h1 h2 hij
theorem Srt.mono {l : List Ent} (h : Srt l) (key : ByteArray) : znR (l.map (·.1)) key := by
 intro i j a b hij ha hb hlt
 rw [List.getElem?_map] at ha hb
 cases hx : l[i]? with
 | none => simp [hx] at ha
 | some x =>
  cases hy : l[j]? with
  | none => simp [hy] at hb
  | some y =>
   simp [hx] at ha; simp [hy] at hb
   subst ha hb
   rcases Nat.lt_or_ge i j with h' | h'
   ·exact zcj (h.at h' hx hy) hlt
   have : i = j := by omega
   subst this
   rw [hx] at hy
   simp at hy
   subst hy
   exact hlt
def ziD (ls : LE) : Prop := ls.Pairwise fun a b => blt (yR a) (yR b) = true
theorem ziD.at {ls : LE} (h : ziD ls) {i j : Nat} {a b : List Ent} (hij : i < j) (ha : ls[i]? = some a) (hb : ls[j]? = some b) : blt (yR a) (yR b) = true := by
 obtain ⟨h1, rfl⟩ := List.getElem?_eq_some_iff.1 ha
 obtain ⟨h2, rfl⟩ := List.getElem?_eq_some_iff.1 hb
 exact List.pairwise_iff_getElem.1 h i j h1 h2 hij
theorem ziD.mono {ls : LE} (h : ziD ls) (key : ByteArray) : znR (ls.map yR) key := by
 intro i j a b hij ha hb hlt
 rw [List.getElem?_map] at ha hb
 cases hx : ls[i]? with
 | none => simp [hx] at ha
 | some x =>
  cases hy : ls[j]? with
  | none => simp [hy] at hb
  | some y =>
   simp [hx] at ha; simp [hy] at hb
   subst ha hb
   rcases Nat.lt_or_ge i j with h' | h'
   ·exact zcj (h.at h' hx hy) hlt
   have : i = j := by omega
   subst this
   rw [hx] at hy
   simp at hy
   subst hy
   exact hlt
theorem zqt {ls : LE} {key : ByteArray} {i : Nat} (hs : ziD ls) (h : zlF (ls.map yR) key i) : (yQ ls key - 1 : Nat) = (if zb3 (ls.map yR) key i then i else i - 1) := by
 have hle : i ≤ ls.length := by simpa using h.1
 have key1 : ∀ j k, ls[j]? = some k → j < i → blt key (yR k) = false := fun j k hk hj =>
  zdl ((h.2 j (yR k) (by rw [List.getElem?_map, hk]; rfl)).2 hj)
 have key2 : ∀ j k, ls[j]? = some k → i ≤ j → blt (yR k) key = false := fun j k hk hj => by
  cases hx : blt (yR k) key with
  | false => rfl
  | true => have := (h.2 j (yR k) (by rw [List.getElem?_map, hk]; rfl)).1 hx; omega
 by_cases hh : zb3 (ls.map yR) key i = true
 ·rw [if_pos hh]
  unfold zb3 at hh
  rw [List.getElem?_map] at hh
  cases hx : ls[i]? with
  | none => simp [hx] at hh
  | some x =>
   simp [hx] at hh
   have hil := (List.getElem?_eq_some_iff.1 hx).1
   have : yQ ls key = i + 1 := by
    refine zb2 _ ls (i + 1) (by omega) (fun j k hk => ?_)
    rw [Bool.not_eq_true']
    constructor
    ·intro h1
     rcases Nat.lt_or_ge j (i + 1) with h' | h'
     ·exact h'
     have := hs.at (show i < j by omega) hx hk
     rw [hh, h1] at this; cases this
    intro h1
    rcases Nat.lt_or_ge j i with h' | h'
    ·exact key1 j k hk h'
    have : j = i := by omega
    subst this
    rw [hx] at hk; simp at hk; subst hk
    rw [hh]; exact zaQ _
   rw [this]; simp
 rw [if_neg hh]
 have : yQ ls key = i := by
  refine zb2 _ ls i hle (fun j k hk => ?_)
  rw [Bool.not_eq_true']
  constructor
  ·intro h1
   rcases Nat.lt_or_ge j i with h' | h'
   ·exact h'
   exfalso
   have h2 := key2 j k hk h'
   have he := zd4 h2 h1
   rcases Nat.lt_or_ge i j with h3 | h3
   ·have hil : i < ls.length := by have := (List.getElem?_eq_some_iff.1 hk).1; omega
    have hx : ls[i]? = some ls[i] := by simp [hil]
    have h4 := hs.at h3 hx hk
    rw [he] at h4
    rw [key2 i _ hx (Nat.le_refl _)] at h4; cases h4
   have : j = i := by omega
   subst this
   apply hh
   unfold zb3
   rw [List.getElem?_map, hk]
   simp [he]
  intro h1; exact key1 j k hk h1
 rw [this]
def zbk (w : World) : List Value → LE → Prop
 | [], [] => True
 | v :: vs, l :: ls => yL w v l ∧ zbk w vs ls
 | _, _ => False
theorem zbk.at {w : World} : ∀ {vs : List Value} {ls : LE} {i : Nat} {l : List Ent}, zbk w vs ls → ls[i]? = some l → ∃ v, vs[i]? = some v ∧ yL w v l
 | [], [], _, _, _, h => by simp at h
 | v :: vs, l :: ls, 0, l', h, hi => by simp at hi; subst hi; exact ⟨v, rfl, h.1⟩
 | v :: vs, l :: ls, i + 1, l', h, hi => by simpa using h.2.at (by simpa using hi)
theorem zbk.append {w : World} : ∀ {vs us : List Value} {ls ms : LE}, zbk w vs ls → zbk w us ms → zbk w (vs ++ us) (ls ++ ms)
 | [], _, [], _, _, h => h
 | _ :: _, _, _ :: _, _, h, h' => ⟨h.1, h.2.append h'⟩
theorem zbk.take {w : World} : ∀ {vs : List Value} {ls : LE} (i : Nat), zbk w vs ls → zbk w (vs.take i) (ls.take i)
 | _, _, 0, _ => by simp [zbk]
 | [], [], _ + 1, _ => by simp [zbk]
 | _ :: _, _ :: _, i + 1, h => ⟨h.1, h.2.take i⟩
theorem zbk.drop {w : World} : ∀ {vs : List Value} {ls : LE} (i : Nat), zbk w vs ls → zbk w (vs.drop i) (ls.drop i)
 | _, _, 0, h => h
 | [], [], _ + 1, _ => by simp [zbk]
 | _ :: _, _ :: _, i + 1, h => by simpa using h.2.drop i
theorem zbk.chg {S : List Nat} {w w' : World} (hc : zk S w w') : ∀ {vs : List Value} {ls : LE}, (∀ v ∈ vs, ∀ b ∈ zp v, b ∉ S) → zbk w vs ls → zbk w' vs ls
 | [], [], _, _ => trivial
 | v :: vs, l :: ls, hb, h => ⟨h.1.chg hc (hb v (by simp)), zbk.chg hc (fun u hu => hb u (by simp [hu])) h.2⟩
theorem zbk.apart {w : World} {b : Nat} {e : TypeId} {c : List Value} (hb : zU w b e c) (hne : Nat.beq 175 e = false) : ∀ {vs : List Value} {ls : LE}, zbk w vs ls → ∀ v ∈ vs, ∀ x ∈ zp v, x ∉ [b]
 | [], [], _, v, hv => by simp at hv
 | v :: vs, l :: ls, h, u, hu => by
  rcases List.mem_cons.1 hu with rfl | hu
  ·exact zv.apart h.1 hb hne
  exact zbk.apart hb hne h.2 u hu
def yG (w : World) (v : Value) (ls : LE) : Prop := ∃ vs, zv w 177 1 v ls.length vs ∧ zbk w vs ls
theorem yG.chg0 {w w' : World} {v : Value} {ls : LE} (h : yG w v ls) (hc : zk [] w w') : yG w' v ls :=
 let ⟨vs, h1, h2⟩ := h; ⟨vs, h1.chg0 hc, h2.chg hc (by simp)⟩
theorem yG.chg1 {w w' : World} {v : Value} {ls : LE} (h : yG w v ls) {b : Nat} {e : TypeId} {c : List Value} (hb : zU w b e c) (h1 : Nat.beq 177 e = false) (h2 : Nat.beq 175 e = false) (hc : zk [b] w w') : yG w' v ls :=
 let ⟨vs, g1, g2⟩ := h; ⟨vs, g1.chg hc (g1.apart hb h1), g2.chg hc (g2.apart hb h2)⟩
theorem yG.at {w : World} {v : Value} {ls : LE} (h : yG w v ls) {i : Nat} {l : List Ent} (hi : ls[i]? = some l) : ∃ b off cap u, v = .slice (some ⟨b, off, none⟩) ls.length cap ∧ w.cell? ⟨b, off + i * 1, none⟩ = some u ∧ yL w u l := by
 obtain ⟨vs, h1, h2⟩ := h
 obtain ⟨b, off, cap, u, hv, hu, hc⟩ := h1.at1 (List.getElem?_eq_some_iff.1 hi).1
 obtain ⟨u', hu', hl⟩ := h2.at hi
 rw [hu] at hu'
 simp at hu'
 subst hu'
 exact ⟨b, off, cap, u, hv, hc, hl⟩
theorem f56 (v : Value) (ls : LE) (key : ByteArray) (b : Nat) (w : World) (hl : yG w v ls) (hne : ∀ l ∈ ls, l ≠ []) (hn : ls.length ≤ 4611686018427387903) (hb : zU w b 288 [.func (.func 183) #[] #[]]) (hm : znR (ls.map yR) key) :
 z9 TP 233 #[v, .string key, .func (.func 234) #[] #[Pt b]] w fun r w' => ∃ i : Nat, r = .tuple #[Ii i, .bool (zb3 (ls.map yR) key i)] ∧ zlF (ls.map yR) key i ∧ w' = w := by
 obtain ⟨vs, hsl, hal⟩ := id hl
 obtain ⟨p, c, rfl, _⟩ := hsl.val
 have call : ∀ (i : Nat) (l : List Ent), ls[i]? = some l → ∃ bb off u, p = some ⟨bb, off, none⟩ ∧ w.cell? ⟨bb, off + i * 1, none⟩ = some u ∧ z9 TP 234 #[u, .string key, Pt b] w fun r w' => r = Ii (zgI (yR l) key) ∧ w' = w := by
  intro i l hi
  obtain ⟨bb, off, cap, u, hv, hc, hl'⟩ := hl.at hi
  simp only [Value.slice.injEq] at hv
  refine ⟨bb, off, u, hv.1, hc, ?_⟩
  cases l with
  | nil => exact absurd rfl (hne [] (List.mem_of_getElem? hi))
  | cons x l => exact f57 u x.1 x.2 key l b w hl' hb
 refine A3 Tryz.func233 rfl rfl ?_
 refine Sr (Oa rfl (Oa rfl (E3 0 1 2 rfl (Sr (Om rfl (On zg3 rfl (Oa rfl (E4 0 1 2 8 rfl (Sr (Om rfl ?_))))))))))
 refine Oa rfl (Oa rfl (E6 0 1 2 8 9 10 rfl (ze (zq ?_))))
 refine zW [0, 1, 2, 8, 9, 10] (fun m F wx => wx = w ∧ ∃ lo hi : Nat, m = hi - lo ∧ F = [(0, .slice p ls.length c), (1, .string key), (2, .func (.func 234) #[] #[Pt b]), (8, Ii ls.length), (9, Ii lo), (10, Ii hi)] ∧ zbD (ls.map yR) key lo hi) (m := ls.length - 0) ⟨rfl, 0, ls.length, rfl, rfl, by simpa using zbD.start (ls.map yR) key⟩ ?_
 rintro m F wx ⟨rfl, lo, hi, rfl, rfl, hbt⟩
 have hle := hbt.2.1
 rw [List.length_map] at hle
 refine ze (Sr (Om rfl (Om rfl (Og (zC rfl rfl) rfl (E7 0 1 2 8 9 10 17 rfl ?_)))))
 refine zR rfl (fun hT => ?_) (fun hF => ?_)
 ·refine zm ?_
  have hlt : lo < hi := by simpa using hT
  have hh := zmO hlt
  have hk : ls[(lo + hi) / 2]? = some ls[(lo + hi) / 2] := by simp
  obtain ⟨bb, off, u, rfl, hcs, hret⟩ := call _ _ hk
  refine zq (Sr (Om rfl (Om rfl ?_)))
  refine Og (zI rfl rfl (by omega)) rfl ?_
  refine Og (yq zcM zak rfl (show IntKind.u64.wrap ((lo : Int) + (hi : Int)) = ((lo + hi : Nat) : Int) from by rw [IntWalk.u64_in _ ⟨by omega, by omega⟩]; omega)) rfl ?_
  refine Og (zbP 1 rfl rfl (by omega) (by decide) (show ((lo + hi : Nat) : Int).fdiv 2 = (((lo + hi) / 2 : Nat) : Int) from by rw [Int.fdiv_eq_ediv_of_nonneg _ (by omega)]; omega)) rfl ?_
  refine Og (yq zak zcM rfl (show IntKind.i64.wrap (((lo + hi) / 2 : Nat) : Int) = (((lo + hi) / 2 : Nat) : Int) from IntWalk.i64_in _ ⟨by omega, by omega⟩)) rfl ?_
  refine Oa rfl (E7 0 1 2 8 9 10 11 rfl (Sr (Om rfl (Om rfl (Om rfl ?_)))))
  refine Og (zf zg3 zbm rfl rfl _ rfl (by omega)) rfl ?_
  refine Ol zdC rfl hcs ?_
  refine Om rfl ?_
  refine Oc zsv rfl rfl rfl hret ?_
  rintro v30 w30 ⟨rfl, rfl⟩
  refine Og (zC rfl rfl) rfl (E8 0 1 2 8 9 10 11 31 rfl ?_)
  have hkm : (ls.map yR)[(lo + hi) / 2]? = some (yR ls[(lo + hi) / 2]) := by rw [List.getElem?_map, hk]; rfl
  refine zR rfl (fun hT => ?_) (fun hF => ?_)
  ·have hlt2 := (zhl _ _).1 (of_decide_eq_true hT)
   refine za (Om rfl ?_)
   refine Og (zI rfl rfl (by omega)) rfl ?_
   refine Oa rfl (N6 0 1 2 8 9 10 rfl ?_)
   refine ⟨hi - ((lo + hi) / 2 + 1), by omega, rfl, (lo + hi) / 2 + 1, hi, rfl, rfl, hbt.low hm hh.1 hh.2 hkm hlt2⟩
  have hlt2 : blt (yR ls[(lo + hi) / 2]) key = false := by
   cases hx : blt (yR ls[(lo + hi) / 2]) key with
   | false => rfl
   | true => have := (zhl _ _).2 hx; simp at hF; omega
  refine za (Om rfl (Oa rfl (N6 0 1 2 8 9 10 rfl ?_)))
  refine ⟨(lo + hi) / 2 - lo, by omega, rfl, lo, (lo + hi) / 2, rfl, rfl, hbt.high hm hh.1 hh.2 hkm hlt2⟩
 refine zM ?_
 repeat first | refine te ?_ | refine bo rfl ?_
 refine zt _ ?_
 have hge : hi ≤ lo := by simpa using hF
 have hlb := hbt.done hge
 refine ze ?_
 by_cases hlt : lo < ls.length
 ·have hk : ls[lo]? = some ls[lo] := by simp
  obtain ⟨bb, off, u, rfl, hcs, hret⟩ := call _ _ hk
  have hhas : zb3 (ls.map yR) key lo = decide (zgI (yR ls[lo]) key = 0) := by
   simp only [zb3, List.getElem?_map, hk, Option.map_some]
   exact decide_eq_decide.2 (zm4 _ _).symm
  refine za (Om rfl (Om rfl (Om rfl ?_)))
  refine Og (vt (zC rfl rfl) (by simpa using hlt)) rfl ?_
  refine Om rfl (Oj rfl rfl (Oj rfl rfl (Oj rfl rfl ?_)))
  refine Oy rfl rfl (zf zg3 zbm rfl rfl _ rfl hlt) ?_
  refine Oy rfl rfl (zh zdC rfl hcs) ?_
  refine Oj rfl rfl ?_
  refine Ow rfl rfl zsv rfl rfl rfl hret ?_
  rintro v46 w46 ⟨rfl, rfl⟩
  refine Oy rfl rfl (zsL (zw rfl rfl) hhas.symm) ?_
  refine Ot rfl (Oa rfl (Oa rfl (E2 6 7 rfl (zi ?_))))
  refine zaV rfl rfl rfl ?_
  exact ⟨lo, rfl, hlb, rfl⟩
 have hhas : zb3 (ls.map yR) key lo = false := by
  simp only [zb3, List.getElem?_map, List.getElem?_eq_none (Nat.not_lt.1 hlt), Option.map_none]
 refine za (Om rfl (Om rfl (Om rfl ?_)))
 refine Og (vf (zC rfl rfl) (by simpa using hlt)) rfl ?_
 refine Om rfl ?_
 iterate 8 refine zdy rfl rfl rfl rfl rfl rfl ?_
 refine Of rfl (Oa rfl (Oa rfl (E2 6 7 rfl (zi ?_))))
 refine zaV rfl rfl rfl ?_
 exact ⟨lo, by rw [hhas], hlb, rfl⟩
theorem f40 (v : Value) (es : List Ent) (key : ByteArray) (w : World) (hl : yL w v es) (hn : es.length ≤ 4611686018427387903) (hs : Srt es) :
 z9 TP 138 #[v, .string key, .func (.func 139) #[] #[]] w fun r w' => r = .tuple #[Ii (lbN es key : Nat), .bool (zdr es key)] ∧ zk [] w w' := by
 refine A3 Tryz.func138 rfl rfl ?_
 refine Sr ?_
 refine Ob rfl rfl ?_
 intro b5 w5 e5 n5 c5 k5
 refine Oa rfl (Oa rfl (E3 0 1 5 rfl (Sr (Om rfl (Om rfl ?_)))))
 refine Og (zbr rfl rfl) rfl ?_
 refine Oc zuL rfl rfl rfl (f50 v es key b5 _ (hl.chg0 c5) hn k5 (hs.mono key)) ?_
 rintro v11 w11 ⟨i, rfl, hlb, c11⟩
 refine Oe rfl rfl (Oe rfl rfl (Oa rfl (Oa rfl (E2 6 7 rfl (zi ?_)))))
 refine zaV rfl rfl rfl ?_
 have := hlb.eq
 subst this
 exact ⟨rfl, c5.trans c11⟩
theorem f48 (v : Value) (ls : LE) (key : ByteArray) (w : World) (hl : yG w v ls) (hne : ∀ l ∈ ls, l ≠ []) (hn : ls.length ≤ 4611686018427387903) (hs : ziD ls) :
 z9 TP 182 #[v, .string key, .func (.func 183) #[] #[]] w fun r w' => ∃ i : Nat, r = .tuple #[Ii i, .bool (zb3 (ls.map yR) key i)] ∧ zlF (ls.map yR) key i ∧ zk [] w w' := by
 refine A3 Tryz.func182 rfl rfl ?_
 refine Sr ?_
 refine Ob rfl rfl ?_
 intro b5 w5 e5 n5 c5 k5
 refine Oa rfl (Oa rfl (E3 0 1 5 rfl (Sr (Om rfl (Om rfl ?_)))))
 refine Og (zbr rfl rfl) rfl ?_
 refine Oc zvx rfl rfl rfl (f56 v ls key b5 _ (hl.chg0 c5) hne hn k5 (hs.mono key)) ?_
 rintro v11 w11 ⟨i, rfl, hlb, rfl⟩
 refine Oe rfl rfl (Oe rfl rfl (Oa rfl (Oa rfl (E2 6 7 rfl (zi ?_)))))
 refine zaV rfl rfl rfl ?_
 exact ⟨i, rfl, hlb, c5⟩
theorem f39 (v : Value) (ls : LE) (key : ByteArray) (w : World) (hl : yG w v ls) (hne : ∀ l ∈ ls, l ≠ []) (hn : ls.length ≤ 4611686018427387903) (hs : ziD ls) :
 z9 TP 137 #[v, .string key] w fun r w' => r = Ii (yQ ls key - 1 : Nat) ∧ zk [] w w' := by
 refine A2 Tryz.func137 rfl rfl ?_
 refine Sr (Oa rfl (E2 0 1 rfl (Sr (Om rfl (Om rfl ?_)))))
 refine Oc zwZ rfl rfl rfl (f48 v ls key _ hl hne hn hs) ?_
 rintro v10 w10 ⟨i, rfl, hlb, c10⟩
 refine Om rfl (Oe rfl rfl (Oe rfl rfl (Oa rfl (Oa rfl (E2 5 6 rfl ?_)))))
 have hc := zqt hs hlb
 have hi : i ≤ ls.length := by simpa using hlb.1
 refine ze (Sr (Om rfl (Og (zO rfl) rfl (E2 5 14 rfl ?_))))
 refine zR rfl (fun hT => ?_) (fun hF => ?_)
 ·refine za (Om rfl ?_)
  refine Og (yN rfl rfl (by omega)) rfl ?_
  refine Oa rfl (E1 5 rfl (Sr (Om rfl ?_)))
  refine Og (zlM rfl rfl) rfl ?_
  refine Oa rfl (E1 4 rfl (zi ?_))
  refine zD rfl rfl ?_
  have : zb3 (ls.map yR) key i = false := by simpa using hT
  rw [this] at hc
  simp at hc
  refine ⟨?_, c10⟩
  rw [hc]
  congr 1
  split <;> omega
 refine zm (Sr (Om rfl ?_))
 refine Og (zlM rfl rfl) rfl ?_
 refine Oa rfl (E1 4 rfl (zi ?_))
 refine zD rfl rfl ?_
 have : zb3 (ls.map yR) key i = true := by simpa using hF
 rw [this] at hc
 simp at hc
 refine ⟨?_, c10⟩
 rw [hc]
 congr 1
 split <;> omega
def spot (ls : LE) (key : ByteArray) : Nat × Nat × Bool :=
 match ls[yQ ls key - 1]? with
 | some l => (yQ ls key - 1, lbN l key, zdr l key)
 | none => (0, 0, false)
theorem zhu {ls : LE} {key : ByteArray} (h : ls ≠ []) : yQ ls key - 1 < ls.length := by
 have : yQ ls key ≤ ls.length := (List.takeWhile_prefix _).length_le
 have : 0 < ls.length := List.length_pos_iff.2 h
 omega
theorem f24 (v : Value) (ls : LE) (key : ByteArray) (w : World) (hl : yG w v ls) (hne : ∀ l ∈ ls, l ≠ []) (hn : ls.length ≤ 4611686018427387903) (hs : ziD ls) (hsl : ∀ l ∈ ls, Srt l) (hnl : ∀ l ∈ ls, l.length ≤ 4611686018427387903) :
 z9 TP 97 #[v, .string key] w fun r w' => r = .tuple #[Ii ((spot ls key).1 : Nat), Ii ((spot ls key).2.1 : Nat), .bool (spot ls key).2.2] ∧ zk [] w w' := by
 obtain ⟨vs, hsl', hal⟩ := id hl
 obtain ⟨p, c, rfl, _⟩ := hsl'.val
 refine A2 Tryz.func97 rfl rfl ?_
 refine Sr (Oa rfl (Oa rfl (Oa rfl (E2 0 1 rfl (ze (Sr (Om rfl (On zaH rfl (Og (zw rfl rfl) rfl (E3 0 1 9 rfl ?_))))))))))
 refine zR rfl (fun hT => ?_) (fun hF => ?_)
 ·refine Sr (Oa rfl (Oa rfl (Oa rfl (E3 4 5 6 rfl (zi ?_)))))
  refine zbj ?_
  refine ziy rfl rfl rfl rfl ?_
  have : ls = [] := List.eq_nil_of_length_eq_zero (by simpa using hT)
  subst this
  exact ⟨rfl, zk.refl _ _⟩
 refine zm ?_
 have hls : ls ≠ [] := by rintro rfl; simp at hF
 have hat := zhu (key := key) hls
 have hk : ls[yQ ls key - 1]? = some ls[yQ ls key - 1] := by simp [hat]
 have hmem : ls[yQ ls key - 1] ∈ ls := List.getElem_mem hat
 have hspot : spot ls key = (yQ ls key - 1, lbN ls[yQ ls key - 1] key, zdr ls[yQ ls key - 1] key) := by unfold spot; rw [hk]
 refine Sr (Om rfl (Om rfl ?_))
 refine Oc zwb rfl rfl rfl (f39 _ ls key _ hl hne hn hs) ?_
 rintro v12 w12 ⟨rfl, c12⟩
 refine Oa rfl (E3 0 1 4 rfl ?_)
 obtain ⟨bb, off, cap, u, hv, hc, hl'⟩ := (hl.chg0 c12).at hk
 cases hv
 refine Sr (Om rfl (Om rfl ?_))
 refine Og (zf zaH zbm rfl rfl _ rfl hat) rfl ?_
 refine Ol zdC rfl hc ?_
 refine Om rfl ?_
 refine Oc zvF rfl rfl rfl (f40 u _ key _ hl' (hnl _ hmem) (hsl _ hmem)) ?_
 rintro v19 w19 ⟨rfl, c19⟩
 refine Om rfl (Oe rfl rfl (Oe rfl rfl (Oa rfl (Oa rfl (E3 4 5 6 rfl (Sr (Om rfl (Om rfl (Om rfl (Oa rfl (Oa rfl (Oa rfl ?_))))))))))))
 refine E3 4 5 6 rfl (zi ?_)
 refine ziy rfl rfl rfl rfl ?_
 rw [hspot]
 exact ⟨rfl, c12.trans c19⟩
theorem f25 (v : Value) (n : Nat) (xs : List Value) (w : World) (h : zv w 175 2 v n xs) (hn : n ≤ 4294967296) : z9 TP 130 #[v] w fun r w' => zv w' 175 2 r n xs ∧ (∀ b ∈ zp r, w.heap.size ≤ b) ∧ zk [] w w' := by
 obtain ⟨p, c, rfl, _⟩ := h.val
 refine A1 Tryz.func130 rfl rfl ?_
 refine Sr (Oa rfl (E1 0 rfl (ze (Sr (Om rfl ?_)))))
 refine Og (zjv yJ rfl rfl) rfl ?_
 refine E2 0 4 rfl ?_
 refine zR rfl (fun hT => ?_) (fun hF => ?_)
 ·refine Sr (Oa rfl (E1 2 rfl (zi ?_)))
  refine zbj ?_
  refine zD rfl rfl ?_
  rcases h with ⟨_, rfl, rfl⟩ | ⟨b, off, cap, cc, he, _⟩
  ·exact ⟨zv.nil _ _ _, by simp [zp], zk.refl _ _⟩
  simp only [Value.slice.injEq] at he
  rw [he.1] at hT
  simp at hT
 refine zm (Sr ?_)
 refine zE (gn rfl) (zB zhc rfl (vs := []) rfl (css := []) trivial rfl rfl (cs := []) rfl rfl ?_)
 intro b5 w5 e5 n5 c5 k5
 refine Om rfl ?_
 refine zE (gn rfl) (yt zhc yJ rfl rfl (zv.of_blk (n := 0) k5 (by simp) (by simp [maxLen]) (by simp)) (h.chg0 c5) (by simp only [maxLen]; omega) (by omega) rfl ?_)
 intro v7 w7 i7 c7 o7 z7
 refine Oa rfl (E1 2 rfl (zi ?_))
 refine zD rfl rfl ?_
 refine ⟨by simpa using i7, ?_, c5.own c7 (by simp [zp, ← e5])⟩
 rcases o7 with o7 | ⟨b, o7, hb⟩
 ·rw [o7]; simp [zp, ← e5]
 rw [o7]; intro x hx; simp at hx; subst hx; have := c5.size; omega
theorem f31 (v : Value) (n : Nat) (xs : List Value) (w : World) (h : zv w 177 1 v n xs) (hn : n ≤ 4294967296) : z9 TP 99 #[v] w fun r w' => zv w' 177 1 r n xs ∧ (∀ b ∈ zp r, w.heap.size ≤ b) ∧ zk [] w w' := by
 obtain ⟨p, c, rfl, _⟩ := h.val
 refine A1 Tryz.func99 rfl rfl ?_
 refine Sr (Oa rfl (E1 0 rfl (ze (Sr (Om rfl ?_)))))
 refine Og (zjv zaH rfl rfl) rfl ?_
 refine E2 0 4 rfl ?_
 refine zR rfl (fun hT => ?_) (fun hF => ?_)
 ·refine Sr (Oa rfl (E1 2 rfl (zi ?_)))
  refine zbj ?_
  refine zD rfl rfl ?_
  rcases h with ⟨_, rfl, rfl⟩ | ⟨b, off, cap, cc, he, _⟩
  ·exact ⟨zv.nil _ _ _, by simp [zp], zk.refl _ _⟩
  simp only [Value.slice.injEq] at he
  rw [he.1] at hT
  simp at hT
 refine zm (Sr ?_)
 refine zE (gn rfl) (zB zlz rfl (vs := []) rfl (css := []) trivial rfl rfl (cs := []) rfl rfl ?_)
 intro b5 w5 e5 n5 c5 k5
 refine Om rfl ?_
 refine zE (gn rfl) (yt zlz zaH rfl rfl (zv.of_blk (n := 0) k5 (by simp) (by simp [maxLen]) (by simp)) (h.chg0 c5) (by simp only [maxLen]; omega) (by omega) rfl ?_)
 intro v7 w7 i7 c7 o7 z7
 refine Oa rfl (E1 2 rfl (zi ?_))
 refine zD rfl rfl ?_
 refine ⟨by simpa using i7, ?_, c5.own c7 (by simp [zp, ← e5])⟩
 rcases o7 with o7 | ⟨b, o7, hb⟩
 ·rw [o7]; simp [zp, ← e5]
 rw [o7]; intro x hx; simp at hx; subst hx; have := c5.size; omega
theorem f53 (n : Nat) (w : World) (hn : n ≤ 4294967296) : z9 TP 228 #[.slice none 0 0, Ii n] w fun r w' => zv w' 177 1 r 0 [] ∧ (∀ b ∈ zp r, w.heap.size ≤ b) ∧ zk [] w w' := by
 refine A2 Tryz.func228 rfl rfl ?_
 refine Sr (Oa rfl (E2 0 1 rfl (ze (Sr (Om rfl (Og (zC rfl rfl) rfl (E3 0 1 6 rfl ?_)))))))
 refine zR rfl (fun hT => ?_) (fun hF => ?_)
 ·exfalso
  have := of_decide_eq_true hT
  omega
 refine zm (ze (Sr (Om rfl (Om rfl ?_))))
 refine Og (zfM zaH rfl) rfl ?_
 refine Om rfl (On zaH rfl ?_)
 refine Og (yN rfl rfl (by omega)) rfl ?_
 refine Og (yE (v' := Ii n) (yN rfl rfl (by omega)) (by congr 1 <;> omega)) rfl ?_
 refine Oa rfl (E2 0 1 rfl (Sr (Om rfl ?_)))
 refine Og (yg rfl rfl) rfl ?_
 refine E3 0 1 16 rfl ?_
 refine zR rfl (fun hT => ?_) (fun hF => ?_)
 ·have hpos : 0 < n := by have := of_decide_eq_true hT; omega
  refine za (Om rfl (Om rfl ?_))
  refine Og (zfM zaH rfl) rfl ?_
  refine Og (zby zaH zbm rfl rfl _ rfl (by omega)) rfl ?_
  refine Om rfl ?_
  refine zE (gn rfl) (zcT zlz zak rfl rfl rfl (zv.nil _ _ _) (fun p c he => by simp [cut] at he; omega) (by simp only [maxLen]; omega) (by omega) rfl ?_)
  intro b cap zs w22 hb c22 hge hle hzl hone k22
  refine Om rfl (On zaH rfl ?_)
  refine Og (zby zaH zbm rfl rfl 0 rfl (by omega)) rfl ?_
  refine Oa rfl (E1 0 rfl (Sr (Om rfl (Oa rfl (E1 4 rfl (zi ?_))))))
  refine zD rfl rfl ?_
  have hsl : zdZ w22 177 1 b 0 (0 + n) cap ([] ++ zs) (((([] ++ zs) : List Value).drop 0).take ((0 + n) * 1)) := ⟨k22, hge, hle, by simp only [List.nil_append]; omega, rfl, hone⟩
  have hc := hsl.cut (l := 0) (h := 0) (m := cap) (Nat.le_refl _) (Nat.zero_le _) (Nat.le_refl _)
  refine ⟨by simpa using hc, fun x hx => ?_, c22⟩
  have := zv.cutBlk (len := 0) (cap := 0) x hx
  simp [zp] at this
  omega
 refine zm (Sr (Om rfl (Oa rfl (E1 4 rfl (zi ?_)))))
 refine zD rfl rfl ?_
 exact ⟨zv.nil _ _ _, by simp [zp], zk.refl _ _⟩
theorem f55 (n : Nat) (w : World) (hn : n ≤ 4294967296) : z9 TP 229 #[.slice none 0 0, Ii n] w fun r w' => zv w' 175 2 r 0 [] ∧ (∀ b ∈ zp r, w.heap.size ≤ b) ∧ zk [] w w' := by
 refine A2 Tryz.func229 rfl rfl ?_
 refine Sr (Oa rfl (E2 0 1 rfl (ze (Sr (Om rfl (Og (zC rfl rfl) rfl (E3 0 1 6 rfl ?_)))))))
 refine zR rfl (fun hT => ?_) (fun hF => ?_)
 ·exfalso
  have := of_decide_eq_true hT
  omega
 refine zm (ze (Sr (Om rfl (Om rfl ?_))))
 refine Og (zfM yJ rfl) rfl ?_
 refine Om rfl (On yJ rfl ?_)
 refine Og (yN rfl rfl (by omega)) rfl ?_
 refine Og (yE (v' := Ii n) (yN rfl rfl (by omega)) (by congr 1 <;> omega)) rfl ?_
 refine Oa rfl (E2 0 1 rfl (Sr (Om rfl ?_)))
 refine Og (yg rfl rfl) rfl ?_
 refine E3 0 1 16 rfl ?_
 refine zR rfl (fun hT => ?_) (fun hF => ?_)
 ·have hpos : 0 < n := by have := of_decide_eq_true hT; omega
  refine za (Om rfl (Om rfl ?_))
  refine Og (zfM yJ rfl) rfl ?_
  refine Og (zby yJ zai rfl rfl _ rfl (by omega)) rfl ?_
  refine Om rfl ?_
  refine zE (gn rfl) (zcT zhc zak rfl rfl rfl (zv.nil _ _ _) (fun p c he => by simp [cut] at he; omega) (by simp only [maxLen]; omega) (by omega) rfl ?_)
  intro b cap zs w22 hb c22 hge hle hzl hone k22
  refine Om rfl (On yJ rfl ?_)
  refine Og (zby yJ zai rfl rfl 0 rfl (by omega)) rfl ?_
  refine Oa rfl (E1 0 rfl (Sr (Om rfl (Oa rfl (E1 4 rfl (zi ?_))))))
  refine zD rfl rfl ?_
  have hsl : zdZ w22 175 2 b 0 (0 + n) cap ([] ++ zs) (((([] ++ zs) : List Value).drop 0).take ((0 + n) * 2)) := ⟨k22, hge, hle, by simp only [List.nil_append]; omega, rfl, hone⟩
  have hc := hsl.cut (l := 0) (h := 0) (m := cap) (Nat.le_refl _) (Nat.zero_le _) (Nat.le_refl _)
  refine ⟨by simpa using hc, fun x hx => ?_, c22⟩
  have := zv.cutBlk (len := 0) (cap := 0) x hx
  simp [zp] at this
  omega
 refine zm (Sr (Om rfl (Oa rfl (E1 4 rfl (zi ?_)))))
 refine zD rfl rfl ?_
 exact ⟨zv.nil _ _ _, by simp [zp], zk.refl _ _⟩
theorem f42 (v : Value) (us : List Value) (xss : List (List Value)) (w : World) (hu : zv w 145 1 v xss.length us) (ha : zgb w 177 1 us xss) (ht : zbl 1 xss xss.length ≤ 4294967296) (hlen : xss.length ≤ 4294967296) :
 z9 TP 159 #[v] w fun r w' => zv w' 177 1 r (zbl 1 xss xss.length) xss.flatten ∧ (∀ b ∈ zp r, w.heap.size ≤ b) ∧ zk [] w w' := by
 have part : ∀ (wx : World) (i : Nat), zk [] w wx → i < xss.length → ∃ b off cap x p c, v = .slice (some ⟨b, off, none⟩) xss.length cap ∧ xss[i]? = some x ∧ wx.cell? ⟨b, off + i * 1, none⟩ = some (.slice p (x.length / 1) c) ∧ zv wx 177 1 (.slice p (x.length / 1) c) (x.length / 1) x := by
  intro wx i hc hi
  obtain ⟨b, off, cap, u, hv, hu', hcell⟩ := (hu.chg0 hc).at1 hi
  have hx : xss[i]? = some xss[i] := by simp [hi]
  obtain ⟨u', hu2, hs⟩ := (ha.chg0 hc).at hx
  rw [hu'] at hu2
  simp at hu2
  subst hu2
  obtain ⟨p, c, rfl, _⟩ := hs.val
  exact ⟨b, off, cap, _, p, c, hv, hx, hcell, hs⟩
 obtain ⟨pv, cv, rfl, _⟩ := hu.val
 refine A1 Tryz.func159 rfl rfl ?_
 refine Sr (Oa rfl (E1 0 rfl (Sr (Oa rfl (E2 0 3 rfl (ze (Sr (Om rfl (On zlk rfl (Om rfl ?_))))))))))
 refine E5 0 3 9 10 11 rfl (zq ?_)
 refine zW [0, 3, 9, 10, 11] (fun m F wx => wx = w ∧ ∃ j : Nat, m = xss.length - j ∧ j ≤ xss.length ∧ F = [(0, .slice pv xss.length cv), (3, Ii (zbl 1 xss j : Nat)), (9, .slice pv xss.length cv), (10, Ii xss.length), (11, Ii j)]) (m := xss.length - 0) ⟨rfl, 0, rfl, Nat.zero_le _, rfl⟩ ?_
 rintro m F wx ⟨rfl, j, rfl, hj, rfl⟩
 have hmj := zbN 1 xss hj
 refine Sr (Og (zC rfl rfl) rfl (E6 0 3 9 10 11 12 rfl (ze ?_)))
 refine zR rfl (fun hT => ?_) (fun hF => ?_)
 ·refine zm ?_
  have hlt : j < xss.length := by simpa using hT
  obtain ⟨b, off, cap, x, p, c, hv, hx, hcell, hs⟩ := part wx j (zk.refl _ _) hlt
  cases hv
  have hsucc := zdz (k := 1) hx
  have hmj2 := zbN 1 xss (show j + 1 ≤ xss.length by omega)
  refine ze (zq (Sr ?_))
  refine Og (zf zlk zhY rfl rfl _ rfl hlt) rfl ?_
  refine Ol zbw rfl hcell ?_
  refine Oa rfl (E6 0 3 5 9 10 11 rfl (Sr (Om rfl (Om rfl (On zaH rfl ?_)))))
  refine Og (zI rfl rfl (by omega)) rfl ?_
  refine Oa rfl (E5 0 3 9 10 11 rfl (Sr (Om rfl (Og (zC rfl rfl) rfl (E6 0 3 9 10 11 20 rfl ?_)))))
  refine zR rfl (fun hT => ?_) (fun hF => ?_)
  ·exfalso
   have := of_decide_eq_true hT
   omega
  refine ye (zl (za ?_))
  refine Og (zI rfl rfl (by omega)) rfl ?_
  refine Om rfl (N5 0 3 9 10 11 rfl ?_)
  refine ⟨xss.length - (j + 1), by omega, rfl, j + 1, rfl, by omega, ?_⟩
  rw [hsucc]
  rfl
 have hge : ¬ j < xss.length := by simpa using hF
 obtain rfl : j = xss.length := by omega
 refine zM ?_
 repeat first | refine te ?_ | refine bo rfl ?_
 refine zt _ ?_
 refine Sr (Om rfl ?_)
 refine Oc zvj rfl rfl rfl (f53 (zbl 1 xss xss.length) wx ht) ?_
 rintro v24 w24 ⟨i24, n24, c24⟩
 refine Oa rfl (E2 0 6 rfl (ze (Sr (Om rfl (On zlk rfl (Om rfl (E4 6 25 26 27 rfl (zq ?_))))))))
 refine zW [6, 25, 26, 27] (fun m F wy => ∃ (j : Nat) (acc : Value), m = xss.length - j ∧ j ≤ xss.length ∧ F = [(6, acc), (25, .slice pv xss.length cv), (26, Ii xss.length), (27, Ii j)] ∧ zv wy 177 1 acc (zbl 1 xss j) (xss.take j).flatten ∧ (∀ b ∈ zp acc, wx.heap.size ≤ b) ∧ zk [] wx wy) (m := xss.length - 0) ⟨0, v24, rfl, Nat.zero_le _, rfl, by simpa [zbl] using i24, n24, c24⟩ ?_
 rintro m F wy ⟨j, acc, rfl, hj, rfl, hacc, hnew, hcy⟩
 have hmj := zbN 1 xss hj
 refine Sr (Og (zC rfl rfl) rfl (E5 6 25 26 27 28 rfl (ze ?_)))
 refine zR rfl (fun hT => ?_) (fun hF => ?_)
 ·refine zm ?_
  have hlt : j < xss.length := by simpa using hT
  obtain ⟨b, off, cap, x, p, c, hv, hx, hcell, hs⟩ := part wy j hcy hlt
  cases hv
  have hsucc := zdz (k := 1) hx
  have hmj2 := zbN 1 xss (show j + 1 ≤ xss.length by omega)
  refine ze (zq (Sr ?_))
  refine Og (zf zlk zhY rfl rfl _ rfl hlt) rfl ?_
  refine Ol zbw rfl hcell ?_
  refine Oa rfl (E5 6 8 25 26 27 rfl (za (Om rfl (Om rfl ?_))))
  refine zE (gn rfl) (yt zlz zaH rfl rfl hacc hs (by simp only [maxLen]; omega) (by omega) rfl ?_)
  intro v33 w33 i33 c33 o33 z33
  refine Oa rfl (N4 6 25 26 27 rfl (zl (za ?_)))
  refine Og (zI rfl rfl (by omega)) rfl ?_
  refine Om rfl (N4 6 25 26 27 rfl ?_)
  refine ⟨xss.length - (j + 1), by omega, j + 1, v33, rfl, by omega, rfl, ?_, ?_, hcy.own c33 hnew⟩
  ·rw [hsucc, zdN hx]
   exact i33
  rcases o33 with o33 | ⟨b', o33, hb'⟩
  ·rw [o33]; exact hnew
  rw [o33]; intro y hy; simp at hy; subst hy; have := hcy.size; omega
 have hge : ¬ j < xss.length := by simpa using hF
 obtain rfl : j = xss.length := by omega
 refine zM ?_
 repeat first | refine te ?_ | refine bo rfl ?_
 refine zt _ ?_
 refine Sr (Om rfl (Oa rfl (E1 2 rfl (zi ?_))))
 refine zD rfl rfl ?_
 rw [List.take_length] at hacc
 exact ⟨hacc, hnew, hcy⟩
theorem f45 (v : Value) (us : List Value) (xss : List (List Value)) (w : World) (hu : zv w 177 1 v xss.length us) (ha : zgb w 175 2 us xss) (ht : zbl 2 xss xss.length ≤ 4294967296) (hlen : xss.length ≤ 4294967296) :
 z9 TP 160 #[v] w fun r w' => zv w' 175 2 r (zbl 2 xss xss.length) xss.flatten ∧ (∀ b ∈ zp r, w.heap.size ≤ b) ∧ zk [] w w' := by
 have part : ∀ (wx : World) (i : Nat), zk [] w wx → i < xss.length → ∃ b off cap x p c, v = .slice (some ⟨b, off, none⟩) xss.length cap ∧ xss[i]? = some x ∧ wx.cell? ⟨b, off + i * 1, none⟩ = some (.slice p (x.length / 2) c) ∧ zv wx 175 2 (.slice p (x.length / 2) c) (x.length / 2) x := by
  intro wx i hc hi
  obtain ⟨b, off, cap, u, hv, hu', hcell⟩ := (hu.chg0 hc).at1 hi
  have hx : xss[i]? = some xss[i] := by simp [hi]
  obtain ⟨u', hu2, hs⟩ := (ha.chg0 hc).at hx
  rw [hu'] at hu2
  simp at hu2
  subst hu2
  obtain ⟨p, c, rfl, _⟩ := hs.val
  exact ⟨b, off, cap, _, p, c, hv, hx, hcell, hs⟩
 obtain ⟨pv, cv, rfl, _⟩ := hu.val
 refine A1 Tryz.func160 rfl rfl ?_
 refine Sr (Oa rfl (E1 0 rfl (Sr (Oa rfl (E2 0 3 rfl (ze (Sr (Om rfl (On zg3 rfl (Om rfl ?_))))))))))
 refine E5 0 3 9 10 11 rfl (zq ?_)
 refine zW [0, 3, 9, 10, 11] (fun m F wx => wx = w ∧ ∃ j : Nat, m = xss.length - j ∧ j ≤ xss.length ∧ F = [(0, .slice pv xss.length cv), (3, Ii (zbl 2 xss j : Nat)), (9, .slice pv xss.length cv), (10, Ii xss.length), (11, Ii j)]) (m := xss.length - 0) ⟨rfl, 0, rfl, Nat.zero_le _, rfl⟩ ?_
 rintro m F wx ⟨rfl, j, rfl, hj, rfl⟩
 have hmj := zbN 2 xss hj
 refine Sr (Og (zC rfl rfl) rfl (E6 0 3 9 10 11 12 rfl (ze ?_)))
 refine zR rfl (fun hT => ?_) (fun hF => ?_)
 ·refine zm ?_
  have hlt : j < xss.length := by simpa using hT
  obtain ⟨b, off, cap, x, p, c, hv, hx, hcell, hs⟩ := part wx j (zk.refl _ _) hlt
  cases hv
  have hsucc := zdz (k := 2) hx
  have hmj2 := zbN 2 xss (show j + 1 ≤ xss.length by omega)
  refine ze (zq (Sr ?_))
  refine Og (zf zg3 zbm rfl rfl _ rfl hlt) rfl ?_
  refine Ol zdC rfl hcell ?_
  refine Oa rfl (E6 0 3 5 9 10 11 rfl (Sr (Om rfl (Om rfl (On yJ rfl ?_)))))
  refine Og (zI rfl rfl (by omega)) rfl ?_
  refine Oa rfl (E5 0 3 9 10 11 rfl (Sr (Om rfl (Og (zC rfl rfl) rfl (E6 0 3 9 10 11 20 rfl ?_)))))
  refine zR rfl (fun hT => ?_) (fun hF => ?_)
  ·exfalso
   have := of_decide_eq_true hT
   omega
  refine ye (zl (za ?_))
  refine Og (zI rfl rfl (by omega)) rfl ?_
  refine Om rfl (N5 0 3 9 10 11 rfl ?_)
  refine ⟨xss.length - (j + 1), by omega, rfl, j + 1, rfl, by omega, ?_⟩
  rw [hsucc]
  rfl
 have hge : ¬ j < xss.length := by simpa using hF
 obtain rfl : j = xss.length := by omega
 refine zM ?_
 repeat first | refine te ?_ | refine bo rfl ?_
 refine zt _ ?_
 refine Sr (Om rfl ?_)
 refine Oc zvn rfl rfl rfl (f55 (zbl 2 xss xss.length) wx ht) ?_
 rintro v24 w24 ⟨i24, n24, c24⟩
 refine Oa rfl (E2 0 6 rfl (ze (Sr (Om rfl (On zg3 rfl (Om rfl (E4 6 25 26 27 rfl (zq ?_))))))))
 refine zW [6, 25, 26, 27] (fun m F wy => ∃ (j : Nat) (acc : Value), m = xss.length - j ∧ j ≤ xss.length ∧ F = [(6, acc), (25, .slice pv xss.length cv), (26, Ii xss.length), (27, Ii j)] ∧ zv wy 175 2 acc (zbl 2 xss j) (xss.take j).flatten ∧ (∀ b ∈ zp acc, wx.heap.size ≤ b) ∧ zk [] wx wy) (m := xss.length - 0) ⟨0, v24, rfl, Nat.zero_le _, rfl, by simpa [zbl] using i24, n24, c24⟩ ?_
 rintro m F wy ⟨j, acc, rfl, hj, rfl, hacc, hnew, hcy⟩
 have hmj := zbN 2 xss hj
 refine Sr (Og (zC rfl rfl) rfl (E5 6 25 26 27 28 rfl (ze ?_)))
 refine zR rfl (fun hT => ?_) (fun hF => ?_)
 ·refine zm ?_
  have hlt : j < xss.length := by simpa using hT
  obtain ⟨b, off, cap, x, p, c, hv, hx, hcell, hs⟩ := part wy j hcy hlt
  cases hv
  have hsucc := zdz (k := 2) hx
  have hmj2 := zbN 2 xss (show j + 1 ≤ xss.length by omega)
  refine ze (zq (Sr ?_))
  refine Og (zf zg3 zbm rfl rfl _ rfl hlt) rfl ?_
  refine Ol zdC rfl hcell ?_
  refine Oa rfl (E5 6 8 25 26 27 rfl (za (Om rfl (Om rfl ?_))))
  refine zE (gn rfl) (yt zhc yJ rfl rfl hacc hs (by simp only [maxLen]; omega) (by omega) rfl ?_)
  intro v33 w33 i33 c33 o33 z33
  refine Oa rfl (N4 6 25 26 27 rfl (zl (za ?_)))
  refine Og (zI rfl rfl (by omega)) rfl ?_
  refine Om rfl (N4 6 25 26 27 rfl ?_)
  refine ⟨xss.length - (j + 1), by omega, j + 1, v33, rfl, by omega, rfl, ?_, ?_, hcy.own c33 hnew⟩
  ·rw [hsucc, zdN hx]
   exact i33
  rcases o33 with o33 | ⟨b', o33, hb'⟩
  ·rw [o33]; exact hnew
  rw [o33]; intro y hy; simp at hy; subst hy; have := hcy.size; omega
 have hge : ¬ j < xss.length := by simpa using hF
 obtain rfl : j = xss.length := by omega
 refine zM ?_
 repeat first | refine te ?_ | refine bo rfl ?_
 refine zt _ ?_
 refine Sr (Om rfl (Oa rfl (E1 2 rfl (zi ?_))))
 refine zD rfl rfl ?_
 rw [List.take_length] at hacc
 exact ⟨hacc, hnew, hcy⟩
def Pg (w : World) (p : Nat) (ls : LE) : Prop := ∃ v, zU w p 147 [v] ∧ yG w v ls
theorem Pg.chg0 {w w' : World} {p : Nat} {ls : LE} (h : Pg w p ls) (hc : zk [] w w') : Pg w' p ls :=
 let ⟨v, h1, h2⟩ := h; ⟨v, h1.chg0 hc, h2.chg0 hc⟩
theorem Pg.lt {w : World} {p : Nat} {ls : LE} (h : Pg w p ls) : p < w.heap.size := let ⟨_, h1, _⟩ := h; h1.lt
theorem Pg.chgO {w w' : World} {p q : Nat} {ls ms : LE} (h : Pg w p ls) (hq : Pg w q ms) (hne : p ≠ q) (hc : zk [q] w w') : Pg w' p ls :=
 let ⟨v, h1, h2⟩ := h; let ⟨_, g1, _⟩ := hq; ⟨v, h1.chg hc (by simpa using hne), h2.chg1 g1 rfl rfl hc⟩
theorem f26 (p : Nat) (ls new : LE) (lv : Value) (fr un : Nat) (w : World) (hp : Pg w p ls) (hnew : yG w lv new) (h1 : fr ≤ un) (h2 : un ≤ ls.length) (hb1 : ls.length ≤ 1048576) (hb2 : new.length ≤ 1048576) :
 z9 TP 131 #[Pt p, Ii fr, Ii un, lv] w fun r w' => r = .tuple #[] ∧ Pg w' p (ls.take fr ++ new ++ ls.drop un) ∧ zk [p] w w' := by
 obtain ⟨v, hb, vs, hsl, hal⟩ := hp
 obtain ⟨nvs, hnsl, hnal⟩ := hnew
 obtain ⟨pv, cv, rfl, hlc⟩ := hsl.val
 obtain ⟨pn, cn, rfl, _⟩ := hnsl.val
 have hvl := hsl.len_xs
 have hnl := hnsl.len_xs
 have hA : zv w 177 1 (cut pv 0 fr fr 1) ((vs.take fr).length / 1) (vs.take fr) := by
  have := hsl.cut (l := 0) (h := fr) (m := fr) (Nat.zero_le _) (Nat.le_refl _) (by omega) (by omega)
  simpa [show min fr vs.length = fr by omega] using this
 have hB : zv w 177 1 (.slice pn new.length cn) (nvs.length / 1) nvs := by simpa [hnl] using hnsl
 have hC : zv w 177 1 (cut pv un ls.length cv 1) ((vs.drop un).length / 1) (vs.drop un) := by
  have := hsl.cut (l := un) (h := ls.length) (m := cv) (by omega) hlc (Nat.le_refl _) (Nat.le_refl _)
  have e : (vs.drop (un * 1)).take ((ls.length - un) * 1) = vs.drop un := by rw [Nat.mul_one, Nat.mul_one, List.take_of_length_le (by simp; omega)]
  rw [e] at this
  simpa [hvl] using this
 have hS : zgb w 177 1 [cut pv 0 fr fr 1, .slice pn new.length cn, cut pv un ls.length cv 1] [vs.take fr, nvs, vs.drop un] := ⟨hA, hB, hC, trivial⟩
 have hsum : zbl 1 [vs.take fr, nvs, vs.drop un] 3 = fr + new.length + (ls.length - un) := by
  simp [zbl, hvl, hnl, show min fr ls.length = fr by omega]
  omega
 refine A4 Tryz.func131 rfl rfl ?_
 refine zJ (fun wz => zk [] w wz) mix (by kernel_rfl) (zk.drew [] w) ?_
 refine Tm rfl (Tm rfl ?_)
 refine Tp (fun _ => zF rfl) rfl ?_
 refine Td zaf rfl ?_
 refine Tr (fun wz hz => zh zbw rfl ((hb.chg0 hz).cell' rfl)) rfl ?_
 refine Tm rfl (Tm rfl ?_)
 refine Tp (fun _ => zfn zaH zbm rfl rfl rfl _ _ rfl rfl (by omega) (by omega)) rfl ?_
 refine Tm rfl (Tm rfl ?_)
 refine Tp (fun _ => zF rfl) rfl ?_
 refine Td zaf rfl ?_
 refine Tr (fun wz hz => zh zbw rfl ((hb.chg0 hz).cell' rfl)) rfl ?_
 refine Tm rfl ?_
 refine Tp (fun _ => zaO zaH zbm rfl rfl _ rfl (by omega)) rfl ?_
 refine zas rfl (gn rfl) (zB zwO rfl (vs := [_, _, _]) rfl (css := [_, _, _]) ⟨rfl, rfl, rfl, trivial⟩ rfl rfl (cs := [_, _, _]) rfl rfl ?_)
 intro b23 w23 e23 n23 c23 k23
 refine ⟨.inl ((zk.drew [] w).trans c23), ?_⟩
 refine Tc zwi rfl rfl rfl (f42 _ _ [vs.take fr, nvs, vs.drop un] _ (zv.of_blk (n := 3) k23 rfl (by simp [maxLen]) (by intro u hu; simp at hu; rcases hu with rfl | rfl | rfl <;> rfl)) (hS.chg0 ((zk.drew [] w).trans c23)) (by simp only [List.length_cons, List.length_nil]; rw [hsum]; omega) (by simp)) ?_
 rintro v24 w24 ⟨i24, n24, c24⟩
 obtain ⟨p24, q24, rfl, _⟩ := i24.val
 refine ⟨.inl (((zk.drew [] w).trans c23).trans c24), ?_⟩
 refine Tp (fun _ => zF rfl) rfl ?_
 refine Td zaf rfl ?_
 refine zas rfl (gn rfl) (zu zhY rfl rfl rfl rfl (hb.chg0 (((zk.drew [] w).trans c23).trans c24)) (by simp) (by intro u hu; simp at hu; subst hu; rfl) ?_)
 intro wF nF cF kF
 refine ⟨.inr (by kernel_rfl), ?_⟩
 refine zdV [] (F' := []) rfl ?_
 have hall : zk [] w w24 := ((zk.drew [] w).trans c23).trans c24
 refine zge rfl ⟨rfl, ⟨_, kF, ?_⟩, (hall.any (S := [p])).transS cF⟩
 have hpg : yG w24 (.slice p24 (zbl 1 [vs.take fr, nvs, vs.drop un] 3) q24) (ls.take fr ++ new ++ ls.drop un) := by
  refine ⟨vs.take fr ++ nvs ++ vs.drop un, ?_, ((hal.take fr).append hnal |>.append (hal.drop un)).chg hall (by simp)⟩
  have hlen : (ls.take fr ++ new ++ ls.drop un).length = zbl 1 [vs.take fr, nvs, vs.drop un] 3 := by
   rw [hsum]; simp; omega
  rw [hlen]
  simpa using i24
 exact hpg.chg1 (hb.chg0 hall) rfl rfl cF
theorem zwt : ze5 TP 179 = some (Extern.SlicesOverlaps.overlaps #[176, 176] #[4]) := by kernel_rfl
set_option maxHeartbeats 1000000 in
theorem f27 (v u : Value) (i n : Nat) (xs ys : List Value) (w : World) (hv : zv w 175 2 v n xs) (hu : zv w 175 2 u 1 ys) (hi : i ≤ n) (hn : n ≤ 1048576) (hap : ∀ b ∈ zp u, b ∉ zp v) :
 z9 TP 134 #[v, Ii i, u] w fun r w' => zv w' 175 2 r (n + 1) (xs.take (i * 2) ++ ys ++ xs.drop (i * 2)) ∧ zk (zp v) w w' ∧ (zp r = zp v ∨ ∃ b, zp r = [b] ∧ w.heap.size ≤ b) := by
 have hlx := hv.len_xs
 have hly := hu.len_xs
 obtain ⟨pv, cv, rfl, hlc⟩ := hv.val
 obtain ⟨pu, cu, rfl, _⟩ := hu.val
 refine A3 Tryz.func134 rfl rfl ?_
 refine Sr (Oa rfl (E3 0 1 2 rfl (Sr (Om rfl (Om rfl ?_)))))
 refine Og (zaO yJ zai rfl rfl _ rfl hi) rfl ?_
 refine E3 0 1 2 rfl (Sr (Om rfl (On zh0 rfl (Oa rfl (E4 0 1 2 7 rfl (ze (Sr (Om rfl (Og (zw rfl rfl) rfl (E5 0 1 2 7 16 rfl (zb rfl ?_)))))))))))
 refine zm (Sr (Om rfl (On yJ rfl (Oa rfl (E5 0 1 2 7 8 rfl (ze (Sr (Om rfl (Om rfl (Og (zw rfl rfl) rfl (E6 0 1 2 7 8 22 rfl ?_)))))))))))
 refine zR rfl (fun hT => ?_) (fun hF => ?_)
 ·obtain rfl : i = n := by have := of_decide_eq_true hT; omega
  refine Sr (Om rfl (Om rfl ?_))
  refine zE (gn rfl) (yt zhc zh0 rfl rfl hv hu (by simp only [maxLen]; omega) (by omega) rfl ?_)
  intro v25 w25 i25 c25 o25 z25
  refine Oa rfl (E1 6 rfl (zi ?_))
  refine zbj ?_
  refine zD rfl rfl ?_
  refine ⟨?_, c25, o25⟩
  rw [List.take_of_length_le (by omega), List.drop_of_length_le (by omega), List.append_nil]
  exact i25
 have hlt : i < n := by have := of_decide_eq_false hF; omega
 refine zm (ze (Sr (Om rfl (Om rfl ?_))))
 refine Og (zI rfl rfl (by omega)) rfl ?_
 refine Om rfl ?_
 refine Og (zfM yJ rfl) rfl ?_
 refine Og (yg rfl rfl) rfl ?_
 refine E6 0 1 2 7 8 31 rfl ?_
 refine zR rfl (fun hT => ?_) (fun hF => ?_)
 ·have hgr : cv < n + 1 := by have := of_decide_eq_true hT; omega
  refine Sr (Om rfl (Om rfl ?_))
  refine Og (zby yJ zai rfl rfl i rfl (by omega)) rfl ?_
  refine Om rfl (Om rfl ?_)
  refine Og (zI rfl rfl (by omega)) rfl ?_
  refine Om rfl ?_
  refine Og (yE (v' := Ii ((n + 1 - i : Nat) : Int)) (yN rfl rfl (by omega)) (by congr 1; omega)) rfl ?_
  have hcutA : zv w 175 2 (cut pv 0 i cv 2) i (xs.take (i * 2)) := by simpa using hv.cut (l := 0) (h := i) (m := cv) (Nat.zero_le _) (by omega) (Nat.le_refl _) hi
  have hcutB : zv w 175 2 (cut pv i n cv 2) (n - i) (xs.drop (i * 2)) := by
   have := hv.cut (l := i) (h := n) (m := cv) hi hlc (Nat.le_refl _) (Nat.le_refl _)
   rw [List.take_of_length_le (by simp; omega)] at this
   exact this
  have hAl : (xs.take (i * 2)).length = i * 2 := by simp; omega
  have hBl : (xs.drop (i * 2)).length = (n - i) * 2 := by simp; omega
  refine zE (gn rfl) (zcT zhc zak rfl rfl rfl hcutA (fun p c he => by obtain ⟨q, hq⟩ := zrF pv 0 i cv 2; rw [hq] at he; simp only [Value.slice.injEq] at he; omega) (by simp only [maxLen]; omega) (by omega) rfl ?_)
  intro b cap zs w40 hb c40 hge hle hzl hone k40
  refine Og (yE (v' := .slice (some ⟨b, 0, none⟩) (n + 1) cap) (yh rfl) (by congr 1; omega)) rfl ?_
  refine E5 0 1 2 7 9 rfl (Sr (Om rfl (Om rfl ?_)))
  refine Og (yE (zaO yJ zai rfl rfl i rfl (by omega)) (zeP (by omega))) rfl ?_
  refine Om rfl ?_
  refine zE (gn rfl) (zht (c := 1) yJ zai rfl rfl (hu.chg0 c40) k40 (by omega) (by simp; omega) rfl ?_)
  intro w45 n45 c45 k45
  refine E4 0 1 7 9 rfl (ze ?_)
  have hc2 : zk [] w w45.drew := (c40.own c45 (by simp [← hb])).trans (zk.drew [] _)
  have k45' : zU w45.drew b 175 _ := k45
  rw [show 0 + i * 2 = (xs.take (i * 2)).length by omega, zdw, List.take_of_length_le (show ys.length ≤ 1 * 2 by omega)] at k45'
  rw [← List.append_assoc] at k45'
  refine zJ (fun _ => True) mix (by kernel_rfl) trivial ?_
  refine Tm rfl (Tm rfl (Tm rfl ?_))
  refine Tp (fun _ => zI rfl rfl (by omega)) rfl ?_
  refine Tp (fun _ => yE (zaO yJ zai rfl rfl (i + 1) rfl (by omega)) (zeP (by omega))) rfl ?_
  refine Tm rfl (Tm rfl ?_)
  refine Tp (fun _ => zaO yJ zai rfl rfl i rfl hi) rfl ?_
  refine zas rfl (gn rfl) (zht (c := n - i) yJ zai rfl rfl (hcutB.chg0 hc2) k45' (by omega) (by simp only [List.length_append, List.length_drop, hAl]; omega) rfl ?_)
  intro w54 n54 c54 k54
  refine ⟨.inl trivial, ?_⟩
  refine D1 9 rfl (Sr (Om rfl (Oa rfl (E1 6 rfl (zi ?_)))))
  refine zbj ?_
  refine zD rfl rfl ?_
  rw [show 0 + (i + 1) * 2 = (xs.take (i * 2) ++ ys).length by rw [List.length_append]; omega, zdw, List.take_of_length_le (show (xs.drop (i * 2)).length ≤ (n - i) * 2 by omega)] at k54
  refine ⟨.inr ⟨b, 0, cap, _, rfl, k54, (by omega), hle, ?_, ?_, ?_⟩, ((hc2.own c54 (by simp [← hb])).any), .inr ⟨b, rfl, by omega⟩⟩
  ·simp only [List.length_append, List.length_drop, hAl]; omega
  ·rw [List.drop_zero, ← List.append_assoc, List.take_left' (by simp only [List.length_append]; omega)]
  intro q hq
  simp only [List.mem_append] at hq hone
  rcases hq with (hq | hq) | hq | hq
  ·exact hone q (.inl hq)
  ·exact hu.one_xs q hq
  ·exact hv.one_xs q (List.mem_of_mem_drop hq)
  exact hone q (.inr (List.mem_of_mem_drop (List.mem_of_mem_drop hq)))
 have hroom : n + 1 ≤ cv := by have := of_decide_eq_false hF; omega
 obtain ⟨b, off, c, rfl, hs⟩ : ∃ b off c, pv = some ⟨b, off, none⟩ ∧ zdZ w 175 2 b off n cv c xs := by
  rcases hv with ⟨he, _, _⟩ | ⟨b, off, cap, c, he, hs⟩
  ·simp only [Value.slice.injEq] at he; omega
  simp only [Value.slice.injEq] at he
  obtain ⟨rfl, _, rfl⟩ := he
  exact ⟨b, off, c, rfl, hs⟩
 obtain ⟨bu, ou, cu', rfl, hsu⟩ : ∃ b off c, pu = some ⟨b, off, none⟩ ∧ zdZ w 175 2 b off 1 cu c ys := by
  rcases hu with ⟨_, h1, _⟩ | ⟨b, off, cap, c, he, hs⟩
  ·omega
  simp only [Value.slice.injEq] at he
  obtain ⟨rfl, _, rfl⟩ := he
  exact ⟨b, off, c, rfl, hs⟩
 have hne : bu ≠ b := by have := hap bu (by simp [zp]); simpa [zp] using this
 have hfit := hs.fit
 have hsn : zdZ w 175 2 b off (n + 1) cv c ((c.drop off).take ((n + 1) * 2)) := ⟨hs.blk, hroom, hs.max, hs.fit, rfl, hs.one⟩
 have hsrc := hsn.cut (l := i) (h := n + 1) (m := cv) (by omega) hroom (Nat.le_refl _)
 rw [zeP (by omega)] at hsrc
 refine zm (Sr (Om rfl (Om rfl (Om rfl ?_))))
 refine Og (zI rfl rfl (by omega)) rfl ?_
 refine Og (yE (zby yJ zai rfl rfl (n + 1) rfl hroom) zkA) rfl ?_
 refine Oa rfl (E5 0 1 2 7 8 rfl (ze (Sr (Om rfl (Om rfl (Om rfl (Om rfl ?_)))))))
 refine Og (zI rfl rfl (by omega)) rfl ?_
 refine Og (yE (zaO yJ zai rfl rfl (i + 1) rfl (by omega)) (zeP (by omega))) rfl ?_
 refine zE (gn rfl) (zc8 zwt rfl rfl (zjy rfl zh0 zai hsu.blk hs.blk hne) rfl ?_)
 refine Og (zO rfl) rfl (E6 0 1 2 7 8 68 rfl (zd rfl (ze ?_)))
 refine zJ (fun _ => True) mix (by kernel_rfl) trivial ?_
 refine Tm rfl (Tm rfl (Tm rfl ?_))
 refine Tp (fun _ => zI rfl rfl (by omega)) rfl ?_
 refine Tp (fun _ => yE (zaO yJ zai rfl rfl (i + 1) rfl (by omega)) (zeP (by omega))) rfl ?_
 refine Tm rfl (Tm rfl ?_)
 refine Tp (fun _ => yE (zaO yJ zai rfl rfl i rfl (by omega)) (zeP (by omega))) rfl ?_
 refine zas rfl (gn rfl) (zht (c := n - i) yJ zai rfl rfl (hsrc.chg0 (zk.drew [] _)) (hs.blk.chg0 (zk.drew [] _)) (by omega) (by omega) rfl ?_)
 intro w77 n77 c77 k77
 refine ⟨.inl trivial, ?_⟩
 refine D3 0 1 2 rfl ?_
 have hc77 : zk [b] w w77 := (zk.drew [b] w).transS c77
 have hu77 := hu.chg hc77 (by simpa [zp] using hne)
 refine Sr (Om rfl (Om rfl ?_))
 refine Og (yE (zaO yJ zai rfl rfl i rfl (by omega)) (zeP (by omega))) rfl ?_
 refine Om rfl ?_
 refine zE (gn rfl) (zht (c := 1) yJ zai rfl rfl hu77 k77 (by omega) (by rw [zbK (by simp; omega)]; omega) rfl ?_)
 intro w82 n82 c82 k82
 refine E1 0 rfl (Sr (Om rfl (Oa rfl (E1 6 rfl (zi ?_)))))
 refine zbj ?_
 refine zD rfl rfl ?_
 have hB : ((c.drop (off + i * 2)).take ((n + 1 - i) * 2)).take ((n - i) * 2) = xs.drop (i * 2) := by
  rw [List.take_take, hs.xs, List.drop_take, List.drop_drop]
  congr 1
  omega
 have hsplit : c = c.take (off + i * 2) ++ (xs.drop (i * 2) ++ c.drop (off + n * 2)) := by
  have e1 : c.drop (off + i * 2) = xs.drop (i * 2) ++ c.drop (off + n * 2) := by
   have e2 := List.take_append_drop ((n - i) * 2) (c.drop (off + i * 2))
   rw [List.drop_drop, show off + i * 2 + (n - i) * 2 = off + n * 2 by omega] at e2
   rw [← e2]
   congr 1
   rw [hs.xs, List.drop_take, List.drop_drop]
   congr 1
   omega
  rw [← e1, List.take_append_drop]
 have hAl : (c.take (off + i * 2)).length = off + i * 2 := by simp; omega
 obtain ⟨R, hR, hRm⟩ := zlD (c.take (off + i * 2)) (xs.drop (i * 2)) (c.drop (off + n * 2)) ys (by simp; omega)
 rw [hB, List.take_of_length_le (show ys.length ≤ 1 * 2 by omega)] at k82
 rw [← hsplit, hAl, show off + i * 2 + ys.length = off + (i + 1) * 2 by omega] at hR
 rw [hR] at k82
 refine ⟨.inr ⟨b, off, cv, _, rfl, k82, hroom, hs.max, ?_, ?_, ?_⟩, hc77.transS c82, .inl rfl⟩
 ·have hcl : c.length = (c.take (off + i * 2) ++ (ys ++ (xs.drop (i * 2) ++ R))).length := by
   rw [← hR, zbK, zbK]
   ·simp; omega
   rw [zbK (by simp; omega)]; omega
  rw [← hcl]; exact hfit
 ·have e3 : (c.take (off + i * 2)).drop off = xs.take (i * 2) := by
   rw [List.drop_take, hs.xs, List.take_take]
   congr 1
   omega
  rw [List.drop_append_of_le_length (by omega), e3, ← List.append_assoc, ← List.append_assoc, List.take_left' (by simp; omega)]
 intro q hq
 simp only [List.mem_append] at hq
 rcases hq with hq | hq | hq | hq
 ·exact hs.one q (List.mem_of_mem_take hq)
 ·exact hu.one_xs q hq
 ·exact hs.one_xs q (List.mem_of_mem_drop hq)
 rcases hRm q hq with h | h
 ·exact hs.one q (List.mem_of_mem_drop h)
 exact hs.one_xs q (List.mem_of_mem_drop h)
theorem f28 (v : Value) (i n : Nat) (xs : List Value) (w : World) (hv : zv w 175 2 v n xs) (hi : i < n) (hn : n ≤ 1048576) :
 z9 TP 129 #[v, Ii i, Ii ((i : Int) + 1)] w fun r w' => zv w' 175 2 r (n - 1) (xs.take (i * 2) ++ xs.drop (i * 2 + 2)) ∧ zk (zp v) w w' ∧ zp r = zp v := by
 have hlx := hv.len_xs
 obtain ⟨b, off, cv, c, rfl, hs⟩ : ∃ b off cv c, v = .slice (some ⟨b, off, none⟩) n cv ∧ zdZ w 175 2 b off n cv c xs := by
  rcases hv with ⟨_, rfl, _⟩ | ⟨b, off, cap, c, he, hs⟩
  ·omega
  exact ⟨b, off, cap, c, he, hs⟩
 have hfit := hs.fit
 have hlc := hs.le
 refine A3 Tryz.func129 rfl rfl ?_
 refine Sr (Oa rfl (E3 0 1 2 rfl (Sr (Om rfl (Om rfl (Om rfl (Om rfl (On yJ rfl ?_))))))))
 refine Og (zew yJ zai rfl rfl rfl rfl i (i + 1) n rfl (by omega) rfl (by omega) (by omega) (by omega)) rfl ?_
 refine E3 0 1 2 rfl (ze (Sr (Om rfl (Om rfl ?_))))
 refine Og (vf (zw rfl rfl) (by simp; omega)) rfl ?_
 refine E4 0 1 2 16 rfl (zb rfl (zm (Sr (Om rfl (On yJ rfl (Oa rfl (E4 0 1 2 7 rfl (ze ?_))))))))
 have hsrc := hs.cut (l := i + 1) (h := n) (m := cv) (by omega) hlc (Nat.le_refl _)
 have hB : (c.drop (off + (i + 1) * 2)).take ((n - (i + 1)) * 2) = xs.drop (i * 2 + 2) := by
  rw [hs.xs, List.drop_take, List.drop_drop]
  congr 1
  ·omega
  congr 1; omega
 rw [hB] at hsrc
 have hBl : (xs.drop (i * 2 + 2)).length = (n - (i + 1)) * 2 := by simp; omega
 refine zJ (fun _ => True) mix (by kernel_rfl) trivial ?_
 refine Tm rfl (Tm rfl ?_)
 refine Tp (fun _ => yE (zby yJ zai rfl rfl i rfl (by omega)) zkA) rfl ?_
 refine Tm rfl (Tm rfl ?_)
 refine Tp (fun _ => zaO yJ zai rfl rfl (i + 1) (by omega) (by omega)) rfl ?_
 refine zas rfl (gn rfl) (zin yJ zai yJ rfl rfl (hs.blk.chg0 (zk.drew [] _)) (hsrc.chg0 (zk.drew [] _)) (by omega) hfit rfl ?_)
 intro w26 n26 c26 k26
 refine ⟨.inl trivial, ?_⟩
 refine Tp (fun _ => yE (v' := .slice (some ⟨b, off, none⟩) (n - 1) cv) (yh rfl) (by congr 1; omega)) rfl ?_
 refine D2 0 7 rfl ?_
 have hl26 : (yU c (off + i * 2) (xs.drop (i * 2 + 2))).length = c.length := zbK (by omega)
 refine Sr (Om rfl (Om rfl (On yJ rfl (Om rfl ?_))))
 refine Og (yE (znJ yJ zai rfl rfl rfl (n - 1) n rfl rfl (by omega) (by omega)) (zeP (by omega))) rfl ?_
 refine zE (gn rfl) (zpS zhc rfl k26 (by rw [hl26]; omega) ?_)
 intro w31 zs n31 c31 hzl hzo k31
 refine E1 0 rfl (Sr (Om rfl (Oa rfl (E1 6 rfl (zi ?_)))))
 refine zD rfl rfl ?_
 have hl31 : (yU (yU c (off + i * 2) (xs.drop (i * 2 + 2))) (off + (n - 1) * 2) zs).length = c.length := by rw [zbK (by rw [hl26, hzl]; omega), hl26]
 refine ⟨.inr ⟨b, off, cv, _, rfl, k31, by omega, hs.max, by rw [hl31]; exact hfit, ?_, ?_⟩, ((zk.drew [b] w).transS c26).transS c31, rfl⟩
 ·have hA : (c.take (off + i * 2)).drop off = xs.take (i * 2) := by
   rw [List.drop_take, hs.xs, List.take_take]
   congr 1
   omega
  have hAl : (c.take (off + i * 2)).length = off + i * 2 := by simp; omega
  have e1 : (yU c (off + i * 2) (xs.drop (i * 2 + 2))).take (off + (n - 1) * 2) = c.take (off + i * 2) ++ xs.drop (i * 2 + 2) := by
   unfold yU
   exact List.take_left' (by simp only [List.length_append, hAl]; omega)
  unfold yU at e1 ⊢
  rw [e1, List.append_assoc, List.append_assoc, List.drop_append_of_le_length (by omega), hA, ← List.append_assoc, List.take_left' (by simp only [List.length_append, List.length_take]; omega)]
 intro q hq
 simp only [yU, List.mem_append] at hq
 rcases hq with (hq | hq) | hq
 ·have := List.mem_of_mem_take hq
  simp only [List.mem_append] at this
  rcases this with (h | h) | h
  ·exact hs.one q (List.mem_of_mem_take h)
  ·exact hs.one_xs q (List.mem_of_mem_drop h)
  exact hs.one q (List.mem_of_mem_drop h)
 ·exact hzo q hq
 have := List.mem_of_mem_drop hq
 simp only [List.mem_append] at this
 rcases this with (h | h) | h
 ·exact hs.one q (List.mem_of_mem_take h)
 ·exact hs.one_xs q (List.mem_of_mem_drop h)
 exact hs.one q (List.mem_of_mem_drop h)
def zfb (l : List Ent) : LE := if l.length ≤ 8 then [l] else [l.take (l.length / 2), l.drop (l.length / 2)]
theorem yL.cutL {w : World} {p : Option Addr} {c : Nat} {l : List Ent} (h : yL w (.slice p l.length c) l) {i m : Nat} (hi : i ≤ l.length) (h1 : i ≤ m) (h2 : m ≤ c) : yL w (cut p 0 i m 2) (l.take i) := by
 have := zv.cut h (l := 0) (h := i) (m := m) (Nat.zero_le _) h1 h2 hi
 unfold yL
 rw [zgT, List.length_take]
 simpa [show min i l.length = i by omega] using this
theorem yL.cutR {w : World} {p : Option Addr} {c : Nat} {l : List Ent} (h : yL w (.slice p l.length c) l) {i : Nat} (hi : i ≤ l.length) (hc : l.length ≤ c) : yL w (cut p i l.length c 2) (l.drop i) := by
 have := zv.cut h (l := i) (h := l.length) (m := c) hi hc (Nat.le_refl _) (Nat.le_refl _)
 unfold yL
 rw [zfl, List.length_drop]
 rw [List.take_of_length_le (by simp [zeR]; omega)] at this
 exact this
theorem yG.one {w : World} {b : Nat} {v : Value} {l : List Ent} (hb : zU w b 177 [v]) (hl : yL w v l) : yG w (.slice (some ⟨b, 0, none⟩) 1 1) [l] :=
 ⟨[v], zv.of_blk (n := 1) hb rfl (by simp [maxLen]) (by intro u hu; simp at hu; subst hu; exact zv.one1 hl), hl, trivial⟩
theorem yG.two {w : World} {b : Nat} {v u : Value} {l m : List Ent} (hb : zU w b 177 [v, u]) (hl : yL w v l) (hm : yL w u m) : yG w (.slice (some ⟨b, 0, none⟩) 2 2) [l, m] :=
 ⟨[v, u], zv.of_blk (n := 2) hb rfl (by simp [maxLen]) (by intro x hx; simp at hx; rcases hx with rfl | rfl; exact zv.one1 hl; exact zv.one1 hm), hl, hm, trivial⟩
theorem f29 (p : Nat) (ls : LE) (a b : Value) (la lb : List Ent) (i : Nat) (w : World) (hp : Pg w p ls) (ha : yL w a la) (hb : yL w b lb) (hi : i + 2 ≤ ls.length) (hb1 : ls.length ≤ 1048576) (hla : la.length ≤ 1048576) (hlb : lb.length ≤ 1048576) :
 z9 TP 132 #[Pt p, Ii i, .agg #[a, b]] w fun r w' => r = .tuple #[] ∧ Pg w' p (ls.take i ++ zfb (la ++ lb) ++ ls.drop (i + 2)) ∧ zk [p] w w' := by
 have hal := zv.len_xs ha
 have hbl := zv.len_xs hb
 obtain ⟨pa, ca, rfl, _⟩ := zv.val ha
 obtain ⟨pb, cb, rfl, _⟩ := zv.val hb
 refine A3 Tryz.func132 rfl rfl ?_
 refine Sr ?_
 refine Ob rfl rfl ?_
 intro b5 w5 e5 n5 c5 k5
 refine E3 0 1 5 rfl (ze ?_)
 have hS : zgb w 175 2 [.slice pa la.length ca, .slice pb lb.length cb] [flat la, flat lb] := ⟨by rw [hal, Nat.mul_div_cancel _ (by omega)]; exact ha, by rw [hbl, Nat.mul_div_cancel _ (by omega)]; exact hb, trivial⟩
 have hsum : zbl 2 [flat la, flat lb] 2 = (la ++ lb).length := by
  simp only [zbl, List.take_succ_cons, List.take_zero, List.map_cons, List.map_nil, List.sum_cons, List.sum_nil, hal, hbl, Nat.mul_div_cancel _ (show 0 < 2 by omega), List.length_append]
  omega
 have hll : (la ++ lb).length = la.length + lb.length := by simp
 refine za ?_
 refine Og (zba ziS zbm rfl rfl 0 rfl (by omega)) rfl ?_
 refine Ol zdC rfl (k5.cell' rfl) ?_
 refine Og (zba ziS zbm rfl rfl 1 rfl (by omega)) rfl ?_
 refine Ol zdC rfl (k5.cell' rfl) ?_
 refine zE (gn rfl) (zB zhf rfl (vs := [_, _]) rfl (css := [_, _]) ⟨rfl, rfl, trivial⟩ rfl rfl (cs := [_, _]) rfl rfl ?_)
 intro b12 w12 e12 n12 c12 k12
 refine Oc zwT rfl rfl rfl (f45 _ _ [flat la, flat lb] _ (zv.of_blk (n := 2) k12 rfl (by simp [maxLen]) (by intro u hu; simp at hu; rcases hu with rfl | rfl <;> rfl)) (hS.chg0 (c5.trans c12)) (by simp only [List.length_cons, List.length_nil]; rw [hsum]; omega) (by simp)) ?_
 rintro v13 w13 ⟨i13, n13, c13⟩
 have hboth : yL w13 v13 (la ++ lb) := by unfold yL; rw [zc2]; simpa [hsum] using i13
 clear i13
 generalize la ++ lb = both at *
 obtain ⟨p13, q13, rfl, hq13⟩ := zv.val hboth
 refine Oa rfl (E3 0 1 6 rfl ?_)
 have hc13 : zk [] w w13 := (c5.trans c12).trans c13
 refine ze (Sr (Om rfl (On yJ rfl ?_)))
 refine Og (zbe rfl rfl) rfl ?_
 refine E4 0 1 6 16 rfl ?_
 refine zR rfl (fun hT => ?_) (fun hF => ?_)
 ·have hle : both.length ≤ 8 := by have := of_decide_eq_true hT; omega
  refine Sr (Om rfl (Om rfl (Om rfl ?_)))
  refine Og (yE (v' := Ii ((i + 2 : Nat) : Int)) (zI rfl rfl (by omega)) (by congr 1)) rfl ?_
  refine Om rfl ?_
  refine zE (gn rfl) (zB zhf rfl (vs := [_]) rfl (css := [_]) ⟨rfl, trivial⟩ rfl rfl (cs := [_]) rfl rfl ?_)
  intro b22 w22 e22 n22 c22 k22
  refine Oc zhK rfl rfl rfl (f26 p ls [both] _ i (i + 2) _ (hp.chg0 (hc13.trans c22)) (yG.one k22 (hboth.chg0 c22)) (by omega) hi hb1 (by simp)) ?_
  rintro v23 w23 ⟨rfl, p23, c23⟩
  refine za1 [] (F' := []) rfl (zi ?_)
  refine zbj ?_
  refine zqd rfl ?_
  refine ⟨rfl, ?_, ((hc13.trans c22).any (S := [p])).transS c23⟩
  rw [zfb, if_pos hle]
  exact p23
 have hle : ¬ both.length ≤ 8 := by have := of_decide_eq_false hF; omega
 refine zm (Sr (Om rfl (On yJ rfl ?_)))
 refine Og (yE (v' := Ii ((both.length / 2 : Nat) : Int)) (zo2 rfl rfl (by omega) (by omega)) (by congr 1)) rfl ?_
 refine Oa rfl (E4 0 1 6 7 rfl ?_)
 have hh : both.length / 2 ≤ both.length := Nat.div_le_self _ _
 refine zJ (fun _ => True) mix (by kernel_rfl) trivial ?_
 refine Tm rfl (Tm rfl (Tm rfl ?_))
 refine Tp (fun _ => yE (v' := Ii ((i + 2 : Nat) : Int)) (zI rfl rfl (by omega)) (by congr 1)) rfl ?_
 refine Tm rfl (Tm rfl (Tm rfl ?_))
 refine Tp (fun _ => zfn yJ zai rfl rfl rfl _ _ rfl rfl (Nat.le_refl _) (by omega)) rfl ?_
 refine Tm rfl (Tm rfl ?_)
 refine Tp (fun _ => zaO yJ zai rfl rfl _ rfl hh) rfl ?_
 refine zas rfl (gn rfl) (zB zhf rfl (vs := [_, _]) rfl (css := [_, _]) ⟨rfl, rfl, trivial⟩ rfl rfl (cs := [_, _]) rfl rfl ?_)
 intro b38 w38 e38 n38 c38 k38
 refine ⟨.inl trivial, ?_⟩
 have hc38 : zk [] w13 w38 := (zk.drew [] w13).trans c38
 refine Tc zhK rfl rfl rfl (f26 p ls [both.take (both.length / 2), both.drop (both.length / 2)] _ i (i + 2) _ (hp.chg0 (hc13.trans hc38)) (yG.two k38 ((hboth.chg0 hc38).cutL hh (Nat.le_refl _) (by omega)) ((hboth.chg0 hc38).cutR hh hq13)) (by omega) hi hb1 (by simp)) ?_
 rintro v39 w39 ⟨rfl, p39, c39⟩
 refine ⟨.inl trivial, ?_⟩
 refine zdV [] (F' := []) rfl ?_
 refine zge rfl ⟨rfl, ?_, ((hc13.trans hc38).any (S := [p])).transS c39⟩
 rw [zfb, if_neg hle]
 exact p39
structure WfP (ls : LE) : Prop where
 ne : ∀ l ∈ ls, l ≠ []
 le : ∀ l ∈ ls, l.length ≤ 8
 srt : Srt ls.flatten
theorem WfP.each {ls : LE} (h : WfP ls) : ∀ l ∈ ls, Srt l := (List.pairwise_flatten.1 h.srt).1
theorem zeB {l : List Ent} (h : l ≠ []) : ∃ x ∈ l, yR l = x.1 := by
 cases l with
 | nil => exact absurd rfl h
 | cons x l => exact ⟨x, by simp, rfl⟩
theorem WfP.firsts {ls : LE} (h : WfP ls) : ziD ls := by
 refine List.Pairwise.imp_of_mem ?_ (List.pairwise_flatten.1 h.srt).2
 intro a b ha hb hab
 obtain ⟨x, hx, e1⟩ := zeB (h.ne a ha)
 obtain ⟨y, hy, e2⟩ := zeB (h.ne b hb)
 rw [e1, e2]
 exact hab x hx y hy
def zce (ls : LE) (key : ByteArray) : Option ByteArray :=
 match ls[yQ ls key - 1]? with
 | some l => if zdr l key then (l[lbN l key]?).map (·.2) else none
 | none => none
def zeL (l : List Ent) (key val : ByteArray) : List Ent := if zdr l key then l.set (lbN l key) (key, val) else l.take (lbN l key) ++ [(key, val)] ++ l.drop (lbN l key)
def zcE (l : List Ent) : LE := if 8 < l.length then [l.take 4, l.drop 4] else [l]
def zfs (ls : LE) (key val : ByteArray) : LE :=
 match ls[yQ ls key - 1]? with
 | some l => ls.take (yQ ls key - 1) ++ zcE (zeL l key val) ++ ls.drop (yQ ls key - 1 + 1)
 | none => [[(key, val)]]
theorem zer {l : List Ent} {key : ByteArray} (h : zdr l key = true) : ∃ v, l[lbN l key]? = some (key, v) := by
 unfold zdr zb3 at h
 rw [List.getElem?_map] at h
 cases hx : l[lbN l key]? with
 | none => simp [hx] at h
 | some x => simp [hx] at h; exact ⟨x.2, by rw [← h]⟩
theorem zut (l : List Ent) (key : ByteArray) : lbN l key ≤ l.length := (List.takeWhile_prefix _).length_le
theorem zli {es : List Ent} {i : Nat} {x : Ent} (hi : i < es.length) : flat (es.set i x) = flat (es.take i) ++ (.string x.1 :: .string x.2 :: flat (es.drop (i + 1))) := by
 rw [List.set_eq_take_append_cons_drop, if_pos hi, zc2, zdn]
theorem yL.setVal {w : World} {b off cap : Nat} {c : List Value} {es : List Ent} {i : Nat} {k v x : ByteArray} (hs : zdZ w 175 2 b off es.length cap c (flat es)) (hi : es[i]? = some (k, v)) {w' : World} (hb : zU w' b 175 (yU c (off + i * 2 + 1) [.string x])) :
 yL w' (.slice (some ⟨b, off, none⟩) es.length cap) (es.set i (k, x)) := by
 have hil : i < es.length := (List.getElem?_eq_some_iff.1 hi).1
 have hfit := hs.fit
 have hle := hs.le
 have hlen : off + i * 2 + 1 + [Value.string x].length ≤ c.length := by simp; omega
 have hfl := hs.xs
 have hfe : flat es = flat (es.take i) ++ (.string k :: .string v :: flat (es.drop (i + 1))) := by
  have : es.set i (k, v) = es := by
   rw [List.getElem?_eq_some_iff] at hi
   obtain ⟨_, h⟩ := hi
   rw [← h]; exact List.set_getElem_self hil
  have h := zli (x := (k, v)) hil
  rw [this] at h
  exact h
 have hti : (flat (es.take i)).length = i * 2 := by rw [zeR, List.length_take]; omega
 have hdi : (flat (es.drop (i + 1))).length = (es.length - (i + 1)) * 2 := by rw [zeR, List.length_drop]
 -- the block, in parts
 have hc : c = (c.take off ++ flat (es.take i) ++ [.string k]) ++ ([.string v] ++ (flat (es.drop (i + 1)) ++ c.drop (off + es.length * 2))) := by
  have e1 : c.drop off = flat es ++ c.drop (off + es.length * 2) := by
   rw [hfl, ← List.drop_drop]; exact (List.take_append_drop _ _).symm
  have e2 := List.take_append_drop off c
  rw [e1, hfe] at e2
  refine e2.symm.trans ?_
  simp
 have hA : (c.take off ++ flat (es.take i) ++ [Value.string k]).length = off + i * 2 + 1 := by simp only [List.length_append, List.length_take, hti, List.length_singleton]; omega
 have hl : yU c (off + i * 2 + 1) [.string x] = (c.take off ++ flat (es.take i) ++ [.string k]) ++ ([.string x] ++ (flat (es.drop (i + 1)) ++ c.drop (off + es.length * 2))) := by
  conv => lhs; rw [hc, ← hA]
  rw [zdw]
  simp
 refine .inr ⟨b, off, cap, _, by rw [List.length_set], ⟨hb, by rw [List.length_set]; exact hle, hs.max, by rw [zbK hlen]; exact hfit, ?_, ?_⟩⟩
 ·rw [hl, zli hil, List.length_set]
  have : (c.take off).length = off := by rw [List.length_take]; omega
  have e0 : (c.take off ++ flat (es.take i) ++ [Value.string k]) ++ ([Value.string x] ++ (flat (es.drop (i + 1)) ++ c.drop (off + es.length * 2))) = c.take off ++ ((flat (es.take i) ++ (.string k :: .string x :: flat (es.drop (i + 1)))) ++ c.drop (off + es.length * 2)) := by simp
  rw [e0, List.drop_left' this, List.take_left' (by simp only [List.length_append, List.length_cons, hti, hdi]; omega)]
 intro u hu
 simp only [yU, List.mem_append] at hu
 rcases hu with (hu | hu) | hu
 ·exact hs.one u (List.mem_of_mem_take hu)
 ·simp at hu; subst hu; rfl
 exact hs.one u (List.mem_of_mem_drop hu)
theorem f10 (p : Nat) (ls : LE) (key val : ByteArray) (w : World) (hp : Pg w p ls) (hw : WfP ls) (hn : ls.length ≤ 65536) (hk : key.size ≤ 2000) :
 z9 TP 85 #[Pt p, .string key, .string val] w fun r w' => r = .tuple #[.string ((zce ls key).getD ⟨#[]⟩), .bool (zce ls key).isSome, Ii 0] ∧ Pg w' p (zfs ls key val) ∧ zk [p] w w' := by
 obtain ⟨v, hb, hpg⟩ := id hp
 obtain ⟨vs, hsl, hal⟩ := id hpg
 obtain ⟨pv, cv, rfl, hlc⟩ := hsl.val
 refine A3 Tryz.func85 rfl rfl ?_
 refine Sr (Oa rfl (Oa rfl (Oa rfl (E3 0 1 2 rfl (ze (zq (Sr (Om rfl ?_))))))))
 refine Og (zaC zn1 rfl rfl) rfl ?_
 refine Oa rfl (E4 0 1 2 16 rfl (zb rfl (Sr (Om rfl ?_))))
 refine Og (yS st9 rfl) rfl ?_
 refine Og (yg rfl rfl) rfl ?_
 refine Oa rfl (E4 0 1 2 19 rfl ?_)
 refine zR rfl (fun hT => ?_) (fun hF => ?_)
 ·exfalso
  have := of_decide_eq_true hT
  omega
 refine Sr (Om rfl (Og (zF rfl) rfl (Od zaf rfl ?_)))
 refine Ol zbw rfl (hb.cell' rfl) ?_
 refine On zaH rfl (Og (zw rfl rfl) rfl (Oa rfl (E4 0 1 2 23 rfl ?_)))
 refine zR rfl (fun hT => ?_) (fun hF => ?_)
 ·have hls : ls = [] := List.eq_nil_of_length_eq_zero (by have := of_decide_eq_true hT; omega)
  subst hls
  refine Sr (Om rfl (Om rfl (Om rfl ?_)))
  refine Og (z6 zsr zkd rfl (vs := [_, _]) rfl (css := [_, _]) ⟨rfl, rfl, trivial⟩ rfl rfl (cs := [_, _]) rfl) rfl ?_
  refine zE (gn rfl) (zB zhc rfl (vs := [_]) rfl (css := [_]) ⟨rfl, trivial⟩ rfl rfl (cs := [_, _]) rfl rfl ?_)
  intro b34 w34 e34 n34 c34 k34
  refine zE (gn rfl) (zB zlz rfl (vs := [_]) rfl (css := [_]) ⟨rfl, trivial⟩ rfl rfl (cs := [_]) rfl rfl ?_)
  intro b35 w35 e35 n35 c35 k35
  refine Og (zF rfl) rfl (Od zaf rfl ?_)
  refine zE (gn rfl) (zu zhY rfl rfl rfl rfl (hb.chg0 (c34.trans c35)) (by simp) (by intro u hu; simp at hu; subst hu; rfl) ?_)
  intro wX nX cX kX
  refine za1 [] (F' := []) rfl (Sr (Oa rfl (Oa rfl (Oa rfl (E3 6 7 8 rfl (zi ?_))))))
  refine zoh (zbj ?_)
  refine ziy rfl rfl rfl rfl ?_
  have hl : yL w35 (.slice (some ⟨b34, 0, none⟩) 1 1) [(key, val)] := (zv.of_blk (n := 1) (k34.chg0 c35) rfl (by simp [maxLen]) (zk0 [(key, val)]) : zv w35 175 2 _ 1 (flat [(key, val)]))
  have hpp : yG w35 (.slice (some ⟨b35, 0, none⟩) 1 1) [[(key, val)]] := yG.one k35 hl
  refine ⟨rfl, ⟨_, kX, hpp.chg1 (hb.chg0 (c34.trans c35)) rfl rfl cX⟩, ((c34.trans c35).any (S := [p])).transS cX⟩
 refine ye (zl ?_)
 have hls : ls ≠ [] := by rintro rfl; simp at hF
 have hat := zhu (key := key) hls
 have hget : ls[yQ ls key - 1]? = some ls[yQ ls key - 1] := by simp [hat]
 have hmem : ls[yQ ls key - 1] ∈ ls := List.getElem_mem hat
 have hspot : spot ls key = (yQ ls key - 1, lbN ls[yQ ls key - 1] key, zdr ls[yQ ls key - 1] key) := by unfold spot; rw [hget]
 have hgp : zce ls key = if zdr ls[yQ ls key - 1] key then (ls[yQ ls key - 1][lbN ls[yQ ls key - 1] key]?).map (·.2) else none := by unfold zce; rw [hget]
 have hpp : zfs ls key val = ls.take (yQ ls key - 1) ++ zcE (zeL ls[yQ ls key - 1] key val) ++ ls.drop (yQ ls key - 1 + 1) := by unfold zfs; rw [hget]
 have hl8 := hw.le _ hmem
 rw [hgp, hpp]
 have f24' := f24 (.slice pv ls.length cv) ls key w hpg hw.ne (by omega) hw.firsts hw.each (fun l hl => by have := hw.le l hl; omega)
 rw [hspot] at f24'
 generalize hl : ls[yQ ls key - 1] = l at *
 generalize ha : yQ ls key - 1 = a at *
 clear hspot hgp hpp
 have hlb := zut l key
 refine Sr (Om rfl (Og (zF rfl) rfl (Od zaf rfl ?_)))
 refine Ol zbw rfl (hb.cell' rfl) ?_
 refine Om rfl ?_
 refine Oc zt9 rfl rfl rfl f24' ?_
 rintro v44 w44 ⟨rfl, c44⟩
 refine Om rfl (Oe rfl rfl (Oe rfl rfl (Oe rfl rfl (Oa rfl (Oa rfl (Oa rfl (E6 0 1 2 9 10 11 rfl ?_)))))))
 obtain ⟨bb, off, cap, u, hv, hcell, hlu⟩ := (hpg.chg0 c44).at hget
 simp only [Value.slice.injEq] at hv
 obtain ⟨rfl, _, rfl⟩ := hv
 refine Sr (Om rfl (Og (zF rfl) rfl (Od zaf rfl ?_)))
 refine Ol zbw rfl ((hb.chg0 c44).cell' rfl) ?_
 refine Om rfl ?_
 refine Og (zf zaH zbm rfl rfl _ rfl hat) rfl ?_
 refine Ol zdC rfl hcell ?_
 refine Oc zsf rfl rfl rfl (f25 _ _ _ _ hlu (by omega)) ?_
 rintro v55 w55 ⟨i55, n55, c55⟩
 obtain ⟨p55, q55, rfl, hq55⟩ := i55.val
 refine Oa rfl (E7 0 1 2 9 10 11 12 rfl ?_)
 have hc55 : zk [] w w55 := c44.trans c55
 refine Sr (Om rfl ?_)
 refine Og (zbr rfl rfl) rfl ?_
 refine Oa rfl (E7 1 2 9 10 11 12 13 rfl (ze (Sr (Om rfl (E7 1 2 9 10 12 13 58 rfl ?_)))))
 refine zR rfl (fun hT => ?_) (fun hF => ?_)
 ·obtain ⟨old, hold⟩ := zer hT
  have hil := (List.getElem?_eq_some_iff.1 hold).1
  obtain ⟨bl, ol, cl, rfl, hsl55⟩ : ∃ b off c, p55 = some ⟨b, off, none⟩ ∧ zdZ w55 175 2 b off l.length q55 c (flat l) := by
   rcases i55 with ⟨_, h1, _⟩ | ⟨b, off, cap, c, he, hs⟩
   ·omega
   simp only [Value.slice.injEq] at he
   obtain ⟨rfl, _, rfl⟩ := he
   exact ⟨b, off, c, rfl, hs⟩
  have hnew : w44.heap.size ≤ bl := n55 bl (by simp [zp])
  obtain ⟨_, _, _, hv2, hcl2⟩ := yL.at' i55 hold
  simp only [Value.slice.injEq, Option.some.injEq, Addr.mk.injEq, and_true] at hv2
  obtain ⟨⟨rfl, rfl⟩, _⟩ := hv2
  have hfit := hsl55.fit
  have hle55 := hsl55.le
  refine Sr (Om rfl (Om rfl ?_))
  refine Og (zf yJ zai rfl rfl _ rfl hil) rfl ?_
  refine Od zgl rfl ?_
  refine Ol ag9 rfl (hcl2 1 _ rfl) ?_
  refine Oa rfl (E6 2 9 10 12 13 14 rfl (Sr (Om rfl (Om rfl (Om rfl ?_)))))
  refine Og (zf yJ zai rfl rfl _ rfl hil) rfl ?_
  refine Od zgl rfl ?_
  refine zE (gn rfl) (zu sz9 rfl rfl rfl rfl hsl55.blk (by simp; omega) (by intro u hu; simp at hu; subst hu; rfl) ?_)
  intro w68 n68 c68 k68
  refine E4 9 12 13 14 rfl ?_
  have hset := yL.setVal hsl55 hold k68
  have hc68 : zk [] w w68 := hc55.own c68 (by intro x hx; simp at hx; subst hx; have := c44.size; omega)
  refine Sr (Om rfl (Om rfl (Om rfl ?_)))
  refine Og (yE (v' := Ii ((a + 1 : Nat) : Int)) (zI rfl rfl (by omega)) (by congr 1)) rfl ?_
  refine Om rfl ?_
  refine zE (gn rfl) (zB zhf rfl (vs := [_]) rfl (css := [_]) ⟨rfl, trivial⟩ rfl rfl (cs := [_]) rfl rfl ?_)
  intro b74 w74 e74 n74 c74 k74
  refine Oc zhK rfl rfl rfl (f26 p ls [l.set (lbN l key) (key, val)] _ a (a + 1) _ (hp.chg0 (hc68.trans c74)) (yG.one k74 (hset.chg0 c74)) (by omega) hat (by omega) (by simp)) ?_
  rintro v75 w75 ⟨rfl, p75, c75⟩
  refine E1 14 rfl (Sr (Om rfl (Oa rfl (Oa rfl (Oa rfl (E3 6 7 8 rfl (zi ?_)))))))
  refine zbj ?_
  refine ziy rfl rfl rfl rfl ?_
  refine ⟨?_, ?_, ((hc68.trans c74).any (S := [p])).transS c75⟩
  ·rw [if_pos hT, hold]; rfl
  rw [zeL, if_pos hT, zcE, if_neg (by rw [List.length_set]; omega)]
  exact p75
 have hF' : ¬ zdr l key = true := by rw [show zdr l key = false from hF]; simp
 refine zm (ze ?_)
 have hys : ∀ (wz : World) (b : Nat), zU wz b 175 [.string key, .string val] → zv wz 175 2 (.slice (some ⟨b, 0, none⟩) 1 1) 1 (flat [(key, val)]) := fun wz b hb => zv.of_blk (n := 1) hb rfl (by simp [maxLen]) (zk0 [(key, val)])
 refine za (Om rfl (Om rfl (Om rfl (Om rfl ?_))))
 refine Og (z6 zsr zkd rfl (vs := [_, _]) rfl (css := [_, _]) ⟨rfl, rfl, trivial⟩ rfl rfl (cs := [_, _]) rfl) rfl ?_
 refine zE (gn rfl) (zB zv8 rfl (vs := [_]) rfl (css := [_]) ⟨rfl, trivial⟩ rfl rfl (cs := [_, _]) rfl rfl ?_)
 intro b82 w82 e82 n82 c82 k82
 refine Oc zwN rfl rfl rfl (f27 _ _ (lbN l key) l.length (flat l) (flat [(key, val)]) _ (i55.chg0 c82) (hys _ _ k82) hlb (by omega) (by intro x hx hy; simp [zp] at hx; subst hx; have := i55.lt _ hy; omega)) ?_
 rintro v83 w83 ⟨i83, c83, o83⟩
 refine Oa rfl (E3 9 12 13 rfl ?_)
 have hput : zeL l key val = l.take (lbN l key) ++ [(key, val)] ++ l.drop (lbN l key) := by rw [zeL, if_neg hF']
 have hpl : (zeL l key val).length = l.length + 1 := by rw [hput]; simp; omega
 have hlist : yL w83 v83 (zeL l key val) := by
  unfold yL
  rw [hpl, hput, zc2, zc2, zgT, zfl]
  exact i83
 have hc83 : zk [] w w83 := (hc55.trans c82).own c83 (by intro x hx; have := n55 x hx; have := c44.size; omega)
 clear i83 c83 o83
 rw [if_neg hF']
 clear hput
 generalize zeL l key val = l' at *
 obtain ⟨p83, q83, rfl, hq83⟩ := zv.val hlist
 refine ze (Sr (Om rfl (On yJ rfl ?_)))
 refine Og (yg rfl rfl) rfl ?_
 refine E4 9 12 13 86 rfl ?_
 refine zR rfl (fun hT2 => ?_) (fun hF2 => ?_)
 ·have h8 : 8 < l'.length := by have := of_decide_eq_true hT2; omega
  refine Sr (Oa rfl (E4 9 12 13 15 rfl ?_))
  refine zJ (fun _ => True) mix (by kernel_rfl) trivial ?_
  refine Tm rfl (Tm rfl (Tm rfl ?_))
  refine Tp (fun _ => yE (v' := Ii ((a + 1 : Nat) : Int)) (zI rfl rfl (by omega)) (by congr 1)) rfl ?_
  refine Tm rfl (Tm rfl (Tm rfl ?_))
  refine Tp (fun _ => zfn yJ zai rfl rfl rfl 4 4 rfl rfl (Nat.le_refl _) (by omega)) rfl ?_
  refine Tm rfl (Tm rfl ?_)
  refine Tp (fun _ => zaO yJ zai rfl rfl 4 rfl (by omega)) rfl ?_
  refine zas rfl (gn rfl) (zB zhf rfl (vs := [_, _]) rfl (css := [_, _]) ⟨rfl, rfl, trivial⟩ rfl rfl (cs := [_, _]) rfl rfl ?_)
  intro b98 w98 e98 n98 c98 k98
  refine ⟨.inl trivial, ?_⟩
  have hc98 : zk [] w83 w98 := (zk.drew [] w83).trans c98
  refine Tc zhK rfl rfl rfl (f26 p ls [l'.take 4, l'.drop 4] _ a (a + 1) _ (hp.chg0 (hc83.trans hc98)) (yG.two k98 ((hlist.chg0 hc98).cutL (by omega) (Nat.le_refl _) (by omega)) ((hlist.chg0 hc98).cutR (by omega) hq83)) (by omega) hat (by omega) (by simp)) ?_
  rintro v99 w99 ⟨rfl, p99, c99⟩
  refine ⟨.inl trivial, ?_⟩
  refine zhe [] (F' := []) rfl ?_
  refine Sr (Oa rfl (Oa rfl (Oa rfl (E3 6 7 8 rfl (zi ?_)))))
  refine ziy rfl rfl rfl rfl ?_
  refine ⟨rfl, ?_, ((hc83.trans hc98).any (S := [p])).transS c99⟩
  rw [zcE, if_pos h8]
  exact p99
 have h8 : ¬ 8 < l'.length := by have := of_decide_eq_false hF2; omega
 refine za (Om rfl (Om rfl (Om rfl ?_)))
 refine Og (yE (v' := Ii ((a + 1 : Nat) : Int)) (zI rfl rfl (by omega)) (by congr 1)) rfl ?_
 refine Om rfl ?_
 refine zE (gn rfl) (zB zhf rfl (vs := [_]) rfl (css := [_]) ⟨rfl, trivial⟩ rfl rfl (cs := [_]) rfl rfl ?_)
 intro b105 w105 e105 n105 c105 k105
 refine Oc zhK rfl rfl rfl (f26 p ls [l'] _ a (a + 1) _ (hp.chg0 (hc83.trans c105)) (yG.one k105 (hlist.chg0 c105)) (by omega) hat (by omega) (by simp)) ?_
 rintro v106 w106 ⟨rfl, p106, c106⟩
 refine za1 [] (F' := []) rfl (Sr (Oa rfl (Oa rfl (Oa rfl (E3 6 7 8 rfl (zi ?_))))))
 refine ziy rfl rfl rfl rfl ?_
 refine ⟨rfl, ?_, ((hc83.trans c105).any (S := [p])).transS c106⟩
 rw [zcE, if_neg h8]
 exact p106
def zfC (l : List Ent) (key : ByteArray) : List Ent := l.take (lbN l key) ++ l.drop (lbN l key + 1)
def nth (ls : LE) (i : Nat) : List Ent := ls[i]?.getD []
def settle (ls : LE) (a : Nat) (l' : List Ent) : LE :=
 if 3 ≤ l'.length ∨ (ls.length = 1 ∧ 0 < l'.length) then ls.take a ++ [l'] ++ ls.drop (a + 1)
 else if ls.length = 1 then []
 else if a + 1 = ls.length then ls.take (a - 1) ++ zfb (nth ls (a - 1) ++ l') ++ ls.drop (a + 1)
 else ls.take a ++ zfb (l' ++ nth ls (a + 1)) ++ ls.drop (a + 2)
def zcC (ls : LE) (key : ByteArray) : LE :=
 match ls[yQ ls key - 1]? with
 | some l => if zdr l key then settle ls (yQ ls key - 1) (zfC l key) else ls
 | none => ls
theorem f11 (p : Nat) (ls : LE) (key : ByteArray) (w : World) (hp : Pg w p ls) (hw : WfP ls) (hn : ls.length ≤ 65536) :
 z9 TP 83 #[Pt p, .string key] w fun r w' => r = .tuple #[.string ((zce ls key).getD ⟨#[]⟩), .bool (zce ls key).isSome, Ii 0] ∧ Pg w' p (zcC ls key) ∧ zk [p] w w' := by
 obtain ⟨v, hb, hpg⟩ := id hp
 obtain ⟨vs, hsl, hal⟩ := id hpg
 obtain ⟨pv, cv, rfl, hlc⟩ := hsl.val
 refine A2 Tryz.func83 rfl rfl ?_
 refine Sr (Oa rfl (Oa rfl (Oa rfl (E2 0 1 rfl (ze (Sr (Om rfl ?_)))))))
 refine Og (zaC zn1 rfl rfl) rfl ?_
 refine E3 0 1 14 rfl (zb rfl (zm (Sr (Om rfl (Og (zF rfl) rfl (Od zaf rfl ?_))))))
 refine Ol zbw rfl (hb.cell' rfl) ?_
 refine Om rfl ?_
 refine Oc zt9 rfl rfl rfl (f24 (.slice pv ls.length cv) ls key w hpg hw.ne (by omega) hw.firsts hw.each (fun l hl => by have := hw.le l hl; omega)) ?_
 rintro v21 w21 ⟨rfl, c21⟩
 refine Om rfl (Oe rfl rfl (Oe rfl rfl (Oe rfl rfl (Oa rfl (Oa rfl (Oa rfl (E4 0 7 8 9 rfl (ze (Sr (Om rfl (Og (zO rfl) rfl (E4 0 7 8 26 rfl ?_))))))))))))
 refine zR rfl (fun hT => ?_) (fun hF => ?_)
 ·refine Sr (Oa rfl (Oa rfl (Oa rfl (E3 4 5 6 rfl (zi ?_)))))
  refine zbj ?_
  refine ziy rfl rfl rfl rfl ?_
  have hs : (spot ls key).2.2 = false := by simpa using hT
  have hg : zce ls key = none ∧ zcC ls key = ls := by
   unfold zce zcC
   unfold spot at hs
   cases hx : ls[yQ ls key - 1]? with
   | none => simp
   | some l => simp only [hx] at hs; simp [hs]
  rw [hg.1, hg.2]
  exact ⟨rfl, hp.chg0 c21, c21.any⟩
 refine zm ?_
 have hs : (spot ls key).2.2 = true := by simpa using hF
 obtain ⟨l, hget⟩ : ∃ l, ls[yQ ls key - 1]? = some l := by
  unfold spot at hs
  cases hx : ls[yQ ls key - 1]? with
  | none => simp [hx] at hs
  | some l => exact ⟨l, rfl⟩
 have hspot : spot ls key = (yQ ls key - 1, lbN l key, zdr l key) := by unfold spot; rw [hget]
 have hh : zdr l key = true := by rw [hspot] at hs; exact hs
 obtain ⟨old, hold⟩ := zer hh
 have hgp : zce ls key = some old := by unfold zce; rw [hget]; simp [hh, hold]
 have hpt : zcC ls key = settle ls (yQ ls key - 1) (zfC l key) := by unfold zcC; rw [hget]; simp [hh]
 have hat := (List.getElem?_eq_some_iff.1 hget).1
 have hmem := List.mem_of_getElem? hget
 have hl8 := hw.le _ hmem
 have hil := (List.getElem?_eq_some_iff.1 hold).1
 rw [hgp, hpt, hspot]
 dsimp only
 generalize ha : yQ ls key - 1 = a at *
 clear hspot hgp hpt hs hF
 obtain ⟨bb, off, cap, u, hv, hcell, hlu⟩ := (hpg.chg0 c21).at hget
 simp only [Value.slice.injEq] at hv
 obtain ⟨rfl, _, rfl⟩ := hv
 obtain ⟨bu, ou, cu, rfl, hcu⟩ := hlu.at' hold
 refine Sr (Om rfl (Og (zF rfl) rfl (Od zaf rfl ?_)))
 refine Ol zbw rfl ((hb.chg0 c21).cell' rfl) ?_
 refine Om rfl ?_
 refine Og (zf zaH zbm rfl rfl _ rfl hat) rfl ?_
 refine Ol zdC rfl hcell ?_
 refine Om rfl ?_
 refine Og (zf yJ zai rfl rfl _ rfl hil) rfl ?_
 refine Od zgl rfl ?_
 refine Ol ag9 rfl (hcu 1 _ rfl) ?_
 refine Oa rfl (E4 0 7 8 10 rfl (Sr (Om rfl (Og (zF rfl) rfl (Od zaf rfl ?_)))))
 refine Ol zbw rfl ((hb.chg0 c21).cell' rfl) ?_
 refine Om rfl ?_
 refine Og (zf zaH zbm rfl rfl _ rfl hat) rfl ?_
 refine Ol zdC rfl hcell ?_
 refine Oc zsf rfl rfl rfl (f25 _ _ _ _ hlu (by omega)) ?_
 rintro v45 w45 ⟨i45, n45, c45⟩
 refine Om rfl (Om rfl ?_)
 refine Og (zI rfl rfl (by omega)) rfl ?_
 refine Oc zwe rfl rfl rfl (f28 v45 (lbN l key) l.length (flat l) w45 i45 hil (by omega)) ?_
 rintro v49 w49 ⟨i49, c49, o49⟩
 refine Oa rfl (E4 0 7 10 11 rfl ?_)
 have htl : (zfC l key).length = l.length - 1 := by unfold zfC; simp; omega
 have hlist : yL w49 v49 (zfC l key) := by
  unfold yL
  rw [htl, zfC, zc2, zgT, zfl]
  have e : (lbN l key + 1) * 2 = lbN l key * 2 + 2 := by omega
  rw [e]
  exact i49
 have hc49 : zk [] w w49 := (c21.trans c45).own c49 (by intro x hx; have := n45 x hx; have := c21.size; omega)
 have hb49 := hb.chg0 hc49
 clear i49 c49 o49
 generalize zfC l key = l' at *
 obtain ⟨p49, q49, rfl, hq49⟩ := zv.val hlist
 refine yf (fun F' w' => F' = [(10, .string old)] ∧ Pg w' p (settle ls a l') ∧ zk [p] w w') ?_ ?_
 case refine_2 =>
  rintro F' w' ⟨rfl, hpp, hcc⟩
  refine Sr (Om rfl (Oa rfl (Oa rfl (Oa rfl (E3 4 5 6 rfl (zi ?_))))))
  refine ziy rfl rfl rfl rfl ?_
  exact ⟨rfl, hpp, hcc⟩
 refine zq (ze ?_)
 by_cases h3 : 3 ≤ l'.length
 ·
  refine za (Om rfl (On yJ rfl ?_))
  refine Og (vt (yp rfl rfl) (by simp; omega)) rfl ?_
  refine Om rfl ?_
  iterate 7 refine zdy rfl rfl rfl rfl rfl rfl ?_
  iterate 3 refine zG rfl rfl rfl rfl rfl ?_
  refine Oz rfl rfl (Ot rfl (Oa rfl (E5 0 7 10 11 84 rfl (zd rfl (za (Om rfl (Om rfl (Om rfl ?_))))))))
  refine Og (yE (v' := Ii ((a + 1 : Nat) : Int)) (zI rfl rfl (by omega)) (by congr 1)) rfl ?_
  refine Om rfl ?_
  refine zE (gn rfl) (zB zhf rfl (vs := [_]) rfl (css := [_]) ⟨rfl, trivial⟩ rfl rfl (cs := [_]) rfl rfl ?_)
  intro b106 w106 e106 n106 c106 k106
  refine Oc zhK rfl rfl rfl (f26 p ls [l'] _ a (a + 1) _ (hp.chg0 (hc49.trans c106)) (yG.one k106 (hlist.chg0 c106)) (by omega) hat (by omega) (by simp)) ?_
  rintro v107 w107 ⟨rfl, p107, c107⟩
  refine za9 [10] (F' := [(10, _)]) rfl ?_
  refine zl (zc1 ?_)
  refine ⟨rfl, ?_, ((hc49.trans c106).any (S := [p])).transS c107⟩
  rw [settle, if_pos (.inl h3)]
  exact p107
 by_cases h1 : ls.length = 1
 ·by_cases h0 : 0 < l'.length
  ·
   refine za (Om rfl (On yJ rfl ?_))
   refine Og (vf (yp rfl rfl) (by simp; omega)) rfl ?_
   refine Om rfl (Oj rfl rfl ?_)
   refine Oy rfl rfl (zF rfl) ?_
   refine Oy rfl rfl (zj zaf rfl) ?_
   refine Oy rfl rfl (zh zbw rfl (hb49.cell' rfl)) ?_
   refine Oy rfl rfl (yc zaH rfl) ?_
   refine Oy rfl rfl (vt (zw rfl rfl) (by simp; omega)) ?_
   refine Oj rfl rfl (Oj rfl rfl ?_)
   refine Oy rfl rfl (yc yJ rfl) ?_
   refine Oy rfl rfl (vt (yg rfl rfl) (by simp; omega)) ?_
   refine Oy rfl rfl (zL rfl rfl) ?_
   refine Of rfl (Oa rfl (E5 0 7 10 11 84 rfl (zd rfl (za (Om rfl (Om rfl (Om rfl ?_)))))))
   refine Og (yE (v' := Ii ((a + 1 : Nat) : Int)) (zI rfl rfl (by omega)) (by congr 1)) rfl ?_
   refine Om rfl ?_
   refine zE (gn rfl) (zB zhf rfl (vs := [_]) rfl (css := [_]) ⟨rfl, trivial⟩ rfl rfl (cs := [_]) rfl rfl ?_)
   intro b106 w106 e106 n106 c106 k106
   refine Oc zhK rfl rfl rfl (f26 p ls [l'] _ a (a + 1) _ (hp.chg0 (hc49.trans c106)) (yG.one k106 (hlist.chg0 c106)) (by omega) hat (by omega) (by simp)) ?_
   rintro v107 w107 ⟨rfl, p107, c107⟩
   refine za9 [10] (F' := [(10, _)]) rfl ?_
   refine zl (zc1 ?_)
   refine ⟨rfl, ?_, ((hc49.trans c106).any (S := [p])).transS c107⟩
   rw [settle, if_pos (.inr ⟨h1, h0⟩)]
   exact p107
  ·
   refine za (Om rfl (On yJ rfl ?_))
   refine Og (vf (yp rfl rfl) (by simp; omega)) rfl ?_
   refine Om rfl (Oj rfl rfl ?_)
   refine Oy rfl rfl (zF rfl) ?_
   refine Oy rfl rfl (zj zaf rfl) ?_
   refine Oy rfl rfl (zh zbw rfl (hb49.cell' rfl)) ?_
   refine Oy rfl rfl (yc zaH rfl) ?_
   refine Oy rfl rfl (vt (zw rfl rfl) (by simp; omega)) ?_
   refine Oj rfl rfl (Oj rfl rfl ?_)
   refine Oy rfl rfl (yc yJ rfl) ?_
   refine Oy rfl rfl (vf (yg rfl rfl) (decide_eq_false (by omega))) ?_
   refine Oy rfl rfl (zL rfl rfl) ?_
   refine Of rfl (Oa rfl (E5 0 7 10 11 84 rfl (zb rfl (Sr (Om rfl (Og (zF rfl) rfl (Od zaf rfl ?_)))))))
   refine Ol zbw rfl (hb49.cell' rfl) ?_
   refine On zaH rfl ?_
   refine Og (vt (zw rfl rfl) (by simp; omega)) rfl ?_
   refine Oa rfl (E5 0 7 10 11 108 rfl (zd rfl (za (Om rfl (Og (zF rfl) rfl (Od zaf rfl ?_))))))
   refine zE (gn rfl) (zu zhY rfl rfl rfl rfl hb49 (by simp) (by intro u hu; simp at hu; subst hu; rfl) ?_)
   intro wX nX cX kX
   refine za9 [10] (F' := [(10, _)]) rfl ?_
   refine zl (zc1 ?_)
   refine ⟨rfl, ?_, (hc49.any (S := [p])).transS cX⟩
   rw [settle, if_neg (by omega), if_pos h1]
   exact ⟨_, kX, ⟨[], zv.nil _ _ _, trivial⟩⟩
 ·
  refine za (Om rfl (On yJ rfl ?_))
  refine Og (vf (yp rfl rfl) (by simp; omega)) rfl ?_
  refine Om rfl (Oj rfl rfl ?_)
  refine Oy rfl rfl (zF rfl) ?_
  refine Oy rfl rfl (zj zaf rfl) ?_
  refine Oy rfl rfl (zh zbw rfl (hb49.cell' rfl)) ?_
  refine Oy rfl rfl (yc zaH rfl) ?_
  refine Oy rfl rfl (vf (zw rfl rfl) (by simp; omega)) ?_
  refine Oj rfl rfl ?_
  iterate 3 refine zdy rfl rfl rfl rfl rfl rfl ?_
  refine Oy rfl rfl (zT rfl rfl) ?_
  refine Of rfl (Oa rfl (E5 0 7 10 11 84 rfl (zb rfl (Sr (Om rfl (Og (zF rfl) rfl (Od zaf rfl ?_)))))))
  refine Ol zbw rfl (hb49.cell' rfl) ?_
  refine On zaH rfl ?_
  refine Og (vf (zw rfl rfl) (by simp; omega)) rfl ?_
  refine Oa rfl (E5 0 7 10 11 108 rfl (zb rfl ?_))
  by_cases hend : a + 1 = ls.length
  ·
   refine Sr (Om rfl ?_)
   refine Og (zgB ziS zbm zjW rfl (vs := [_]) rfl (css := [_]) ⟨rfl, trivial⟩ rfl rfl (cs := [_, _]) rfl) rfl ?_
   refine zE (gn rfl) (zH zjW rfl rfl ?_)
   intro b12 w12 e12 n12 c12 k12
   refine zE (gn rfl) (zu zjZ rfl rfl rfl rfl k12 (by simp) (by intro u hu; simp at hu; rcases hu with rfl | rfl <;> rfl) ?_)
   intro w50 n50 c50 k50
   refine E5 0 7 10 11 12 rfl ?_
   have hc50 : zk [] w49 w50 := c12.own c50 (by simp [← e12])
   have hcw : zk [] w w50 := hc49.trans hc50
   have hb50 := hb49.chg0 hc50
   refine ze (Sr (Om rfl (Om rfl (Og (zF rfl) rfl (Od zaf rfl ?_)))))
   refine Ol zbw rfl (hb50.cell' rfl) ?_
   refine On zaH rfl ?_
   refine Og (yN rfl rfl (by omega)) rfl ?_
   refine Og (vt (zw rfl rfl) (by simp; omega)) rfl ?_
   refine E6 0 7 10 11 12 59 rfl (zd rfl ?_)
   have hprev : ls[a - 1]? = some (nth ls (a - 1)) := by unfold nth; rw [List.getElem?_eq_getElem (by omega)]; rfl
   obtain ⟨b2, off2, cap2, u2, hv2, hcell2, hlu2⟩ := (hpg.chg0 hcw).at hprev
   simp only [Value.slice.injEq, Option.some.injEq, Addr.mk.injEq, and_true] at hv2
   obtain ⟨⟨rfl, rfl⟩, _⟩ := hv2
   obtain ⟨pu2, qu2, rfl, _⟩ := zv.val hlu2
   refine Sr (Om rfl ?_)
   refine Og (yE (v' := Ii ((a - 1 : Nat) : Int)) (yN rfl rfl (by omega)) (by congr 1; omega)) rfl ?_
   refine Oa rfl (E5 0 7 10 11 12 rfl (za (Om rfl (Og (zF rfl) rfl (Od zaf rfl ?_)))))
   refine Ol zbw rfl (hb50.cell' rfl) ?_
   refine Om rfl ?_
   refine Og (zf zaH zbm rfl rfl _ rfl (by omega)) rfl ?_
   refine Ol zdC rfl hcell2 ?_
   refine Om rfl ?_
   refine Og (zgB ziS zbm zjW rfl (vs := [_, _]) rfl (css := [_, _]) ⟨rfl, rfl, trivial⟩ rfl rfl (cs := [_, _]) rfl) rfl ?_
   refine zE (gn rfl) (zu zjZ rfl rfl rfl rfl k50 (by simp [yU]) (by intro u hu; simp at hu; rcases hu with rfl | rfl <;> rfl) ?_)
   intro w70 n70 c70 k70
   refine E4 0 7 10 12 rfl ?_
   have hc70 : zk [] w49 w70 := c12.own (c50.transS c70) (by simp [← e12])
   refine za (Om rfl (Om rfl ?_))
   refine Og (zg zsm zjZ rfl rfl (zy.of_blk0 k70)) rfl ?_
   refine Oc zsz rfl rfl rfl (f29 p ls _ _ (nth ls (a - 1)) l' (a - 1) _ (hp.chg0 (hc49.trans hc70)) ((hlu2.chg c70 (zv.apart hlu2 k50 rfl))) (hlist.chg0 hc70) (by omega) (by omega) (by have := hw.le _ (List.mem_of_getElem? hprev); omega) (by omega)) ?_
   rintro v83 w83 ⟨rfl, p83, c83⟩
   refine za9 [10] (F' := [(10, _)]) rfl ?_
   refine zl (zc1 ?_)
   refine ⟨rfl, ?_, ((hc49.trans hc70).any (S := [p])).transS c83⟩
   rw [settle, if_neg (by omega), if_neg h1, if_pos hend]
   rw [show a - 1 + 2 = a + 1 by omega] at p83
   exact p83
  ·
   refine Sr (Om rfl ?_)
   refine Og (zgB ziS zbm zjW rfl (vs := [_]) rfl (css := [_]) ⟨rfl, trivial⟩ rfl rfl (cs := [_, _]) rfl) rfl ?_
   refine zE (gn rfl) (zH zjW rfl rfl ?_)
   intro b12 w12 e12 n12 c12 k12
   refine zE (gn rfl) (zu zjZ rfl rfl rfl rfl k12 (by simp) (by intro u hu; simp at hu; rcases hu with rfl | rfl <;> rfl) ?_)
   intro w50 n50 c50 k50
   refine E5 0 7 10 11 12 rfl ?_
   have hc50 : zk [] w49 w50 := c12.own c50 (by simp [← e12])
   have hcw : zk [] w w50 := hc49.trans hc50
   have hb50 := hb49.chg0 hc50
   refine ze (Sr (Om rfl (Om rfl (Og (zF rfl) rfl (Od zaf rfl ?_)))))
   refine Ol zbw rfl (hb50.cell' rfl) ?_
   refine On zaH rfl ?_
   refine Og (yN rfl rfl (by omega)) rfl ?_
   refine Og (vf (zw rfl rfl) (by simp; omega)) rfl ?_
   refine E6 0 7 10 11 12 59 rfl (zb rfl ?_)
   have hnext : ls[a + 1]? = some (nth ls (a + 1)) := by unfold nth; rw [List.getElem?_eq_getElem (by omega)]; rfl
   obtain ⟨b2, off2, cap2, u2, hv2, hcell2, hlu2⟩ := (hpg.chg0 hcw).at hnext
   simp only [Value.slice.injEq, Option.some.injEq, Addr.mk.injEq, and_true] at hv2
   obtain ⟨⟨rfl, rfl⟩, _⟩ := hv2
   obtain ⟨pu2, qu2, rfl, _⟩ := zv.val hlu2
   refine za (Om rfl (Og (zF rfl) rfl (Od zaf rfl ?_)))
   refine Ol zbw rfl (hb50.cell' rfl) ?_
   refine Om rfl ?_
   refine Og (yE (v' := Ii ((a + 1 : Nat) : Int)) (zI rfl rfl (by omega)) (by congr 1)) rfl ?_
   refine Og (zf zaH zbm rfl rfl _ rfl (by omega)) rfl ?_
   refine Ol zdC rfl hcell2 ?_
   refine Og (zba ziS zbm rfl rfl 1 rfl (by omega)) rfl ?_
   refine zE (gn rfl) (zu zbm rfl rfl rfl rfl k50 (by simp [yU]) (by intro u hu; simp at hu; subst hu; rfl) ?_)
   intro w70 n70 c70 k70
   refine E4 0 7 10 12 rfl ?_
   have hc70 : zk [] w49 w70 := c12.own (c50.transS c70) (by simp [← e12])
   refine za (Om rfl (Om rfl ?_))
   refine Og (zg zsm zjZ rfl rfl (zy.of_blk0 k70)) rfl ?_
   refine Oc zsz rfl rfl rfl (f29 p ls _ _ l' (nth ls (a + 1)) a _ (hp.chg0 (hc49.trans hc70)) (hlist.chg0 hc70) (hlu2.chg c70 (zv.apart hlu2 k50 rfl)) (by omega) (by omega) (by omega) (by have := hw.le _ (List.mem_of_getElem? hnext); omega)) ?_
   rintro v83 w83 ⟨rfl, p83, c83⟩
   refine za9 [10] (F' := [(10, _)]) rfl ?_
   refine zl (zc1 ?_)
   refine ⟨rfl, ?_, ((hc49.trans hc70).any (S := [p])).transS c83⟩
   rw [settle, if_neg (by omega), if_neg h1, if_neg hend]
   exact p83
theorem f9 (w : World) : z9 TP 44 #[] w fun r w' => ∃ p, r = Pt p ∧ w.heap.size ≤ p ∧ Pg w' p [] ∧ zk [] w w' := by
 refine z9.of_W (args := []) Tryz.func44 rfl rfl rfl rfl ?_
 refine Sr (Oa rfl (za1 [] (F' := []) rfl (Sr ?_)))
 refine Og (z6 zsw zr8 rfl (vs := []) rfl (css := []) trivial rfl rfl (cs := [_]) rfl) rfl ?_
 refine Ob rfl rfl ?_
 intro b2 w2 e2 n2 c2 k2
 refine Oa rfl (E1 0 rfl (zi ?_))
 refine zD rfl rfl ?_
 exact ⟨b2, rfl, by omega, ⟨_, k2, [], zv.nil _ _ _, trivial⟩, c2⟩
theorem zen {ls : LE} {i : Nat} {x : List Ent} (h : ls[i]? = some x) : (ls.take (i + 1)).flatten = (ls.take i).flatten ++ x := by
 rw [List.take_add_one, h]
 simp
theorem zkj {ls : LE} (h : ∀ l ∈ ls, l.length ≤ 8) (i : Nat) : (ls.take i).flatten.length ≤ 8 * i := by
 induction i with
 | zero => simp
 | succ i ih =>
  cases hx : ls[i]? with
  | none =>
   rw [List.take_add_one, hx]
   simp at ih ⊢
   omega
  | some x =>
   rw [zen hx, List.length_append]
   have := h x (List.mem_of_getElem? hx)
   omega
theorem f30 (v : Value) (ls : LE) (w : World) (hp : yG w v ls) (h8 : ∀ l ∈ ls, l.length ≤ 8) (hn : ls.length ≤ 65536) :
 z9 TP 86 #[v] w fun r w' => r = Ii (ls.flatten.length : Nat) ∧ w' = w := by
 obtain ⟨vs, hsl, hal⟩ := id hp
 obtain ⟨p, c, rfl, _⟩ := hsl.val
 refine A1 Tryz.func86 rfl rfl ?_
 refine Sr (Oa rfl (E2 0 2 rfl (ze (Sr (Om rfl (On zaH rfl (Om rfl (E4 2 5 6 7 rfl (zq ?_)))))))))
 refine zW [2, 5, 6, 7] (fun m F wx => wx = w ∧ ∃ j : Nat, m = ls.length - j ∧ j ≤ ls.length ∧ F = [(2, Ii ((ls.take j).flatten.length : Nat)), (5, .slice p ls.length c), (6, Ii ls.length), (7, Ii j)]) (m := ls.length - 0) ⟨rfl, 0, rfl, Nat.zero_le _, rfl⟩ ?_
 rintro m F wx ⟨rfl, j, rfl, hj, rfl⟩
 have hb := zkj h8 j
 refine Sr (Og (zC rfl rfl) rfl (E5 2 5 6 7 8 rfl (ze ?_)))
 refine zR rfl (fun hT => ?_) (fun hF => ?_)
 ·refine zm ?_
  have hlt : j < ls.length := by simpa using hT
  have hx : ls[j]? = some ls[j] := by simp [hlt]
  have hx8 := h8 _ (List.mem_of_getElem? hx)
  obtain ⟨b, off, cap, u, hv, hc, hl⟩ := hp.at hx
  cases hv
  obtain ⟨pu, cu, rfl, _⟩ := zv.val hl
  refine ze (zq (Sr ?_))
  refine Og (zf zaH zbm rfl rfl _ rfl hlt) rfl ?_
  refine Ol zdC rfl hc ?_
  refine Oa rfl (E5 2 4 5 6 7 rfl (za (Om rfl (Om rfl (On yJ rfl ?_)))))
  refine Og (zI rfl rfl (by omega)) rfl ?_
  refine Oa rfl (N4 2 5 6 7 rfl (zl (za ?_)))
  refine Og (zI rfl rfl (by omega)) rfl ?_
  refine Om rfl (N4 2 5 6 7 rfl ?_)
  refine ⟨ls.length - (j + 1), by omega, rfl, j + 1, rfl, by omega, ?_⟩
  have e : (((ls.take (j + 1)).flatten.length : Nat) : Int) = ((ls.take j).flatten.length : Nat) + (ls[j].length : Nat) := by rw [zen hx, List.length_append]; omega
  rw [e]
  rfl
 refine zM ?_
 repeat first | refine te ?_ | refine bo rfl ?_
 refine zt _ ?_
 have he : j = ls.length := by
  have : ¬ (j < ls.length) := by simpa using hF
  omega
 subst he
 refine Sr (Om rfl (Oa rfl (E1 2 rfl (zi ?_))))
 refine zD rfl rfl ?_
 rw [List.take_length]
 exact ⟨rfl, rfl⟩
theorem f13 (p : Nat) (ls : LE) (w : World) (hp : Pg w p ls) (h8 : ∀ l ∈ ls, l.length ≤ 8) (hn : ls.length ≤ 65536) :
 z9 TP 53 #[Pt p] w fun r w' => r = Ii (ls.flatten.length : Nat) ∧ w' = w := by
 obtain ⟨v, hb, hpg⟩ := id hp
 refine A1 Tryz.func53 rfl rfl ?_
 refine Sr (Oa rfl (E1 0 rfl (ze (Sr (Om rfl ?_)))))
 refine Og (zaC zn1 rfl rfl) rfl ?_
 refine E2 0 4 rfl (zb rfl (zm (Sr (Om rfl (Og (zF rfl) rfl (Od zaf rfl ?_))))))
 refine Ol zbw rfl (hb.cell' rfl) ?_
 refine Oc zx5 rfl rfl rfl (f30 v ls w hpg h8 hn) ?_
 rintro v9 w9 ⟨rfl, rfl⟩
 refine Oa rfl (E1 2 rfl (zi ?_))
 refine zD rfl rfl ?_
 exact ⟨rfl, rfl⟩
theorem f15 (p : Nat) (ls : LE) (key : ByteArray) (w : World) (hp : Pg w p ls) (hw : WfP ls) (hn : ls.length ≤ 65536) :
 z9 TP 65 #[Pt p, .string key] w fun r w' => r = .tuple #[.string ((zce ls key).getD ⟨#[]⟩), .bool (zce ls key).isSome] ∧ zk [] w w' := by
 obtain ⟨v, hb, hpg⟩ := id hp
 obtain ⟨vs, hsl, hal⟩ := id hpg
 obtain ⟨pv, cv, rfl, hlc⟩ := hsl.val
 refine A2 Tryz.func65 rfl rfl ?_
 refine Sr (Oa rfl (Oa rfl (E2 0 1 rfl (ze (Sr (Om rfl ?_))))))
 refine Og (zaC zn1 rfl rfl) rfl ?_
 refine E3 0 1 10 rfl (zb rfl (zm (Sr (Om rfl (Og (zF rfl) rfl (Od zaf rfl ?_))))))
 refine Ol zbw rfl (hb.cell' rfl) ?_
 refine Om rfl ?_
 refine Oc zt9 rfl rfl rfl (f24 (.slice pv ls.length cv) ls key w hpg hw.ne (by omega) hw.firsts hw.each (fun l hl => by have := hw.le l hl; omega)) ?_
 rintro v17 w17 ⟨rfl, c21⟩
 refine Om rfl (Oe rfl rfl (Oe rfl rfl (Oe rfl rfl (Oa rfl (Oa rfl (Oa rfl (E4 0 6 7 8 rfl (ze (Sr (Om rfl (Og (zO rfl) rfl (E4 0 6 7 22 rfl ?_))))))))))))
 refine zR rfl (fun hT => ?_) (fun hF => ?_)
 ·refine Sr (Oa rfl (Oa rfl (E2 4 5 rfl (zi ?_))))
  refine zbj ?_
  refine zaV rfl rfl rfl ?_
  have hs : (spot ls key).2.2 = false := by simpa using hT
  have hg : zce ls key = none := by
   unfold zce
   unfold spot at hs
   cases hx : ls[yQ ls key - 1]? with
   | none => simp
   | some l => simp only [hx] at hs; simp [hs]
  rw [hg]
  exact ⟨rfl, c21⟩
 refine zm ?_
 have hs : (spot ls key).2.2 = true := by simpa using hF
 obtain ⟨l, hget⟩ : ∃ l, ls[yQ ls key - 1]? = some l := by
  unfold spot at hs
  cases hx : ls[yQ ls key - 1]? with
  | none => simp [hx] at hs
  | some l => exact ⟨l, rfl⟩
 have hspot : spot ls key = (yQ ls key - 1, lbN l key, zdr l key) := by unfold spot; rw [hget]
 have hh : zdr l key = true := by rw [hspot] at hs; exact hs
 obtain ⟨old, hold⟩ := zer hh
 have hgp : zce ls key = some old := by unfold zce; rw [hget]; simp [hh, hold]
 have hat := (List.getElem?_eq_some_iff.1 hget).1
 have hil := (List.getElem?_eq_some_iff.1 hold).1
 rw [hgp, hspot]
 dsimp only
 obtain ⟨bb, off, cap, u, hv, hcell, hlu⟩ := (hpg.chg0 c21).at hget
 simp only [Value.slice.injEq] at hv
 obtain ⟨rfl, _, rfl⟩ := hv
 obtain ⟨bu, ou, cu, rfl, hcu⟩ := hlu.at' hold
 refine Sr (Om rfl (Og (zF rfl) rfl (Od zaf rfl ?_)))
 refine Ol zbw rfl ((hb.chg0 c21).cell' rfl) ?_
 refine Om rfl ?_
 refine Og (zf zaH zbm rfl rfl _ rfl hat) rfl ?_
 refine Ol zdC rfl hcell ?_
 refine Om rfl ?_
 refine Og (zf yJ zai rfl rfl _ rfl hil) rfl ?_
 refine Od zgl rfl ?_
 refine Ol ag9 rfl (hcu 1 _ rfl) ?_
 refine Oa rfl (Oa rfl (E2 4 5 rfl (zi ?_)))
 refine zaV rfl rfl rfl ?_
 exact ⟨rfl, c21⟩
theorem f19 (p : Nat) (ls : LE) (w : World) (hp : Pg w p ls) (hn : ls.length ≤ 65536) :
 z9 TP 72 #[Pt p] w fun r w' => ∃ q, r = Pt q ∧ w.heap.size ≤ q ∧ Pg w' q ls ∧ zk [] w w' := by
 obtain ⟨v, hb, hpg⟩ := id hp
 obtain ⟨vs, hsl, hal⟩ := id hpg
 refine A1 Tryz.func72 rfl rfl ?_
 refine Sr (Oa rfl (E1 0 rfl (ze (Sr (Om rfl ?_)))))
 refine Og (zaC zn1 rfl rfl) rfl ?_
 refine E2 0 4 rfl (zb rfl (zm (Sr (Om rfl (Og (zF rfl) rfl (Od zaf rfl ?_))))))
 refine Ol zbw rfl (hb.cell' rfl) ?_
 refine Oc zvS rfl rfl rfl (f31 v ls.length vs w hsl (by omega)) ?_
 rintro v9 w9 ⟨i9, n9, c9⟩
 obtain ⟨p9, q9, rfl, _⟩ := i9.val
 refine Og (z6 zsw zr8 rfl (vs := [_]) rfl (css := [_]) ⟨rfl, trivial⟩ rfl rfl (cs := [_]) rfl) rfl ?_
 refine Ob rfl rfl ?_
 intro b11 w11 e11 n11 c11 k11
 refine Oa rfl (E1 2 rfl (zi ?_))
 refine zD rfl rfl ?_
 have hs9 := c9.size
 exact ⟨b11, rfl, by omega, ⟨_, k11, vs, i9.chg0 c11, (hal.chg (c9.trans c11) (by simp))⟩, c9.trans c11⟩
end Go.Wk
