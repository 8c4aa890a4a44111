/- joined texts -/
import Derived.Test.YtcnkdoecfljnlaaGreatDoorY5
import Derived.Laws.RangeString
import Derived.Laws.RangeAny
set_option linter.all false
namespace Go.Wk
open Go.Proofs
set_option maxRecDepth 10000
structure zdt (s : yo) (rows : LV) (st : List Int) (ps : LE) : Prop where
 wf : WfP ps
 wide : zee ps
 mem : ∀ k v, (k, v) ∈ ps.flatten ↔ ∃ r ∈ rows, nnS (zZ r st) = true ∧ k = zb8 (zZ r st) ∧ v = zV s r
inductive zaN (s : yo) (rows : LV) : List (List Int) → List (LE) → Prop
 | nil : zaN s rows [] []
 | cons {st ps sts pss} : zdt s rows st ps → zaN s rows sts pss → zaN s rows (st :: sts) (ps :: pss)
structure zbE (s : yo) (rows : LV) (main : LE) (subs : List (LE)) : Prop where
 ok : y4 s rows
 flat : main.flatten = rows.map fun r => (zV s r, zdG s r)
 wf : WfP main
 wide : zee main
 subs : zaN s rows (zN s) subs
theorem zaN.at' {s : yo} {rows : LV} : ∀ {sts : List (List Int)} {pss : List (LE)} {j : Nat} {st : List Int}, zaN s rows sts pss → sts[j]? = some st → ∃ ps, pss[j]? = some ps ∧ zdt s rows st ps
 | _, _, _, _, .nil, h => by simp at h
 | _, _, 0, _, .cons h1 _, h => by simp at h; subst h; exact ⟨_, rfl, h1⟩
 | _, _, j + 1, _, .cons _ h2, h => by simpa using h2.at' (by simpa using h)
theorem zee.cap {ls : LE} (h3 : zee ls) {n : Nat} (h : ls.flatten.length ≤ n) : ls.length ≤ n + 1 := by
 rcases Nat.lt_or_ge 1 ls.length with h1 | h1
 ·have := h3.len h1; omega
 omega
theorem zic {α : Type} [DecidableEq α] : ∀ {l m : List α}, l.Nodup → (∀ x ∈ l, x ∈ m) → l.length ≤ m.length
 | [], m, _, _ => by simp
 | x :: l, m, h, hm => by
  have h' := List.nodup_cons.1 h
  have hx := hm x (by simp)
  have := zic (l := l) (m := m.erase x) h'.2 fun y hy => (List.mem_erase_of_ne (by rintro rfl; exact h'.1 hy)).2 (hm y (by simp [hy]))
  rw [List.length_erase_of_mem hx] at this
  have := List.length_pos_of_mem hx
  simp only [List.length_cons]
  omega
theorem zdt.le {s : yo} {rows : LV} (h : y4 s rows) {st : List Int} {ps : LE} (hs : zdt s rows st ps) : ps.length ≤ 401 := by
 refine hs.wide.cap (n := 400) (Nat.le_trans ?_ h.le)
 have e : ps.flatten.length = (ps.flatten.map (·.2)).length := by rw [List.length_map]
 have e2 : rows.length = (rows.map (zV s)).length := by rw [List.length_map]
 rw [e, e2]
 refine zic ?_ ?_
 ·rw [List.nodup_iff_pairwise_ne, List.pairwise_map]
  refine hs.wf.srt.imp_of_mem fun {a b} ha hb hlt e => ?_
  obtain ⟨r, hr, _, hk, hv⟩ := (hs.mem a.1 a.2).1 ha
  obtain ⟨r', hr', _, hk', hv'⟩ := (hs.mem b.1 b.2).1 hb
  have := h.uniq hr hr' (by rw [← hv, ← hv', e])
  subst this
  rw [hk, hk', zaQ] at hlt
  cases hlt
 intro x hx
 rw [List.mem_map] at hx
 obtain ⟨⟨k, v⟩, hx, rfl⟩ := hx
 obtain ⟨r, hr, _, _, hv⟩ := (hs.mem k v).1 hx
 exact List.mem_map.2 ⟨r, hr, hv.symm⟩
theorem zbE.le {s : yo} {rows : LV} {main : LE} {subs : List (LE)} (h : zbE s rows main subs) : main.length ≤ 401 :=
 h.wide.cap (n := 400) (by rw [h.flat, List.length_map]; exact h.ok.le)
theorem zbE.get {s : yo} {rows : LV} {main : LE} {subs : List (LE)} (h : zbE s rows main subs) (k : ByteArray) : zce main k = (zca s rows k).map (zdG s) := by
 cases hg : zca s rows k with
 | none =>
  refine zjD h.wf fun v hv => ?_
  rw [h.flat, List.mem_map] at hv
  obtain ⟨r, hr, he⟩ := hv
  exact zj1 hg r hr (by simpa using congrArg Prod.fst he)
 | some r =>
  obtain ⟨h1, h2⟩ := zcz hg
  refine (zeV h.wf).2 ?_
  rw [h.flat, List.mem_map]
  exact ⟨r, h1, by rw [h2]⟩
def zcW (rows : LV) (st : List Int) (vals : List zQ) : Option (List zQ) := rows.find? fun r => nnS (zZ r st) && decide (zZ r st = vals)
theorem zdt.get {s : yo} {rows : LV} (h : y4 s rows) {st : List Int} (hst : st ∈ zN s) {ps : LE} (hs : zdt s rows st ps) {vals : List zQ} (hv : ∀ x ∈ vals, zbR x = true ∧ x.Rng) :
 zce ps (zb8 vals) = (zcW rows st vals).map (zV s) := by
 cases hg : zcW rows st vals with
 | none =>
  refine zjD hs.wf fun v hm => ?_
  obtain ⟨r, hr, hn, hk, _⟩ := (hs.mem _ _).1 hm
  have := List.find?_eq_none.1 hg r hr
  simp only [Bool.and_eq_true, decide_eq_true_eq, not_and] at this
  exact this hn (zgg hv (zdQ (h.fit r hr) (h.rng r hr) hst) hk).symm
 | some r =>
  have h1 := List.mem_of_find?_eq_some hg
  have h2 := List.find?_some hg
  simp only [Bool.and_eq_true, decide_eq_true_eq] at h2
  exact (zeV hs.wf).2 ((hs.mem _ _).2 ⟨r, h1, h2.1, by rw [h2.2], rfl⟩)
def zgZ (row : List zQ) (k : ByteArray) : List (List Int) → List (LE) → List (LE)
 | st :: sts, ps :: pss => (if nnS (zZ row st) then zfs ps (zb8 (zZ row st)) k else ps) :: zgZ row k sts pss
 | _, _ => []
def ze1 (row : List zQ) : List (List Int) → List (LE) → List (LE)
 | st :: sts, ps :: pss => (if nnS (zZ row st) then zcC ps (zb8 (zZ row st)) else ps) :: ze1 row sts pss
 | _, _ => []
theorem zdt.come {s : yo} {rows : LV} (h : y4 s rows) {row : List zQ} (hf : yV s row = 0) (hg : ∀ x ∈ row, x.Rng) (hc : ∀ r ∈ rows, yM s r row = false) {st : List Int} (hst : st ∈ zN s) {ps : LE} (hs : zdt s rows st ps) :
 zdt s (zbY s rows row) st (if nnS (zZ row st) then zfs ps (zb8 (zZ row st)) (zV s row) else ps) := by
 cases hn : nnS (zZ row st) with
 | false =>
  rw [if_neg (by simp)]
  refine ⟨hs.wf, hs.wide, fun k v => ?_⟩
  rw [hs.mem]
  constructor
  ·rintro ⟨r, hr, h1⟩; exact ⟨r, zb6.2 (.inr hr), h1⟩
  rintro ⟨r, hr, h1⟩
  rcases zb6.1 hr with rfl | hr
  ·rw [hn] at h1; cases h1.1
  exact ⟨r, hr, h1⟩
 | true =>
  rw [if_pos rfl]
  refine ⟨hs.wf.put _ _, hs.wide.put _ _, fun k v => ?_⟩
  rw [zmJ hs.wf, hs.mem]
  constructor
  ·rintro (e | ⟨_, r, hr, h1⟩)
   ·obtain ⟨rfl, rfl⟩ := Prod.mk.inj e
    exact ⟨row, zb6.2 (.inl rfl), hn, rfl, rfl⟩
   exact ⟨r, zb6.2 (.inr hr), h1⟩
  rintro ⟨r, hr, h1, rfl, rfl⟩
  rcases zb6.1 hr with rfl | hr
  ·exact .inl rfl
  refine .inr ⟨fun e => ?_, r, hr, h1, rfl, rfl⟩
  have e2 := zgg (zdQ (h.fit r hr) (h.rng r hr) hst) (zdQ hf hg hst) e
  have := zcP.2 ⟨st, hst, h1, e2⟩
  rw [hc r hr] at this; cases this
theorem zaN.come {s : yo} {rows : LV} (h : y4 s rows) {row : List zQ} (hf : yV s row = 0) (hg : ∀ x ∈ row, x.Rng) (hc : ∀ r ∈ rows, yM s r row = false) : ∀ {sts : List (List Int)} {pss : List (LE)}, (∀ st ∈ sts, st ∈ zN s) → zaN s rows sts pss →
 zaN s (zbY s rows row) sts (zgZ row (zV s row) sts pss)
 | _, _, _, .nil => .nil
 | _, _, hm, .cons h1 h2 => .cons (h1.come h hf hg hc (hm _ (by simp))) (zaN.come h hf hg hc (fun st hs => hm st (by simp [hs])) h2)
theorem zno {s : yo} {rows : LV} (h : y4 s rows) : Srt (rows.map fun r => (zV s r, zdG s r)) := by
 unfold Srt
 rw [List.pairwise_map]
 exact h.srt
theorem zbE.come {s : yo} {rows : LV} {main : LE} {subs : List (LE)} (h : zbE s rows main subs) {row : List zQ} (hf : yV s row = 0) (hg : ∀ x ∈ row, x.Rng) (hc : ∀ r ∈ rows, yM s r row = false) (hl : rows.length < 400) :
 zbE s (zbY s rows row) (zfs main (zV s row) (zdG s row)) (zgZ row (zV s row) (zN s) subs) := by
 have hok := h.ok.ins hf hg hc hl
 refine ⟨hok, ?_, h.wf.put _ _, h.wide.put _ _, zaN.come h.ok hf hg hc (fun _ h => h) h.subs⟩
 refine zju (h.wf.put _ _).srt (zno hok) fun x => ?_
 rw [zmJ h.wf, h.flat]
 simp only [List.mem_map]
 constructor
 ·rintro (rfl | ⟨_, r, hr, rfl⟩)
  ·exact ⟨row, zb6.2 (.inl rfl), rfl⟩
  exact ⟨r, zb6.2 (.inr hr), rfl⟩
 rintro ⟨r, hr, rfl⟩
 rcases zb6.1 hr with rfl | hr
 ·exact .inl rfl
 refine .inr ⟨fun e => ?_, r, hr, rfl⟩
 have := zhU (h.ok.fit r hr) hf (h.ok.rng r hr) hg e
 rw [hc r hr] at this; cases this
theorem zdt.leave {s : yo} {rows : LV} (h : y4 s rows) {row : List zQ} (hr : row ∈ rows) {st : List Int} (hst : st ∈ zN s) {ps : LE} (hs : zdt s rows st ps) :
 zdt s (yX s rows (zV s row)) st (if nnS (zZ row st) then zcC ps (zb8 (zZ row st)) else ps) := by
 cases hn : nnS (zZ row st) with
 | false =>
  rw [if_neg (by simp)]
  refine ⟨hs.wf, hs.wide, fun k v => ?_⟩
  rw [hs.mem]
  constructor
  ·rintro ⟨r, hr', h1⟩
   refine ⟨r, zdB.2 ⟨hr', fun e => ?_⟩, h1⟩
   rw [h.uniq hr' hr e, hn] at h1; cases h1.1
  rintro ⟨r, hr', h1⟩; exact ⟨r, (zdB.1 hr').1, h1⟩
 | true =>
  rw [if_pos rfl]
  refine ⟨hs.wf.take _, hs.wide.take _, fun k v => ?_⟩
  rw [zjX hs.wf, hs.mem]
  constructor
  ·rintro ⟨hne, r, hr', h1, rfl, rfl⟩
   refine ⟨r, zdB.2 ⟨hr', fun e => hne ?_⟩, h1, rfl, rfl⟩
   rw [h.uniq hr' hr e]
  rintro ⟨r, hr', h1, rfl, rfl⟩
  obtain ⟨h2, h3⟩ := zdB.1 hr'
  refine ⟨fun e => h3 ?_, r, h2, h1, rfl, rfl⟩
  have e2 := zgg (zdQ (h.fit r h2) (h.rng r h2) hst) (zdQ (h.fit row hr) (h.rng row hr) hst) e
  rw [h.uniqC h2 hr (zcP.2 ⟨st, hst, h1, e2⟩)]
theorem zaN.leave {s : yo} {rows : LV} (h : y4 s rows) {row : List zQ} (hr : row ∈ rows) : ∀ {sts : List (List Int)} {pss : List (LE)}, (∀ st ∈ sts, st ∈ zN s) → zaN s rows sts pss →
 zaN s (yX s rows (zV s row)) sts (ze1 row sts pss)
 | _, _, _, .nil => .nil
 | _, _, hm, .cons h1 h2 => .cons (h1.leave h hr (hm _ (by simp))) (zaN.leave h hr (fun st hs => hm st (by simp [hs])) h2)
theorem zbE.leave {s : yo} {rows : LV} {main : LE} {subs : List (LE)} (h : zbE s rows main subs) {row : List zQ} (hr : row ∈ rows) :
 zbE s (yX s rows (zV s row)) (zcC main (zV s row)) (ze1 row (zN s) subs) := by
 have hok := h.ok.less (zV s row)
 refine ⟨hok, ?_, h.wf.take _, h.wide.take _, zaN.leave h.ok hr (fun _ h => h) h.subs⟩
 refine zju (h.wf.take _).srt (zno hok) fun x => ?_
 rw [zjX h.wf, h.flat]
 simp only [List.mem_map]
 constructor
 ·rintro ⟨hne, r, hr', rfl⟩
  exact ⟨r, zdB.2 ⟨hr', hne⟩, rfl⟩
 rintro ⟨r, hr', rfl⟩
 obtain ⟨h1, h2⟩ := zdB.1 hr'
 exact ⟨h2, r, h1, rfl⟩
def dropK (s : yo) (rows : LV) (ks : List ByteArray) : LV := rows.filter fun r => !(ks.any fun k => decide (k = zV s r))
theorem znL (s : yo) (rows : LV) : dropK s rows [] = rows := by
 unfold dropK
 rw [List.filter_eq_self]
 intro r _
 simp
theorem zl9 (s : yo) (rows : LV) (ks : List ByteArray) (k : ByteArray) : yX s (dropK s rows ks) k = dropK s rows (ks ++ [k]) := by
 unfold yX dropK
 rw [List.filter_filter]
 refine List.filter_congr fun r _ => ?_
 rw [List.any_append, Bool.not_or, Bool.and_comm]
 congr 1
 rw [Bool.eq_iff_iff]
 simp
 exact ⟨fun h e => h e.symm, fun h e => h e.symm⟩
theorem zn3 {s : yo} {rows : LV} {ks : List ByteArray} {r : List zQ} : r ∈ dropK s rows ks ↔ r ∈ rows ∧ zV s r ∉ ks := by
 simp only [dropK, List.mem_filter, Bool.not_eq_true', List.any_eq_false, decide_eq_true_eq]
 exact ⟨fun h => ⟨h.1, fun hm => h.2 _ hm rfl⟩, fun h => ⟨h.1, fun k hk e => h.2 (e ▸ hk)⟩⟩
theorem zmg {s : yo} {rows : LV} (h : y4 s rows) (row : List zQ) : dropK s rows ((zar s rows row).map (zV s)) = zcy s rows row := by
 unfold dropK zcy
 refine List.filter_congr fun r hr => ?_
 congr 1
 rw [Bool.eq_iff_iff]
 simp only [List.any_eq_true, decide_eq_true_eq, List.mem_map, zar, List.mem_filter]
 constructor
 ·rintro ⟨k, ⟨r', ⟨h1, h2⟩, rfl⟩, h3⟩
  rw [← h.uniq h1 hr h3]; exact h2
 intro hc; exact ⟨_, ⟨r, ⟨hr, hc⟩, rfl⟩, rfl⟩
theorem y4.dropK {s : yo} {rows : LV} (h : y4 s rows) (ks : List ByteArray) : y4 s (dropK s rows ks) := h.sub List.filter_sublist
theorem zjb {s : yo} {rows : LV} {row : List zQ} : ∀ r ∈ zcy s rows row, yM s r row = false := by
 intro r hr
 simp only [zcy, List.mem_filter, Bool.not_eq_true'] at hr
 exact hr.2
theorem zfy (s : yo) (row : List zQ) : ∀ rows : LV, (zar s rows row).length + (zcy s rows row).length = rows.length
 | [] => rfl
 | r :: rows => by
  have := zfy s row rows
  unfold zar zcy at *
  cases hc : yM s r row <;> simp [List.filter_cons, hc] <;> omega
theorem zol {s : yo} {rows : LV} {row : List zQ} (he : zdv s rows row = 0) : yV s row = 0 ∧ (zcy s rows row).length < 400 := by
 unfold zdv at he
 by_cases h1 : yV s row = 0
 ·rw [if_neg (by simp [h1])] at he
  split at he
  ·simp at he
  exact ⟨h1, by omega⟩
 rw [if_pos h1] at he; exact absurd he h1
theorem zp5 {s : yo} {rows : LV} {row : List zQ} {k : ByteArray} (h : y4 s rows) (he : zcq s rows k row = 0) :
 yV s row = 0 ∧ (∃ r, zca s rows k = some r) ∧ (∀ r ∈ yX s rows k, yM s r row = false) ∧ (yX s rows k).length < 400 := by
 unfold zcq at he
 by_cases h1 : yV s row = 0
 ·rw [if_neg (by simp [h1])] at he
  cases hr : zca s rows k with
  | none => simp [hr] at he
  | some r =>
   simp only [hr, Option.isNone_some, Bool.false_eq_true, if_false] at he
   cases ht : zb0 s rows row k with
   | true => simp [ht] at he
   | false =>
    refine ⟨h1, ⟨r, rfl⟩, fun r' hr' => ?_, ?_⟩
    ·obtain ⟨h2, h3⟩ := zdB.1 hr'
     have := List.any_eq_false.1 ht r' h2
     simp only [Bool.and_eq_true, decide_eq_true_eq, not_and, Bool.not_eq_true] at this
     exact this h3
    obtain ⟨h2, h3⟩ := zcz hr
    have hle := h.le
    have : (yX s rows k).length < rows.length := by
     unfold yX
     rcases Nat.lt_or_ge (rows.filter fun r => decide (zV s r ≠ k)).length rows.length with h4 | h4
     ·exact h4
     have h5 := List.length_filter_le (fun r => decide (zV s r ≠ k)) rows
     have h6 := List.length_filter_eq_length_iff.1 (Nat.le_antisymm h5 h4) r h2
     simp [h3] at h6
    omega
 rw [if_pos h1] at he; exact absurd he h1
theorem zia : ∀ {l m : List ByteArray}, (l.Pairwise fun a b => blt a b = true) → (m.Pairwise fun a b => blt a b = true) → (∀ x, x ∈ l ↔ x ∈ m) → l = m
 | [], [], _, _, _ => rfl
 | [], y :: m, _, _, h => by have := (h y).2 (by simp); cases this
 | x :: l, [], _, _, h => by have := (h x).1 (by simp); cases this
 | x :: l, y :: m, hl, hm, h => by
  have hl' := List.pairwise_cons.1 hl
  have hm' := List.pairwise_cons.1 hm
  have hxy : x = y := by
   rcases List.mem_cons.1 ((h x).1 (by simp)) with e | e
   ·exact e
   rcases List.mem_cons.1 ((h y).2 (by simp)) with e2 | e2
   ·exact e2.symm
   have h1 := hm'.1 x e
   rw [zdl (hl'.1 y e2)] at h1
   cases h1
  subst hxy
  rw [zia hl'.2 hm'.2 fun z => ?_]
  constructor
  ·intro hz
   rcases List.mem_cons.1 ((h z).1 (by simp [hz])) with e | e
   ·subst e
    have := hl'.1 z hz
    rw [zaQ] at this; cases this
   exact e
  intro hz
  rcases List.mem_cons.1 ((h z).2 (by simp [hz])) with e | e
  ·subst e
   have := hm'.1 z hz
   rw [zaQ] at this; cases this
  exact e
theorem zqo {s : yo} {rows : LV} (h : y4 s rows) (row : List zQ) : ((zar s rows row).map (zV s)).Pairwise fun a b => blt a b = true := by
 rw [List.pairwise_map]
 exact h.srt.sublist List.filter_sublist
theorem zc0 {s : yo} {rows : LV} {row r : List zQ} : r ∈ zar s rows row ↔ r ∈ rows ∧ yM s r row = true := by simp [zar]
theorem znT {s : yo} {rows : LV} {row : List zQ} (h : zar s rows row = []) : zcy s rows row = rows := by
 unfold zcy
 rw [List.filter_eq_self]
 intro r hr
 cases hc : yM s r row with
 | false => rfl
 | true => have : r ∈ zar s rows row := zc0.2 ⟨hr, hc⟩; rw [h] at this; cases this
def zeG (f g : Nat) : Value := .agg #[.func (.func f) #[] #[], .func (.func g) #[] #[]]
def zhP : List (Int × Value) := [(0, zeG 236 237), (1, zeG 238 239), (2, zeG 241 242), (3, zeG 244 245), (4, zeG 247 248)]
theorem zmL (w : World) : z9 TP 187 #[] w fun r w' => ∃ b, r = .map (some b) ∧ w.heap.size ≤ b ∧ zae (zbB .i64) w' b zhP ∧ zk [] w w' := by
 refine z9.of_W (args := []) Tryz.func187 rfl rfl rfl rfl ?_
 refine Sr (Oa rfl (za1 [] (F' := []) rfl (Sr ?_)))
 refine zE (gn rfl) (zcX (zbB .i64) rfl ?_)
 intro b1 w1 e1 n1 c1 k1
 refine Og (z6 zkh ze4 rfl (vs := [_, _]) rfl (css := [_, _]) ⟨rfl, rfl, trivial⟩ rfl rfl (cs := [_, _]) rfl) rfl ?_
 refine zE (gn rfl) (zaS (κ := zbB .i64) zg6 (yv zaP) rfl rfl rfl k1 ?_)
 intro wA nA cA kA
 refine Og (z6 zkh ze4 rfl (vs := [_, _]) rfl (css := [_, _]) ⟨rfl, rfl, trivial⟩ rfl rfl (cs := [_, _]) rfl) rfl ?_
 refine zE (gn rfl) (zaS (κ := zbB .i64) zg6 (yv zaP) rfl rfl rfl kA ?_)
 intro wB nB cB kB
 refine Og (z6 zkh ze4 rfl (vs := [_, _]) rfl (css := [_, _]) ⟨rfl, rfl, trivial⟩ rfl rfl (cs := [_, _]) rfl) rfl ?_
 refine zE (gn rfl) (zaS (κ := zbB .i64) zg6 (yv zaP) rfl rfl rfl kB ?_)
 intro wC nC cC kC
 refine Og (z6 zkh ze4 rfl (vs := [_, _]) rfl (css := [_, _]) ⟨rfl, rfl, trivial⟩ rfl rfl (cs := [_, _]) rfl) rfl ?_
 refine zE (gn rfl) (zaS (κ := zbB .i64) zg6 (yv zaP) rfl rfl rfl kC ?_)
 intro wD nD cD kD
 refine Og (z6 zkh ze4 rfl (vs := [_, _]) rfl (css := [_, _]) ⟨rfl, rfl, trivial⟩ rfl rfl (cs := [_, _]) rfl) rfl ?_
 refine zE (gn rfl) (zaS (κ := zbB .i64) zg6 (yv zaP) rfl rfl rfl kD ?_)
 intro wE nE cE kE
 refine Om rfl (Oa rfl (E1 0 rfl (zi ?_)))
 refine zD rfl rfl ?_
 exact ⟨b1, rfl, by omega, kE, c1.own (((((cA.transS cB).transS cC).transS cD).transS cE)) (by intro x hx; simp at hx; omega)⟩
theorem zQ.one (x : zQ) : ∀ u ∈ x.cs, u.oneCell' = true := by
 intro u hu; simp [zQ.cs] at hu; rcases hu with rfl | rfl | rfl | rfl <;> rfl
theorem zpr (x : zQ) (w : World) : z9 TP 188 #[x.v] w fun r w' => r = (zed x).v ∧ zk [] w w' := by
 obtain ⟨k, i, u, b⟩ := x
 refine A1 Tryz.func188 rfl rfl ?_
 refine Sr ?_
 refine Ob rfl rfl ?_
 intro b1 w1 e1 n1 c1 k1
 refine zE (gn rfl) (zH zd6 rfl rfl ?_)
 intro b2 w2 e2 n2 c2 k2
 refine E2 1 2 rfl (Sr (Od zaw rfl ?_))
 refine Ol zcm rfl ((k1.chg0 c2).cell' rfl) ?_
 refine Og (z6 zoe zd6 rfl (vs := [_]) rfl (css := [_]) ⟨rfl, trivial⟩ rfl rfl (cs := [_, _, _, _]) rfl) rfl ?_
 refine zE (gn rfl) (zH zd6 rfl rfl ?_)
 intro b3 w3 e3 n3 c3 k3
 refine zE (gn rfl) (zu y6 rfl rfl rfl rfl k3 (by simp) (by intro u hu; simp at hu; rcases hu with rfl | rfl | rfl | rfl <;> rfl) ?_)
 intro wA nA cA kA
 refine E3 1 2 3 rfl ?_
 have hk1 : zU wA b1 40 [Ii k, Ii i, .int .u64 u, .string b] := ((k1.chg0 c2).chg0 c3).chg cA (by simp; omega)
 have hk2 := (k2.chg0 c3).chg cA (by simp; omega)
 have hc : zk [] w wA := ((c1.trans c2).trans c3).own cA (by intro y hy; simp at hy; omega)
 have hk3 : zU wA b3 40 [Ii k, Ii 0, .int .u64 0, .string e0] := kA
 clear kA k3 k2 k1
 refine yf (fun F wx => F = [(2, Pt b2), (3, Pt b3)] ∧ zU wx b3 40 (zed ⟨k, i, u, b⟩).cs ∧ zk [b3] wA wx) ?_ ?_
 ·refine Sr (Od zaw rfl ?_)
  refine Ol zcm rfl (hk1.cell' rfl) ?_
  refine E4 1 2 3 8 rfl (zq (ze (zq (ze (zq (ze (zq (zq (ze (ze (Sr (Og (zw rfl rfl) rfl ?_))))))))))))
  refine Oa rfl (E5 1 2 3 8 9 rfl ?_)
  refine zR rfl (fun hT => ?_) (fun hF => ?_)
  ·have hk : k = 3 := of_decide_eq_true hT
   refine zM ?_
   repeat first | refine te ?_ | refine bo rfl ?_
   refine zt _ ?_
   refine zl (Sr (Od yY rfl ?_))
   refine Ol ag2 rfl (hk1.cell' rfl) ?_
   refine Od yY rfl ?_
   refine zE (gn rfl) (zu sz2 rfl rfl rfl rfl hk3 (by simp) (by intro u hu; simp at hu; subst hu; rfl) ?_)
   intro wB nB cB kB
   refine E2 2 3 rfl ?_
   refine zM ?_
   repeat first | refine te ?_ | refine bo rfl ?_
   refine zt _ ?_
   exact ⟨rfl, by subst hk; exact kB, cB⟩
  have h3 : k ≠ 3 := of_decide_eq_false hF
  clear hF
  refine zm (ze (Sr (Og (zw rfl rfl) rfl (Oa rfl (E5 1 2 3 8 11 rfl ?_)))))
  refine zR rfl (fun hT => ?_) (fun hF => ?_)
  ·have hk : k = 1 := of_decide_eq_true hT
   refine zM ?_
   repeat first | refine te ?_ | refine bo rfl ?_
   refine zt _ ?_
   refine Sr (Od yY rfl ?_)
   refine Ol ag2 rfl (hk1.cell' rfl) ?_
   refine Od yY rfl ?_
   refine zE (gn rfl) (zu sz2 rfl rfl rfl rfl hk3 (by simp) (by intro u hu; simp at hu; subst hu; rfl) ?_)
   intro wB nB cB kB
   refine E2 2 3 rfl ?_
   refine zM ?_
   repeat first | refine te ?_ | refine bo rfl ?_
   refine zt _ ?_
   exact ⟨rfl, by subst hk; exact kB, cB⟩
  have h1 : k ≠ 1 := of_decide_eq_false hF
  clear hF
  refine zm (ze (Sr (Og (zw rfl rfl) rfl (Oa rfl (E5 1 2 3 8 13 rfl ?_)))))
  refine zR rfl (fun hT => ?_) (fun hF => ?_)
  ·have hk : k = 2 := of_decide_eq_true hT
   refine zM ?_
   repeat first | refine te ?_ | refine bo rfl ?_
   refine zt _ ?_
   refine Sr (Od zaZ rfl ?_)
   refine Ol zcZ rfl (hk1.cell' rfl) ?_
   refine Od zaZ rfl ?_
   refine zE (gn rfl) (zu zoa rfl rfl rfl rfl hk3 (by simp) (by intro u hu; simp at hu; subst hu; rfl) ?_)
   intro wB nB cB kB
   refine E2 2 3 rfl ?_
   refine zM ?_
   repeat first | refine te ?_ | refine bo rfl ?_
   refine zt _ ?_
   exact ⟨rfl, by subst hk; exact kB, cB⟩
  have h2 : k ≠ 2 := of_decide_eq_false hF
  clear hF
  refine zm (Sr (Og (zw rfl rfl) rfl (Oa rfl (E4 1 2 3 15 rfl ?_))))
  refine zR rfl (fun hT => ?_) (fun hF => ?_)
  ·have hk : k = 4 := of_decide_eq_true hT
   refine zM ?_
   repeat first | refine te ?_ | refine bo rfl ?_
   refine zt _ ?_
   refine Sr (Od zaR rfl ?_)
   refine Ol ag9 rfl (hk1.cell' rfl) ?_
   refine Od zaR rfl ?_
   refine zE (gn rfl) (zu sz9 rfl rfl rfl rfl hk3 (by simp) (by intro u hu; simp at hu; subst hu; rfl) ?_)
   intro wB nB cB kB
   refine E2 2 3 rfl ?_
   refine zM ?_
   repeat first | refine te ?_ | refine bo rfl ?_
   refine zt _ ?_
   exact ⟨rfl, by subst hk; exact kB, cB⟩
  have h4 : k ≠ 4 := of_decide_eq_false hF
  refine zm ?_
  refine zfo [2, 3] rfl ?_
  refine zM ?_
  repeat first | refine te ?_ | refine bo rfl ?_
  refine zt _ ?_
  exact ⟨rfl, by simpa [zed, h1, h2, h3, h4, zQ.cs] using hk3, zk.refl _ _⟩
 rintro F wx ⟨rfl, hb, hcx⟩
 have hn := c3.size
 refine Sr ?_
 refine Og (zg zbp y6 rfl rfl (zy.of_blk0 hb)) rfl ?_
 refine zE (gn rfl) (zu y6 rfl rfl rfl rfl (hk2.chg hcx (by simp; omega)) (by simp [zQ.cs]) (zQ.one _) ?_)
 intro wC nC cC kC
 refine E1 2 rfl (zi ?_)
 refine zlh rfl zbp y6 rfl rfl (zy.of_blk0 kC) ?_
 exact ⟨rfl, hc.own ((hcx.weak (S2 := [b2, b3]) (by simp)).transS (cC.weak (by simp))) (by intro y hy; simp at hy; omega)⟩
theorem zte (x : zQ) (w : World) : z9 TP 236 #[x.v] w fun r w' => r = .bool true ∧ zk [] w w' := by
 refine A1 Tryz.func236 rfl rfl ?_
 refine Sr ?_
 refine Ob rfl rfl ?_
 intro b1 w1 e1 n1 c1 k1
 refine Oa rfl (za1 [] (F' := []) rfl (Sr (Oa rfl (E1 2 rfl (zi ?_)))))
 refine zD rfl rfl ?_
 exact ⟨rfl, c1⟩
theorem ztx (x : zQ) (w : World) : z9 TP 238 #[x.v] w fun r w' => r = .bool true ∧ zk [] w w' := by
 refine A1 Tryz.func238 rfl rfl ?_
 refine Sr ?_
 refine Ob rfl rfl ?_
 intro b1 w1 e1 n1 c1 k1
 refine Oa rfl (za1 [] (F' := []) rfl (Sr (Oa rfl (E1 2 rfl (zi ?_)))))
 refine zD rfl rfl ?_
 exact ⟨rfl, c1⟩
theorem zuC (x : zQ) (w : World) : z9 TP 241 #[x.v] w fun r w' => r = .bool true ∧ zk [] w w' := by
 refine A1 Tryz.func241 rfl rfl ?_
 refine Sr ?_
 refine Ob rfl rfl ?_
 intro b1 w1 e1 n1 c1 k1
 refine Oa rfl (za1 [] (F' := []) rfl (Sr (Oa rfl (E1 2 rfl (zi ?_)))))
 refine zD rfl rfl ?_
 exact ⟨rfl, c1⟩
theorem ztK (x : zQ) (w : World) : z9 TP 247 #[x.v] w fun r w' => r = .bool true ∧ zk [] w w' := by
 refine A1 Tryz.func247 rfl rfl ?_
 refine Sr ?_
 refine Ob rfl rfl ?_
 intro b1 w1 e1 n1 c1 k1
 refine Oa rfl (za1 [] (F' := []) rfl (Sr (Oa rfl (E1 2 rfl (zi ?_)))))
 refine zD rfl rfl ?_
 exact ⟨rfl, c1⟩
theorem zuA (x : zQ) (w : World) : z9 TP 244 #[x.v] w fun r w' => r = .bool (decide (x.i = 0) || decide (x.i = 1)) ∧ zk [] w w' := by
 obtain ⟨k, i, u, b⟩ := x
 refine A1 Tryz.func244 rfl rfl ?_
 refine Sr ?_
 refine Ob rfl rfl ?_
 intro b1 w1 e1 n1 c1 k1
 refine Oa rfl (E1 1 rfl (ze ?_))
 by_cases h : i = 0
 ·refine za (Od yY rfl ?_)
  refine Ol ag2 rfl (k1.cell' rfl) ?_
  refine Og (vt (zw rfl rfl) (decide_eq_true (by omega))) rfl ?_
  refine Om rfl (Oz rfl rfl (Oz rfl rfl (Oz rfl rfl (Ot rfl (Oa rfl (E1 2 rfl (zi ?_)))))))
  refine zD rfl rfl ?_
  exact ⟨by simp [h], c1⟩
 refine za (Od yY rfl ?_)
 refine Ol ag2 rfl (k1.cell' rfl) ?_
 refine Og (vf (zw rfl rfl) (decide_eq_false (by omega))) rfl ?_
 refine Om rfl ?_
 refine Oy rfl rfl (zj yY rfl) ?_
 refine Oy rfl rfl (zh ag2 rfl (k1.cell' rfl)) ?_
 refine Oy rfl rfl (zw rfl rfl) ?_
 refine Of rfl (Oa rfl (E1 2 rfl (zi ?_)))
 refine zD rfl rfl ?_
 exact ⟨by simp [h], c1⟩
theorem zh7 {x : zQ} (h : zfZ x = true) : ∃ f g, zdF zhP x.k = some (zeG f g) ∧ zn TP f = true ∧ ∀ w, z9 TP f #[x.v] w fun r w' => r = .bool (znN x) ∧ zk [] w w' := by
 obtain ⟨k, i, u, b⟩ := x
 simp only [zfZ, decide_eq_true_eq] at h
 rcases (show k = 0 ∨ k = 1 ∨ k = 2 ∨ k = 3 ∨ k = 4 by omega) with rfl | rfl | rfl | rfl | rfl
 ·exact ⟨_, _, rfl, zwS, fun w => zte _ w⟩
 ·exact ⟨_, _, rfl, zuP, fun w => ztx _ w⟩
 ·exact ⟨_, _, rfl, zvd, fun w => zuC _ w⟩
 ·exact ⟨_, _, rfl, zve, fun w => (zuA _ w).mono fun r w' h => ⟨by rw [h.1]; simp [znN], h.2⟩⟩
 exact ⟨_, _, rfl, zuO, fun w => ztK _ w⟩
theorem zhC {x : zQ} (h : zfZ x = false) : zdF zhP x.k = none := by
 simp only [zfZ, decide_eq_false_iff_not] at h
 have h0 : ¬ (0 : Int) = x.k := by omega
 have h1 : ¬ (1 : Int) = x.k := by omega
 have h2 : ¬ (2 : Int) = x.k := by omega
 have h3 : ¬ (3 : Int) = x.k := by omega
 have h4 : ¬ (4 : Int) = x.k := by omega
 simp [zhP, zdF, h0, h1, h2, h3, h4]
theorem zme (x y : zQ) : zd7 [0, 0, 0, 1] x.cs y.cs = some (decide (x = y)) := by
 obtain ⟨k, i, u, b⟩ := x
 obtain ⟨k', i', u', b'⟩ := y
 simp only [zQ.cs, zd7, zlx, if_true, Option.some.injEq, zQ.mk.injEq]
 rw [Bool.eq_iff_iff]
 simp
 intro _ _ _
 omega
theorem zmW (x : zQ) (w : World) : z9 TP 143 #[x.v] w fun r w' => r = Ii (zbi x) ∧ zk [] w w' := by
 refine A1 Tryz.func143 rfl rfl ?_
 refine Sr ?_
 refine Ob rfl rfl ?_
 intro b1 w1 e1 n1 c1 k1
 refine Oa rfl (E1 1 rfl ?_)
 obtain ⟨g, hg⟩ : ∃ g, zdF zhP x.k = g := ⟨_, rfl⟩
 obtain ⟨va, vb, hv⟩ : ∃ va vb, g.getD (.agg #[.nilFunc, .nilFunc]) = .agg #[va, vb] ∧ va.oneCell' = true ∧ vb.oneCell' = true := by
  cases hk : zfZ x with
  | false => rw [zhC hk] at hg; subst hg; exact ⟨_, _, rfl, rfl, rfl⟩
  | true => obtain ⟨f, g', h, _⟩ := zh7 hk; rw [h] at hg; subst hg; exact ⟨_, _, rfl, rfl, rfl⟩
 obtain ⟨hv, hva, hvb⟩ := hv
 refine yf (fun F wA => ∃ b3, F = [(1, Pt b1), (3, Pt b3), (4, .bool g.isSome)] ∧ zU wA b3 295 [va, vb] ∧ zk [] w1 wA) ?_ ?_
 ·have hC := (zk.drew [] w1)
  refine zfe (fun wz => zk [] w1 wz) (zaU.seq [1, 2] (.two 0 (zaU.seq [] (.two 3 (zaU.seq [4, 5, 6, 7, 8, 9] .done) 7 (zaU.seq [3, 4, 5, 6, 8, 9] .done))) 7 (zaU.seq [0, 3, 4, 5, 6, 8, 9] .done))) mix (by kernel_rfl) hC ?_
  refine yd rfl rfl (gn rfl) (fun _ => zj zaw rfl) rfl rfl ?_
  refine zdp rfl rfl (gn rfl) (fun wz hz => zh zcm rfl ((k1.chg0 hz).cell' rfl)) rfl rfl ?_
  refine zeF ?_ ?_
  ·refine zaa rfl rfl (gn rfl) (y5 zsl rfl rfl rfl rfl (zmL _) ?_)
   rintro v6 w6 ⟨b6, rfl, h6, k6, c6⟩
   have hN6 := hC.size
   have hC := hC.trans c6
   refine ⟨.inl hC, ?_⟩
   refine zeF ?_ ?_
   ·refine zaa rfl rfl (gn rfl) (St.vl (zcJ (κ := zbB .i64) zg6 (yv zaP) ze4 rfl rfl k6 hg hv) rfl rfl ?_)
    refine ⟨.inl hC, ?_⟩
    refine yd rfl rfl (gn rfl) (fun _ => zal rfl) rfl rfl ?_
    refine yd rfl rfl (gn rfl) (fun _ => zP rfl rfl) rfl rfl ?_
    refine yd rfl rfl (gn rfl) (fun _ => zP rfl rfl) rfl rfl ?_
    refine zaa rfl rfl (gn rfl) (zH ze4 rfl rfl ?_)
    intro b3 w3 e3 n3 c3 k3
    have hN3 := hC.size
    have hC := hC.trans c3
    have k6 := k6.chg0 c3
    refine ⟨.inl hC, ?_⟩
    refine zaa rfl rfl (gn rfl) (zu zow rfl rfl rfl rfl k3 (by simp) (by intro u hu; simp at hu; rcases hu with rfl | rfl; exact hva; exact hvb) ?_)
    intro wA nA cA kA
    have hC := hC.own cA (by intro y hy; simp at hy; omega)
    refine ⟨.inl hC, ?_⟩
    refine yd rfl rfl (gn rfl) (fun _ => yh rfl) rfl rfl ?_
    refine zcB [1, 3, 4] (F' := [(1, _), (3, _), (4, _)]) rfl ?_
    exact ⟨b3, rfl, kA, hC⟩
   refine zaa rfl rfl (gn rfl) (zH ze4 rfl rfl ?_)
   intro b3 w3 e3 n3 c3 k3
   have hN3 := hC.size
   have hC := hC.trans c3
   have k6 := k6.chg0 c3
   refine ⟨.inl hC, ?_⟩
   refine zaa rfl rfl (gn rfl) (St.vl (zcJ (κ := zbB .i64) zg6 (yv zaP) ze4 rfl rfl k6 hg hv) rfl rfl ?_)
   refine ⟨.inl hC, ?_⟩
   refine yd rfl rfl (gn rfl) (fun _ => zal rfl) rfl rfl ?_
   refine yd rfl rfl (gn rfl) (fun _ => zP rfl rfl) rfl rfl ?_
   refine yd rfl rfl (gn rfl) (fun _ => zP rfl rfl) rfl rfl ?_
   refine zaa rfl rfl (gn rfl) (zu zow rfl rfl rfl rfl k3 (by simp) (by intro u hu; simp at hu; rcases hu with rfl | rfl; exact hva; exact hvb) ?_)
   intro wA nA cA kA
   have hC := hC.own cA (by intro y hy; simp at hy; omega)
   refine ⟨.inl hC, ?_⟩
   refine yd rfl rfl (gn rfl) (fun _ => yh rfl) rfl rfl ?_
   refine zcB [1, 3, 4] (F' := [(1, _), (3, _), (4, _)]) rfl ?_
   exact ⟨b3, rfl, kA, hC⟩
  refine zaa rfl rfl (gn rfl) (zH ze4 rfl rfl ?_)
  intro b3 w3 e3 n3 c3 k3
  have hN3 := hC.size
  have hC := hC.trans c3
  refine ⟨.inl hC, ?_⟩
  refine zaa rfl rfl (gn rfl) (y5 zsl rfl rfl rfl rfl (zmL _) ?_)
  rintro v6 w6 ⟨b6, rfl, h6, k6, c6⟩
  have hN6 := hC.size
  have hC := hC.trans c6
  have k3 := k3.chg0 c6
  refine ⟨.inl hC, ?_⟩
  refine zaa rfl rfl (gn rfl) (St.vl (zcJ (κ := zbB .i64) zg6 (yv zaP) ze4 rfl rfl k6 hg hv) rfl rfl ?_)
  refine ⟨.inl hC, ?_⟩
  refine yd rfl rfl (gn rfl) (fun _ => zal rfl) rfl rfl ?_
  refine yd rfl rfl (gn rfl) (fun _ => zP rfl rfl) rfl rfl ?_
  refine yd rfl rfl (gn rfl) (fun _ => zP rfl rfl) rfl rfl ?_
  refine zaa rfl rfl (gn rfl) (zu zow rfl rfl rfl rfl k3 (by simp) (by intro u hu; simp at hu; rcases hu with rfl | rfl; exact hva; exact hvb) ?_)
  intro wA nA cA kA
  have hC := hC.own cA (by intro y hy; simp at hy; omega)
  refine ⟨.inl hC, ?_⟩
  refine yd rfl rfl (gn rfl) (fun _ => yh rfl) rfl rfl ?_
  refine zcB [1, 3, 4] (F' := [(1, _), (3, _), (4, _)]) rfl ?_
  exact ⟨b3, rfl, kA, hC⟩
 rintro F wA ⟨b3, rfl, kA, hcA⟩
 have hk1 := k1.chg0 hcA
 have hdA : zk [] wA wA.drew := zk.drew [] _
 refine ze (zq (ze ?_))
 cases hk : zfZ x with
 | false =>
  have hg' : g = none := hg.symm.trans (zhC hk)
  subst hg'
  refine zJ (fun wz => zk [] wA wz) mix (by kernel_rfl) hdA ?_
  refine Tm rfl ?_
  refine Tp (fun _ => zO rfl) rfl ?_
  refine Tm rfl (Tz rfl rfl (Tz rfl rfl (Tz rfl rfl (Tz rfl rfl ?_))))
  refine Tp (fun _ => zL rfl rfl) rfl ?_
  refine Tm rfl (Tz rfl rfl (Tz rfl rfl (Tz rfl rfl (Tz rfl rfl (Tz rfl rfl ?_)))))
  refine Tp (fun _ => zL rfl rfl) rfl ?_
  refine Ta rfl (D2 1 12 rfl (zd rfl (Sr (Oa rfl (E1 2 rfl (zi ?_))))))
  repeat first | refine tr ?_ | refine br ?_
  refine zD rfl rfl ?_
  exact ⟨by simp [zbi, zbR, hk], (c1.trans hcA).trans hdA⟩
 | true =>
  obtain ⟨f, g', hg', hbf, hmay⟩ := zh7 hk
  rw [hg'] at hg
  subst hg
  cases hv
  by_cases hb : x = zed x
  ·refine zJ (fun wz => zk [] wA wz) mix (by kernel_rfl) hdA ?_
   refine Tm rfl ?_
   refine Tp (fun _ => zO rfl) rfl ?_
   refine Tm rfl ?_
   refine Ts rfl rfl (fun wz hz => zg zbp y6 rfl rfl (zy.of_blk0 (hk1.chg0 hz))) rfl ?_
   refine Ts rfl rfl (fun wz hz => zg zbp y6 rfl rfl (zy.of_blk0 (hk1.chg0 hz))) rfl ?_
   refine Tv rfl rfl zse rfl rfl rfl (zpr x _) ?_
   rintro v18 w18 ⟨rfl, c18⟩
   refine ⟨.inl (hdA.trans c18), ?_⟩
   refine Tg rfl rfl (fun _ => zhN zrg rfl rfl ((zme x (zed x)).trans (congrArg some (decide_eq_true hb)))) rfl ?_
   refine Tp (fun _ => zT rfl rfl) rfl ?_
   refine Tm rfl ?_
   refine Tg rfl rfl (fun _ => zj zqI rfl) rfl ?_
   refine Ts rfl rfl (fun wz hz => zh zxa rfl ((kA.chg0 hz).cell' rfl)) rfl ?_
   refine Ts rfl rfl (fun wz hz => zg zbp y6 rfl rfl (zy.of_blk0 (hk1.chg0 hz))) rfl ?_
   refine Tv rfl rfl hbf rfl rfl rfl (hmay _) ?_
   rintro v25 w25 ⟨rfl, c25⟩
   refine ⟨.inl ((hdA.trans c18).trans c25), ?_⟩
   refine Tg rfl rfl (fun _ => zO rfl) rfl ?_
   refine Tp (fun _ => zT rfl rfl) rfl ?_
   refine Ta rfl (D2 1 12 rfl ?_)
   cases hm : znN x with
   | false =>
    refine zd rfl (Sr (Oa rfl (E1 2 rfl (zi ?_))))
    repeat first | refine tr ?_ | refine br ?_
    refine zD rfl rfl ?_
    exact ⟨by simp [zbi, zbR, hm], (((c1.trans hcA).trans hdA).trans c18).trans c25⟩
   | true =>
    refine zb rfl ?_
    have hc : zk [] w w25 := (((c1.trans hcA).trans hdA).trans c18).trans c25
    have hf : zbR x = true := by simp only [zbR, hk, hm, Bool.true_and, Bool.and_true]; exact decide_eq_true hb
    refine Sr (Od zaR rfl ?_)
    refine Ol ag9 rfl ((hk1.chg0 ((hdA.trans c18).trans c25)).cell' rfl) ?_
    refine Og (yS st9 rfl) rfl ?_
    refine Og (yg rfl rfl) rfl ?_
    refine Oa rfl (E1 28 rfl ?_)
    refine zR rfl (fun hT => ?_) (fun hF => ?_)
    ·refine Sr (Oa rfl (E1 2 rfl (zi ?_)))
     repeat first | refine tr ?_ | refine br ?_
     refine zD rfl rfl ?_
     have h2 : 200 < x.b.size := by have := of_decide_eq_true hT; omega
     exact ⟨by simp [zbi, hf, h2], hc⟩
    refine ye (zl (Sr (Oa rfl (E1 2 rfl (zi ?_)))))
    refine zD rfl rfl ?_
    have h2 : ¬ 200 < x.b.size := by have := of_decide_eq_false hF; omega
    exact ⟨by simp [zbi, hf, h2], hc⟩
  refine zJ (fun wz => zk [] wA wz) mix (by kernel_rfl) hdA ?_
  refine Tm rfl ?_
  refine Tp (fun _ => zO rfl) rfl ?_
  refine Tm rfl ?_
  refine Ts rfl rfl (fun wz hz => zg zbp y6 rfl rfl (zy.of_blk0 (hk1.chg0 hz))) rfl ?_
  refine Ts rfl rfl (fun wz hz => zg zbp y6 rfl rfl (zy.of_blk0 (hk1.chg0 hz))) rfl ?_
  refine Tv rfl rfl zse rfl rfl rfl (zpr x _) ?_
  rintro v18 w18 ⟨rfl, c18⟩
  refine ⟨.inl (hdA.trans c18), ?_⟩
  refine Tg rfl rfl (fun _ => zhN zrg rfl rfl ((zme x (zed x)).trans (congrArg some (decide_eq_false hb)))) rfl ?_
  refine Tp (fun _ => zT rfl rfl) rfl ?_
  refine Tm rfl (Tz rfl rfl (Tz rfl rfl (Tz rfl rfl (Tz rfl rfl (Tz rfl rfl ?_)))))
  refine Tp (fun _ => zL rfl rfl) rfl ?_
  refine Ta rfl (D2 1 12 rfl (zd rfl (Sr (Oa rfl (E1 2 rfl (zi ?_))))))
  repeat first | refine tr ?_ | refine br ?_
  refine zD rfl rfl ?_
  exact ⟨by simp [zbi, zbR, hb], ((c1.trans hcA).trans hdA).trans c18⟩
theorem znn (n : Int) (w : World) : z9 TP 207 #[Ii n] w fun r w' => r = .bool (zcS n) ∧ w' = w := by
 refine A1 Tryz.func207 rfl rfl ?_
 refine Sr (Oa rfl (E1 0 rfl (ze ?_)))
 by_cases h1 : n = 1
 ·refine za (Om rfl ?_)
  refine Og (vt (zw rfl rfl) (decide_eq_true (by omega))) rfl ?_
  refine Om rfl (Oz rfl rfl (Oz rfl rfl (Ot rfl (Om rfl (Oz rfl rfl (Oz rfl rfl (Ot rfl (Om rfl (Oz rfl rfl (Oz rfl rfl (Ot rfl (Oa rfl (E1 2 rfl ?_)))))))))))))
  refine zi ?_
  refine zD rfl rfl ?_
  exact ⟨by simp [zcS, h1], rfl⟩
 by_cases h2 : n = 2
 ·refine za (Om rfl ?_)
  refine Og (vf (zw rfl rfl) (decide_eq_false (by omega))) rfl ?_
  refine Om rfl (Oj rfl rfl ?_)
  refine Oy rfl rfl (vt (zw rfl rfl) (decide_eq_true (by omega))) ?_
  refine Of rfl (Om rfl (Oz rfl rfl (Oz rfl rfl (Ot rfl (Om rfl (Oz rfl rfl (Oz rfl rfl (Ot rfl (Oa rfl (E1 2 rfl (zi ?_)))))))))))
  refine zD rfl rfl ?_
  exact ⟨by simp [zcS, h2], rfl⟩
 by_cases h4 : n = 4
 ·refine za (Om rfl ?_)
  refine Og (vf (zw rfl rfl) (decide_eq_false (by omega))) rfl ?_
  refine Om rfl (Oj rfl rfl ?_)
  refine Oy rfl rfl (vf (zw rfl rfl) (decide_eq_false (by omega))) ?_
  refine Of rfl (Om rfl (Oj rfl rfl ?_))
  refine Oy rfl rfl (vt (zw rfl rfl) (decide_eq_true (by omega))) ?_
  refine Of rfl (Om rfl (Oz rfl rfl (Oz rfl rfl (Ot rfl (Oa rfl (E1 2 rfl (zi ?_)))))))
  refine zD rfl rfl ?_
  exact ⟨by simp [zcS, h4], rfl⟩
 refine za (Om rfl ?_)
 refine Og (vf (zw rfl rfl) (decide_eq_false (by omega))) rfl ?_
 refine Om rfl (Oj rfl rfl ?_)
 refine Oy rfl rfl (vf (zw rfl rfl) (decide_eq_false (by omega))) ?_
 refine Of rfl (Om rfl (Oj rfl rfl ?_))
 refine Oy rfl rfl (vf (zw rfl rfl) (decide_eq_false (by omega))) ?_
 refine Of rfl (Om rfl (Oj rfl rfl ?_))
 refine Oy rfl rfl (zw rfl rfl) ?_
 refine Of rfl (Oa rfl (E1 2 rfl (zi ?_)))
 refine zD rfl rfl ?_
 exact ⟨by simp [zcS, h1, h2, h4], rfl⟩
theorem zfm (x : Int) : IntKind.i64.wrap x = (x + 9223372036854775808) % 18446744073709551616 - 9223372036854775808 := by
 simp only [IntKind.wrap, IntKind.bits, IntKind.signed]
 simp
 omega
theorem zci (x : Int) : IntKind.u64.wrap x = x % 18446744073709551616 := by
 simp only [IntKind.wrap, IntKind.bits, IntKind.signed]
 simp
theorem zro (z : Int) (x : zQ) (w : World) (hs : zcS z = true) (hx : x.Rng) : z9 TP 208 #[Ii z, x.v] w fun r w' => r = .bool (!zbb ⟨e0, 1, z, false⟩ x) ∧ zk [] w w' := by
 have hi := hx.i
 simp only [zcS, Bool.or_eq_true, decide_eq_true_eq] at hs
 refine A2 Tryz.func208 rfl rfl ?_
 rcases (show z = 1 ∨ z = 2 ∨ z = 4 ∨ z = 8 by omega) with rfl | rfl | rfl | rfl
 ·refine Sr ?_
  refine Ob rfl rfl ?_
  intro b3 w3 e3 n3 c3 k3
  refine Oa rfl (E2 0 3 rfl (Sr (Om rfl ?_)))
  refine Og (zcL rfl rfl (by omega)) rfl ?_
  refine Og (yN rfl rfl (by omega)) rfl ?_
  refine Oa rfl (E2 3 5 rfl (ze ?_))
  refine zJ (fun wz => zk [] w3 wz) mix (by kernel_rfl) (zk.drew [] _) ?_
  refine Td yY rfl ?_
  refine Tr (fun wz hz => zh ag2 rfl ((k3.chg0 hz).cell' rfl)) rfl ?_
  refine Tm rfl ?_
  refine Tp (fun _ => zdu 56 rfl rfl (by omega) (by decide) rfl) rfl ?_
  refine Tm rfl ?_
  refine Tp (fun _ => zbP 56 rfl rfl (by omega) (by decide) rfl) rfl ?_
  refine Td yY rfl ?_
  refine Tr (fun wz hz => zh ag2 rfl ((k3.chg0 hz).cell' rfl)) rfl ?_
  refine Tp (fun _ => zw rfl rfl) rfl ?_
  refine Ta rfl (D1 4 rfl (zi ?_))
  refine zD rfl rfl ?_
  refine ⟨?_, c3.trans (zk.drew [] _)⟩
  rw [zfm, Int.fdiv_eq_ediv_of_nonneg _ (by decide)]
  congr 1
  rw [Bool.eq_iff_iff]
  simp [zbb, zbh]
  omega
 ·refine Sr ?_
  refine Ob rfl rfl ?_
  intro b3 w3 e3 n3 c3 k3
  refine Oa rfl (E2 0 3 rfl (Sr (Om rfl ?_)))
  refine Og (zcL rfl rfl (by omega)) rfl ?_
  refine Og (yN rfl rfl (by omega)) rfl ?_
  refine Oa rfl (E2 3 5 rfl (ze ?_))
  refine zJ (fun wz => zk [] w3 wz) mix (by kernel_rfl) (zk.drew [] _) ?_
  refine Td yY rfl ?_
  refine Tr (fun wz hz => zh ag2 rfl ((k3.chg0 hz).cell' rfl)) rfl ?_
  refine Tm rfl ?_
  refine Tp (fun _ => zdu 48 rfl rfl (by omega) (by decide) rfl) rfl ?_
  refine Tm rfl ?_
  refine Tp (fun _ => zbP 48 rfl rfl (by omega) (by decide) rfl) rfl ?_
  refine Td yY rfl ?_
  refine Tr (fun wz hz => zh ag2 rfl ((k3.chg0 hz).cell' rfl)) rfl ?_
  refine Tp (fun _ => zw rfl rfl) rfl ?_
  refine Ta rfl (D1 4 rfl (zi ?_))
  refine zD rfl rfl ?_
  refine ⟨?_, c3.trans (zk.drew [] _)⟩
  rw [zfm, Int.fdiv_eq_ediv_of_nonneg _ (by decide)]
  congr 1
  rw [Bool.eq_iff_iff]
  simp [zbb, zbh]
  omega
 ·refine Sr ?_
  refine Ob rfl rfl ?_
  intro b3 w3 e3 n3 c3 k3
  refine Oa rfl (E2 0 3 rfl (Sr (Om rfl ?_)))
  refine Og (zcL rfl rfl (by omega)) rfl ?_
  refine Og (yN rfl rfl (by omega)) rfl ?_
  refine Oa rfl (E2 3 5 rfl (ze ?_))
  refine zJ (fun wz => zk [] w3 wz) mix (by kernel_rfl) (zk.drew [] _) ?_
  refine Td yY rfl ?_
  refine Tr (fun wz hz => zh ag2 rfl ((k3.chg0 hz).cell' rfl)) rfl ?_
  refine Tm rfl ?_
  refine Tp (fun _ => zdu 32 rfl rfl (by omega) (by decide) rfl) rfl ?_
  refine Tm rfl ?_
  refine Tp (fun _ => zbP 32 rfl rfl (by omega) (by decide) rfl) rfl ?_
  refine Td yY rfl ?_
  refine Tr (fun wz hz => zh ag2 rfl ((k3.chg0 hz).cell' rfl)) rfl ?_
  refine Tp (fun _ => zw rfl rfl) rfl ?_
  refine Ta rfl (D1 4 rfl (zi ?_))
  refine zD rfl rfl ?_
  refine ⟨?_, c3.trans (zk.drew [] _)⟩
  rw [zfm, Int.fdiv_eq_ediv_of_nonneg _ (by decide)]
  congr 1
  rw [Bool.eq_iff_iff]
  simp [zbb, zbh]
  omega
 refine Sr ?_
 refine Ob rfl rfl ?_
 intro b3 w3 e3 n3 c3 k3
 refine Oa rfl (E2 0 3 rfl (Sr (Om rfl ?_)))
 refine Og (zcL rfl rfl (by omega)) rfl ?_
 refine Og (yN rfl rfl (by omega)) rfl ?_
 refine Oa rfl (E2 3 5 rfl (ze ?_))
 refine zJ (fun wz => zk [] w3 wz) mix (by kernel_rfl) (zk.drew [] _) ?_
 refine Td yY rfl ?_
 refine Tr (fun wz hz => zh ag2 rfl ((k3.chg0 hz).cell' rfl)) rfl ?_
 refine Tm rfl ?_
 refine Tp (fun _ => zdu 0 rfl rfl (by omega) (by decide) rfl) rfl ?_
 refine Tm rfl ?_
 refine Tp (fun _ => zbP 0 rfl rfl (by omega) (by decide) rfl) rfl ?_
 refine Td yY rfl ?_
 refine Tr (fun wz hz => zh ag2 rfl ((k3.chg0 hz).cell' rfl)) rfl ?_
 refine Tp (fun _ => zw rfl rfl) rfl ?_
 refine Ta rfl (D1 4 rfl (zi ?_))
 refine zD rfl rfl ?_
 refine ⟨?_, c3.trans (zk.drew [] _)⟩
 rw [zfm, Int.fdiv_eq_ediv_of_nonneg _ (by decide)]
 congr 1
 rw [Bool.eq_iff_iff]
 simp [zbb, zbh]
 omega
theorem zre (z : Int) (x : zQ) (w : World) (hs : zcS z = true) (hx : x.Rng) : z9 TP 209 #[Ii z, x.v] w fun r w' => r = .bool (!zbb ⟨e0, 2, z, false⟩ x) ∧ zk [] w w' := by
 have hi := hx.u
 simp only [zcS, Bool.or_eq_true, decide_eq_true_eq] at hs
 refine A2 Tryz.func209 rfl rfl ?_
 rcases (show z = 1 ∨ z = 2 ∨ z = 4 ∨ z = 8 by omega) with rfl | rfl | rfl | rfl
 ·refine Sr ?_
  refine Ob rfl rfl ?_
  intro b3 w3 e3 n3 c3 k3
  refine Oa rfl (E2 0 3 rfl (Sr (Om rfl ?_)))
  refine Og (zcL rfl rfl (by omega)) rfl ?_
  refine Og (yN rfl rfl (by omega)) rfl ?_
  refine Oa rfl (E2 3 5 rfl (ze ?_))
  refine zJ (fun wz => zk [] w3 wz) mix (by kernel_rfl) (zk.drew [] _) ?_
  refine Td zaZ rfl ?_
  refine Tr (fun wz hz => zh zcZ rfl ((k3.chg0 hz).cell' rfl)) rfl ?_
  refine Tm rfl ?_
  refine Tp (fun _ => zdu 56 rfl rfl (by omega) (by decide) rfl) rfl ?_
  refine Tm rfl ?_
  refine Tp (fun _ => zbP 56 rfl rfl (by omega) (by decide) rfl) rfl ?_
  refine Td zaZ rfl ?_
  refine Tr (fun wz hz => zh zcZ rfl ((k3.chg0 hz).cell' rfl)) rfl ?_
  refine Tp (fun _ => zw rfl rfl) rfl ?_
  refine Ta rfl (D1 4 rfl (zi ?_))
  refine zD rfl rfl ?_
  refine ⟨?_, c3.trans (zk.drew [] _)⟩
  rw [zci, Int.fdiv_eq_ediv_of_nonneg _ (by decide)]
  congr 1
  rw [Bool.eq_iff_iff]
  simp [zbb, zbh]
  omega
 ·refine Sr ?_
  refine Ob rfl rfl ?_
  intro b3 w3 e3 n3 c3 k3
  refine Oa rfl (E2 0 3 rfl (Sr (Om rfl ?_)))
  refine Og (zcL rfl rfl (by omega)) rfl ?_
  refine Og (yN rfl rfl (by omega)) rfl ?_
  refine Oa rfl (E2 3 5 rfl (ze ?_))
  refine zJ (fun wz => zk [] w3 wz) mix (by kernel_rfl) (zk.drew [] _) ?_
  refine Td zaZ rfl ?_
  refine Tr (fun wz hz => zh zcZ rfl ((k3.chg0 hz).cell' rfl)) rfl ?_
  refine Tm rfl ?_
  refine Tp (fun _ => zdu 48 rfl rfl (by omega) (by decide) rfl) rfl ?_
  refine Tm rfl ?_
  refine Tp (fun _ => zbP 48 rfl rfl (by omega) (by decide) rfl) rfl ?_
  refine Td zaZ rfl ?_
  refine Tr (fun wz hz => zh zcZ rfl ((k3.chg0 hz).cell' rfl)) rfl ?_
  refine Tp (fun _ => zw rfl rfl) rfl ?_
  refine Ta rfl (D1 4 rfl (zi ?_))
  refine zD rfl rfl ?_
  refine ⟨?_, c3.trans (zk.drew [] _)⟩
  rw [zci, Int.fdiv_eq_ediv_of_nonneg _ (by decide)]
  congr 1
  rw [Bool.eq_iff_iff]
  simp [zbb, zbh]
  omega
 ·refine Sr ?_
  refine Ob rfl rfl ?_
  intro b3 w3 e3 n3 c3 k3
  refine Oa rfl (E2 0 3 rfl (Sr (Om rfl ?_)))
  refine Og (zcL rfl rfl (by omega)) rfl ?_
  refine Og (yN rfl rfl (by omega)) rfl ?_
  refine Oa rfl (E2 3 5 rfl (ze ?_))
  refine zJ (fun wz => zk [] w3 wz) mix (by kernel_rfl) (zk.drew [] _) ?_
  refine Td zaZ rfl ?_
  refine Tr (fun wz hz => zh zcZ rfl ((k3.chg0 hz).cell' rfl)) rfl ?_
  refine Tm rfl ?_
  refine Tp (fun _ => zdu 32 rfl rfl (by omega) (by decide) rfl) rfl ?_
  refine Tm rfl ?_
  refine Tp (fun _ => zbP 32 rfl rfl (by omega) (by decide) rfl) rfl ?_
  refine Td zaZ rfl ?_
  refine Tr (fun wz hz => zh zcZ rfl ((k3.chg0 hz).cell' rfl)) rfl ?_
  refine Tp (fun _ => zw rfl rfl) rfl ?_
  refine Ta rfl (D1 4 rfl (zi ?_))
  refine zD rfl rfl ?_
  refine ⟨?_, c3.trans (zk.drew [] _)⟩
  rw [zci, Int.fdiv_eq_ediv_of_nonneg _ (by decide)]
  congr 1
  rw [Bool.eq_iff_iff]
  simp [zbb, zbh]
  omega
 refine Sr ?_
 refine Ob rfl rfl ?_
 intro b3 w3 e3 n3 c3 k3
 refine Oa rfl (E2 0 3 rfl (Sr (Om rfl ?_)))
 refine Og (zcL rfl rfl (by omega)) rfl ?_
 refine Og (yN rfl rfl (by omega)) rfl ?_
 refine Oa rfl (E2 3 5 rfl (ze ?_))
 refine zJ (fun wz => zk [] w3 wz) mix (by kernel_rfl) (zk.drew [] _) ?_
 refine Td zaZ rfl ?_
 refine Tr (fun wz hz => zh zcZ rfl ((k3.chg0 hz).cell' rfl)) rfl ?_
 refine Tm rfl ?_
 refine Tp (fun _ => zdu 0 rfl rfl (by omega) (by decide) rfl) rfl ?_
 refine Tm rfl ?_
 refine Tp (fun _ => zbP 0 rfl rfl (by omega) (by decide) rfl) rfl ?_
 refine Td zaZ rfl ?_
 refine Tr (fun wz hz => zh zcZ rfl ((k3.chg0 hz).cell' rfl)) rfl ?_
 refine Tp (fun _ => zw rfl rfl) rfl ?_
 refine Ta rfl (D1 4 rfl (zi ?_))
 refine zD rfl rfl ?_
 refine ⟨?_, c3.trans (zk.drew [] _)⟩
 rw [zci, Int.fdiv_eq_ediv_of_nonneg _ (by decide)]
 congr 1
 rw [Bool.eq_iff_iff]
 simp [zbb, zbh]
 omega
theorem zqZ (z : Int) (x : zQ) (w : World) : z9 TP 211 #[Ii z, x.v] w fun r w' => r = .bool true ∧ zk [] w w' := by
 refine A2 Tryz.func211 rfl rfl ?_
 refine Sr ?_
 refine Ob rfl rfl ?_
 intro b3 w3 e3 n3 c3 k3
 refine Oa rfl (za1 [] (F' := []) rfl (Sr (Oa rfl (E1 4 rfl (zi ?_)))))
 refine zD rfl rfl ?_
 exact ⟨rfl, c3⟩
theorem zqN (z : Int) (x : zQ) (w : World) : z9 TP 213 #[Ii z, x.v] w fun r w' => r = .bool (!zbb ⟨e0, 4, z, false⟩ x) ∧ zk [] w w' := by
 refine A2 Tryz.func213 rfl rfl ?_
 refine Sr ?_
 refine Ob rfl rfl ?_
 intro b3 w3 e3 n3 c3 k3
 refine Oa rfl (E2 0 3 rfl (Sr (Od zaR rfl ?_)))
 refine Ol ag9 rfl (k3.cell' rfl) ?_
 refine Og (yS st9 rfl) rfl ?_
 refine Om rfl ?_
 refine Og (zbe rfl rfl) rfl ?_
 refine Oa rfl (E1 4 rfl (zi ?_))
 refine zD rfl rfl ?_
 refine ⟨?_, c3⟩
 congr 1
 rw [Bool.eq_iff_iff]
 simp [zbb]
theorem zri (n : Int) (w : World) : z9 TP 210 #[Ii n] w fun r w' => r = .bool (decide (n = 0)) ∧ w' = w := by
 refine A1 Tryz.func210 rfl rfl ?_
 refine Sr (Oa rfl (E1 0 rfl (Sr (Om rfl (Og (zw rfl rfl) rfl (Oa rfl (E1 2 rfl (zi ?_))))))))
 refine zD rfl rfl ?_
 exact ⟨rfl, rfl⟩
theorem zqO (n : Int) (w : World) : z9 TP 212 #[Ii n] w fun r w' => r = .bool (decide (1 ≤ n ∧ n ≤ 200)) ∧ w' = w := by
 refine A1 Tryz.func212 rfl rfl ?_
 refine Sr (Oa rfl (E1 0 rfl (ze ?_)))
 by_cases h : 1 ≤ n
 ·refine za (Om rfl ?_)
  refine Og (vt (yp rfl rfl) (decide_eq_true (by omega))) rfl ?_
  refine Om rfl (Oj rfl rfl ?_)
  refine Oy rfl rfl (zbe rfl rfl) ?_
  refine Ot rfl (Oa rfl (E1 2 rfl (zi ?_)))
  refine zD rfl rfl ?_
  exact ⟨by simp [h], rfl⟩
 refine za (Om rfl ?_)
 refine Og (vf (yp rfl rfl) (decide_eq_false (by omega))) rfl ?_
 refine Om rfl (Oz rfl rfl (Oz rfl rfl (Of rfl (Oa rfl (E1 2 rfl (zi ?_))))))
 refine zD rfl rfl ?_
 exact ⟨by simp [h], rfl⟩
def zgu (c : Int) : Bool := decide (97 ≤ c ∧ c ≤ 122)
def zhZ (c : Int) : Bool := decide (c = 95) || decide (48 ≤ c ∧ c ≤ 57) || zgu c
theorem zhD (f : Bool) (w : World) : z9 TP 214 #[.bool f] w fun r w' => ∃ b, r = .func (.func 253) #[] #[Pt b] ∧ w.heap.size ≤ b ∧ zU w' b 4 [.bool f] ∧ zk [] w w' := by
 refine A1 Tryz.func214 rfl rfl ?_
 refine Sr ?_
 refine Ob rfl rfl ?_
 intro b1 w1 e1 n1 c1 k1
 refine Oa rfl (E1 1 rfl (Sr ?_))
 refine Og (zbr rfl rfl) rfl ?_
 refine Oa rfl (E1 2 rfl (zi ?_))
 refine zD rfl rfl ?_
 exact ⟨b1, rfl, by omega, k1, c1⟩
theorem zlU (c : Int) (f : Bool) (b : Nat) (w : World) (hb : zU w b 4 [.bool f]) : z9 TP 253 #[.int .i32 c, Pt b] w fun r w' => r = .bool (if f then zgu c else zhZ c) ∧ w' = w := by
 refine A2 Tryz.func253 rfl rfl ?_
 refine Sr (Oa rfl (E2 0 1 rfl (ze (zq (ze (zq ?_))))))
 refine yf (fun F wx => wx = w ∧ (decide (c = 95) || decide (48 ≤ c ∧ c ≤ 57)) = true ∧ F = [(1, Pt b)]) ?_ ?_
 ·refine zq (ze (ze ?_))
  refine yf (fun F wx => wx = w ∧ F = [(0, .int .i32 c), (1, Pt b), (4, .bool (decide (c = 95) || decide (48 ≤ c ∧ c ≤ 57)))]) ?_ ?_
  ·refine Sr (Om rfl (Og (zw rfl rfl) rfl (Oa rfl (E3 0 1 4 rfl ?_))))
   refine zR rfl (fun hT => ?_) (fun hF => ?_)
   ·refine zm ?_
    exact ⟨rfl, by simp [of_decide_eq_true hT]⟩
   have h := of_decide_eq_false hF
   by_cases h1 : 48 ≤ c
   ·refine za (Om rfl ?_)
    refine Og (vt (yp rfl rfl) (decide_eq_true (by omega))) rfl ?_
    refine Om rfl (Oj rfl rfl ?_)
    refine Oy rfl rfl (zbe rfl rfl) ?_
    refine Ot rfl (Oa rfl (E3 0 1 4 rfl ?_))
    exact ⟨rfl, by simp [h, h1]⟩
   refine za (Om rfl ?_)
   refine Og (vf (yp rfl rfl) (decide_eq_false (by omega))) rfl ?_
   refine Om rfl (Oz rfl rfl (Oz rfl rfl (Of rfl (Oa rfl (E3 0 1 4 rfl ?_)))))
   exact ⟨rfl, by simp [h, h1]⟩
  rintro F wx ⟨rfl, rfl⟩
  refine zR rfl (fun hT => ?_) (fun hF => ?_)
  ·refine zfo [1] rfl ?_
   refine zM ?_
   repeat first | refine te ?_ | refine bo rfl ?_
   refine zt _ ?_
   exact ⟨rfl, hT, rfl⟩
  refine zm (ze ?_)
  have ho : (decide (c = 95) || decide (48 ≤ c ∧ c ≤ 57)) = false := hF
  by_cases h1 : 97 ≤ c
  ·refine za (Om rfl ?_)
   refine Og (vt (yp rfl rfl) (decide_eq_true (by omega))) rfl ?_
   refine Om rfl (Oj rfl rfl ?_)
   refine Oy rfl rfl (zbe rfl rfl) ?_
   refine Ot rfl (Oa rfl (E1 13 rfl ?_))
   refine zR rfl (fun hT => ?_) (fun hF => ?_)
   ·refine zM ?_
    repeat first | refine te ?_ | refine bo rfl ?_
    refine zt _ ?_
    refine ze (Sr (Oa rfl (E1 3 rfl (zi ?_))))
    repeat first | refine tr ?_ | refine br ?_
    refine zD rfl rfl ?_
    have h2 : c ≤ 122 := of_decide_eq_true hT
    exact ⟨by cases f <;> simp [zhZ, zgu, h1, h2], rfl⟩
   refine zm ?_
   refine zM ?_
   repeat first | refine te ?_ | refine bo rfl ?_
   refine zt _ ?_
   refine Sr (Oa rfl (E1 3 rfl (zi ?_)))
   repeat first | refine tr ?_ | refine br ?_
   refine zD rfl rfl ?_
   have h2 : ¬ c ≤ 122 := of_decide_eq_false hF
   refine ⟨?_, rfl⟩
   unfold zhZ
   rw [ho]
   cases f <;> simp [zgu, h2]
  refine za (Om rfl ?_)
  refine Og (vf (yp rfl rfl) (decide_eq_false (by omega))) rfl ?_
  refine Om rfl (Oz rfl rfl (Oz rfl rfl (Of rfl (Oa rfl (E1 13 rfl (zb rfl (zm ?_)))))))
  refine zM ?_
  repeat first | refine te ?_ | refine bo rfl ?_
  refine zt _ ?_
  refine Sr (Oa rfl (E1 3 rfl (zi ?_)))
  repeat first | refine tr ?_ | refine br ?_
  refine zD rfl rfl ?_
  refine ⟨?_, rfl⟩
  unfold zhZ
  rw [ho]
  cases f <;> simp [zgu, h1]
 rintro F wx ⟨rfl, ho, rfl⟩
 refine Sr ?_
 refine Ol ag4 rfl (hb.cell' rfl) ?_
 refine E1 20 rfl ?_
 cases f with
 | true =>
  refine zd rfl (Sr (Oa rfl (E1 3 rfl (zi ?_))))
  repeat first | refine tr ?_ | refine br ?_
  refine zD rfl rfl ?_
  refine ⟨?_, rfl⟩
  simp only [Bool.or_eq_true, decide_eq_true_eq] at ho
  have : zgu c = false := by simp [zgu]; omega
  simp [this]
 | false =>
  refine zb rfl (ye (zl (ze (Sr (Oa rfl (E1 3 rfl (zi ?_)))))))
  repeat first | refine tr ?_ | refine br ?_
  refine zD rfl rfl ?_
  refine ⟨?_, rfl⟩
  unfold zhZ
  rw [ho]
  rfl
theorem zpp (c : Int) (b q : Nat) (w : World) (hb : zU w b 4 [.bool false]) (hq : zU w q 312 [.func (.func 253) #[] #[Pt b]]) :
 z9 TP 216 #[.int .i32 c, Pt q] w fun r w' => r = .bool (!zhZ c) ∧ w' = w := by
 refine A2 Tryz.func216 rfl rfl ?_
 refine Sr (Oa rfl (E2 0 1 rfl (Sr ?_)))
 refine Ol zvL rfl (hq.cell' rfl) ?_
 refine Om rfl ?_
 refine Oc zpX rfl rfl rfl (zlU c false b _ hb) ?_
 rintro v6 w6 ⟨rfl, rfl⟩
 refine Og (zO rfl) rfl (Oa rfl (E1 3 rfl (zi ?_)))
 refine zD rfl rfl ?_
 exact ⟨rfl, rfl⟩
def zcA (b : UInt8) : Bool := zdI b || zgE b
theorem zoc (b : UInt8) : zhZ (b.toNat : Int) = zcA b := by
 unfold zhZ zgu zcA zdI zgE
 rw [Bool.eq_iff_iff]
 simp
 omega
theorem znU {c : Nat} (h : 128 ≤ c) : zhZ (c : Int) = false := by
 unfold zhZ zgu
 simp
 omega
theorem znu {b : UInt8} (h : zcA b = true) : b.toNat < 128 := by
 simp [zcA, zdI, zgE] at h
 omega
theorem zpj {s : ByteArray} {p : Nat} {b : UInt8} (h : s.data.toList[p]? = some b) : zhZ ((Utf8.decode s p).1 : Int) = zcA b ∧ (zcA b = true → (Utf8.decode s p).2 = 1) := by
 obtain ⟨hl, hb⟩ := List.getElem?_eq_some_iff.1 h
 have hp : p < s.size := by simpa using hl
 have e : s[p]'hp = b := by rw [← hb]; rfl
 by_cases hh : b.toNat < 128
 ·have := decode_ascii s p hp (by rw [e]; exact hh)
  rw [this, e]
  exact ⟨zoc b, fun _ => rfl⟩
 have := (decode_high s p hp (by rw [e]; omega)).1
 rw [znU this]
 have : zcA b = false := by
  cases hn : zcA b with
  | false => rfl
  | true => exact absurd (znu hn) hh
 exact ⟨this.symm, fun h => by rw [this] at h; cases h⟩
theorem zk1 (s : ByteArray) (b q : Nat) (w : World) (hb : zU w b 4 [.bool false]) (hq : zU w q 312 [.func (.func 253) #[] #[Pt b]]) :
 z9 TP 270 #[.string s, .func (.func 216) #[] #[Pt q], .bool true] w fun r w' => ∃ i : Int, r = Ii i ∧ decide (0 ≤ i) = !(s.data.toList.all zcA) ∧ zk [] w w' := by
 refine A3 Tryz.func270 rfl rfl ?_
 refine Sr (Oa rfl (E3 0 1 2 rfl (ze (Sr (Om rfl ?_)))))
 refine zE (gn rfl) (znE st9 rfl rfl ?_)
 intro b10 w10 e10 n10 c10 k10
 refine E3 1 2 10 rfl (zq ?_)
 refine zW [1, 2, 10] (fun m F wx => ∃ j, m = s.size - j ∧ j ≤ s.size ∧ F = [(1, .func (.func 216) #[] #[Pt q]), (2, .bool true), (10, Pt b10)] ∧ zry wx b10 s j ∧ zk [b10] w10 wx ∧ (s.data.toList.take j).all zcA = true) (m := s.size - 0) ⟨0, rfl, Nat.zero_le _, rfl, k10, zk.refl _ _, by simp⟩ ?_
 rintro m F wx ⟨j, rfl, hj, rfl, hit, hc, hall⟩
 have hn10 := c10.size
 have hbx : zU wx b 4 [.bool false] := (hb.chg0 c10).chg hc (by simp; have := hb.lt; omega)
 have hqx := (hq.chg0 c10).chg hc (by simp; have := hq.lt; omega)
 have hcw : zk [] w wx := c10.own hc (by intro y hy; simp at hy; omega)
 have hsz : s.data.toList.length = s.size := by simp
 rcases Nat.lt_or_ge j s.size with hlt | hge
 ·have hx : s.data.toList[j]? = some s.data.toList[j] := by simp [hlt]
  generalize s.data.toList[j] = x at hx
  obtain ⟨hd1, hd2⟩ := zpj hx
  refine Sr ?_
  refine zE (gn rfl) (zkZ rfl hit rfl (fun h => absurd h (by omega)) ?_)
  intro w11 hp11 n11 c11 i11
  refine Oe rfl rfl (E5 1 2 10 11 12 rfl (ze (zd rfl (zm (zq (Sr (Oe rfl rfl (Oe rfl rfl (Oa rfl (Oa rfl (E5 1 2 7 8 10 rfl (ze ?_))))))))))))
  have hb11 := hbx.chg c11 (by simp; have := hb.lt; omega)
  have hq11 := hqx.chg c11 (by simp; have := hq.lt; omega)
  refine za (Om rfl (Om rfl ?_))
  refine Oc zvk rfl rfl rfl (zpp _ b q _ hb11 hq11) ?_
  rintro v17 w17 ⟨rfl, rfl⟩
  refine Om rfl ?_
  refine Og (zgK bo4 rfl rfl) rfl ?_
  refine E5 1 2 7 10 19 rfl ?_
  have hcw11 : zk [] w w17 := hcw.own c11 (by intro y hy; simp at hy; omega)
  rw [hd1]
  cases hbx' : zcA x with
  | false =>
   refine zd rfl (Sr (Om rfl (Oa rfl (E1 6 rfl (zi ?_)))))
   repeat first | refine tr ?_ | refine br ?_
   refine zD rfl rfl ?_
   refine ⟨_, rfl, ?_, hcw11⟩
   have h0 : s.data.toList.all zcA = false := by
    cases ha : s.data.toList.all zcA with
    | false => rfl
    | true => have := List.all_eq_true.1 ha x (List.mem_of_getElem? hx); rw [hbx'] at this; cases this
   rw [h0]
   simp
  | true =>
   refine zb rfl (ye (zl ?_))
   rw [hd2 hbx'] at i11
   refine ⟨s.size - (j + 1), by omega, j + 1, rfl, by omega, rfl, i11, hc.transS c11, ?_⟩
   rw [List.take_add_one, hx, List.all_append, hall]
   simp [hbx']
 refine Sr ?_
 refine zE (gn rfl) (zkZ rfl hit rfl (fun _ => ?_) (fun _ h => absurd h (by omega)))
 skip
 refine Oe rfl rfl (E5 1 2 10 11 12 rfl (ze (zb rfl ?_)))
 refine zM ?_
 repeat first | refine te ?_ | refine bo rfl ?_
 refine zt _ ?_
 refine Sr (Oa rfl (E1 6 rfl (zi ?_)))
 repeat first | refine tr ?_ | refine br ?_
 refine zD rfl rfl ?_
 refine ⟨_, rfl, ?_, hcw⟩
 rw [List.take_of_length_le (by omega)] at hall
 rw [hall]
 rfl
theorem zku (s : ByteArray) (b q : Nat) (w : World) (hb : zU w b 4 [.bool false]) (hq : zU w q 312 [.func (.func 253) #[] #[Pt b]]) :
 z9 TP 254 #[.string s, .func (.func 216) #[] #[Pt q]] w fun r w' => ∃ i : Int, r = Ii i ∧ decide (0 ≤ i) = !(s.data.toList.all zcA) ∧ zk [] w w' := by
 refine A2 Tryz.func254 rfl rfl ?_
 refine Sr (Oa rfl (E2 0 1 rfl (Sr (Om rfl (Om rfl ?_)))))
 refine Oc zuI rfl rfl rfl (zk1 s b q _ hb hq) ?_
 rintro v7 w7 ⟨i, rfl, hi, c7⟩
 refine Oa rfl (E1 4 rfl (zi ?_))
 refine zD rfl rfl ?_
 exact ⟨i, rfl, hi, c7⟩
theorem zhR (s : ByteArray) (b q : Nat) (w : World) (hb : zU w b 4 [.bool false]) (hq : zU w q 312 [.func (.func 253) #[] #[Pt b]]) :
 z9 TP 215 #[.string s, .func (.func 216) #[] #[Pt q]] w fun r w' => r = .bool (!(s.data.toList.all zcA)) ∧ zk [] w w' := by
 refine A2 Tryz.func215 rfl rfl ?_
 refine Sr (Oa rfl (E2 0 1 rfl (Sr (Om rfl (Om rfl ?_)))))
 refine Oc zxb rfl rfl rfl (zku s b q _ hb hq) ?_
 rintro v7 w7 ⟨i, rfl, hi, c7⟩
 refine Og (yp rfl rfl) rfl ?_
 refine Oa rfl (E1 4 rfl (zi ?_))
 refine zD rfl rfl ?_
 exact ⟨by rw [← hi], c7⟩
theorem zlH (s : ByteArray) : zha s = (decide (1 ≤ s.size) && decide (s.size ≤ 24) && (match s.data.toList with | [] => false | b :: _ => zgu b.toNat) && s.data.toList.all zcA) := by
 have hsz : s.data.toList.length = s.size := by simp
 unfold zha
 cases h : s.data.toList with
 | nil => simp
 | cons b r =>
  rw [h] at hsz
  simp only [List.length_cons] at hsz
  simp only [List.all_cons]
  have e1 : zgu (b.toNat : Int) = zdI b := by
   unfold zgu zdI
   rw [Bool.eq_iff_iff]
   simp
   omega
  rw [e1]
  have e2 : decide (1 ≤ s.size) = true := by simp; omega
  have e3 : decide (s.size ≤ 24) = decide (r.length ≤ 23) := by rw [Bool.eq_iff_iff]; simp; omega
  rw [e2, e3]
  have e4 : zcA b = (zdI b || zgE b) := rfl
  rw [e4]
  have e5 : (r.all fun c => zdI c || zgE c) = r.all zcA := rfl
  rw [e5]
  cases zdI b <;> cases decide (r.length ≤ 23) <;> simp
theorem zj2 (x : UInt8) : IntKind.i32.wrap (x.toNat : Int) = (x.toNat : Int) := by
 have := UInt8.toNat_lt x
 simp only [IntKind.wrap, IntKind.bits, IntKind.signed]
 simp
 omega
theorem znc (s : ByteArray) (w : World) : z9 TP 149 #[.string s] w fun r w' => r = .bool (zha s) ∧ zk [] w w' := by
 rw [zlH]
 refine A1 Tryz.func149 rfl rfl ?_
 refine Sr (Oa rfl (E1 0 rfl (Sr ?_)))
 refine Oc zo8 rfl rfl rfl (zhD false _) ?_
 rintro v4 w4 ⟨b4, rfl, h4, k4, c4⟩
 refine zE (gn rfl) (zH zwj rfl rfl ?_)
 intro b3 w3 e3 n3 c3 k3
 refine zE (gn rfl) (zu zu5 rfl rfl rfl rfl k3 (by simp) (by intro u hu; simp at hu; subst hu; rfl) ?_)
 intro wA nA cA kA
 refine E2 0 3 rfl ?_
 have hcA : zk [] w wA := (c4.trans c3).own cA (by intro y hy; simp at hy; have := c4.size; omega)
 have hk4 := (k4.chg0 c3).chg cA (by simp; have := k4.lt; omega)
 have hd : zk [] wA wA.drew := zk.drew [] _
 refine ze ?_
 have hsz : s.data.toList.length = s.size := by simp
 by_cases h1 : 1 ≤ s.size
 ·by_cases h2 : s.size ≤ 24
  ·obtain ⟨x, r, hxr⟩ : ∃ x r, s.data.toList = x :: r := by
    cases h : s.data.toList with
    | nil => rw [h] at hsz; simp at hsz; omega
    | cons x r => exact ⟨x, r, rfl⟩
   have hat : s.data[0]? = some x := by rw [← Array.getElem?_toList, hxr]; rfl
   cases hf : zgu (x.toNat : Int) with
   | false =>
    refine zJ (fun wz => zk [] wA wz) mix (by kernel_rfl) hd ?_
    refine Tm rfl ?_
    refine Tp (fun _ => yS st9 rfl) rfl ?_
    refine Tp (fun _ => vt (yp rfl rfl) (decide_eq_true (by omega))) rfl ?_
    refine Tm rfl (Tq rfl rfl rfl ?_)
    refine Tg rfl rfl (fun _ => yS st9 rfl) rfl ?_
    refine Tg rfl rfl (fun _ => vt (zbe rfl rfl) (decide_eq_true (by omega))) rfl ?_
    refine Tp (fun _ => zL rfl rfl) rfl ?_
    refine Tm rfl ?_
    refine Tv rfl rfl zo8 rfl rfl rfl (zhD true _) ?_
    rintro v14 w14 ⟨b14, rfl, h14, k14, c14⟩
    refine ⟨.inl (hd.trans c14), ?_⟩
    refine Tq rfl rfl rfl ?_
    refine Tg rfl rfl (fun _ => zch st9 rfl rfl _ rfl hat) rfl ?_
    refine Tg rfl rfl (fun _ => yq zj6 zay rfl rfl) rfl ?_
    refine Tv rfl rfl zpX rfl rfl rfl (zlU _ true b14 _ k14) ?_
    rintro v18 w18 ⟨h18, rfl⟩
    rw [if_pos rfl, show IntKind.i32.wrap (x.toNat : Int) = (x.toNat : Int) from zj2 x, hf] at h18
    subst h18
    refine ⟨.inl (hd.trans c14), ?_⟩
    refine Tp (fun _ => zL rfl rfl) rfl ?_
    refine Tm rfl (Tz rfl rfl (Tz rfl rfl (Tz rfl rfl (Tz rfl rfl ?_))))
    refine Tp (fun _ => zT rfl rfl) rfl ?_
    refine Ta rfl (D1 2 rfl (zi ?_))
    refine zD rfl rfl ?_
    exact ⟨by rw [hxr]; simp [hf], (hcA.trans hd).trans c14⟩
   | true =>
    refine zJ (fun wz => zk [] wA wz) mix (by kernel_rfl) hd ?_
    refine Tm rfl ?_
    refine Tp (fun _ => yS st9 rfl) rfl ?_
    refine Tp (fun _ => vt (yp rfl rfl) (decide_eq_true (by omega))) rfl ?_
    refine Tm rfl (Tq rfl rfl rfl ?_)
    refine Tg rfl rfl (fun _ => yS st9 rfl) rfl ?_
    refine Tg rfl rfl (fun _ => vt (zbe rfl rfl) (decide_eq_true (by omega))) rfl ?_
    refine Tp (fun _ => zL rfl rfl) rfl ?_
    refine Tm rfl ?_
    refine Tv rfl rfl zo8 rfl rfl rfl (zhD true _) ?_
    rintro v14 w14 ⟨b14, rfl, h14, k14, c14⟩
    refine ⟨.inl (hd.trans c14), ?_⟩
    refine Tq rfl rfl rfl ?_
    refine Tg rfl rfl (fun _ => zch st9 rfl rfl _ rfl hat) rfl ?_
    refine Tg rfl rfl (fun _ => yq zj6 zay rfl rfl) rfl ?_
    refine Tv rfl rfl zpX rfl rfl rfl (zlU _ true b14 _ k14) ?_
    rintro v18 w18 ⟨h18, rfl⟩
    rw [if_pos rfl, show IntKind.i32.wrap (x.toNat : Int) = (x.toNat : Int) from zj2 x, hf] at h18
    subst h18
    refine ⟨.inl (hd.trans c14), ?_⟩
    refine Tp (fun _ => zL rfl rfl) rfl ?_
    refine Tm rfl (Tq rfl rfl rfl ?_)
    refine Tg rfl rfl (fun _ => zbr rfl rfl) rfl ?_
    refine Tv rfl rfl zwM rfl rfl rfl (zhR s b4 b3 _ ((hk4.chg0 hd).chg0 c14) ((kA.chg0 hd).chg0 c14)) ?_
    rintro v23 w23 ⟨rfl, c23⟩
    refine ⟨.inl ((hd.trans c14).trans c23), ?_⟩
    refine Tg rfl rfl (fun _ => zO rfl) rfl ?_
    refine Tp (fun _ => zL rfl rfl) rfl ?_
    refine Ta rfl (D1 2 rfl (zi ?_))
    refine zD rfl rfl ?_
    exact ⟨by rw [hxr]; simp [hf, h1, h2], ((hcA.trans hd).trans c14).trans c23⟩
  refine zJ (fun wz => zk [] wA wz) mix (by kernel_rfl) hd ?_
  refine Tm rfl ?_
  refine Tp (fun _ => yS st9 rfl) rfl ?_
  refine Tp (fun _ => vt (yp rfl rfl) (decide_eq_true (by omega))) rfl ?_
  refine Tm rfl (Tq rfl rfl rfl ?_)
  refine Tg rfl rfl (fun _ => yS st9 rfl) rfl ?_
  refine Tg rfl rfl (fun _ => vf (zbe rfl rfl) (decide_eq_false (by omega))) rfl ?_
  refine Tp (fun _ => zL rfl rfl) rfl ?_
  refine Tm rfl (Tz rfl rfl (Tz rfl rfl (Tz rfl rfl (Tz rfl rfl (Tz rfl rfl ?_)))))
  refine Tp (fun _ => zT rfl rfl) rfl ?_
  refine Tm rfl (Tz rfl rfl (Tz rfl rfl (Tz rfl rfl (Tz rfl rfl ?_))))
  refine Tp (fun _ => zT rfl rfl) rfl ?_
  refine Ta rfl (D1 2 rfl (zi ?_))
  refine zD rfl rfl ?_
  exact ⟨by simp [h2], hcA.trans hd⟩
 refine zJ (fun wz => zk [] wA wz) mix (by kernel_rfl) hd ?_
 refine Tm rfl ?_
 refine Tp (fun _ => yS st9 rfl) rfl ?_
 refine Tp (fun _ => vf (yp rfl rfl) (decide_eq_false (by omega))) rfl ?_
 refine Tm rfl (Tz rfl rfl (Tz rfl rfl (Tz rfl rfl ?_)))
 refine Tp (fun _ => zT rfl rfl) rfl ?_
 refine Tm rfl (Tz rfl rfl (Tz rfl rfl (Tz rfl rfl (Tz rfl rfl (Tz rfl rfl ?_)))))
 refine Tp (fun _ => zT rfl rfl) rfl ?_
 refine Tm rfl (Tz rfl rfl (Tz rfl rfl (Tz rfl rfl (Tz rfl rfl ?_))))
 refine Tp (fun _ => zT rfl rfl) rfl ?_
 refine Ta rfl (D1 2 rfl (zi ?_))
 refine zD rfl rfl ?_
 exact ⟨by simp [h1], hcA.trans hd⟩
def fl {α : Type} (f : α → List Value) (l : List α) : List Value := l.flatMap f
section
variable {α : Type} {f : α → List Value} {k : Nat}
theorem zfh (x : α) (l : List α) : fl f (x :: l) = f x ++ fl f l := rfl
theorem zn8 (l m : List α) : fl f (l ++ m) = fl f l ++ fl f m := by simp [fl]
theorem zjK (hf : ∀ x, (f x).length = k) : ∀ l : List α, (fl f l).length = l.length * k
 | [] => by simp [fl]
 | x :: l => by rw [zfh, List.length_append, hf, zjK hf l, List.length_cons, Nat.add_mul]; omega
theorem zna (hf : ∀ x, (f x).length = k) : ∀ (i : Nat) (l : List α), fl f (l.drop i) = (fl f l).drop (i * k)
 | 0, l => by simp
 | i + 1, [] => by simp [fl]
 | i + 1, x :: l => by
  rw [List.drop_succ_cons, zna hf i l, zfh, List.drop_append, hf, Nat.add_mul]
  have : (f x).drop (i * k + 1 * k) = [] := List.drop_eq_nil_of_le (by rw [hf]; omega)
  rw [this, List.nil_append]
  congr 1
  omega
theorem zm8 (hf : ∀ x, (f x).length = k) : ∀ (i : Nat) (l : List α), fl f (l.take i) = (fl f l).take (i * k)
 | 0, l => by simp [fl]
 | i + 1, [] => by simp [fl]
 | i + 1, x :: l => by
  rw [List.take_succ_cons, zfh, zm8 hf i l, zfh, List.take_append, hf, Nat.add_mul]
  have : (f x).take (i * k + 1 * k) = f x := List.take_of_length_le (by rw [hf]; omega)
  rw [this]
  congr 2
  omega
theorem zo9 (hf : ∀ x, (f x).length = k) {l : List α} {i : Nat} {x : α} (h : l[i]? = some x) : ((fl f l).drop (i * k)).take k = f x := by
 rw [← zna hf]
 obtain ⟨hl, rfl⟩ := List.getElem?_eq_some_iff.1 h
 rw [List.drop_eq_getElem_cons hl, zfh]
 exact List.take_left' (hf _)
theorem zs3 (h1 : ∀ x, ∀ u ∈ f x, u.oneCell' = true) (l : List α) : ∀ u ∈ fl f l, u.oneCell' = true := by
 intro u hu
 obtain ⟨x, _, hx⟩ := List.mem_flatMap.1 hu
 exact h1 x u hx
end
def yw {α : Type} (w : World) (e k : Nat) (f : α → List Value) (v : Value) (l : List α) : Prop := zv w e k v l.length (fl f l)
section
variable {α : Type} {f : α → List Value} {w w' : World} {e k : Nat} {v : Value} {l : List α}
theorem yw.chg0 (h : yw w e k f v l) (hc : zk [] w w') : yw w' e k f v l := zv.chg0 h hc
theorem yw.chg {S : List Nat} (h : yw w e k f v l) (hc : zk S w w') (hb : ∀ b ∈ zp v, b ∉ S) : yw w' e k f v l := zv.chg h hc hb
theorem yw.nil (w : World) (e k : Nat) (f : α → List Value) : yw w e k f (.slice none 0 0) [] := zv.nil w e k
theorem yw.val (h : yw w e k f v l) : ∃ p c, v = .slice p l.length c ∧ l.length ≤ c := zv.val h
theorem yw.at (hf : ∀ x, (f x).length = k) (h : yw w e k f v l) {i : Nat} {x : α} (hi : l[i]? = some x) : ∃ b off cap, v = .slice (some ⟨b, off, none⟩) l.length cap ∧ zy w b (off + i * k) (f x) := by
 have hl := (List.getElem?_eq_some_iff.1 hi).1
 obtain ⟨b, off, cap, hv, hc⟩ := zv.atk h hl
 rw [zo9 hf hi] at hc
 exact ⟨b, off, cap, hv, hc⟩
end
def z0 {α : Type} (w : World) (_e k : Nat) (f : α → List Value) (v : Value) (l : List α) : Prop := Rd w k v l.length (fl f l)
def zhA : Value → Bool
 | .int .. | .string _ | .bool _ => true
 | _ => false
def Nl (w : World) (S : List Nat) : Prop := ∀ b ∈ S, ∀ c e fr, w.heap[b]? = some (.cells c e fr) → ∀ u ∈ c.toList, zhA u = false
theorem Nl.one {w : World} {b : Nat} {e : TypeId} {c : List Value} (hb : zU w b e c) (h : ∀ u ∈ c, zhA u = false) : Nl w [b] := fun x hx c' e' fr he => by
 simp at hx; subst hx
 have := Option.some.inj ((show w.heap[x]? = _ from hb).symm.trans he)
 cases this
 simpa using h
section
variable {α : Type} {f : α → List Value} {w w' : World} {e k : Nat} {v : Value} {l : List α}
theorem yw.arr (h : yw w e k f v l) : z0 w e k f v l := zv.toRd h
theorem z0.chg0 (h : z0 w e k f v l) (hc : zk [] w w') : z0 w' e k f v l := Rd.chg0 h hc
theorem z0.chg {S : List Nat} (h : z0 w e k f v l) (hc : zk S w w') (hb : ∀ b ∈ zp v, b ∉ S) : z0 w' e k f v l := Rd.chg h hc hb
theorem z0.chgC {S : List Nat} (h : z0 w e k f v l) (hc : zk S w w') (hf : ∀ x, ∀ u ∈ f x, zhA u = true) (hS : Nl w S) : z0 w' e k f v l :=
 Rd.chgC h hc fun b hb c e fr he u hu hm => by
  obtain ⟨x, _, hx⟩ := List.mem_flatMap.1 hu
  have := hf x u hx
  rw [hS b hb c e fr he u hm] at this; cases this
theorem z0.nil (w : World) (e k : Nat) (f : α → List Value) : z0 w e k f (.slice none 0 0) [] := Rd.nil w k
theorem z0.val (h : z0 w e k f v l) : ∃ p c, v = .slice p l.length c ∧ l.length ≤ c := Rd.val h
theorem z0.max (h : z0 w e k f v l) : l.length ≤ maxLen := Rd.max h
theorem z0.one1 (h : z0 w e k f v l) : v.oneCell' = true := Rd.one1 h
theorem z0.at (hf : ∀ x, (f x).length = k) (h : z0 w e k f v l) {i : Nat} {x : α} (hi : l[i]? = some x) : ∃ b off cap, v = .slice (some ⟨b, off, none⟩) l.length cap ∧ zy w b (off + i * k) (f x) := by
 have hl := (List.getElem?_eq_some_iff.1 hi).1
 obtain ⟨b, off, cap, hv, hc⟩ := Rd.atk h hl
 rw [zo9 hf hi] at hc
 exact ⟨b, off, cap, hv, hc⟩
theorem z0.take (hf : ∀ x, (f x).length = k) {p : Option Addr} {c n : Nat} (h : z0 w e k f (.slice p l.length c) l) (hn : n ≤ l.length) {m : Nat} (h1 : n ≤ m) (h2 : m ≤ c) : z0 w e k f (cut p 0 n m k) (l.take n) := by
 have := Rd.cut h (l := 0) (h := n) (m := m) (by omega) h1 h2 hn
 unfold z0
 rw [zm8 hf, List.length_take, Nat.min_eq_left hn]
 simpa using this
theorem z0.of_blk {b : Nat} {e' : TypeId} (hf : ∀ x, (f x).length = k) (h1 : ∀ x, ∀ u ∈ f x, u.oneCell' = true) (hb : zU w b e' (fl f l)) (hn : l.length ≤ maxLen) : z0 w e k f (.slice (some ⟨b, 0, none⟩) l.length l.length) l :=
 (zv.of_blk hb (zjK hf l) hn (zs3 h1 l)).toRd
end
theorem zbq (x : zQ) : x.cs.length = 4 := rfl
theorem Col.one (c : Col) : ∀ u ∈ c.cs, u.oneCell' = true := by
 intro u hu; simp [Col.cs] at hu; rcases hu with rfl | rfl | rfl | rfl <;> rfl
theorem zap (c : Col) : c.cs.length = 4 := rfl
def ics (i : Int) : List Value := [Ii i]
theorem zev (i : Int) : (ics i).length = 1 := rfl
theorem zjO (i : Int) : ∀ u ∈ ics i, u.oneCell' = true := by intro u hu; simp [ics] at hu; subst hu; rfl
def zK (w : World) (v : Value) (l : List zQ) : Prop := z0 w 40 4 zQ.cs v l
def zgz (w : World) (v : Value) (l : List Col) : Prop := z0 w 25 4 Col.cs v l
def yC (w : World) (v : Value) (l : List Int) : Prop := z0 w 3 1 ics v l
theorem yC.cell {w : World} {v : Value} {l : List Int} (h : yC w v l) {i : Nat} {x : Int} (hi : l[i]? = some x) : ∃ b off cap, v = .slice (some ⟨b, off, none⟩) l.length cap ∧ w.cell? ⟨b, off + i * 1, none⟩ = some (Ii x) := by
 obtain ⟨b, off, cap, hv, hc⟩ := z0.at zev h hi
 exact ⟨b, off, cap, hv, hc 0 _ rfl⟩
def zcc {α : Type} (w : World) (e k : Nat) (f : α → List Value) : List Value → List (List α) → Prop
 | [], [] => True
 | v :: vs, l :: ls => z0 w e k f v l ∧ zcc w e k f vs ls
 | _, _ => False
section
variable {α : Type} {f : α → List Value} {w w' : World} {e k : Nat}
theorem zcc.length : ∀ {vs : List Value} {ls : List (List α)}, zcc w e k f vs ls → vs.length = ls.length
 | [], [], _ => rfl
 | _ :: _, _ :: _, h => by simp [zcc.length h.2]
theorem zcc.at : ∀ {vs : List Value} {ls : List (List α)} {i : Nat} {l : List α}, zcc w e k f vs ls → ls[i]? = some l → ∃ v, vs[i]? = some v ∧ z0 w e k f v l
 | [], [], _, _, _, h => by simp at h
 | v :: vs, l :: ls, 0, l', h, hi => by simp at hi; subst hi; exact ⟨v, rfl, h.1⟩
 | v :: vs, l :: ls, i + 1, l', h, hi => by simpa using h.2.at (by simpa using hi)
theorem zcc.chg {S : List Nat} (hc : zk S w w') : ∀ {vs : List Value} {ls : List (List α)}, (∀ v ∈ vs, ∀ b ∈ zp v, b ∉ S) → zcc w e k f vs ls → zcc w' e k f vs ls
 | [], [], _, _ => trivial
 | v :: vs, l :: ls, hb, h => ⟨h.1.chg hc (hb v (by simp)), zcc.chg hc (fun u hu => hb u (by simp [hu])) h.2⟩
theorem zcc.chg0 {vs : List Value} {ls : List (List α)} (h : zcc w e k f vs ls) (hc : zk [] w w') : zcc w' e k f vs ls := zcc.chg hc (by simp) h
theorem zcc.chgC {S : List Nat} (hc : zk S w w') (hf : ∀ x, ∀ u ∈ f x, zhA u = true) (hS : Nl w S) : ∀ {vs : List Value} {ls : List (List α)}, zcc w e k f vs ls → zcc w' e k f vs ls
 | [], [], _ => trivial
 | _ :: _, _ :: _, h => ⟨z0.chgC h.1 hc hf hS, zcc.chgC hc hf hS h.2⟩
end
def zbd (w : World) (v : Value) (l : List zQ) : Prop := yw w 40 4 zQ.cs v l
def ym {α : Type} (w : World) (e k : Nat) (f : α → List Value) : List Value → List (List α) → Prop
 | [], [] => True
 | v :: vs, l :: ls => yw w e k f v l ∧ ym w e k f vs ls
 | _, _ => False
section
variable {α : Type} {f : α → List Value} {w w' : World} {e k : Nat}
theorem ym.length : ∀ {vs : List Value} {ls : List (List α)}, ym w e k f vs ls → vs.length = ls.length
 | [], [], _ => rfl
 | _ :: _, _ :: _, h => by simp [ym.length h.2]
theorem ym.arr : ∀ {vs : List Value} {ls : List (List α)}, ym w e k f vs ls → zcc w e k f vs ls
 | [], [], _ => trivial
 | _ :: _, _ :: _, h => ⟨yw.arr h.1, ym.arr h.2⟩
theorem ym.at : ∀ {vs : List Value} {ls : List (List α)} {i : Nat} {l : List α}, ym w e k f vs ls → ls[i]? = some l → ∃ v, vs[i]? = some v ∧ yw w e k f v l
 | [], [], _, _, _, h => by simp at h
 | v :: vs, l :: ls, 0, l', h, hi => by simp at hi; subst hi; exact ⟨v, rfl, h.1⟩
 | v :: vs, l :: ls, i + 1, l', h, hi => by simpa using h.2.at (by simpa using hi)
theorem ym.append : ∀ {vs us : List Value} {ls ms : List (List α)}, ym w e k f vs ls → ym w e k f us ms → ym w e k f (vs ++ us) (ls ++ ms)
 | [], _, [], _, _, h => h
 | _ :: _, _, _ :: _, _, h, h' => ⟨h.1, h.2.append h'⟩
theorem ym.chg {S : List Nat} (hc : zk S w w') : ∀ {vs : List Value} {ls : List (List α)}, (∀ v ∈ vs, ∀ b ∈ zp v, b ∉ S) → ym w e k f vs ls → ym w' e k f vs ls
 | [], [], _, _ => trivial
 | v :: vs, l :: ls, hb, h => ⟨h.1.chg hc (hb v (by simp)), ym.chg hc (fun u hu => hb u (by simp [hu])) h.2⟩
theorem ym.chg0 {vs : List Value} {ls : List (List α)} (h : ym w e k f vs ls) (hc : zk [] w w') : ym w' e k f vs ls := ym.chg hc (by simp) h
theorem ym.one : ∀ {vs : List Value} {ls : List (List α)}, ym w e k f vs ls → ∀ u ∈ vs, u.oneCell' = true
 | [], [], _, u, hu => by simp at hu
 | v :: vs, l :: ls, h, u, hu => by
  rcases List.mem_cons.1 hu with rfl | hu
  ·exact zv.one1 h.1
  exact h.2.one u hu
theorem ym.apart {b : Nat} {e' : TypeId} {c : List Value} (hb : zU w b e' c) (hne : Nat.beq e e' = false) : ∀ {vs : List Value} {ls : List (List α)}, ym w e k f vs ls → ∀ v ∈ vs, ∀ x ∈ zp v, x ∉ [b]
 | [], [], _, v, hv => by simp at hv
 | v :: vs, l :: ls, h, u, hu => by
  rcases List.mem_cons.1 hu with rfl | hu
  ·exact zv.apart h.1 hb hne
  exact h.2.apart hb hne u hu
theorem ym.apartSl {e' k' n : Nat} {v : Value} {xs : List Value} (hv : zv w e' k' v n xs) (hne : Nat.beq e e' = false) : ∀ {vs : List Value} {ls : List (List α)}, ym w e k f vs ls → ∀ u ∈ vs, ∀ x ∈ zp u, x ∉ zp v
 | [], [], _, u, hu => by simp at hu
 | u :: vs, l :: ls, h, u', hu => by
  rcases List.mem_cons.1 hu with rfl | hu
  ·exact zv.apartSl h.1 hv hne
  exact h.2.apartSl hv hne u' hu
theorem ym.tab {own : List Nat} {bad : TypeId} (hp : ∀ p ∈ own, ∃ c, zU w p bad c) (hne : Nat.beq e bad = false) (hc : zk own w w') {vs : List Value} {ls : List (List α)} (h : ym w e k f vs ls) : ym w' e k f vs ls :=
 ym.chg hc (fun v hv b hb hm => by
  obtain ⟨c, hx⟩ := hp b hm
  exact h.apart hx hne v hv b hb (by simp)) h
end
def okT (E e : Nat) : Bool := Nat.beq E e || (Nat.beq E 27 && !Nat.beq e 147 && !Nat.beq e 48)
def Ou (w : World) (E : Nat) (v : Value) (len : Nat) (vs : List Value) : Prop :=
 Rd w 1 v len vs ∧ (0 < len → ∃ b off cap e c fr, v = .slice (some ⟨b, off, none⟩) len cap ∧ w.heap[b]? = some (.cells c e fr) ∧ okT E e = true)
section
variable {w w' : World} {E len : Nat} {v : Value} {vs : List Value}
theorem zv.toOu (h : zv w E 1 v len vs) : Ou w E v len vs := by
 refine ⟨h.toRd, fun hp => ?_⟩
 rcases h with ⟨_, rfl, _⟩ | ⟨b, off, cap, c, rfl, h⟩
 ·omega
 exact ⟨b, off, cap, E, _, _, rfl, h.blk, by simp [okT]⟩
def Nt (w : World) (E : Nat) (S : List Nat) : Prop := ∀ b ∈ S, ∀ c e fr, w.heap[b]? = some (.cells c e fr) → okT E e = false
theorem Nt.one {b : Nat} {e : TypeId} {c : List Value} (hb : zU w b e c) (h : okT E e = false) : Nt w E [b] := fun x hx c' e' fr he => by
 simp at hx; subst hx
 have := Option.some.inj ((show w.heap[x]? = _ from hb).symm.trans he)
 cases this
 exact h
theorem Ou.chgS {S : List Nat} (h : Ou w E v len vs) (hc : zk S w w') (hS : Nt w E S) : Ou w' E v len vs := by
 obtain ⟨h1, h2⟩ := h
 rcases Nat.eq_zero_or_pos len with hz | hp
 ·subst hz
  obtain ⟨p, cap, rfl, g2, g3, g4, g5, g6⟩ := h1
  exact ⟨⟨p, cap, rfl, g2, g3, g4, g5, fun h => absurd h (by omega)⟩, fun h => absurd h (by omega)⟩
 obtain ⟨b, off, cap, e, c, fr, rfl, hb, hk⟩ := h2 hp
 have hn : b ∉ S := fun hm => by
  have := hS b hm _ _ _ hb
  rw [hk] at this; cases this
 refine ⟨Rd.chg h1 hc (by intro x hx; simp [zp] at hx; subst hx; exact hn), fun _ => ⟨b, off, cap, e, c, fr, rfl, ?_, hk⟩⟩
 exact (hc.block b (Array.getElem?_eq_some_iff.1 hb).1 hn).trans hb
theorem Ou.chg0 (h : Ou w E v len vs) (hc : zk [] w w') : Ou w' E v len vs := h.chgS hc (fun _ hx => by simp at hx)
theorem Ou.nil (w : World) (E : Nat) : Ou w E (.slice none 0 0) 0 [] := ⟨Rd.nil w 1, fun h => absurd h (by omega)⟩
end
def zaI {α : Type} (w : World) (E e k : Nat) (f : α → List Value) (v : Value) (ls : List (List α)) : Prop := ∃ vs, Ou w E v ls.length vs ∧ zcc w e k f vs ls
section
variable {α : Type} {f : α → List Value} {w w' : World} {E e k : Nat} {v : Value} {ls : List (List α)}
theorem zaI.chg0 (h : zaI w E e k f v ls) (hc : zk [] w w') : zaI w' E e k f v ls := let ⟨vs, h1, h2⟩ := h; ⟨vs, h1.chg0 hc, h2.chg0 hc⟩
theorem zaI.chgS {S : List Nat} (h : zaI w E e k f v ls) (hc : zk S w w') (hf : ∀ x, ∀ u ∈ f x, zhA u = true) (hS : Nt w E S) (hl : Nl w S) : zaI w' E e k f v ls :=
 let ⟨vs, h1, h2⟩ := h; ⟨vs, h1.chgS hc hS, h2.chgC hc hf hl⟩
theorem zaI.nil (w : World) (E e k : Nat) (f : α → List Value) : zaI w E e k f (.slice none 0 0) [] := ⟨[], Ou.nil w E, trivial⟩
theorem zaI.val (h : zaI w E e k f v ls) : ∃ p c, v = .slice p ls.length c ∧ ls.length ≤ c := let ⟨_, h1, _⟩ := h; Rd.val h1.1
theorem zaI.max (h : zaI w E e k f v ls) : ls.length ≤ maxLen := let ⟨_, h1, _⟩ := h; Rd.max h1.1
theorem zaI.at (h : zaI w E e k f v ls) {i : Nat} {l : List α} (hi : ls[i]? = some l) : ∃ b off cap u, v = .slice (some ⟨b, off, none⟩) ls.length cap ∧ w.cell? ⟨b, off + i * 1, none⟩ = some u ∧ z0 w e k f u l := by
 obtain ⟨vs, h1, h2⟩ := h
 obtain ⟨u, hu, ha⟩ := h2.at hi
 obtain ⟨b, off, cap, u', hv, hu', hc⟩ := Rd.at1 h1.1 (List.getElem?_eq_some_iff.1 hi).1
 rw [hu] at hu'
 cases hu'
 exact ⟨b, off, cap, u, hv, hc, ha⟩
theorem zaI.one1 (h : zaI w E e k f v ls) : v.oneCell' = true := let ⟨_, h1, _⟩ := h; Rd.one1 h1.1
end
def Low (w w' : World) : Prop := ∀ b, b < w.heap.size → w'.heap[b]? = w.heap[b]?
theorem Rd.low {w w' : World} {k : Nat} {v : Value} {len : Nat} {xs : List Value} (h : Rd w k v len xs) (hk : Low w w') : Rd w' k v len xs :=
 h.keep fun b off u j _ _ hc => by
  have hlt : b < w.heap.size := by
   rcases Nat.lt_or_ge b w.heap.size with h1 | h1
   ·exact h1
   simp [World.cell?, Array.getElem?_eq_none h1] at hc
  unfold World.cell? at hc ⊢
  rw [hk b hlt]; exact hc
theorem z0.low {α : Type} {f : α → List Value} {w w' : World} {e k : Nat} {v : Value} {l : List α} (h : z0 w e k f v l) (hk : Low w w') : z0 w' e k f v l := Rd.low h hk
theorem zcc.low {α : Type} {f : α → List Value} {w w' : World} {e k : Nat} (hk : Low w w') : ∀ {vs : List Value} {ls : List (List α)}, zcc w e k f vs ls → zcc w' e k f vs ls
 | [], [], _ => trivial
 | _ :: _, _ :: _, h => ⟨Rd.low h.1 hk, zcc.low hk h.2⟩
theorem zd1 (x : zQ) : ∀ u ∈ x.cs, zhA u = true := by intro u hu; simp [zQ.cs] at hu; rcases hu with rfl | rfl | rfl | rfl <;> rfl
theorem zmK (x : Col) : ∀ u ∈ x.cs, zhA u = true := by intro u hu; simp [Col.cs] at hu; rcases hu with rfl | rfl | rfl | rfl <;> rfl
theorem zmB (x : Int) : ∀ u ∈ ics x, zhA u = true := by intro u hu; simp [ics] at hu; subst hu; rfl
def zbt (w : World) (v : Value) (ls : List (List Int)) : Prop := zaI w 27 3 1 ics v ls
def zcO (w : World) (v : Value) (ls : LV) : Prop := zaI w 48 40 4 zQ.cs v ls
structure yO (w : World) (c k u : Value) (s : yo) : Prop where
 cols : zgz w c s.cols
 key : yC w k s.key
 uq : zbt w u s.uq
theorem yO.chg0 {w w' : World} {c k u : Value} {s : yo} (h : yO w c k u s) (hc : zk [] w w') : yO w' c k u s := ⟨z0.chg0 h.cols hc, z0.chg0 h.key hc, zaI.chg0 h.uq hc⟩
theorem yO.chgS {w w' : World} {c k u : Value} {s : yo} (h : yO w c k u s) {S : List Nat} (hc : zk S w w') (hS : Nt w 27 S) (hl : Nl w S) : yO w' c k u s :=
 ⟨z0.chgC h.cols hc zmK hl, z0.chgC h.key hc zmB hl, zaI.chgS h.uq hc zmB hS hl⟩
theorem yO.chgB {w w' : World} {c k u : Value} {s : yo} (h : yO w c k u s) {b : Nat} {e : TypeId} {x : List Value} (hb : zU w b e x) (h3 : okT 27 e = false) (hn : ∀ u ∈ x, zhA u = false) (hc : zk [b] w w') : yO w' c k u s :=
 h.chgS hc (Nt.one hb h3) (Nl.one hb hn)
theorem yO.one {w : World} {c k u : Value} {s : yo} (h : yO w c k u s) : ∀ x ∈ [c, k, u], x.oneCell' = true := by
 intro x hx
 simp at hx
 rcases hx with rfl | rfl | rfl
 ·exact z0.one1 h.cols
 ·exact z0.one1 h.key
 exact h.uq.one1
theorem zhr {α : Type} {p : α → Bool} {l : List α} {j : Nat} {x : α} (hx : l[j]? = some x) (h : p x = true) : l.any p = true := List.any_eq_true.2 ⟨x, List.mem_of_getElem? hx, h⟩
theorem zf9 {α : Type} {p : α → Bool} {l : List α} {j : Nat} {x : α} (hx : l[j]? = some x) (h : p x = false) (ha : (l.take j).any p = false) : (l.take (j + 1)).any p = false := by
 rw [List.take_add_one, hx, List.any_append, ha]
 simp [h]
theorem ztQ {α : Type} {f : α → List Value} (hf : ∀ x, (f x).length = 4) (v : Value) (l : List α) (p : α → Bool) (g : Nat) (lb : List Value) (w : World) (hl : z0 w 25 4 f v l) (hn : l.length ≤ 1048576) (hg : zn TP g = true)
 (hp : ∀ x ∈ l, ∀ w1, zk [] w w1 → z9 TP g (Value.agg (f x).toArray :: lb).toArray w1 fun r w2 => r = .bool (p x) ∧ zk [] w1 w2) :
 z9 TP 150 #[v, .func (.func g) #[] lb.toArray] w fun r w' => ∃ i : Int, r = Ii i ∧ decide (0 ≤ i) = l.any p ∧ zk [] w w' := by
 obtain ⟨pv, cv, hval, hle⟩ := z0.val hl
 refine A2 Tryz.func150 rfl rfl ?_
 refine Sr (Oa rfl (E2 0 1 rfl (ze (ze ?_))))
 subst hval
 refine za (Om rfl (On zaj rfl (Om rfl (E4 0 1 7 8 rfl (zq ?_)))))
 refine zW [0, 1, 7, 8] (fun m F wx => ∃ j : Nat, m = l.length - j ∧ j ≤ l.length ∧ F = [(0, .slice pv l.length cv), (1, .func (.func g) #[] lb.toArray), (7, Ii l.length), (8, Ii j)] ∧ zk [] w wx ∧ (l.take j).any p = false) (m := l.length - 0) ⟨0, rfl, Nat.zero_le _, rfl, zk.refl _ _, by simp⟩ ?_
 rintro m F wx ⟨j, rfl, hj, rfl, hcx, hno⟩
 refine Sr (Og (zC rfl rfl) rfl (E5 0 1 7 8 9 rfl (ze ?_)))
 refine zR rfl (fun hT => ?_) (fun hF => ?_)
 ·refine zm ?_
  have hlt : j < l.length := by have := of_decide_eq_true hT; omega
  have hx : l[j]? = some l[j] := by simp [hlt]
  generalize l[j] = x at hx
  obtain ⟨b, off, cap, hv, hcell⟩ := z0.at hf (z0.chg0 hl hcx) hx
  cases hv
  refine ze (zq (Sr (Om rfl (Oa rfl (E5 0 1 5 7 8 rfl (Sr (Om rfl (Om rfl (Om rfl ?_)))))))))
  refine Og (zf zaj zaT rfl rfl _ rfl hlt) rfl ?_
  refine Og (zg zdX zaT rfl (hf _) hcell) rfl ?_
  refine Oc hg rfl rfl rfl (hp x (List.mem_of_getElem? hx) _ hcx) ?_
  rintro v16 w16 ⟨rfl, c16⟩
  refine E6 0 1 5 7 8 16 rfl ?_
  cases hpx : p x with
  | true =>
   refine zd rfl (Sr (Om rfl (Oa rfl (E1 4 rfl (zi ?_)))))
   repeat first | refine tr ?_ | refine br ?_
   refine zD rfl rfl ?_
   exact ⟨_, rfl, by rw [zhr hx hpx]; simp, hcx.trans c16⟩
  | false =>
   refine zb rfl (ye (zl (za ?_)))
   refine Og (zI rfl rfl (by omega)) rfl ?_
   refine Om rfl (N4 0 1 7 8 rfl ?_)
   exact ⟨l.length - (j + 1), by omega, j + 1, rfl, by omega, rfl, hcx.trans c16, zf9 hx hpx hno⟩
 refine zM ?_
 repeat first | refine te ?_ | refine bo rfl ?_
 refine zt _ ?_
 have he : l.length ≤ j := by have := of_decide_eq_false hF; omega
 refine Sr (Oa rfl (E1 4 rfl (zi ?_)))
 repeat first | refine tr ?_ | refine br ?_
 refine zD rfl rfl ?_
 rw [List.take_of_length_le he] at hno
 exact ⟨_, rfl, by rw [hno]; rfl, hcx⟩
theorem zue {α : Type} {f : α → List Value} (hf : ∀ x, (f x).length = 4) (v : Value) (l : List α) (p : α → Bool) (g : Nat) (lb : List Value) (w : World) (hl : z0 w 25 4 f v l) (hn : l.length ≤ 1048576) (hg : zn TP g = true)
 (hp : ∀ x ∈ l, ∀ w1, zk [] w w1 → z9 TP g (Value.agg (f x).toArray :: lb).toArray w1 fun r w2 => r = .bool (p x) ∧ zk [] w1 w2) :
 z9 TP 113 #[v, .func (.func g) #[] lb.toArray] w fun r w' => r = .bool (l.any p) ∧ zk [] w w' := by
 refine A2 Tryz.func113 rfl rfl ?_
 refine Sr (Oa rfl (E2 0 1 rfl (Sr (Om rfl (Om rfl ?_)))))
 refine Oc zvR rfl rfl rfl (ztQ hf v l p g lb _ hl hn hg hp) ?_
 rintro v7 w7 ⟨i, rfl, hi, c7⟩
 refine Og (yp rfl rfl) rfl ?_
 refine Oa rfl (E1 4 rfl (zi ?_))
 refine zD rfl rfl ?_
 exact ⟨by rw [← hi], c7⟩
theorem ztf {α : Type} {f : α → List Value} (hf : ∀ x, (f x).length = 4) (v : Value) (l : List α) (p : α → Bool) (g : Nat) (lb : List Value) (w : World) (hl : z0 w 40 4 f v l) (hn : l.length ≤ 1048576) (hg : zn TP g = true)
 (hp : ∀ x ∈ l, ∀ w1, zk [] w w1 → z9 TP g (Value.agg (f x).toArray :: lb).toArray w1 fun r w2 => r = .bool (p x) ∧ zk [] w1 w2) :
 z9 TP 145 #[v, .func (.func g) #[] lb.toArray] w fun r w' => ∃ i : Int, r = Ii i ∧ decide (0 ≤ i) = l.any p ∧ zk [] w w' := by
 obtain ⟨pv, cv, hval, hle⟩ := z0.val hl
 refine A2 Tryz.func145 rfl rfl ?_
 refine Sr (Oa rfl (E2 0 1 rfl (ze (ze ?_))))
 subst hval
 refine za (Om rfl (On zao rfl (Om rfl (E4 0 1 7 8 rfl (zq ?_)))))
 refine zW [0, 1, 7, 8] (fun m F wx => ∃ j : Nat, m = l.length - j ∧ j ≤ l.length ∧ F = [(0, .slice pv l.length cv), (1, .func (.func g) #[] lb.toArray), (7, Ii l.length), (8, Ii j)] ∧ zk [] w wx ∧ (l.take j).any p = false) (m := l.length - 0) ⟨0, rfl, Nat.zero_le _, rfl, zk.refl _ _, by simp⟩ ?_
 rintro m F wx ⟨j, rfl, hj, rfl, hcx, hno⟩
 refine Sr (Og (zC rfl rfl) rfl (E5 0 1 7 8 9 rfl (ze ?_)))
 refine zR rfl (fun hT => ?_) (fun hF => ?_)
 ·refine zm ?_
  have hlt : j < l.length := by have := of_decide_eq_true hT; omega
  have hx : l[j]? = some l[j] := by simp [hlt]
  generalize l[j] = x at hx
  obtain ⟨b, off, cap, hv, hcell⟩ := z0.at hf (z0.chg0 hl hcx) hx
  cases hv
  refine ze (zq (Sr (Om rfl (Oa rfl (E5 0 1 5 7 8 rfl (Sr (Om rfl (Om rfl (Om rfl ?_)))))))))
  refine Og (zf zao y6 rfl rfl _ rfl hlt) rfl ?_
  refine Og (zg zbp y6 rfl (hf _) hcell) rfl ?_
  refine Oc hg rfl rfl rfl (hp x (List.mem_of_getElem? hx) _ hcx) ?_
  rintro v16 w16 ⟨rfl, c16⟩
  refine E6 0 1 5 7 8 16 rfl ?_
  cases hpx : p x with
  | true =>
   refine zd rfl (Sr (Om rfl (Oa rfl (E1 4 rfl (zi ?_)))))
   repeat first | refine tr ?_ | refine br ?_
   refine zD rfl rfl ?_
   exact ⟨_, rfl, by rw [zhr hx hpx]; simp, hcx.trans c16⟩
  | false =>
   refine zb rfl (ye (zl (za ?_)))
   refine Og (zI rfl rfl (by omega)) rfl ?_
   refine Om rfl (N4 0 1 7 8 rfl ?_)
   exact ⟨l.length - (j + 1), by omega, j + 1, rfl, by omega, rfl, hcx.trans c16, zf9 hx hpx hno⟩
 refine zM ?_
 repeat first | refine te ?_ | refine bo rfl ?_
 refine zt _ ?_
 have he : l.length ≤ j := by have := of_decide_eq_false hF; omega
 refine Sr (Oa rfl (E1 4 rfl (zi ?_)))
 repeat first | refine tr ?_ | refine br ?_
 refine zD rfl rfl ?_
 rw [List.take_of_length_le he] at hno
 exact ⟨_, rfl, by rw [hno]; rfl, hcx⟩
theorem zux {α : Type} {f : α → List Value} (hf : ∀ x, (f x).length = 4) (v : Value) (l : List α) (p : α → Bool) (g : Nat) (lb : List Value) (w : World) (hl : z0 w 40 4 f v l) (hn : l.length ≤ 1048576) (hg : zn TP g = true)
 (hp : ∀ x ∈ l, ∀ w1, zk [] w w1 → z9 TP g (Value.agg (f x).toArray :: lb).toArray w1 fun r w2 => r = .bool (p x) ∧ zk [] w1 w2) :
 z9 TP 104 #[v, .func (.func g) #[] lb.toArray] w fun r w' => r = .bool (l.any p) ∧ zk [] w w' := by
 refine A2 Tryz.func104 rfl rfl ?_
 refine Sr (Oa rfl (E2 0 1 rfl (Sr (Om rfl (Om rfl ?_)))))
 refine Oc zuU rfl rfl rfl (ztf hf v l p g lb _ hl hn hg hp) ?_
 rintro v7 w7 ⟨i, rfl, hi, c7⟩
 refine Og (yp rfl rfl) rfl ?_
 refine Oa rfl (E1 4 rfl (zi ?_))
 refine zD rfl rfl ?_
 exact ⟨by rw [← hi], c7⟩
theorem zti (v : Value) (l : List Int) (p : Int → Bool) (g : Nat) (lb : List Value) (w : World) (hl : yC w v l) (hn : l.length ≤ 1048576) (hg : zn TP g = true)
 (hp : ∀ x ∈ l, ∀ w1, zk [] w w1 → z9 TP g (Value.int .i64 x :: lb).toArray w1 fun r w2 => r = .bool (p x) ∧ zk [] w1 w2) :
 z9 TP 151 #[v, .func (.func g) #[] lb.toArray] w fun r w' => ∃ i : Int, r = Ii i ∧ decide (0 ≤ i) = l.any p ∧ zk [] w w' := by
 obtain ⟨pv, cv, hval, hle⟩ := z0.val hl
 refine A2 Tryz.func151 rfl rfl ?_
 refine Sr (Oa rfl (E2 0 1 rfl (ze (ze ?_))))
 subst hval
 refine za (Om rfl (On zab rfl (Om rfl (E4 0 1 7 8 rfl (zq ?_)))))
 refine zW [0, 1, 7, 8] (fun m F wx => ∃ j : Nat, m = l.length - j ∧ j ≤ l.length ∧ F = [(0, .slice pv l.length cv), (1, .func (.func g) #[] lb.toArray), (7, Ii l.length), (8, Ii j)] ∧ zk [] w wx ∧ (l.take j).any p = false) (m := l.length - 0) ⟨0, rfl, Nat.zero_le _, rfl, zk.refl _ _, by simp⟩ ?_
 rintro m F wx ⟨j, rfl, hj, rfl, hcx, hno⟩
 refine Sr (Og (zC rfl rfl) rfl (E5 0 1 7 8 9 rfl (ze ?_)))
 refine zR rfl (fun hT => ?_) (fun hF => ?_)
 ·refine zm ?_
  have hlt : j < l.length := by have := of_decide_eq_true hT; omega
  have hx : l[j]? = some l[j] := by simp [hlt]
  generalize l[j] = x at hx
  obtain ⟨b, off, cap, hv, hcell⟩ := yC.cell (z0.chg0 hl hcx) hx
  cases hv
  refine ze (zq (Sr (Om rfl (Oa rfl (E5 0 1 5 7 8 rfl (Sr (Om rfl (Om rfl (Om rfl ?_)))))))))
  refine Og (zf zab sz3 rfl rfl _ rfl hlt) rfl ?_
  refine Ol ag3 rfl hcell ?_
  refine Oc hg rfl rfl rfl (hp x (List.mem_of_getElem? hx) _ hcx) ?_
  rintro v16 w16 ⟨rfl, c16⟩
  refine E6 0 1 5 7 8 16 rfl ?_
  cases hpx : p x with
  | true =>
   refine zd rfl (Sr (Om rfl (Oa rfl (E1 4 rfl (zi ?_)))))
   repeat first | refine tr ?_ | refine br ?_
   refine zD rfl rfl ?_
   exact ⟨_, rfl, by rw [zhr hx hpx]; simp, hcx.trans c16⟩
  | false =>
   refine zb rfl (ye (zl (za ?_)))
   refine Og (zI rfl rfl (by omega)) rfl ?_
   refine Om rfl (N4 0 1 7 8 rfl ?_)
   exact ⟨l.length - (j + 1), by omega, j + 1, rfl, by omega, rfl, hcx.trans c16, zf9 hx hpx hno⟩
 refine zM ?_
 repeat first | refine te ?_ | refine bo rfl ?_
 refine zt _ ?_
 have he : l.length ≤ j := by have := of_decide_eq_false hF; omega
 refine Sr (Oa rfl (E1 4 rfl (zi ?_)))
 repeat first | refine tr ?_ | refine br ?_
 refine zD rfl rfl ?_
 rw [List.take_of_length_le he] at hno
 exact ⟨_, rfl, by rw [hno]; rfl, hcx⟩
theorem zpF (v : Value) (l : List Int) (p : Int → Bool) (g : Nat) (lb : List Value) (w : World) (hl : yC w v l) (hn : l.length ≤ 1048576) (hg : zn TP g = true)
 (hp : ∀ x ∈ l, ∀ w1, zk [] w w1 → z9 TP g (Value.int .i64 x :: lb).toArray w1 fun r w2 => r = .bool (p x) ∧ zk [] w1 w2) :
 z9 TP 116 #[v, .func (.func g) #[] lb.toArray] w fun r w' => r = .bool (l.any p) ∧ zk [] w w' := by
 refine A2 Tryz.func116 rfl rfl ?_
 refine Sr (Oa rfl (E2 0 1 rfl (Sr (Om rfl (Om rfl ?_)))))
 refine Oc zw5 rfl rfl rfl (zti v l p g lb _ hl hn hg hp) ?_
 rintro v7 w7 ⟨i, rfl, hi, c7⟩
 refine Og (yp rfl rfl) rfl ?_
 refine Oa rfl (E1 4 rfl (zi ?_))
 refine zD rfl rfl ?_
 exact ⟨by rw [← hi], c7⟩
theorem zqP (v : Value) (l : List (List Int)) (p : List Int → Bool) (g : Nat) (lb : List Value) (w : World) (hl : zbt w v l) (hn : l.length ≤ 1048576) (hg : zn TP g = true)
 (hp : ∀ x ∈ l, ∀ u w1, zk [] w w1 → yC w1 u x → z9 TP g (u :: lb).toArray w1 fun r w2 => r = .bool (p x) ∧ zk [] w1 w2) :
 z9 TP 152 #[v, .func (.func g) #[] lb.toArray] w fun r w' => ∃ i : Int, r = Ii i ∧ decide (0 ≤ i) = l.any p ∧ zk [] w w' := by
 obtain ⟨pv, cv, hval, hle⟩ := zaI.val hl
 refine A2 Tryz.func152 rfl rfl ?_
 refine Sr (Oa rfl (E2 0 1 rfl (ze (ze ?_))))
 subst hval
 refine za (Om rfl (On zaq rfl (Om rfl (E4 0 1 7 8 rfl (zq ?_)))))
 refine zW [0, 1, 7, 8] (fun m F wx => ∃ j : Nat, m = l.length - j ∧ j ≤ l.length ∧ F = [(0, .slice pv l.length cv), (1, .func (.func g) #[] lb.toArray), (7, Ii l.length), (8, Ii j)] ∧ zk [] w wx ∧ (l.take j).any p = false) (m := l.length - 0) ⟨0, rfl, Nat.zero_le _, rfl, zk.refl _ _, by simp⟩ ?_
 rintro m F wx ⟨j, rfl, hj, rfl, hcx, hno⟩
 refine Sr (Og (zC rfl rfl) rfl (E5 0 1 7 8 9 rfl (ze ?_)))
 refine zR rfl (fun hT => ?_) (fun hF => ?_)
 ·refine zm ?_
  have hlt : j < l.length := by have := of_decide_eq_true hT; omega
  have hx : l[j]? = some l[j] := by simp [hlt]
  generalize l[j] = x at hx
  obtain ⟨b, off, cap, u, hv, hcell, hu⟩ := zaI.at (hl.chg0 hcx) hx
  cases hv
  refine ze (zq (Sr (Om rfl (Oa rfl (E5 0 1 5 7 8 rfl (Sr (Om rfl (Om rfl (Om rfl ?_)))))))))
  refine Og (zf zaq zeA rfl rfl _ rfl hlt) rfl ?_
  refine Ol za3 rfl hcell ?_
  refine Oc hg rfl rfl rfl (hp x (List.mem_of_getElem? hx) u _ hcx hu) ?_
  rintro v16 w16 ⟨rfl, c16⟩
  refine E6 0 1 5 7 8 16 rfl ?_
  cases hpx : p x with
  | true =>
   refine zd rfl (Sr (Om rfl (Oa rfl (E1 4 rfl (zi ?_)))))
   repeat first | refine tr ?_ | refine br ?_
   refine zD rfl rfl ?_
   exact ⟨_, rfl, by rw [zhr hx hpx]; simp, hcx.trans c16⟩
  | false =>
   refine zb rfl (ye (zl (za ?_)))
   refine Og (zI rfl rfl (by omega)) rfl ?_
   refine Om rfl (N4 0 1 7 8 rfl ?_)
   exact ⟨l.length - (j + 1), by omega, j + 1, rfl, by omega, rfl, hcx.trans c16, zf9 hx hpx hno⟩
 refine zM ?_
 repeat first | refine te ?_ | refine bo rfl ?_
 refine zt _ ?_
 have he : l.length ≤ j := by have := of_decide_eq_false hF; omega
 refine Sr (Oa rfl (E1 4 rfl (zi ?_)))
 repeat first | refine tr ?_ | refine br ?_
 refine zD rfl rfl ?_
 rw [List.take_of_length_le he] at hno
 exact ⟨_, rfl, by rw [hno]; rfl, hcx⟩
theorem zqT (v : Value) (l : List (List Int)) (p : List Int → Bool) (g : Nat) (lb : List Value) (w : World) (hl : zbt w v l) (hn : l.length ≤ 1048576) (hg : zn TP g = true)
 (hp : ∀ x ∈ l, ∀ u w1, zk [] w w1 → yC w1 u x → z9 TP g (u :: lb).toArray w1 fun r w2 => r = .bool (p x) ∧ zk [] w1 w2) :
 z9 TP 117 #[v, .func (.func g) #[] lb.toArray] w fun r w' => r = .bool (l.any p) ∧ zk [] w w' := by
 refine A2 Tryz.func117 rfl rfl ?_
 refine Sr (Oa rfl (E2 0 1 rfl (Sr (Om rfl (Om rfl ?_)))))
 refine Oc zxA rfl rfl rfl (zqP v l p g lb _ hl hn hg hp) ?_
 rintro v7 w7 ⟨i, rfl, hi, c7⟩
 refine Og (yp rfl rfl) rfl ?_
 refine Oa rfl (E1 4 rfl (zi ?_))
 refine zD rfl rfl ?_
 exact ⟨by rw [← hi], c7⟩
theorem zqf (v : Value) (l : List Int) (c : Int) (w : World) (hl : yC w v l) (hn : l.length ≤ 1048576) :
 z9 TP 206 #[v, Ii c] w fun r w' => ∃ i : Int, r = Ii i ∧ decide (0 ≤ i) = decide (c ∈ l) ∧ w' = w := by
 obtain ⟨pv, cv, hval, hle⟩ := z0.val hl
 refine A2 Tryz.func206 rfl rfl ?_
 refine Sr (Oa rfl (E2 0 1 rfl (ze (ze ?_))))
 subst hval
 refine za (Om rfl (On zab rfl (Om rfl (E4 0 1 7 8 rfl (zq ?_)))))
 refine zW [0, 1, 7, 8] (fun m F wx => wx = w ∧ ∃ j : Nat, m = l.length - j ∧ j ≤ l.length ∧ F = [(0, .slice pv l.length cv), (1, Ii c), (7, Ii l.length), (8, Ii j)] ∧ c ∉ l.take j) (m := l.length - 0) ⟨rfl, 0, rfl, Nat.zero_le _, rfl, by simp⟩ ?_
 rintro m F wx ⟨hwx, j, rfl, hj, rfl, hno⟩
 subst wx
 refine Sr (Og (zC rfl rfl) rfl (E5 0 1 7 8 9 rfl (ze ?_)))
 refine zR rfl (fun hT => ?_) (fun hF => ?_)
 ·refine zm ?_
  have hlt : j < l.length := by have := of_decide_eq_true hT; omega
  have hx : l[j]? = some l[j] := by simp [hlt]
  generalize l[j] = x at hx
  obtain ⟨b, off, cap, hv, hcell⟩ := yC.cell hl hx
  cases hv
  refine ze (zq (Sr (Om rfl (Oa rfl (E5 0 1 5 7 8 rfl (Sr (Om rfl (Om rfl (Om rfl ?_)))))))))
  refine Og (zf zab sz3 rfl rfl _ rfl hlt) rfl ?_
  refine Ol ag3 rfl hcell ?_
  refine Og (zw rfl rfl) rfl (E6 0 1 5 7 8 16 rfl ?_)
  refine zR rfl (fun hT => ?_) (fun hF => ?_)
  ·have he : c = x := of_decide_eq_true hT
   refine Sr (Om rfl (Oa rfl (E1 4 rfl (zi ?_))))
   repeat first | refine tr ?_ | refine br ?_
   refine zD rfl rfl ?_
   have hm : c ∈ l := he ▸ List.mem_of_getElem? hx
   exact ⟨_, rfl, by simp [hm], rfl⟩
  have he : c ≠ x := of_decide_eq_false hF
  refine ye (zl (za ?_))
  refine Og (zI rfl rfl (by omega)) rfl ?_
  refine Om rfl (N4 0 1 7 8 rfl ?_)
  refine ⟨l.length - (j + 1), by omega, rfl, j + 1, rfl, by omega, rfl, ?_⟩
  rw [List.take_add_one, hx]
  simp [hno, he]
 refine zM ?_
 repeat first | refine te ?_ | refine bo rfl ?_
 refine zt _ ?_
 have he : l.length ≤ j := by have := of_decide_eq_false hF; omega
 refine Sr (Oa rfl (E1 4 rfl (zi ?_)))
 repeat first | refine tr ?_ | refine br ?_
 refine zD rfl rfl ?_
 rw [List.take_of_length_le he] at hno
 exact ⟨_, rfl, by simp [hno], rfl⟩
theorem zk6 (v : Value) (l : List Int) (c : Int) (w : World) (hl : yC w v l) (hn : l.length ≤ 1048576) :
 z9 TP 147 #[v, Ii c] w fun r w' => r = .bool (decide (c ∈ l)) ∧ w' = w := by
 refine A2 Tryz.func147 rfl rfl ?_
 refine Sr (Oa rfl (E2 0 1 rfl (Sr (Om rfl (Om rfl ?_)))))
 refine Oc zwL rfl rfl rfl (zqf v l c _ hl hn) ?_
 rintro v7 w7 ⟨i, rfl, hi, rfl⟩
 refine Og (yp rfl rfl) rfl ?_
 refine Oa rfl (E1 4 rfl (zi ?_))
 refine zD rfl rfl ?_
 exact ⟨by rw [← hi], rfl⟩
def zkX (s k f : Nat) : Value := .agg #[.func (.func s) #[] #[], Ii k, .func (.func f) #[] #[]]
def zgS : List (Int × Value) := [(1, zkX 207 1 208), (2, zkX 207 2 209), (3, zkX 210 3 211), (4, zkX 212 4 213)]
theorem zhk (w : World) : z9 TP 148 #[] w fun r w' => ∃ b, r = .map (some b) ∧ w.heap.size ≤ b ∧ zae (zbB .i64) w' b zgS ∧ zk [] w w' := by
 refine z9.of_W (args := []) Tryz.func148 rfl rfl rfl rfl ?_
 refine Sr (Oa rfl (za1 [] (F' := []) rfl (Sr ?_)))
 refine zE (gn rfl) (zcX (zbB .i64) rfl ?_)
 intro b1 w1 e1 n1 c1 k1
 refine Og (z6 zmX zdf rfl (vs := [_, _, _]) rfl (css := [_, _, _]) ⟨rfl, rfl, rfl, trivial⟩ rfl rfl (cs := [_, _, _]) rfl) rfl ?_
 refine zE (gn rfl) (zaS (κ := zbB .i64) zfA (yv zaF) rfl rfl rfl k1 ?_)
 intro wA nA cA kA
 refine Og (z6 zmX zdf rfl (vs := [_, _, _]) rfl (css := [_, _, _]) ⟨rfl, rfl, rfl, trivial⟩ rfl rfl (cs := [_, _, _]) rfl) rfl ?_
 refine zE (gn rfl) (zaS (κ := zbB .i64) zfA (yv zaF) rfl rfl rfl kA ?_)
 intro wB nB cB kB
 refine Og (z6 zmX zdf rfl (vs := [_, _, _]) rfl (css := [_, _, _]) ⟨rfl, rfl, rfl, trivial⟩ rfl rfl (cs := [_, _, _]) rfl) rfl ?_
 refine zE (gn rfl) (zaS (κ := zbB .i64) zfA (yv zaF) rfl rfl rfl kB ?_)
 intro wC nC cC kC
 refine Og (z6 zmX zdf rfl (vs := [_, _, _]) rfl (css := [_, _, _]) ⟨rfl, rfl, rfl, trivial⟩ rfl rfl (cs := [_, _, _]) rfl) rfl ?_
 refine zE (gn rfl) (zaS (κ := zbB .i64) zfA (yv zaF) rfl rfl rfl kC ?_)
 intro wD nD cD kD
 refine Om rfl (Oa rfl (E1 0 rfl (zi ?_)))
 refine zD rfl rfl ?_
 exact ⟨b1, rfl, by omega, kD, c1.own ((((cA.transS cB).transS cC).transS cD)) (by intro x hx; simp at hx; omega)⟩
def zfw (c : Col) : Bool := decide (1 ≤ c.t ∧ c.t ≤ 4)
def zko (c : Col) : Bool := if c.t = 1 ∨ c.t = 2 then zcS c.s else if c.t = 3 then decide (c.s = 0) else if c.t = 4 then decide (1 ≤ c.s ∧ c.s ≤ 200) else false
theorem zdL (c : Col) : y7 c = (zfw c && zha c.n && zko c) := by
 unfold y7
 rw [show (if c.t = 1 ∨ c.t = 2 then zcS c.s else if c.t = 3 then decide (c.s = 0) else if c.t = 4 then decide (1 ≤ c.s ∧ c.s ≤ 200) else false) = zko c from rfl]
 cases ht : zfw c with
 | true => simp
 | false =>
  simp only [zfw, decide_eq_false_iff_not] at ht
  have : zko c = false := by
   unfold zko
   rw [if_neg (by omega), if_neg (by omega), if_neg (by omega)]
  simp [this]
theorem zeO {c : Col} (h : zfw c = true) : ∃ (s f : Nat) (k : Nat), zdF zgS c.t = some (zkX s k f) ∧ (k : Int) = c.t ∧ zn TP s = true ∧ zn TP f = true ∧ (∀ w, z9 TP s #[Ii c.s] w fun r w' => r = .bool (zko c) ∧ w' = w) ∧
 (y7 c = true → ∀ (x : zQ) w, x.Rng → z9 TP f #[Ii c.s, x.v] w fun r w' => r = .bool (!zbb c x) ∧ zk [] w w') := by
 obtain ⟨n, t, z, nl⟩ := c
 simp only [zfw, decide_eq_true_eq] at h
 rcases (show t = 1 ∨ t = 2 ∨ t = 3 ∨ t = 4 by omega) with rfl | rfl | rfl | rfl
 ·refine ⟨_, _, 1, rfl, rfl, zsb, zwy, fun w => znn z w, fun hr x w hx => zro z x w ?_ hx⟩
  rw [zdL] at hr; simp only [Bool.and_eq_true] at hr; exact hr.2
 ·refine ⟨_, _, 2, rfl, rfl, zsb, zw1, fun w => znn z w, fun hr x w hx => zre z x w ?_ hx⟩
  rw [zdL] at hr; simp only [Bool.and_eq_true] at hr; exact hr.2
 ·exact ⟨_, _, 3, rfl, rfl, zvi, zvO, fun w => zri z w, fun hr x w hx => zqZ z x w⟩
 exact ⟨_, _, 4, rfl, rfl, zv1, zuK, fun w => zqO z w, fun hr x w hx => zqN z x w⟩
theorem zg9 {c : Col} (h : zfw c = false) : zdF zgS c.t = none := by
 simp only [zfw, decide_eq_false_iff_not] at h
 have h1 : ¬ (1 : Int) = c.t := by omega
 have h2 : ¬ (2 : Int) = c.t := by omega
 have h3 : ¬ (3 : Int) = c.t := by omega
 have h4 : ¬ (4 : Int) = c.t := by omega
 simp [zgS, zdF, h1, h2, h3, h4]
theorem zmh {c : Col} {g : Option Value} (hg : zdF zgS c.t = g) : ∃ va vb vc, g.getD (.agg #[.nilFunc, Ii 0, .nilFunc]) = .agg #[va, vb, vc] ∧ va.oneCell' = true ∧ vb.oneCell' = true ∧ vc.oneCell' = true := by
 cases hk : zfw c with
 | false => rw [zg9 hk] at hg; subst hg; exact ⟨_, _, _, rfl, rfl, rfl, rfl⟩
 | true => obtain ⟨s, f, k, h, _⟩ := zeO hk; rw [h] at hg; subst hg; exact ⟨_, _, _, rfl, rfl, rfl, rfl⟩
theorem zhm (c : Col) (w : World) : z9 TP 112 #[c.v] w fun r w' => r = .bool (y7 c) ∧ zk [] w w' := by
 rw [zdL]
 refine A1 Tryz.func112 rfl rfl ?_
 refine Sr ?_
 refine Ob rfl rfl ?_
 intro b1 w1 e1 n1 c1 k1
 refine Oa rfl (E1 1 rfl ?_)
 obtain ⟨g, hg⟩ : ∃ g, zdF zgS c.t = g := ⟨_, rfl⟩
 obtain ⟨va, vb, vc, hv, hva, hvb, hvc⟩ := zmh hg
 refine yf (fun F wA => ∃ b3, F = [(1, Pt b1), (3, Pt b3), (4, .bool g.isSome)] ∧ zU wA b3 259 [va, vb, vc] ∧ zk [] w1 wA) ?_ ?_
 ·have hC := (zk.drew [] w1)
  refine zfe (fun wz => zk [] w1 wz) (zaU.seq [1, 2] (.two 0 (zaU.seq [] (.two 3 (zaU.seq [4, 5, 6, 7, 8, 9] .done) 7 (zaU.seq [3, 4, 5, 6, 8, 9] .done))) 7 (zaU.seq [0, 3, 4, 5, 6, 8, 9] .done))) mix (by kernel_rfl) hC ?_
  refine yd rfl rfl (gn rfl) (fun _ => zj zfP rfl) rfl rfl ?_
  refine zdp rfl rfl (gn rfl) (fun wz hz => zh zmk rfl ((k1.chg0 hz).cell' rfl)) rfl rfl ?_
  refine zeF ?_ ?_
  ·refine zaa rfl rfl (gn rfl) (y5 zmN rfl rfl rfl rfl (zhk _) ?_)
   rintro v6 w6 ⟨b6, rfl, h6, k6, c6⟩
   have hN6 := hC.size
   have hC := hC.trans c6
   refine ⟨.inl hC, ?_⟩
   refine zeF ?_ ?_
   ·refine zaa rfl rfl (gn rfl) (St.vl (zcJ (κ := zbB .i64) zfA (yv zaF) zdf rfl rfl k6 hg hv) rfl rfl ?_)
    refine ⟨.inl hC, ?_⟩
    refine yd rfl rfl (gn rfl) (fun _ => zal rfl) rfl rfl ?_
    refine yd rfl rfl (gn rfl) (fun _ => zP rfl rfl) rfl rfl ?_
    refine yd rfl rfl (gn rfl) (fun _ => zP rfl rfl) rfl rfl ?_
    refine zaa rfl rfl (gn rfl) (zH zdf rfl rfl ?_)
    intro b3 w3 e3 n3 c3 k3
    have hN3 := hC.size
    have hC := hC.trans c3
    have k6 := k6.chg0 c3
    refine ⟨.inl hC, ?_⟩
    refine zaa rfl rfl (gn rfl) (zu zi3 rfl rfl rfl rfl k3 (by simp) (by intro u hu; simp at hu; rcases hu with rfl | rfl | rfl; exact hva; exact hvb; exact hvc) ?_)
    intro wA nA cA kA
    have hC := hC.own cA (by intro y hy; simp at hy; omega)
    refine ⟨.inl hC, ?_⟩
    refine yd rfl rfl (gn rfl) (fun _ => yh rfl) rfl rfl ?_
    refine zcB [1, 3, 4] (F' := [(1, _), (3, _), (4, _)]) rfl ?_
    exact ⟨b3, rfl, kA, hC⟩
   refine zaa rfl rfl (gn rfl) (zH zdf rfl rfl ?_)
   intro b3 w3 e3 n3 c3 k3
   have hN3 := hC.size
   have hC := hC.trans c3
   have k6 := k6.chg0 c3
   refine ⟨.inl hC, ?_⟩
   refine zaa rfl rfl (gn rfl) (St.vl (zcJ (κ := zbB .i64) zfA (yv zaF) zdf rfl rfl k6 hg hv) rfl rfl ?_)
   refine ⟨.inl hC, ?_⟩
   refine yd rfl rfl (gn rfl) (fun _ => zal rfl) rfl rfl ?_
   refine yd rfl rfl (gn rfl) (fun _ => zP rfl rfl) rfl rfl ?_
   refine yd rfl rfl (gn rfl) (fun _ => zP rfl rfl) rfl rfl ?_
   refine zaa rfl rfl (gn rfl) (zu zi3 rfl rfl rfl rfl k3 (by simp) (by intro u hu; simp at hu; rcases hu with rfl | rfl | rfl; exact hva; exact hvb; exact hvc) ?_)
   intro wA nA cA kA
   have hC := hC.own cA (by intro y hy; simp at hy; omega)
   refine ⟨.inl hC, ?_⟩
   refine yd rfl rfl (gn rfl) (fun _ => yh rfl) rfl rfl ?_
   refine zcB [1, 3, 4] (F' := [(1, _), (3, _), (4, _)]) rfl ?_
   exact ⟨b3, rfl, kA, hC⟩
  refine zaa rfl rfl (gn rfl) (zH zdf rfl rfl ?_)
  intro b3 w3 e3 n3 c3 k3
  have hN3 := hC.size
  have hC := hC.trans c3
  refine ⟨.inl hC, ?_⟩
  refine zaa rfl rfl (gn rfl) (y5 zmN rfl rfl rfl rfl (zhk _) ?_)
  rintro v6 w6 ⟨b6, rfl, h6, k6, c6⟩
  have hN6 := hC.size
  have hC := hC.trans c6
  have k3 := k3.chg0 c6
  refine ⟨.inl hC, ?_⟩
  refine zaa rfl rfl (gn rfl) (St.vl (zcJ (κ := zbB .i64) zfA (yv zaF) zdf rfl rfl k6 hg hv) rfl rfl ?_)
  refine ⟨.inl hC, ?_⟩
  refine yd rfl rfl (gn rfl) (fun _ => zal rfl) rfl rfl ?_
  refine yd rfl rfl (gn rfl) (fun _ => zP rfl rfl) rfl rfl ?_
  refine yd rfl rfl (gn rfl) (fun _ => zP rfl rfl) rfl rfl ?_
  refine zaa rfl rfl (gn rfl) (zu zi3 rfl rfl rfl rfl k3 (by simp) (by intro u hu; simp at hu; rcases hu with rfl | rfl | rfl; exact hva; exact hvb; exact hvc) ?_)
  intro wA nA cA kA
  have hC := hC.own cA (by intro y hy; simp at hy; omega)
  refine ⟨.inl hC, ?_⟩
  refine yd rfl rfl (gn rfl) (fun _ => yh rfl) rfl rfl ?_
  refine zcB [1, 3, 4] (F' := [(1, _), (3, _), (4, _)]) rfl ?_
  exact ⟨b3, rfl, kA, hC⟩
 rintro F wA ⟨b3, rfl, kA, hcA⟩
 have hk1 := k1.chg0 hcA
 refine ze ?_
 cases hk : zfw c with
 | false =>
  have hg' : g = none := hg.symm.trans (zg9 hk)
  subst hg'
  refine za (Om rfl (Om rfl (Oz rfl rfl (Oz rfl rfl (Oz rfl rfl (Of rfl (Om rfl (Oz rfl rfl (Oz rfl rfl (Oz rfl rfl (Oz rfl rfl (Oz rfl rfl (Of rfl ?_)))))))))))))
  refine Oa rfl (E1 2 rfl (zi ?_))
  refine zD rfl rfl ?_
  exact ⟨by simp, c1.trans hcA⟩
 | true =>
  obtain ⟨s, f, k, hg', _, hbs, _, hs, _⟩ := zeO hk
  rw [hg'] at hg
  subst hg
  cases hv
  cases hnm : zha c.n with
  | false =>
   refine za (Om rfl (Om rfl ?_))
   refine Oy rfl rfl (zj zbO rfl) ?_
   refine Oy rfl rfl (zh ag9 rfl (hk1.cell' rfl)) ?_
   refine Ow rfl rfl zso rfl rfl rfl (znc c.n _) ?_
   rintro v16 w16 ⟨h16, c16⟩
   rw [hnm] at h16
   subst h16
   refine Ot rfl (Om rfl (Oz rfl rfl (Oz rfl rfl (Oz rfl rfl (Oz rfl rfl (Oz rfl rfl (Of rfl (Oa rfl (E1 2 rfl (zi ?_))))))))))
   refine zD rfl rfl ?_
   exact ⟨by simp, (c1.trans hcA).trans c16⟩
  | true =>
   refine za (Om rfl (Om rfl ?_))
   refine Oy rfl rfl (zj zbO rfl) ?_
   refine Oy rfl rfl (zh ag9 rfl (hk1.cell' rfl)) ?_
   refine Ow rfl rfl zso rfl rfl rfl (znc c.n _) ?_
   rintro v16 w16 ⟨h16, c16⟩
   rw [hnm] at h16
   subst h16
   refine Ot rfl (Om rfl ?_)
   refine Oy rfl rfl (zj zqq rfl) ?_
   refine Oy rfl rfl (zh zuD rfl ((kA.chg0 c16).cell' rfl)) ?_
   refine Oy rfl rfl (zj zbH rfl) ?_
   refine Oy rfl rfl (zh ag3 rfl ((hk1.chg0 c16).cell' rfl)) ?_
   refine Ow rfl rfl hbs rfl rfl rfl (hs _) ?_
   rintro v23 w23 ⟨rfl, rfl⟩
   refine Ot rfl (Oa rfl (E1 2 rfl (zi ?_)))
   refine zD rfl rfl ?_
   exact ⟨by simp, (c1.trans hcA).trans c16⟩
end Go.Wk
