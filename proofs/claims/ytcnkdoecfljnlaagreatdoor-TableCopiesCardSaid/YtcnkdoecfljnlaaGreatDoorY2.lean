/- joined texts -/
import Derived.Test.YtcnkdoecfljnlaaGreatDoorY1
import Derived.Laws.StructEq
import Derived.RangeFuncNested
import Derived.RangeFuncLeaves
import Derived.Carry
import Derived.Scope
import Derived.RangeFuncCalls
import Derived.RangeFuncBound
import Derived.Laws.MakeOwn
import Derived.Laws.IdiomStrings
import Derived.MapKept
import Derived.Maps.RangeRun
import Derived.Defers
import Derived.Recover
set_option linter.all false
namespace Go.Wk
theorem zrF (p : Option Addr) (l h m k : Nat) : ∃ q, cut p l h m k = .slice q (h - l) (m - l) := ⟨_, rfl⟩
theorem zeP {b off l h m k : Nat} (hne : m ≠ l) : cut (some ⟨b, off, none⟩) l h m k = .slice (some ⟨b, off + l * k, none⟩) (h - l) (m - l) := by
 unfold cut
 rw [if_neg hne]
 simp [Addr.add_lit]
theorem zkA {b off h m k : Nat} : cut (some ⟨b, off, none⟩) 0 h m k = .slice (some ⟨b, off, none⟩) h m := by
 unfold cut
 split
 ·rfl
 simp [Addr.add_lit]
theorem zdZ.cut {w : World} {e k b off len cap : Nat} {c xs : List Value} (hs : zdZ w e k b off len cap c xs) {l h m : Nat} (h1 : l ≤ h) (h2 : h ≤ m) (h3 : m ≤ cap) :
 zv w e k (cut (some ⟨b, off, none⟩) l h m k) (h - l) ((c.drop (off + l * k)).take ((h - l) * k)) := by
 have hfit := hs.fit
 have hmk : m * k ≤ cap * k := Nat.mul_le_mul_right _ h3
 have hlk : l * k ≤ m * k := Nat.mul_le_mul_right _ (by omega)
 have hsub : (m - l) * k = m * k - l * k := Nat.sub_mul _ _ _
 have hmax := hs.max
 unfold Wk.cut
 by_cases he : m = l
 ·subst he
  have : h = m := by omega
  subst this
  refine .inr ⟨b, off, 0, c, by simp, ⟨hs.blk, by omega, by omega, by omega, by simp, hs.one⟩⟩
 rw [if_neg he]
 refine .inr ⟨b, off + l * k, m - l, c, by simp [Addr.add_lit], ⟨hs.blk, by omega, by omega, by omega, rfl, hs.one⟩⟩
theorem zv.cut {w : World} {e k len : Nat} {p : Option Addr} {cap : Nat} {xs : List Value} (hs : zv w e k (.slice p len cap) len xs) {l h m : Nat} (h1 : l ≤ h) (h2 : h ≤ m) (h3 : m ≤ cap) (h4 : h ≤ len) :
 zv w e k (Wk.cut p l h m k) (h - l) ((xs.drop (l * k)).take ((h - l) * k)) := by
 rcases hs with ⟨he, rfl, rfl⟩ | ⟨b, off, cap', c, he, hs⟩
 ·simp only [Value.slice.injEq] at he
  obtain ⟨rfl, _, rfl⟩ := he
  have : h = 0 := by omega
  subst this
  have : l = 0 := by omega
  subst this
  have : m = 0 := by omega
  subst this
  exact .inl ⟨by simp [Wk.cut], rfl, by simp⟩
 simp only [Value.slice.injEq] at he
 obtain ⟨rfl, _, rfl⟩ := he
 have := hs.cut h1 h2 h3
 have e1 : (xs.drop (l * k)).take ((h - l) * k) = (c.drop (off + l * k)).take ((h - l) * k) := by
  have hh : h * k ≤ len * k := Nat.mul_le_mul_right _ h4
  have hl : l * k ≤ h * k := Nat.mul_le_mul_right _ h1
  have hs2 : (h - l) * k = h * k - l * k := Nat.sub_mul _ _ _
  rw [hs.xs, List.drop_take, List.take_take, List.drop_drop]
  congr 1
  omega
 rw [e1]
 exact this
theorem zv.cutBlk {p : Option Addr} {l h m k len cap : Nat} : ∀ b ∈ zp (Wk.cut p l h m k), b ∈ zp (.slice p len cap) := by
 intro b hb
 unfold Wk.cut at hb
 cases p with
 | none => split at hb <;> simp [zp] at hb
 | some a =>
  split at hb
  ·simpa [zp] using hb
  simp only [Option.map_some, zp, List.mem_singleton] at hb ⊢
  rw [hb]
  unfold Addr.add
  split <;> rfl
theorem zv.one1 {w : World} {e k : Nat} {v : Value} {len : Nat} {xs : List Value} (h : zv w e k v len xs) : v.oneCell' = true := by
 obtain ⟨p, c, rfl, _⟩ := h.val
 rfl
theorem zv.of_blk {w : World} {e k b n : Nat} {c : List Value} (hb : zU w b e c) (hl : c.length = n * k) (hn : n ≤ maxLen) (h1 : ∀ u ∈ c, u.oneCell' = true) : zv w e k (.slice (some ⟨b, 0, none⟩) n n) n c :=
 .inr ⟨b, 0, n, c, rfl, ⟨hb, Nat.le_refl _, hn, by omega, by rw [List.drop_zero, List.take_of_length_le (by omega)], h1⟩⟩
def zgb (w : World) (e k : Nat) : List Value → List (List Value) → Prop
 | [], [] => True
 | u :: us, x :: xs => zv w e k u (x.length / k) x ∧ zgb w e k us xs
 | _, _ => False
theorem zgb.length {w : World} {e k : Nat} : ∀ {us : List Value} {xss : List (List Value)}, zgb w e k us xss → us.length = xss.length
 | [], [], _ => rfl
 | _ :: _, _ :: _, h => by simp [zgb.length h.2]
theorem zgb.at {w : World} {e k : Nat} : ∀ {us : List Value} {xss : List (List Value)} {i : Nat} {x : List Value}, zgb w e k us xss → xss[i]? = some x → ∃ u, us[i]? = some u ∧ zv w e k u (x.length / k) x
 | [], [], _, _, _, h => by simp at h
 | u :: us, x :: xss, 0, l', h, hi => by simp at hi; subst hi; exact ⟨u, rfl, h.1⟩
 | u :: us, x :: xss, i + 1, l', h, hi => by simpa using h.2.at (by simpa using hi)
theorem zgb.chg0 {w w' : World} {e k : Nat} (hc : zk [] w w') : ∀ {us : List Value} {xss : List (List Value)}, zgb w e k us xss → zgb w' e k us xss
 | [], [], _ => trivial
 | _ :: _, _ :: _, h => ⟨h.1.chg0 hc, zgb.chg0 hc h.2⟩
def zbl (k : Nat) (xss : List (List Value)) (i : Nat) : Nat := ((xss.take i).map fun x => x.length / k).sum
theorem zdz {k : Nat} {xss : List (List Value)} {i : Nat} {x : List Value} (h : xss[i]? = some x) : zbl k xss (i + 1) = zbl k xss i + x.length / k := by
 unfold zbl
 rw [List.take_add_one, h]
 simp
theorem zbN (k : Nat) (xss : List (List Value)) {i j : Nat} (h : i ≤ j) : zbl k xss i ≤ zbl k xss j := by
 induction j with
 | zero => have : i = 0 := by omega
           subst this; exact Nat.le_refl _
 | succ j ih =>
  rcases Nat.lt_or_ge i (j + 1) with h' | h'
  ·have := ih (by omega)
   cases hx : xss[j]? with
   | none =>
    have : xss.length ≤ j := List.getElem?_eq_none_iff.1 hx
    have e : zbl k xss (j + 1) = zbl k xss j := by unfold zbl; rw [List.take_of_length_le (by omega), List.take_of_length_le this]
    omega
   | some x => rw [zdz hx]; exact Nat.le_trans this (Nat.le_add_right _ _)
  have : i = j + 1 := by omega
  subst this; exact Nat.le_refl _
theorem zdN {xss : List (List Value)} {i : Nat} {x : List Value} (h : xss[i]? = some x) : (xss.take (i + 1)).flatten = (xss.take i).flatten ++ x := by
 rw [List.take_add_one, h]
 simp
section
variable {P : Program} {n : Nat} {F : Fr} {w : World} {d : Tmp} {ty t t2 e e2 : TypeId} {k : Nat} {pos : String} {af : Array Edge} {gd : Option (Nat × Bool)} {K : Fr → World → Prop}
theorem zin (hsl : za6 P t = some e) (hk : zan P e = some k) (ht2 : za6 P t2 = some e2) {x y : Operand} {s : Value} {b off l m cap : Nat} {c ys : List Value} (hx : ev F x = some (.slice (some ⟨b, off, none⟩) l cap)) (hy : ev F y = some s) (hb : zU w b e c) (hs : zv w e k s m ys) (hroom : l + m ≤ cap) (hfit : off + cap * k ≤ c.length)
 (hn : Nat.blt d n = true) (h : ∀ w', w'.heap.size = w.heap.size → zk [b] w w' → zU w' b e (yU c (off + l * k) ys) → K ((d, .slice (some ⟨b, off, none⟩) (l + m) cap) :: F) w') :
 St P n F ⟨some d, .call { callee := .builtin .append, args := #[x, y], argTypes := #[t, t2] }, ty, pos, af, gd⟩ w K := by
 have hund := yI hsl
 have hund2 := yI ht2
 have hly := hs.len_xs
 have hls := zgO (P := P) hs
 have hfs := zcN (P := P) hs
 have hcap : (l + m) * k ≤ cap * k := Nat.mul_le_mul_right _ hroom
 have hfit2 : off + l * k + ys.length ≤ c.length := by rw [hly]; rw [Nat.add_mul] at hcap; omega
 have hst := zbJ (P := P) (off := off + l * k) (vs := ys) hb hfit2 hs.one_xs
 refine St.vl (v := .slice (some ⟨b, off, none⟩) (l + m) cap) (w' := w.setRow b (yU c (off + l * k) ys).toArray) ?_ rfl hn (h _ (by simp [World.setRow]) (zk.row _ _ _) (hb.row _))
 intro a ha
 have happ : (Builtin.append_ #[t, t2] ty #[.slice (some ⟨b, off, none⟩) l cap, s]).run P w = .ok (.slice (some ⟨b, off, none⟩) (l + m) cap) (w.setRow b (yU c (off + l * k) ys).toArray) := by
  simp [Builtin.append_, run_underlying hund, run_underlying hund2, zY hk, hls, hroom, hfs, Addr.add_lit, hst]
 simp [execOp, resolve, invoke, builtin, ha.eval hx, ha.eval hy, happ]
end
theorem zdw (A Z Y : List Value) : yU (A ++ Z) A.length Y = A ++ (Y ++ Z.drop Y.length) := by
 unfold yU
 rw [List.take_left, ← List.drop_drop, List.drop_left, List.append_assoc]
theorem zlD (A B S Y : List Value) (h : Y.length ≤ S.length) : ∃ R, yU (yU (A ++ (B ++ S)) (A.length + Y.length) B) A.length Y = A ++ (Y ++ (B ++ R)) ∧ ∀ u ∈ R, u ∈ S ∨ u ∈ B := by
 have e1 : A ++ (B ++ S) = (A ++ (B ++ S).take Y.length) ++ (B ++ S).drop Y.length := by rw [List.append_assoc, List.take_append_drop]
 have hl : (A ++ (B ++ S).take Y.length).length = A.length + Y.length := by simp; omega
 refine ⟨((B ++ S).drop Y.length).drop B.length, ?_, ?_⟩
 ·have hY : ((B ++ S).take Y.length).length = Y.length := by simp; omega
  rw [e1, ← hl, zdw, List.append_assoc, zdw, List.drop_left' hY]
 intro u hu
 have := List.mem_of_mem_drop (List.mem_of_mem_drop hu)
 simp only [List.mem_append] at this
 exact this.symm
theorem zjy {P : Program} {w : World} {pt e : TypeId} {pts rts : Array TypeId} {k : Nat} (hp : pts[0]? = some pt) (hs : za6 P pt = some e) (hk : zan P e = some k) {b1 o1 l1 c1 b2 o2 l2 c2 : Nat} {e1 e2 : TypeId} {x1 x2 : List Value} (h1 : zU w b1 e1 x1) (h2 : zU w b2 e2 x2) (hne : b1 ≠ b2) :
 (Extern.SlicesOverlaps.overlaps pts rts #[.slice (some ⟨b1, o1, none⟩) l1 c1, .slice (some ⟨b2, o2, none⟩) l2 c2]).run P w = .ok (.bool false) w := by
 have hund := yI hs
 have hz : ∀ b e x, zU w b e x → w.shape? b = some (e, x.length) := fun b e x h => by simp [World.shape?, (show w.heap[b]? = _ from h)]
 have f1 : ∀ o, w.frozen? ⟨b1, o, none⟩ = false := fun o => h1.free _ rfl
 have f2 : ∀ o, w.frozen? ⟨b2, o, none⟩ = false := fun o => h2.free _ rfl
 have s1 := hz _ _ _ h1
 have s2 := hz _ _ _ h2
 have hm : (mayBeOne ⟨b1, o1, none⟩ ⟨b2, o2, none⟩).run P w = .ok false w := by
  simp [mayBeOne, stringish, f1, f2, s1, s2]
 have v1 : (noView ⟨b1, o1, none⟩).run P w = .ok () w := by simp [noView, viewAt, s1]
 have v2 : (noView ⟨b2, o2, none⟩).run P w = .ok () w := by simp [noView, viewAt, s2]
 have hbe2 : (b1 == b2) = false := by simpa using hne
 conv => lhs; arg 2; whnf
 simp only [hp, Sem.run_bind, run_underlying hund, Result.andThen_ok, zY hk]
 by_cases h0 : l1 = 0 ∨ l2 = 0 ∨ k = 0
 ·simp [h0]
 simp [h0, hbe2, f1, f2, v1, v2, hm, hne]
section
variable {P : Program} {n : Nat} {Q : Exit → Fr → World → Prop} {F : Fr} {w : World} {o : Oper} {ops : Array Oper} {rest : List Oper} {C : World → Prop} {k d : Nat}
theorem zG {j t : Nat} {b : Bool} (hg : o.guard = some (j, b)) (hd : o.dst = some d) (hn : Nat.blt d n = true) (ht : (ops[j]?).bind (·.dst) = some t) (hv : get F t = some undef) (h : O P n ops Q rest ((d, undef) :: F) w) : O P n ops Q (o :: rest) F w := by
 intro a ha
 have hw : Region.wanted o (yielded ops a.tmps) = false := by
  simp [Region.wanted, hg, yielded, ht, ha.get t _ hv, undef]
 refine wpList_step fun K' hK => ?_
 rw [if_neg (by simp [hw]), hd]
 exact hK _ _ (h _ (ha.put hn undef))
theorem zlc {j t : Nat} {b : Bool} (hg : o.guard = some (j, b)) (hd : o.dst = some d) (hn : Nat.blt d n = true) (ht : (ops[j]?).bind (·.dst) = some t) (hv : get F t = some undef) (h : T P n ops C Q (k + 1) rest ((d, undef) :: F) w) : T P n ops C Q k (o :: rest) F w := by
 intro a ha
 have hw : Region.wanted o (yielded ops a.tmps) = false := by
  simp [Region.wanted, hg, yielded, ht, ha.get t _ hv, undef]
 simp only [wpT, hw, Bool.false_eq_true, if_false]
 rw [hd]
 exact h _ (ha.put hn undef)
end
section
variable {P : Program} {fn : Func} {R : Value → World → Prop} {n : Nat} {F : Fr} {w : World}
theorem zlh {t ty k b off : Nat} {cs : List Value} (hr : fn.results = #[.cell t ty]) (hag : zat P ty = some true) (hk : zan P ty = some k) (hv : get F t = some (.pointer (some ⟨b, off, none⟩))) (hl : cs.length = k) (hc : zy w b off cs) (h : R (.agg cs.toArray) w) (hm : zac F = [] := by rfl) : zeK P fn R n .ret F w := by
 refine ⟨_, fun a ha => ?_, hm, h⟩
 subst hl
 have h1 : (loadCells ⟨b, off, none⟩ cs.length).run P w = .ok cs.toArray w := run_loadCells_list w ⟨b, off, none⟩ cs (fun j v hv => by rw [Addr.add_lit]; exact hc j v hv)
 simp [results, hr, ha.get t _ hv, asAddr, loadVar, zaz hag, zY hk, h1]
theorem zeE {t u s ty k b off : Nat} {v y : Value} {cs : List Value} (hr : fn.results = #[.tmp t, .cell u ty, .tmp s]) (hag : zat P ty = some true) (hk : zan P ty = some k) (hv : get F t = some v) (hu : get F u = some (.pointer (some ⟨b, off, none⟩))) (hy : get F s = some y) (hl : cs.length = k) (hc : zy w b off cs)
 (h : R (.tuple #[v, .agg cs.toArray, y]) w) (hm : zac F = [] := by rfl) : zeK P fn R n .ret F w := by
 refine ⟨.tuple #[v, .agg cs.toArray, y], fun a ha => ?_, hm, h⟩
 subst hl
 have h1 : (loadCells ⟨b, off, none⟩ cs.length).run P w = .ok cs.toArray w := run_loadCells_list w ⟨b, off, none⟩ cs (fun j v hv => by rw [Addr.add_lit]; exact hc j v hv)
 simp [results, hr, ha.get t _ hv, ha.get u _ hu, ha.get s _ hy, asAddr, loadVar, zaz hag, zY hk, h1]
end
theorem zcY {P : Program} {t : TypeId} (h : zhj P t = true) : P.underlying t = some .string := by unfold zhj at h; split at h <;> simp_all
theorem zv.apartSl {w : World} {e k len e' k' len' : Nat} {u v : Value} {xs ys : List Value} (h : zv w e k u len xs) (hv : zv w e' k' v len' ys) (hne : Nat.beq e e' = false) : ∀ x ∈ zp u, x ∉ zp v := by
 rcases hv with ⟨rfl, _, _⟩ | ⟨b, off, cap, c, rfl, hs⟩
 ·simp [zp]
 have := h.apart hs.blk hne
 simpa [zp] using this
theorem yB {v v' : Value} {w : World} (ho : zp v' = zp v ∨ ∃ b, zp v' = [b] ∧ w.heap.size ≤ b) {s : Nat} (hf : ∀ b ∈ zp v, s ≤ b) (hs : s ≤ w.heap.size) : ∀ b ∈ zp v', s ≤ b := by
 rcases ho with ho | ⟨b, ho, hb⟩
 ·rw [ho]; exact hf
 rw [ho]; intro x hx; simp at hx; subst hx; omega
theorem zk.cell {w w' : World} (h : zk [] w w') {a : Addr} {v : Value} (hc : w.cell? a = some v) : w'.cell? a = some v := by
 have hl : a.block < w.heap.size := by
  rcases Nat.lt_or_ge a.block w.heap.size with h' | h'
  ·exact h'
  have hn : w.heap[a.block]? = none := Array.getElem?_eq_none h'
  unfold World.cell? at hc
  rw [hn] at hc
  cases hc
 have hb := h.block a.block hl (by simp)
 unfold World.cell? at hc ⊢
 rw [hb]
 exact hc
theorem zy.chg0 {w w' : World} {b off : Nat} {cs : List Value} (hc : zy w b off cs) (h : zk [] w w') : zy w' b off cs := fun j u hj => h.cell (hc j u hj)
theorem zk.put (w : World) (b : Nat) (o : Obj) : zk [b] w (w.putObj b o) :=
 ⟨rfl, rfl, rfl, by simp [World.putObj], fun k _ hn => World.putObj_heap_other (fun e => hn (by simp [e]))⟩
theorem zk.grown0 {w w' : World} (h : zk [] w w') : w.grownBy w' none := ⟨h.os, h.tape, h.output, h.size, fun k hk _ => h.block k hk (by simp)⟩
def zmU : List Deferred → World → World → Prop
 | [], w, w' => w' = w
 | d :: r, w, w' => ∃ b, d = mkD b ∧ w.heap[b]? = some (.deferred (some [])) ∧ zmU r (w.putObj b (.deferred none)) w'
def zgX (P : Program) (fn : Func) (R : Value → World → Prop) (n : Nat) : Exit → Fr → World → Prop
 | .normal, F, w | .ret, F, w => ∃ v w', zmU (zac F) w w' ∧ (∀ a, Rep n F a → (results fn a.tmps).run P w' = .ok v w') ∧ R v w'
 | _, _, _ => False
theorem ziI {P : Program} {fn : Func} {tmps : Array Value} {R : Ending → World → Prop} {n : Nat} : ∀ (ms : List Deferred) (w w' : World), zmU ms w w' → LeavesIn Fence.wide n P fn tmps R [] .returning w' → LeavesInM Fence.wide n P fn tmps R ms .returning w
 | [], w, w', h, hl => by
  have : w' = w := h
  subst this
  exact hl
 | d :: r, w, w', h, hl => by
  obtain ⟨b, rfl, h1, h2⟩ := h
  refine ⟨by simp, .inl ⟨b, _, rfl, run_takeDeferred h1, ziI r _ w' h2 hl⟩⟩
theorem z9.of_WM {P : Program} {f : FuncId} {fn : Func} {c : Code} {args : List Value} {w : World} {R : Value → World → Prop} {n : Nat} {F : Fr}
 (hf : P.funcs[f]? = some fn) (hb : fn.body = some c) (hn : fn.ntmps = n) (hl : Nat.ble args.length n = true) (hF : frameOf 0 args = F)
 (h : W P n c (zgX P fn R n) F w) (hk : Nat.ble n 1000000 = true := by rfl) : z9 P f args.toArray w R := by
 subst hF hn
 refine (callsIn_wide (n := 3)).1 ?_
 refine callsIn_of_wp_marks hf hb trivial ?_
 refine wpIn_wide.2 ?_
 refine wp_mono (h _ (Rep.frameOf hl (Nat.le_of_ble_eq_true hk))) ?_
 rintro e a w' ⟨F', hr', hq⟩
 have fin : (∃ v w1, zmU (zac F') w' w1 ∧ (∀ a, Rep fn.ntmps F' a → (results fn a.tmps).run P w1 = .ok v w1) ∧ R v w1) → LeavesInM Fence.wide 3 P fn a.tmps (fun e w' => ∃ v, e = .returned v ∧ R v w') a.defers .returning w' := by
  rintro ⟨v, w1, hs, hv, hR⟩
  rw [hr'.defers]
  refine ziI _ _ _ hs ?_
  exact ⟨v, hv _ hr', v, rfl, hR⟩
 cases e <;> simp only [zgX] at hq
 case normal => exact fin hq
 case ret => exact fin hq
section
variable {P : Program} {fn : Func} {R : Value → World → Prop} {n : Nat} {F : Fr} {w : World}
theorem zpf {t ty : Nat} {p : Addr} {v : Value} (hr : fn.results = #[.cell t ty]) (hag : zat P ty = some false) (hv : get F t = some (.pointer (some p))) (hc : w.cell? p = some v) (h : R v w) (hm : zac F = [] := by rfl) : zgX P fn R n .ret F w := by
 refine ⟨v, w, by rw [hm]; rfl, fun a ha => ?_, h⟩
 simp [results, hr, ha.get t _ hv, asAddr, loadVar, zaz hag, hc]
theorem zjY {t ty D : Nat} {p : Addr} {v : Value} (hr : fn.results = #[.cell t ty]) (hag : zat P ty = some false) (hv : get F t = some (.pointer (some p))) (hm : zac F = [mkD D]) (hD : w.heap[D]? = some (.deferred (some [])))
 (h : ∀ w', zk [D] w w' → w'.cell? p = some v ∧ R v w') : zgX P fn R n .ret F w := by
 have hh := h _ (zk.put w D (.deferred none))
 refine ⟨v, _, by rw [hm]; exact ⟨D, rfl, hD, rfl⟩, fun a ha => ?_, hh.2⟩
 simp [results, hr, ha.get t _ hv, asAddr, loadVar, zaz hag, hh.1]
end
section
variable {P : Program} {n : Nat} {Q : Exit → Fr → World → Prop} {F : Fr} {w : World}
def zl4 (Q : Exit → Fr → World → Prop) : Exit → Fr → World → Prop
 | .goto _, _, _ => False
 | e, F, w => Q e F w
theorem zhq {c : Code} (h : W P n c (zl4 Q) F w) : W P n (.scope c) Q F w := by
 intro a ha
 refine wp_scope_straight (wp_mono (h a ha) ?_)
 rintro e a' w' ⟨F', hr, hq⟩
 cases e with
 | goto l => exact hq.elim
 | _ => exact ⟨F', hr, hq⟩
theorem Rep.mark {a : Act} (h : Rep n F a) (D : Nat) : Rep n ((1000000, .int .i64 D) :: F) { a with defers := { target := .collected D, args := #[] } :: a.defers } := by
 refine ⟨h.lt, h.size, ?_, fun i v hi => ?_⟩
 ·have hb : Nat.ble 1000000 1000000 = true := rfl
  have e : zac ((1000000, Value.int .i64 (D : Int)) :: F) = mkD D :: zac F := by simp [zac, zdx, dOf, zpY, hb]
  rw [e]
  simp [h.defers, mkD]
 refine h.get i v ?_
 simp only [Wk.get] at hi
 by_cases e : i = 1000000
 ·subst e
  have hb : Nat.ble 1000000 1000000 = true := rfl
  simp [hb] at hi
 rw [zjS e] at hi; exact hi
end
inductive zaU where
 | done
 | one (i : Nat) (t : zaU)
 | two (i : Nat) (t : zaU) (j : Nat) (u : zaU)
def zaU.seq : List Nat → zaU → zaU
 | [], t => t
 | i :: r, t => .one i (zaU.seq r t)
def wpF (P : Program) (ops : Array Oper) (C : World → Prop) (Q : Act → World → Prop) : zaU → Act → World → Prop
 | .done, a, w => Q a w
 | .one i t, a, w => tOp P ops C i (wpF P ops C Q t) a w
 | .two i t j u, a, w => tOp P ops C i (wpF P ops C Q t) a w ∧ tOp P ops C j (wpF P ops C Q u) a w
def zpW (ops : Array Oper) (listed : Array Bool) (i : Nat) : Bool := match ops[i]? with
 | none => false
 | some oi => (List.range ops.size).all fun j => Nat.beq j i || listed.getD j true || zhW ops i oi j
def okF (ops : Array Oper) : zaU → Nat → Array Bool → Bool
 | .done, _, listed => (Region.ready .any ops listed).isEmpty
 | .one _ _, 0, _ => false
 | .one i t, f + 1, listed => (Region.ready .any ops listed).contains i && zpW ops listed i && okF ops t f (listed.setIfInBounds i true)
 | .two .., 0, _ => false
 | .two i t j u, f + 1, listed => (Region.ready .any ops listed == [i, j]) && okF ops t f (listed.setIfInBounds i true) && okF ops u f (listed.setIfInBounds j true)
def okR (ops : Array Oper) (t : zaU) : Bool := (List.range ops.size).all (fun i => match ops[i]? with | some o => kd o != 3 | none => true) && okF ops t ops.size (Array.replicate ops.size false)
section
variable {P : Program} {ops : Array Oper} {C : World → Prop}
theorem zhn {Q : Act → World → Prop} (hk3 : ∀ (j : Nat) (oj : Oper), ops[j]? = some oj → kd oj ≠ 3) {w0 : World} (hw0 : C w0) : ∀ (t : zaU) (f : Nat) (listed : Array Bool) (a : Act) (w : World),
 okF ops t f listed = true → zdd ops listed → wpF P ops C Q t a w → aT P ops C Q f listed a w
 | .done, f, listed, a, w, h, _, hq => by
  have hr : Region.ready .any ops listed = [] := by simpa [okF] using h
  cases f with
  | zero => exact ⟨hr, hq⟩
  | succ f => exact ⟨fun _ => hq, fun i hi => by rw [hr] at hi; cases hi⟩
 | .one i t, 0, listed, a, w, h, _, _ => by simp [okF] at h
 | .one i t, f + 1, listed, a, w, h, hc, hq => by
  simp only [okF, Bool.and_eq_true, List.contains_iff_mem] at h
  obtain ⟨⟨hr, hf⟩, ht⟩ := h
  unfold zpW at hf
  split at hf
  ·cases hf
  rename_i oi hi
  refine zkg hi (hk3 i oi hi) hk3 hw0 f listed a w hc ?_ hr ?_
  ·intro j oj hj hne hun
   have h1 := List.all_eq_true.1 hf j (List.mem_range.2 (Array.getElem?_eq_some_iff.1 hj).1)
   simp only [Bool.or_eq_true, hun, Bool.false_eq_true, or_false, zhW, hj] at h1
   rcases h1 with h1 | h1
   ·exact absurd (Nat.eq_of_beq_eq_true h1) hne
   rcases h1 with h1 | h1
   ·exact .inl h1
   simp only [Bool.and_eq_true, Bool.not_eq_true'] at h1
   refine .inr ⟨h1.1, fun ⟨e1, e2⟩ => ?_⟩
   have h3 := h1.2
   rw [e1, e2] at h3
   simp at h3
  exact zeS (fun a' w' _ h' => zhn hk3 hw0 t f _ a' w' ht (hc.set hr) h') hq
 | .two i t j u, 0, listed, a, w, h, _, _ => by simp [okF] at h
 | .two i t j u, f + 1, listed, a, w, h, hc, hq => by
  simp only [okF, Bool.and_eq_true, beq_iff_eq] at h
  obtain ⟨⟨hr, ht⟩, hu⟩ := h
  have hi : i ∈ Region.ready .any ops listed := by rw [hr]; simp
  have hj : j ∈ Region.ready .any ops listed := by rw [hr]; simp
  refine ⟨fun h0 => (by rw [h0] at hi; cases hi), fun k hk => ?_⟩
  rw [hr] at hk
  simp only [List.mem_cons, List.not_mem_nil, or_false] at hk
  rcases hk with rfl | rfl
  ·exact zeS (fun a' w' _ h' => zhn hk3 hw0 t f _ a' w' ht (hc.set hi) h') hq.1
  exact zeS (fun a' w' _ h' => zhn hk3 hw0 u f _ a' w' hu (hc.set hj) h') hq.2
theorem zlp {id : Nat} {t : zaU} {Q : Act → World → Prop} {Q' : Exit → Act → World → Prop} {a : Act} {w : World} (hQ : ∀ a w, Q a w → Q' .normal a w) (hm : P.follows .mixedOrders = true) (hB : okR ops t = true) (hC : C w.drew)
 (h : wpF P ops C Q t a w.drew) : (Code.region id ops true).wp P Q' a w := by
 refine wp_region_any hm ?_
 simp only [okR, Bool.and_eq_true] at hB
 have hcl : zdd ops (Array.replicate ops.size false) := by
  intro j oj hj hl
  have hjlt := (Array.getElem?_eq_some_iff.1 hj).1
  simp [hjlt] at hl
 have := zhn (P := P) (Q := Q) (fun j oj hj => by
  have h1 := List.all_eq_true.1 hB.1 j (List.mem_range.2 (Array.getElem?_eq_some_iff.1 hj).1)
  rw [hj] at h1
  simpa using h1) hC t ops.size _ a w.drew hB.2 hcl h
 exact ze2 (C := C) hQ _ _ _ _ hcl (.inl hC) (by simpa using this)
end
section
variable {P : Program} {n : Nat} {Q : Exit → Fr → World → Prop} {F : Fr} {w w' : World} {o : Oper} {ops : Array Oper} {C : World → Prop} {i d : Nat} {t : zaU}
def TF (P : Program) (n : Nat) (ops : Array Oper) (C : World → Prop) (Q : Exit → Fr → World → Prop) (t : zaU) (F : Fr) (w : World) : Prop :=
 ∀ a, Rep n F a → wpF P ops C (fun a w => ∃ F, Rep n F a ∧ Q .normal F w) t a w
theorem zfe (C : World → Prop) (t : zaU) {id : Nat} {l : List Oper} (hm : P.follows .mixedOrders = true) (hB : okR l.toArray t = true) (hC : C w.drew) (h : TF P n l.toArray C Q t F w.drew) : W P n (.region id l.toArray true) Q F w :=
 fun a ha => zlp (C := C) (Q := fun a w => ∃ F, Rep n F a ∧ Q .normal F w) (fun _ _ h => h) hm hB hC (h a ha)
theorem zcB {K : Fr → World → Prop} (keep : List Nat) {F' : Fr} (hF : prune keep F = F') (h : K F' w) : TF P n ops C (zaY K Q) .done F w := fun _ ha => ⟨F', hF ▸ ha.prune keep, h⟩
theorem zeF {i j : Nat} {t u : zaU} (h1 : TF P n ops C Q (.one i t) F w) (h2 : TF P n ops C Q (.one j u) F w) : TF P n ops C Q (.two i t j u) F w := fun a ha => ⟨h1 a ha, h2 a ha⟩
theorem yd {v : Value} (hi : ops[i]? = some o) (hk : Nat.ble (kd o) 1 = true) (hw : Wd n F ops o) (hv : ∀ w, Vl P n F o w v w) (hd : o.dst = some d) (hn : Nat.blt d n = true) (h : TF P n ops C Q t ((d, v) :: F) w) : TF P n ops C Q (.one i t) F w := by
 intro a ha
 have hk' : kd o = 0 ∨ kd o = 1 := by have := Nat.le_of_ble_eq_true hk; omega
 rcases hk' with hk | hk
 ·simp only [wpF, tOp, hi, hw a ha, if_true, tAt, hk]
  refine ⟨v, fun w' => hv w' a ha, ?_⟩
  rw [hd]
  exact h _ (ha.put hn v)
 simp only [wpF, tOp, hi, hw a ha, if_true, tAt, hk]
 refine ⟨v, fun w' _ => hv w' a ha, ?_⟩
 rw [hd]
 exact h _ (ha.put hn v)
theorem zdp {v : Value} (hi : ops[i]? = some o) (hk : kd o = 1) (hw : Wd n F ops o) (hv : ∀ w, C w → Vl P n F o w v w) (hd : o.dst = some d) (hn : Nat.blt d n = true) (h : TF P n ops C Q t ((d, v) :: F) w) : TF P n ops C Q (.one i t) F w := by
 intro a ha
 simp only [wpF, tOp, hi, hw a ha, if_true, tAt, hk]
 refine ⟨v, fun w' hw' => hv w' hw' a ha, ?_⟩
 rw [hd]
 exact h _ (ha.put hn v)
theorem zaa (hi : ops[i]? = some o) (hk : kd o = 2) (hw : Wd n F ops o) (h : St P n F o w (fun F' w' => (C w' ∨ fin ops i = true) ∧ TF P n ops C Q t F' w')) : TF P n ops C Q (.one i t) F w := by
 intro a ha
 simp only [wpF, tOp, hi, hw a ha, if_true, tAt, hk]
 refine Oper.wp_mono ?_ (zkP (h a ha) fun a' w' ⟨F', _, hd, _⟩ => hd)
 rintro a' w' ⟨hs, F', hr, _, hc, hT⟩
 exact ⟨hc, hs, hT _ hr⟩
end
def fz (ρ : Option Nat) : Fence := { Fence.wide with round := ρ }
def zi8 (o : Oper) : Bool := match o.op with | .defer _ => true | _ => false
def WX (ρ : Option Nat) (P : Program) (n : Nat) (c : Code) (Q : Exit → Fr → World → Prop) (F : Fr) (w : World) : Prop :=
 ∀ a, Rep n F a → c.wpIn (fz ρ) 1 P (zrp n Q) a w
def OX (ρ : Option Nat) (P : Program) (n : Nat) (ops : Array Oper) (Q : Exit → Fr → World → Prop) (l : List Oper) (F : Fr) (w : World) : Prop :=
 ∀ a, Rep n F a → wpListIn (fz ρ) 1 P ops (zrp n Q) l a w
theorem zfL {ρ : Option Nat} {m : Nat} {P : Program} {o : Oper} {a : Act} {w : World} {K next : Act → World → Prop} {Q : Exit → Act → World → Prop} (hnd : zi8 o = false) (h : o.wp P a w K (fun _ _ _ => False)) (hk : ∀ a' w', K a' w' → next a' w') : o.wpIn (fz ρ) m P a w next Q := by
 have hnd' : ∀ c, o.op ≠ .defer c := fun c e => by simp [zi8, e] at hnd
 refine ⟨fun _ _ => trivial, ?_⟩
 rw [Oper.semAt_eq _ _ _ hnd']
 unfold Oper.wp at h
 generalize (execOp a.eval o).run P w = r at *
 cases r with
 | ok x w1 =>
  cases x <;> simp only [Oper.upon] at h
  case value v => exact hk _ _ h
  case skip => exact hk _ _ h
  case defer d => exact hk _ _ h
  case enter f args =>
   refine ⟨fun e => by simp [fz, Fence.wide] at e, ?_⟩
   have h2 : Calls P f args w1 fun e w'' => match e, w'' with
    | .returned v, w'' => next (a.put o.dst v) w''
    | .panicked chain, w'' => Q (.panic chain) a w''
    | .outgrown, _ => LetsOut Q := by
    refine Calls.mono h ?_
    intro e w2 he
    cases e with
    | returned v => exact hk _ _ he
    | panicked c => exact he.elim
    | outgrown => obtain ⟨_, _, hx⟩ := he; exact hx.elim
   exact (callsIn_wide (n := m - 1)).2 h2
  case row row args =>
   refine ⟨fun e => by simp [fz, Fence.wide] at e, ?_⟩
   have h2 := Rows.mono h fun v w2 hv => hk _ _ hv
   exact fun c cs _ => let ⟨v, w', r, s⟩ := h2 c cs; ⟨v, w', r, stepsIn_wide.2 s⟩
 | halt x w1 => cases x <;> simp only [Oper.upon] at h
section
variable {ρ : Option Nat} {P : Program} {n : Nat} {Q : Exit → Fr → World → Prop} {F : Fr} {w : World} {o : Oper} {ops : Array Oper} {rest : List Oper} {d : Nat}
theorem zb7 {x y : Code} (h : WX ρ P n x (zaY (fun F w => WX ρ P n y Q F w) Q) F w) : WX ρ P n (.seq x y) Q F w := by
 intro a ha
 refine wpIn_seq (wpIn_mono (h a ha) ?_)
 rintro e a' w' ⟨F', hr, hq⟩
 cases e with
 | normal => exact hq a' hr
 | _ => exact ⟨F', hr, hq⟩
theorem zc4 {c : Operand} {x y : Code} (hc : ev F c = some (.bool true)) (h : WX ρ P n x Q F w) : WX ρ P n (.cond c x y) Q F w := fun a ha => wpIn_cond_true (ha.eval hc) (h a ha)
theorem zbV {c : Operand} {x y : Code} (hc : ev F c = some (.bool false)) (h : WX ρ P n y Q F w) : WX ρ P n (.cond c x y) Q F w := fun a ha => wpIn_cond_false (ha.eval hc) (h a ha)
theorem zt7 {c : Operand} {x y : Code} {b : Bool} (hc : ev F c = some (.bool b)) (ht : b = true → WX ρ P n x Q F w) (hf : b = false → WX ρ P n y Q F w) : WX ρ P n (.cond c x y) Q F w := by
 cases b with
 | true => exact zc4 hc (ht rfl)
 | false => exact zbV hc (hf rfl)
theorem zfg {id : Nat} {c : Code} (h : WX ρ P n c (zdb id Q) F w) : WX ρ P n (.block id c) Q F w := by
 intro a ha
 refine wpIn_block (wpIn_mono (h a ha) ?_)
 rintro e a' w' ⟨F', hr, hq⟩
 cases e with
 | exit id' =>
  simp only [zdb] at hq
  simp only [Exit.inBlock]
  split
  ·rename_i e; rw [if_pos e] at hq; exact ⟨F', hr, hq⟩
  rename_i e; rw [if_neg e] at hq; exact ⟨F', hr, hq⟩
 | _ => exact ⟨F', hr, hq⟩
theorem zgN (h : Q .normal F w) : WX ρ P n .skip Q F w := fun _ ha => wpIn_skip ⟨F, ha, h⟩
theorem zru {K : Fr → World → Prop} (h : K F w) : WX ρ P n .skip (zaY K Q) F w := zgN h
theorem zoN {id : Nat} (h : Q (.exit id) F w) : WX ρ P n (.exit id) Q F w := fun _ ha => wpIn_exit ⟨F, ha, h⟩
theorem zsF (h : Q .ret F w) : WX ρ P n .ret Q F w := fun _ ha => wpIn_ret ⟨F, ha, h⟩
theorem zrb (keep : List Nat) {c : Code} {F' : Fr} (hF : prune keep F = F') (h : WX ρ P n c Q F' w) : WX ρ P n c Q F w := fun a ha => h a (hF ▸ ha.prune keep)
theorem yH {id : Nat} {l : List Oper} (h : OX ρ P n l.toArray Q l F w) : WX ρ P n (.region id l.toArray false) Q F w := fun a ha => wpIn_region_lit (h a ha)
theorem zbx {K : Fr → World → Prop} (keep : List Nat) {F' : Fr} (hF : prune keep F = F') (h : K F' w) : OX ρ P n ops (zaY K Q) [] F w := fun _ ha => wpListIn_nil ⟨F', hF ▸ ha.prune keep, h⟩
theorem zfR (keep : List Nat) {F' : Fr} (hF : prune keep F = F') (h : Q .normal F' w) : OX ρ P n ops Q [] F w := fun _ ha => wpListIn_nil ⟨F', hF ▸ ha.prune keep, h⟩
theorem yy (hw : Wd n F ops o) (hnd : zi8 o = false) (h : St P n F o w (fun F' w' => OX ρ P n ops Q rest F' w')) : OX ρ P n ops Q (o :: rest) F w := by
 intro a ha
 refine wpListIn_step fun K hK => ?_
 rw [if_pos (hw a ha)]
 refine zfL hnd (h a ha) ?_
 rintro a' w' ⟨F', hr, _, hO⟩
 exact hK _ _ (hO _ hr)
theorem zuq {j t : Nat} {b b' : Bool} (hg : o.guard = some (j, b)) (hd : o.dst = some d) (hn : Nat.blt d n = true) (ht : (ops[j]?).bind (·.dst) = some t) (hv : get F t = some (.bool b'))
 (hne : b' = !b) (h : OX ρ P n ops Q rest ((d, undef) :: F) w) : OX ρ P n ops Q (o :: rest) F w := by
 intro a ha
 have hw : Region.wanted o (yielded ops a.tmps) = false := by
  subst hne
  simp [Region.wanted, hg, yielded, ht, ha.get t _ hv]
 refine wpListIn_step fun K hK => ?_
 rw [if_neg (by simp [hw]), hd]
 exact ⟨fun _ _ => trivial, hK _ _ (h _ (ha.put hn undef))⟩
end
def Kp (S : List Nat) (B : Nat) (W W' : World) : Prop := W.heap.size ≤ W'.heap.size ∧ ∀ k, k < B → k ∉ S → W'.heap[k]? = W.heap[k]?
theorem Kp.trans {S : List Nat} {B : Nat} {W1 W2 W3 : World} (h : Kp S B W1 W2) (k : Kp S B W2 W3) : Kp S B W1 W3 := ⟨Nat.le_trans h.1 k.1, fun i hi hs => (k.2 i hi hs).trans (h.2 i hi hs)⟩
def zsQ {α : Type} (S0 : List Nat) (I : List α → World → Prop) (Ix : Code → List α → World → Prop) (xs : List α) (W : World) : Exit → Fr → World → Prop
 | .normal, _, W' => zk S0 W W' ∧ I xs W'
 | .ret, _, W' => zk S0 W W' ∧ Ix .ret xs W'
 | .exit id, _, W' => zk S0 W W' ∧ Ix (.exit id) xs W'
 | _, _, _ => False
section
variable {P : Program} {n : Nat} {Q : Exit → Fr → World → Prop} {F : Fr} {w : World}
theorem zrL {α : Type} {g : Operand} {ps : Array Tmp} {assign body : Code} {gf : FuncId} {lb : List Value} {encs : α → Array Value} {S Sp : List α → Prop} {N : Nat} (S0 : List Nat) (I : List α → World → Prop) (Ix : Code → List α → World → Prop) (F1 Fx : α → Fr)
 (hg : ev F g = some (.func (.func gf) #[] lb.toArray)) (hb : zn P gf = true) (hS0 : ∀ b ∈ S0, b < w.heap.size)
 (hseq : SeqStopsK Fence.wide 2 P gf lb.toArray encs (Kp S0 w.heap.size) S Sp N w) (hps : ∀ x, (encs x).size = ps.size)
 (hI : ∀ pre W W' T, (∀ b ∈ T, w.heap.size ≤ b) → zk T W W' → I pre W → I pre W') (hIx : ∀ c pre W W' T, (∀ b ∈ T, w.heap.size ≤ b) → zk T W W' → Ix c pre W → Ix c pre W') (h0 : I [] w) (hsz : ∀ pre W, I pre W → w.heap.size ≤ W.heap.size)
 (hF1 : ∀ x a, Rep n F a → Rep n (F1 x) { tmps := (ps.zip (encs x)).foldl (fun t (p, v) => t.setIfInBounds p v) a.tmps, defers := [] })
 (hasg : ∀ l x W, WX (some l) P n assign (fun e F' W' => e = .normal ∧ F' = Fx x ∧ W' = W) (F1 x) W)
 (hbody : ∀ l pre x W, I pre W → pre.length < N → WX (some l) P n body (zsQ S0 I Ix (pre ++ [x]) W) (Fx x) W)
 (hdone : ∀ (D : Nat) (xs : List α) (W : World), w.heap.size ≤ D → S xs → I xs W → W.heap[D]? = some (.deferred (some [])) → Q .normal ((1000000, .int .i64 D) :: F) W)
 (hstop : ∀ (D : Nat) (c : Code) (pre : List α) (W' : World), w.heap.size ≤ D → Sp pre → Ix c pre W' → W'.heap[D]? = some (.deferred (some [])) → W P n c Q ((1000000, .int .i64 D) :: F) W') :
 W P n (.rangeFunc g ps assign body) Q F w := by
 intro a ha
 refine (wpIn_wide (n := 3)).1 ?_
 have eg : ∀ (args : Array Value) (w : World), (callFunc gf args).run P w = .ok (.enter gf args) w := by
  intro args w
  unfold zn at hb
  split at hb
  ·rename_i fn hfn
   simp only [Bool.and_eq_true, Bool.not_eq_true'] at hb
   have h1 : ¬ fn.body = none := by cases hx : fn.body <;> simp_all
   have h2 : ¬ fn.name = "runtime.NumGoroutine" := by simpa using hb.2
   simp [callFunc, hfn, h1, h2]
  simp at hb
 have toChg : ∀ {W W' : World} {row : Option Nat}, W.grownBy W' row → zk row.toList W W' := fun hg => ⟨hg.os, hg.tape, hg.output, hg.size, fun k hk hn => hg.block k hk (fun e => hn (by rw [← e]; simp))⟩
 have rowOk : ∀ {row : Option Nat} {W : World}, (∀ r, row = some r → w.heap.size ≤ r ∧ ∃ o : Obj, W.heap[r]? = some o ∧ o.isCells = false) → ∀ b ∈ row.toList, w.heap.size ≤ b := by
  intro row W hr b hb
  cases row with
  | none => simp at hb
  | some r => simp at hb; subst hb; exact (hr _ rfl).1
 have kf : ∀ {W W' : World}, zk S0 W W' → KeepsFrom w.heap.size W W' := fun hc => ⟨hc.size, fun k o hB hk _ => (hc.block k (Array.getElem?_eq_some_iff.1 hk).1 (fun hm => by have := hS0 k hm; omega)).trans hk⟩
 refine wpIn_rangeFunc_ownH (F := Fence.wide) (n := 3) rfl (by omega) (gf := gf) (lb := lb.toArray) (ha.eval hg) trivial eg hseq
  (fun h k => Kp.trans h k) ?_ (Go.RowKit.Below.refl _ _) hps I Ix ?_ ?_ h0 (fun x a' _ => Rep n (Fx x) a') (fun _ _ _ _ _ _ hs _ _ => hs) ?_ ?_ ?_ ?_
 ·intro W l o o' hl _ _ _
  exact ⟨by simp [World.putObj], fun k hk _ => World.putObj_heap_other (by omega)⟩
 ·intro s W W' row hs hgr hr
  exact hI s W W' _ (rowOk hr) (toChg hgr) hs
 ·intro c s W W' row hs hgr hr
  exact hIx c s W W' _ (rowOk hr) (toChg hgr) hs
 ·intro l pre x W K hi hK
  refine wpIn_mono (hasg l x W _ (hF1 x a ha)) ?_
  rintro e a' W' ⟨F', hr, rfl, rfl, rfl⟩
  exact hK a' W' (KeepsFrom.refl _ _) ⟨Nat.le_refl _, fun _ _ _ => rfl⟩ hi hr
 ·intro l pre x a' W _ _ hi hA hlen
  refine wpIn_mono (hbody l pre x W hi hlen _ hA) ?_
  rintro e a1 W' ⟨F', hr, hq⟩
  cases e <;> simp only [zsQ] at hq
  case normal => exact ⟨kf hq.1, ⟨hq.1.size, fun k hk hs => by
   rcases Nat.lt_or_ge k W.heap.size with h' | h'
   ·exact hq.1.block k h' hs
   have := hsz pre W hi; omega⟩, hq.2⟩
  case ret => exact ⟨kf hq.1, hq.2⟩
  case exit id => exact ⟨kf hq.1, hq.2⟩
 ·intro D xs W hD hS hi hK
  exact ⟨_, ha.mark D, hdone D xs W hD hS hi hK⟩
 intro D c pre W' hD hS hi hK
 exact wpIn_wide.2 (hstop D c pre W' hD hS hi hK _ (ha.mark D))
end
theorem zjs {ρ : Option Nat} {m k : Nat} {P : Program} {l : Nat} {f : FuncId} {tmps : Array Value} {assign body : Code} {w : World} {R : Ending → World → Prop} (h : RoundIn Fence.wide m P l f tmps assign body w R) : RoundIn (fz ρ) k P l f tmps assign body w R :=
 ⟨trivial, fun c cs _ => h.2 c cs (room_wide _)⟩
section
variable {P : Program} {n : Nat} {Q : Exit → Fr → World → Prop} {F : Fr} {w : World} {ops : Array Oper} {rest : List Oper} {d : Nat} {ty : TypeId} {pos : String} {af : Array Edge} {gd : Option (Nat × Bool)}
theorem zfW {ρ : Option Nat} {f : Operand} {az : List Operand} {ts : Array TypeId} {l m : Nat} {vs : List Value} {R : Ending → World → Prop} (hw : Wd n F ops ⟨some d, .call { callee := .value f, args := az.toArray, argTypes := ts }, ty, pos, af, gd⟩) (hf : ev F f = some (.func (.yield l) #[] #[])) (ha : evs F az = some vs) (hn : Nat.blt d n = true)
 (hy : YieldAt Fence.wide m P l vs.toArray w R) (hR : ∀ e w', R e w' → ∃ v, e = .returned v ∧ OX ρ P n ops Q rest ((d, v) :: F) w') :
 OX ρ P n ops Q (⟨some d, .call { callee := .value f, args := az.toArray, argTypes := ts }, ty, pos, af, gd⟩ :: rest) F w := by
 intro a hr
 refine wpListIn_step fun K hK => ?_
 rw [if_pos (hw a hr)]
 obtain ⟨fn, tmps, assign, body, hrun, hround⟩ := hy
 refine ⟨fun _ _ => trivial, ?_⟩
 rw [Oper.semAt_eq _ _ _ (fun c e => by cases e)]
 have hx : (execOp a.eval ⟨some d, .call { callee := .value f, args := az.toArray, argTypes := ts }, ty, pos, af, gd⟩).run P w = .ok (.round l fn tmps assign body) w := by
  simp [execOp, resolve, hr.eval hf, Deferred.ofValue, hr.evals az vs ha, invoke, hrun]
 rw [hx]
 refine ⟨fun e => by simp [fz, Fence.wide] at e, ?_⟩
 refine RoundIn.mono (zjs hround) ?_
 intro e w' he
 obtain ⟨v, rfl, hO⟩ := hR e w' he
 exact hK _ _ (hO _ (hr.put hn v))
end
theorem CallsIn.of_WX {P : Program} {f : FuncId} {fn : Func} {c : Code} {args : List Value} {w : World} {R : Value → World → Prop} {n m : Nat} {F : Fr}
 (hf : P.funcs[f]? = some fn) (hb : fn.body = some c) (hn : fn.ntmps = n) (hl : Nat.ble args.length n = true) (hF : frameOf 0 args = F)
 (h : WX none P n c (zeK P fn R n) F w) (hk : Nat.ble n 1000000 = true := by rfl) : CallsIn Fence.wide m P f args.toArray w fun e w' => ∃ v, e = .returned v ∧ R v w' := by
 subst hF hn
 refine (callsIn_wide (n := m)).2 ((callsIn_wide (n := 1)).1 ?_)
 refine callsIn_of_wp hf hb trivial ?_
 refine wpIn_mono (h _ (Rep.frameOf hl (Nat.le_of_ble_eq_true hk))) ?_
 rintro e a w' ⟨F', hr', hq⟩
 cases e <;> simp only [zeK] at hq
 case normal => obtain ⟨v, hv, hm, hR⟩ := hq; exact ⟨hr'.defers.trans hm, v, hv _ hr', v, rfl, hR⟩
 case ret => obtain ⟨v, hv, hm, hR⟩ := hq; exact ⟨hr'.defers.trans hm, v, hv _ hr', v, rfl, hR⟩
section
variable {P : Program} {n : Nat} {Q : Exit → Fr → World → Prop} {F : Fr} {w : World}
theorem zhp {c : Code} (h : W P n c Q F w) : WX none P n c Q F w := fun a ha => wpIn_wide.2 (h a ha)
theorem zfi {id : Nat} {l : List Oper} (h : OX none P n l.toArray Q l F w) : W P n (.region id l.toArray false) Q F w := fun a ha => (wpIn_wide (n := 1)).1 (wpIn_region_lit (h a ha))
end
section
variable {P : Program} {n : Nat} {F : Fr} {w : World} {d : Tmp} {ty t e : TypeId} {k by' : Nat} {z : Value} {pos : String} {af : Array Edge} {gd : Option (Nat × Bool)} {K : Fr → World → Prop}
theorem zp3 {z : Value} (hz : z.cells = #[z]) (m : Nat) : (madeCells z.cells (m * 1)).toList = List.replicate m z := by
 rw [hz]
 unfold madeCells
 apply List.ext_getElem
 ·simp
 intro i h1 h2
 simp [Nat.mod_one]
theorem znK (A : App P t e k by' z) {x y : Operand} {kl kc : IntKind} {i j : Int} {l m : Nat} (hx : ev F x = some (.int kl i)) (hy : ev F y = some (.int kc j)) (hi : i = (l : Int)) (hj : j = (m : Int)) (hlm : l ≤ m) (hmax : m ≤ maxLen) (hbytes : m * by' ≤ 140737488355328) (hn : Nat.blt d n = true)
 (h : ∀ b w', w.heap.size = b → w'.heap.size = b + 1 → zk [] w w' → zU w' b e (madeCells z.cells (m * k)).toList → K ((d, .slice (some ⟨b, 0, none⟩) l m) :: F) w') :
 St P n F ⟨some d, .makeSlice t x y, ty, pos, af, gd⟩ w K := by
 subst hi hj
 obtain ⟨inf, hi, hk, hb, hz⟩ := A.info
 have hund := yI A.sl
 have hm63 : (m : Int) ≤ 9223372036854775807 := by simp only [maxLen] at hmax; omega
 have hb' : (inf.bytes : Int) * (m : Int) ≤ 281474976710656 := by
  have h0 : inf.bytes * m ≤ 281474976710656 := by rw [hb, Nat.mul_comm]; omega
  have h1 : ((inf.bytes * m : Nat) : Int) ≤ 281474976710656 := by omega
  rwa [Int.natCast_mul] at h1
 have hr := run_make (P := P) w t e inf z hund hi hz kl kc l m (by omega) (by omega) hb' hm63
 simp only [Int.toNat_natCast, hk] at hr
 refine St.vl (v := .slice (some ⟨w.heap.size, 0, none⟩) l m) (w' := w.alloc (.cells (madeCells z.cells (m * k)) e)) ?_ rfl hn (h _ _ rfl (by simp) (zk.alloc _ _ _) (by simpa using zU.new w e (madeCells z.cells (m * k)).toList))
 intro a ha
 simp [execOp, ha.eval hx, ha.eval hy, hr]
end
section
variable {P : Program} {n : Nat} {F : Fr} {w : World} {dst : Option Tmp} {ty t u e : TypeId} {pos : String} {af : Array Edge} {gd : Option (Nat × Bool)}
theorem yv {k : IntKind} (h : zc5 P t k = true) : P.underlying t = some (.int k) := by unfold zc5 at h; split at h <;> simp_all
theorem zpd {x : Operand} {b off c len : Nat} {l : List UInt8} (hs : za6 P t = some e) (he : zc5 P e .u8 = true) (hu : zhj P u = true) (hx : ev F x = some (.slice (some ⟨b, off, none⟩) len c)) (hl : len = l.length) (hc : zy w b off (l.map fun x => .int .u8 (x.toNat : Int))) :
 Vl P n F ⟨dst, .convert t u x, ty, pos, af, gd⟩ w (.string ⟨l.toArray⟩) w := by
 intro a ha
 subst hl
 have hr := run_convert_bytes_back (P := P) w t u e ⟨b, off, none⟩ c l (yI hs) (yv he) (zcY hu) (fun j hj => by rw [Addr.add_lit]; exact hc j _ (by simp [hj]))
 simp [execOp, ha.eval hx, hr]
end
def nomark : Fr → Fr
 | [] => []
 | (j, v) :: F => bif Nat.ble 1000000 j then nomark F else (j, v) :: nomark F
theorem zfD : ∀ (F : Fr) (i : Nat) (v : Value), get (nomark F) i = some v → Nat.ble 1000000 i = false ∧ get F i = some v
 | [], i, v, h => by simp [nomark, get] at h
 | (j, u) :: F, i, v, h => by
  simp only [nomark] at h
  cases hj : Nat.ble 1000000 j with
  | true =>
   rw [hj] at h
   obtain ⟨h1, h2⟩ := zfD F i v h
   refine ⟨h1, ?_⟩
   rw [zck _ _ _ _ (fun e => by subst e; rw [hj] at h1; cases h1)]
   exact h2
  | false =>
   rw [hj] at h
   by_cases e : i = j
   ·subst e
    refine ⟨hj, ?_⟩
    rw [cond_false, zb5 _ _ _ hj] at h
    rw [zb5 _ _ _ hj]
    exact h
   rw [cond_false, zck _ _ _ _ e] at h
   rw [zck _ _ _ _ e]
   exact zfD F i v h
theorem zeu : ∀ F : Fr, zac (nomark F) = []
 | [] => rfl
 | (j, v) :: F => by
  simp only [nomark]
  cases hj : Nat.ble 1000000 j with
  | true => exact zeu F
  | false => rw [cond_false, zdj hj]; exact zeu F
theorem Rep.nomark {n : Nat} {F : Fr} {a : Act} (h : Rep n F a) : Rep n (nomark F) { tmps := a.tmps, defers := [] } :=
 ⟨h.lt, h.size, (zeu F).symm, fun i v hi => h.get i v (zfD F i v hi).2⟩
theorem Rep.vars2 {n : Nat} {F F1 : Fr} {a : Act} (h : Rep n F a) {p q : Nat} {u v : Value} (hp : Nat.blt p n = true) (hq : Nat.blt q n = true) (hF : (q, v) :: (p, u) :: Wk.nomark F = F1) :
 Rep n F1 { tmps := ((#[p, q] : Array Tmp).zip #[u, v]).foldl (fun t (p, v) => t.setIfInBounds p v) a.tmps, defers := [] } := by
 subst hF
 have := (h.nomark.put hp u).put hq v
 simpa [Act.put] using this
def rd (e : MapEntry) : Value × Value := (e.key, e.val)
def zft (P : Program) (t : TypeId) : Option (TypeId × TypeId) := match P.underlying t with | some (.map k e) => some (k, e) | _ => none
theorem ze7 {P : Program} {t k e : TypeId} (h : zft P t = some (k, e)) : P.underlying t = some (.map k e) := by
 unfold zft at h
 split at h
 ·rename_i k' e' he; simp at h; obtain ⟨rfl, rfl⟩ := h; exact he
 simp at h
theorem zpI (s u : ByteArray) : (s == u) = decide (s = u) := by
 have h0 : (s == u) = (s.data == u.data) := rfl
 rw [h0]
 by_cases h : s = u
 ·subst h; simp
 have h1 : ¬ s.data = u.data := fun e => h (by cases s; cases u; simpa using e)
 simp [h, h1]
def zpt (P : Program) (t : TypeId) (i : Nat) : Option (Nat × Nat × Bool) := match P.underlying t with
 | some (.struct fs) => (fs[i]?).bind fun f => match zan P f.type, zat P f.type with
  | some z, some b => some (f.offset, z, b)
  | _, _ => none
 | _ => none
section
variable {P : Program} {n : Nat} {F : Fr} {w : World} {dst : Option Tmp} {ty : TypeId} {pos : String} {af : Array Edge} {gd : Option (Nat × Bool)}
theorem zbP {x y : Operand} {t u : TypeId} {k k' : IntKind} {a c : Int} {i : Int} (m : Nat) (hx : ev F x = some (.int k a)) (hy : ev F y = some (.int k' i)) (hi : i = (m : Int)) (hm : m ≤ k.bits) (hc : a.fdiv (2 ^ m) = c) :
 Vl P n F ⟨dst, .binOp .shr t x y u, ty, pos, af, gd⟩ w (.int k c) w := by
 intro ac ha
 subst hi hc
 have h1 : ¬ ((m : Int) < 0) := by omega
 have h2 : min m k.bits = m := Nat.min_eq_left hm
 simp only [execOp, ha.eval hx, ha.eval hy, eqGuard, binOp, Op.shift, Int.toNat_natCast, h1, h2, if_false]
 simp
theorem zdu {x y : Operand} {t u : TypeId} {k k' : IntKind} {a c : Int} {i : Int} (m : Nat) (hx : ev F x = some (.int k a)) (hy : ev F y = some (.int k' i)) (hi : i = (m : Int)) (hm : m ≤ k.bits) (hc : k.wrap (a * 2 ^ m) = c) :
 Vl P n F ⟨dst, .binOp .shl t x y u, ty, pos, af, gd⟩ w (.int k c) w := by
 intro ac ha
 subst hi hc
 have h1 : ¬ ((m : Int) < 0) := by omega
 have h2 : min m k.bits = m := Nat.min_eq_left hm
 simp only [execOp, ha.eval hx, ha.eval hy, eqGuard, binOp, Op.shift, Int.toNat_natCast, h1, h2, if_false]
 simp
theorem zng {x y : Operand} {t u : TypeId} {k : IntKind} {a b c : Int} (op : BinOp) (f : BitVec k.bits → BitVec k.bits → BitVec k.bits) (hop : op = .and ∧ f = (· &&& ·) ∨ op = .or ∧ f = (· ||| ·) ∨ op = .xor ∧ f = (· ^^^ ·)) (hx : ev F x = some (.int k a)) (hy : ev F y = some (.int k b))
 (hc : k.wrap (f (BitVec.ofInt k.bits a) (BitVec.ofInt k.bits b)).toNat = c) : Vl P n F ⟨dst, .binOp op t x y u, ty, pos, af, gd⟩ w (.int k c) w := by
 intro ac ha
 subst hc
 rcases hop with ⟨rfl, rfl⟩ | ⟨rfl, rfl⟩ | ⟨rfl, rfl⟩ <;> simp [execOp, ha.eval hx, ha.eval hy, eqGuard, binOp, Op.intBits]
theorem zf1 {i : Int} (h0 : 0 ≤ i) (h1 : i < 18446744073709551616) : IntKind.u64.wrap i = i := by
 simp only [IntKind.wrap, IntKind.bits, IntKind.signed]
 simp
 omega
theorem zqL {x y : Operand} {t u : TypeId} {a b : Nat} (hx : ev F x = some (.int .u64 a)) (hy : ev F y = some (.int .u64 b)) (h : ∃ m, a % 2 ^ m = 0 ∧ b < 2 ^ m) (hs : a + b < 18446744073709551616) :
 Vl P n F ⟨dst, .binOp .or t x y u, ty, pos, af, gd⟩ w (.int .u64 ((a + b : Nat) : Int)) w := by
 refine zng .or (· ||| ·) (.inr (.inl ⟨rfl, rfl⟩)) hx hy ?_
 have ha : a < 2 ^ 64 := by omega
 have hb : b < 2 ^ 64 := by omega
 have e : (BitVec.ofInt IntKind.u64.bits (a : Int) ||| BitVec.ofInt IntKind.u64.bits (b : Int)).toNat = a + b := by
  obtain ⟨m, h1, h2⟩ := h
  have e1 : (BitVec.ofInt IntKind.u64.bits (a : Int)) = BitVec.ofNat 64 a := by simp [IntKind.bits]
  have e2 : (BitVec.ofInt IntKind.u64.bits (b : Int)) = BitVec.ofNat 64 b := by simp [IntKind.bits]
  show ((BitVec.ofInt 64 (a : Int)) ||| (BitVec.ofInt 64 (b : Int))).toNat = _
  rw [show (BitVec.ofInt 64 (a : Int)) = BitVec.ofNat 64 a by simp, show (BitVec.ofInt 64 (b : Int)) = BitVec.ofNat 64 b by simp]
  rw [BitVec.toNat_or, BitVec.toNat_ofNat, BitVec.toNat_ofNat, Nat.mod_eq_of_lt ha, Nat.mod_eq_of_lt hb]
  have hq : a = 2 ^ m * (a / 2 ^ m) := (Nat.mul_div_cancel' (Nat.dvd_of_mod_eq_zero h1)).symm
  rw [hq]
  exact (Nat.two_pow_add_eq_or_of_lt h2 (a / 2 ^ m)).symm
 rw [e]
 exact zf1 (by omega) (by omega)
theorem zkp {x y : Operand} {t u : TypeId} {a b : Nat} (hx : ev F x = some (.int .u64 a)) (hy : ev F y = some (.int .u64 b)) (ha : a < 18446744073709551616) (hb : b < 18446744073709551616) :
 Vl P n F ⟨dst, .binOp .xor t x y u, ty, pos, af, gd⟩ w (.int .u64 ((a ^^^ b : Nat) : Int)) w := by
 refine zng .xor (· ^^^ ·) (.inr (.inr ⟨rfl, rfl⟩)) hx hy ?_
 have e : (BitVec.ofInt IntKind.u64.bits (a : Int) ^^^ BitVec.ofInt IntKind.u64.bits (b : Int)).toNat = a ^^^ b := by
  show ((BitVec.ofInt 64 (a : Int)) ^^^ (BitVec.ofInt 64 (b : Int))).toNat = _
  rw [show (BitVec.ofInt 64 (a : Int)) = BitVec.ofNat 64 a by simp, show (BitVec.ofInt 64 (b : Int)) = BitVec.ofNat 64 b by simp]
  rw [BitVec.toNat_xor, BitVec.toNat_ofNat, BitVec.toNat_ofNat, Nat.mod_eq_of_lt (by omega), Nat.mod_eq_of_lt (by omega)]
 rw [e]
 have : a ^^^ b < 2 ^ 64 := Nat.xor_lt_two_pow (by omega) (by omega)
 exact zf1 (by omega) (by omega)
theorem zch {x y : Operand} {t : TypeId} {s : ByteArray} {kk : IntKind} {j : Int} (hb : zhj P t = true) (hx : ev F x = some (.string s)) (hy : ev F y = some (.int kk j)) (i : Nat) (hi : j = (i : Int)) {b : UInt8} (hlt : s.data[i]? = some b) :
 Vl P n F ⟨dst, .index t x y, ty, pos, af, gd⟩ w (.int .u8 (b.toNat : Int)) w := by
 intro a ha
 subst hi
 have h1 : (0 : Int) ≤ (i : Int) := by omega
 have hl := (Array.getElem?_eq_some_iff.1 hlt).1
 have hs : s[i]? = some b := by
  have : i < s.size := hl
  rw [getElem?_pos s i this]
  exact congrArg some (Array.getElem?_eq_some_iff.1 hlt).2
 simp [execOp, Instr.index, ha.eval hx, ha.eval hy, asIntOf, run_underlying (zcY hb), h1, hs]
theorem zrn {x lo hi : Operand} {t : TypeId} {s : ByteArray} {k1 k2 : IntKind} {i j : Int} (hb : zhj P t = true) (hx : ev F x = some (.string s)) (hl : ev F lo = some (.int k1 i)) (hh : ev F hi = some (.int k2 j)) (g h : Nat) (ei : i = (g : Int)) (ej : j = (h : Int)) (hgh : g ≤ h) (hle : h ≤ s.size) :
 Vl P n F ⟨dst, .slice t x (some lo) (some hi) none, ty, pos, af, gd⟩ w (.string (s.extract g h)) w := by
 intro a ha
 subst ei ej
 simp [execOp, Instr.sliceAt, Instr.slice, Instr.sliceBounds, Instr.sliceBound, ha.eval hx, ha.eval hl, ha.eval hh, asIntOf, run_underlying (zcY hb), hle, hgh]
theorem zgU {x : Operand} {t : TypeId} {f k z : Nat} {cs : List Value} {v : Value} (h : zpt P t f = some (k, z, false)) (hx : ev F x = some (.agg cs.toArray)) (hv : cs[k]? = some v) : Vl P n F ⟨dst, .field t x f, ty, pos, af, gd⟩ w v w := by
 intro a ha
 unfold zpt at h
 split at h
 ·rename_i fs hu
  simp only [Option.bind_eq_some_iff] at h
  obtain ⟨fd, hi, h⟩ := h
  split at h
  ·rename_i z' b' hz hb
   simp only [Option.some.injEq, Prod.mk.injEq] at h
   obtain ⟨rfl, rfl, rfl⟩ := h
   simp [execOp, Instr.field, ha.eval hx, run_underlying hu, hi, asAgg, part, zaz hb, hv]
  simp at h
 simp at h
end
def zl5 (P : Program) (t : TypeId) : Bool := match P.underlying t with | some (.interface _) => false | some _ => true | none => false
def zjQ (P : Program) (t : TypeId) : Bool := match P.underlying t with | some (.interface _) => true | _ => false
def Mth (P : Program) (t : TypeId) (v : Value) (name : String) (f : FuncId) (r : Value) : Prop := ∀ w : World, (method (P.types.size + Made.depth) t v name).run P w = .ok (f, r) w
def ziq : Value → Option Bool
 | .nilIface => some true
 | .iface _ _ => some false
 | _ => none
section
variable {P : Program} {n : Nat} {F : Fr} {w : World} {dst : Option Tmp} {ty : TypeId} {pos : String} {af : Array Edge} {gd : Option (Nat × Bool)}
theorem zpo {t : TypeId} (h : zl5 P t = true) : ∃ d, P.underlying t = some d ∧ ∀ ms, d ≠ .interface ms := by
 unfold zl5 at h
 split at h
 ·simp at h
 ·rename_i d hd hne
  exact ⟨d, hne, fun ms e => hd ms e⟩
 simp at h
theorem zec {t : TypeId} (h : zjQ P t = true) : ∃ ms, P.underlying t = some (.interface ms) := by
 unfold zjQ at h
 split at h
 ·exact ⟨_, ‹_›⟩
 simp at h
theorem yW {x : Operand} {t : TypeId} {v : Value} (h : zl5 P t = true) (hx : ev F x = some v) : Vl P n F ⟨dst, .makeInterface t x, ty, pos, af, gd⟩ w (.iface t v) w := by
 intro a ha
 obtain ⟨d, hd, hne⟩ := zpo h
 cases d <;> simp [execOp, Instr.makeInterface, ha.eval hx, run_underlying hd]
 exact absurd rfl (hne _)
theorem zbF {x : Operand} {t u : TypeId} {v : Value} {b : Bool} (h : zjQ P t = true) (hx : ev F x = some v) (hv : ziq v = some b) : Vl P n F ⟨dst, .binOp .eql t x (.const .nilIface) u, ty, pos, af, gd⟩ w (.bool b) w := by
 intro a ha
 obtain ⟨ms, hu⟩ := zec h
 have hc : a.eval (.const .nilIface) = .nilIface := rfl
 have he := ha.eval hx
 cases v with
 | nilIface =>
  simp only [ziq, Option.some.injEq] at hv
  subst hv
  have h1 : (Op.equal t .nilIface .nilIface).run P w = .ok true w := za0 fun d => by simp [Op.equalIn, run_underlying hu]
  simp [execOp, he, hc, eqGuard, binOp, h1]
 | iface tx vx =>
  simp only [ziq, Option.some.injEq] at hv
  subst hv
  have h1 : (Op.equal t (.iface tx vx) .nilIface).run P w = .ok false w := za0 fun d => by simp [Op.equalIn, run_underlying hu]
  simp [execOp, he, hc, eqGuard, binOp, h1]
 | _ => simp [ziq] at hv
theorem zb1 {x : Operand} {t u : TypeId} {v : Value} {b : Bool} (h : zjQ P t = true) (hx : ev F x = some v) (hv : ziq v = some b) : Vl P n F ⟨dst, .binOp .neq t x (.const .nilIface) u, ty, pos, af, gd⟩ w (.bool (!b)) w := by
 intro a ha
 obtain ⟨ms, hu⟩ := zec h
 have hc : a.eval (.const .nilIface) = .nilIface := rfl
 have he := ha.eval hx
 cases v with
 | nilIface =>
  simp only [ziq, Option.some.injEq] at hv
  subst hv
  have h1 : (Op.equal t .nilIface .nilIface).run P w = .ok true w := za0 fun d => by simp [Op.equalIn, run_underlying hu]
  simp [execOp, he, hc, eqGuard, binOp, h1]
 | iface tx vx =>
  simp only [ziq, Option.some.injEq] at hv
  subst hv
  have h1 : (Op.equal t (.iface tx vx) .nilIface).run P w = .ok false w := za0 fun d => by simp [Op.equalIn, run_underlying hu]
  simp [execOp, he, hc, eqGuard, binOp, h1]
 | _ => simp [ziq] at hv
end
section
variable {P : Program} {n : Nat} {F : Fr} {w : World} {d : Tmp} {ty : TypeId} {pos : String} {af : Array Edge} {gd : Option (Nat × Bool)} {K : Fr → World → Prop}
theorem zfj {x : Operand} {az : List Operand} {ts : Array TypeId} {t : TypeId} {v r : Value} {name : String} {g : FuncId} {vs : List Value} {R : Value → World → Prop} (hm : Mth P t v name g r) (hb : zn P g = true) (hx : ev F x = some (.iface t v)) (ha : evs F az = some vs)
 (hn : Nat.blt d n = true) (hc : z9 P g (r :: vs).toArray w R) (h : ∀ v w', R v w' → K ((d, v) :: F) w') :
 St P n F ⟨some d, .call { callee := .invoke x name, args := az.toArray, argTypes := ts }, ty, pos, af, gd⟩ w K := by
 refine St.enter (f := g) (args := (r :: vs).toArray) ?_ rfl hn hc h
 intro a hr
 unfold zn at hb
 split at hb
 ·rename_i fn hfn
  simp only [Bool.and_eq_true, Bool.not_eq_true'] at hb
  have h1 : ¬ fn.body = none := by cases hx : fn.body <;> simp_all
  have h2 : ¬ fn.name = "runtime.NumGoroutine" := by simpa using hb.2
  have e1 : ∀ X : Array Value, (callFunc g X).run P w = .ok (.enter g X) w := fun X => by simp [callFunc, hfn, h1, h2]
  have hmw := hm w
  have ev := hr.evals az vs ha
  have e3 : (#[Value.iface t v] ++ vs.toArray).extract 1 (vs.length + 1) = vs.toArray := by
   apply Array.toList_inj.1
   simp
  simp [execOp, resolve, hr.eval hx, ev, invoke, callMethod, hmw, e1, e3]
 simp at hb
theorem zbQ {x : Operand} {az : List Operand} {ts : Array TypeId} {t : TypeId} {v r : Value} {name : String} {g : FuncId} {vs : List Value} {e : Array Value → Sem Value} {u : Value} {w' : World} (hm : Mth P t v name g r) (hb : ze5 P g = some e) (hx : ev F x = some (.iface t v)) (ha : evs F az = some vs)
 (hrun : (e (r :: vs).toArray).run P w = .ok u w') (hn : Nat.blt d n = true) (h : K ((d, u) :: F) w') :
 St P n F ⟨some d, .call { callee := .invoke x name, args := az.toArray, argTypes := ts }, ty, pos, af, gd⟩ w K := by
 refine St.vl (v := u) (w' := w') ?_ rfl hn h
 intro a hr
 unfold ze5 at hb
 split at hb
 ·rename_i fn hfn
  split at hb
  ·simp at hb
  rename_i hc
  simp only [Bool.or_eq_true, not_or, Bool.not_eq_true] at hc
  obtain ⟨⟨c1, c2⟩, c3⟩ := hc
  have h1 : fn.body = none := by simpa using c2
  have h2 : ¬ fn.name = "runtime.NumGoroutine" := by simpa using c1
  have h3 : Extern.findNext fn = none := by simpa using c3
  have hmw := hm w
  have ev := hr.evals az vs ha
  have e3 : (#[Value.iface t v] ++ vs.toArray).extract 1 (vs.length + 1) = vs.toArray := by
   apply Array.toList_inj.1
   simp
  have e4 : #[r] ++ vs.toArray = (r :: vs).toArray := by simp
  simp [execOp, resolve, hr.eval hx, ev, invoke, callMethod, hmw, e3, callFunc, hfn, h1, h2, h3, hb, hrun]
 simp at hb
end
structure zjp (K : Type) [DecidableEq K] where
 kv : K → Value
 kd : TypeDesc
 now : ∀ a b, Instr.sameNow kd (kv a) (kv b) = some (decide (a = b))
 bits : ∀ a, Instr.sameBits 10000 (kv a) (kv a) = true
 chk : ∀ (P : Program) (kt : TypeId) (a : K) (e : Bool) (w : World), P.underlying kt = some kd → (Instr.checkKey e 10000 kt (kv a)).run P w = .ok () w
def zhx : zjp ByteArray where
 kv := .string
 kd := .string
 now a b := by show some (a == b) = _; rw [zpI]
 bits a := by simp [Instr.sameBits, zpI]
 chk P kt a e w h := by
  unfold Instr.checkKey
  simp [run_underlying h]
def zbB (k : IntKind) : zjp Int where
 kv := .int k
 kd := .int k
 now a b := by simp [Instr.sameNow]; rfl
 bits a := by simp [Instr.sameBits]
 chk P kt a e w h := by
  unfold Instr.checkKey
  simp [run_underlying h]
section
variable {K : Type} [DecidableEq K]
def zdF : List (K × Value) → K → Option Value
 | [], _ => none
 | p :: r, k => if p.1 = k then some p.2 else zdF r k
def zeg : List (K × Value) → K → Value → List (K × Value)
 | [], k, v => [(k, v)]
 | p :: r, k, v => if p.1 = k then (k, v) :: r else p :: zeg r k v
def krd (κ : zjp K) (p : K × Value) : Value × Value := (κ.kv p.1, p.2)
def zmi (a : Array MapEntry) (clock : Nat) : Prop := (a.toList.map (·.born)).Nodup ∧ ∀ e ∈ a.toList, e.born < clock
def zae (κ : zjp K) (w : World) (b : Nat) (es : List (K × Value)) : Prop := ∃ (a : Array MapEntry) (clock : Nat), w.heap[b]? = some (.map a clock) ∧ a.toList.map rd = es.map (krd κ) ∧ zmi a clock
variable {κ : zjp K}
theorem zae.lt {w : World} {b : Nat} {es : List (K × Value)} (h : zae κ w b es) : b < w.heap.size := by
 obtain ⟨a, c, hb, _⟩ := h
 exact (Array.getElem?_eq_some_iff.1 hb).1
theorem zae.chg {S : List Nat} {w w' : World} {b : Nat} {es : List (K × Value)} (h : zae κ w b es) (hc : zk S w w') (hb : b ∉ S) : zae κ w' b es := by
 obtain ⟨a, c, h1, h2, h3⟩ := h
 exact ⟨a, c, (hc.block b (Array.getElem?_eq_some_iff.1 h1).1 hb).trans h1, h2, h3⟩
theorem zae.chg0 {w w' : World} {b : Nat} {es : List (K × Value)} (h : zae κ w b es) (hc : zk [] w w') : zae κ w' b es := h.chg hc (by simp)
def zeq : List (K × Value) → K → Nat → Option (Nat × Value)
 | [], _, _ => none
 | p :: r, k, i => if p.1 = k then some (i, p.2) else zeq r k (i + 1)
theorem ziO (k : K) : ∀ (l : List MapEntry) (es : List (K × Value)) (i : Nat), l.map rd = es.map (krd κ) → Instr.findNow κ.kd (κ.kv k) l i = some (zeq es k i)
 | [], [], i, _ => rfl
 | [], _ :: _, _, h => by simp at h
 | _ :: _, [], _, h => by simp at h
 | e :: l, p :: es, i, h => by
  simp only [List.map_cons, List.cons.injEq] at h
  obtain ⟨h1, h2⟩ := h
  simp only [rd, krd, Prod.mk.injEq] at h1
  obtain ⟨hk, hv⟩ := h1
  have hs : Instr.sameNow κ.kd (κ.kv k) e.key = some (decide (k = p.1)) := by rw [hk]; exact κ.now k p.1
  simp only [Instr.findNow, hs, zeq]
  by_cases he : p.1 = k
  ·subst he
   simp [hv]
  rw [decide_eq_false (fun e => he e.symm), if_neg he]
  exact ziO k l es (i + 1) h2
theorem zlf (k : K) : ∀ (es : List (K × Value)) (i : Nat), (zeq es k i).map (·.2) = zdF es k
 | [], _ => rfl
 | p :: r, i => by
  simp only [zeq, zdF]
  split
  ·rfl
  exact zlf k r (i + 1)
theorem zjE (k : K) : ∀ (es : List (K × Value)) (i j : Nat) (v : Value), zeq es k i = some (j, v) → i ≤ j
 | [], _, _, _, h => by simp [zeq] at h
 | p :: r, i, j, v, h => by
  simp only [zeq] at h
  split at h
  ·simp at h; omega
  have := zjE k r (i + 1) j v h; omega
theorem zms (k : K) : ∀ (es : List (K × Value)) (i0 j : Nat) (u : Value), zeq es k i0 = some (j, u) → ∃ p, es[j - i0]? = some p ∧ p.1 = k
 | [], _, _, _, h => by simp [zeq] at h
 | p :: r, i0, j, u, h => by
  simp only [zeq] at h
  split at h
  ·rename_i he
   simp at h
   exact ⟨p, by simp [h.1], he⟩
  have hge := zjE k r (i0 + 1) j u h
  obtain ⟨q, hq, hqk⟩ := zms k r (i0 + 1) j u h
  refine ⟨q, ?_, hqk⟩
  rw [show j - i0 = (j - (i0 + 1)) + 1 by omega]
  simpa using hq
theorem zlA (k : K) (v : Value) : ∀ (l : List MapEntry) (es : List (K × Value)) (i j : Nat) (u : Value), l.map rd = es.map (krd κ) → zeq es k i = some (j, u) →
 (l.modify (j - i) fun e => { e with key := κ.kv k, val := v }).map rd = (zeg es k v).map (krd κ)
 | [], [], _, _, _, _, h => by simp [zeq] at h
 | [], _ :: _, _, _, _, h, _ => by simp at h
 | _ :: _, [], _, _, _, h, _ => by simp at h
 | e :: l, p :: es, i, j, u, h, hm => by
  simp only [List.map_cons, List.cons.injEq] at h
  obtain ⟨h1, h2⟩ := h
  simp only [zeq] at hm
  by_cases he : p.1 = k
  ·rw [if_pos he] at hm
   simp only [Option.some.injEq, Prod.mk.injEq] at hm
   obtain ⟨rfl, _⟩ := hm
   rw [Nat.sub_self]
   simp only [zeg, if_pos he, List.modify_zero_cons, List.map_cons, h2]
   rfl
  rw [if_neg he] at hm
  have hge := zjE k es (i + 1) j u hm
  rw [show j - i = (j - (i + 1)) + 1 by omega]
  simp only [zeg, if_neg he, List.modify_succ_cons, List.map_cons, h1, zlA k v l es (i + 1) j u h2 hm]
theorem ziJ (k : K) (v : Value) : ∀ (es : List (K × Value)) (i : Nat), zeq es k i = none → zeg es k v = es ++ [(k, v)]
 | [], _, _ => rfl
 | p :: r, i, h => by
  simp only [zeq] at h
  split at h
  ·cases h
  rename_i he
  simp only [zeg, if_neg he, ziJ k v r (i + 1) h, List.cons_append]
theorem zg1 (f : MapEntry → MapEntry) (hf : ∀ e, (f e).born = e.born) : ∀ (l : List MapEntry) (i : Nat), (l.modify i f).map (·.born) = l.map (·.born)
 | [], _ => by simp
 | e :: l, 0 => by simp [hf]
 | e :: l, i + 1 => by simp [zg1 f hf l i]
section
variable {P : Program} {w : World} {t kt et : TypeId} {b : Nat} {es : List (K × Value)}
theorem zff (hk : P.underlying kt = some κ.kd) (k : K) {l : List MapEntry} (h : l.map rd = es.map (krd κ)) : (Instr.findKey kt (κ.kv k) l).run P w = .ok (zeq es k 0) w :=
 Go.MapKept.run_findKey hk (ziO k l es 0 h)
theorem zg2 (hm : zft P t = some (kt, et)) (hk : P.underlying kt = some κ.kd) {z : Value} (hz : zaA P et = some z) (h : zae κ w b es) (k : K) (ok : Bool) :
 (Instr.lookup t (.map (some b)) (κ.kv k) ok).run P w = .ok (if ok then .tuple #[(zdF es k).getD z, .bool (zdF es k).isSome] else (zdF es k).getD z) w := by
 obtain ⟨a, c, hb, hl, _⟩ := h
 have h1 := zlf k es 0
 cases hx : zeq es k 0 with
 | none =>
  rw [hx] at h1
  rw [← h1]
  cases ok <;> simp [Instr.lookup, run_underlying (ze7 hm), Go.MapKept.run_getObj_map hb, κ.chk P kt k _ w hk, zff hk k hl, hx, zbA hz]
 | some q =>
  rw [hx] at h1
  rw [← h1]
  cases ok <;> simp [Instr.lookup, run_underlying (ze7 hm), Go.MapKept.run_getObj_map hb, κ.chk P kt k _ w hk, zff hk k hl, hx]
theorem zlw (hm : zft P t = some (kt, et)) (hk : P.underlying kt = some κ.kd) (h : zae κ w b es) (k : K) (v : Value) :
 ∃ w', (Instr.mapUpdate t (.map (some b)) (κ.kv k) v).run P w = .ok () w' ∧ w'.heap.size = w.heap.size ∧ zk [b] w w' ∧ zae κ w' b (zeg es k v) := by
 obtain ⟨a, c, hb, hl, hs1, hs2⟩ := h
 have hlt := (Array.getElem?_eq_some_iff.1 hb).1
 cases hx : zeq es k 0 with
 | none =>
  refine ⟨w.putObj b (.map (a.push { key := κ.kv k, val := v, born := c }) (c + 1)), ?_, by simp [World.putObj], zk.put _ _ _, _, _, World.putObj_heap_same hlt, ?_, ?_, ?_⟩
  ·simp [Instr.mapUpdate, run_underlying (ze7 hm), Go.MapKept.run_getObj_map hb, κ.chk P kt k _ w hk, zff hk k hl, hx, Go.MapKept.run_setObj_map _ hb, World.putObj]
  ·rw [ziJ k v es 0 hx]
   simp [hl, rd, krd]
  ·simp only [Array.toList_push, List.map_append, List.map_cons, List.map_nil]
   refine List.nodup_append.2 ⟨hs1, by simp, ?_⟩
   intro x hx y hy e
   simp at hy
   subst hy
   obtain ⟨e', he', rfl⟩ := List.mem_map.1 hx
   have := hs2 e' he'
   omega
  intro e he
  simp at he
  rcases he with he | rfl
  ·have := hs2 e (by simpa using he); omega
  simp
 | some q =>
  obtain ⟨i, u⟩ := q
  have hmod := zlA (κ := κ) k v a.toList es 0 i u hl hx
  have hget : ((a[i]?).map (·.key)).getD (κ.kv k) = κ.kv k := by
   cases he : a[i]? with
   | none => rfl
   | some e =>
    have hi : (es.map (krd κ))[i]? = some (rd e) := by rw [← hl, List.getElem?_map]; simp [he]
    obtain ⟨p, hp, hpk⟩ := zms k es 0 i u hx
    rw [List.getElem?_map, show es[i]? = some p by simpa using hp] at hi
    simp only [Option.map_some, Option.some.injEq, krd, rd, Prod.mk.injEq] at hi
    simp [← hi.1, hpk]
  have hbn := zg1 (fun e : MapEntry => { e with key := κ.kv k, val := v }) (fun _ => rfl) a.toList i
  refine ⟨w.putObj b (.map (a.modify i fun e => { e with key := κ.kv k, val := v }) c), ?_, by simp [World.putObj], zk.put _ _ _, _, _, World.putObj_heap_same hlt, ?_, ?_, ?_⟩
  ·have hkeep : (Instr.keyThatStays (κ.kv k) (κ.kv k)).run P w = .ok (κ.kv k) w := by
    simp [Instr.keyThatStays, κ.bits]
   simp [Instr.mapUpdate, run_underlying (ze7 hm), Go.MapKept.run_getObj_map hb, κ.chk P kt k _ w hk, zff hk k hl, hx, Go.MapKept.run_setObj_map _ hb, World.putObj, hget, hkeep]
  ·simpa using hmod
  ·simp only [Array.toList_modify, hbn]
   exact hs1
  intro e he
  have h1 : e.born ∈ (a.toList.modify i fun e => { e with key := κ.kv k, val := v }).map (·.born) := List.mem_map.2 ⟨e, by simpa using he, rfl⟩
  rw [hbn] at h1
  obtain ⟨e', he', hh⟩ := List.mem_map.1 h1
  rw [← hh]
  exact hs2 e' he'
end
def zh8 (κ : zjp K) (w : World) (r b : Nat) (es left : List (K × Value)) (last : Option (K × Value)) : Prop :=
 ∃ (a : Array MapEntry) (clock : Nat) (seen : Array Nat), w.heap[r]? = some (.mapIter (some b) clock seen clock) ∧ w.heap[b]? = some (.map a clock) ∧ a.toList.map rd = es.map (krd κ) ∧ zmi a clock ∧
  (∀ p ∈ left, p ∈ es) ∧ (leftOf a seen).toList.map rd = left.map (krd κ) ∧
  (∀ p, last = some p → ∃ (e : MapEntry) (s : Array Nat), e ∈ a.toList ∧ seen = s.push e.born ∧ rd e = krd κ p)
theorem zll (a : Array MapEntry) (seen : Array Nat) (x : Nat) : (leftOf a (seen.push x)).toList = (leftOf a seen).toList.filter fun e => !(e.born == x) := by
 unfold leftOf
 simp only [Array.toList_filter, List.filter_filter]
 apply List.filter_congr
 intro e _
 simp only [Array.contains_push]
 cases (e.born == x) <;> cases seen.contains e.born <;> rfl
section
variable {P : Program} {n : Nat} {F : Fr} {w : World} {d : Tmp} {dst : Option Tmp} {ty t kt et : TypeId} {pos : String} {af : Array Edge} {gd : Option (Nat × Bool)} {K' : Fr → World → Prop} {b r : Nat} {es left : List (K × Value)}
theorem zcX (κ : zjp K) (hn : Nat.blt d n = true) (h : ∀ b w', w.heap.size = b → w'.heap.size = b + 1 → zk [] w w' → zae κ w' b [] → K' ((d, .map (some b)) :: F) w') : St P n F ⟨some d, .makeMap t none, ty, pos, af, gd⟩ w K' := by
 refine St.vl (v := .map (some w.heap.size)) (w' := w.alloc (.map #[] 0)) ?_ rfl hn (h _ _ rfl (by simp) (zk.alloc _ _ _) ⟨#[], 0, heap_alloc_new w _, rfl, by simp [zmi]⟩)
 intro a _
 simp [execOp, Go.RowKit.run_makeMap]
theorem znG (hm : zft P t = some (kt, et)) (hk : P.underlying kt = some κ.kd) {z : Value} (hz : zaA P et = some z) {x y : Operand} {k : K} (hx : ev F x = some (.map (some b))) (hy : ev F y = some (κ.kv k)) (h : zae κ w b es) {g : Option Value} (hg : zdF es k = g) :
 Vl P n F ⟨dst, .lookup t x y true, ty, pos, af, gd⟩ w (.tuple #[g.getD z, .bool g.isSome]) w :=
 fun a ha => by subst hg; simp [execOp, ha.eval hx, ha.eval hy, zg2 hm hk hz h k]
theorem zcJ (hm : zft P t = some (kt, et)) (hk : P.underlying kt = some κ.kd) {z : Value} (hz : zaA P et = some z) {x y : Operand} {k : K} (hx : ev F x = some (.map (some b))) (hy : ev F y = some (κ.kv k)) (h : zae κ w b es) {g : Option Value} (hg : zdF es k = g) {v : Value} (hv : g.getD z = v) :
 Vl P n F ⟨dst, .lookup t x y true, ty, pos, af, gd⟩ w (.tuple #[v, .bool g.isSome]) w := hv ▸ znG hm hk hz hx hy h hg
theorem znB (hm : zft P t = some (kt, et)) (hk : P.underlying kt = some κ.kd) {z : Value} (hz : zaA P et = some z) {x y : Operand} {k : K} (hx : ev F x = some (.map (some b))) (hy : ev F y = some (κ.kv k)) (h : zae κ w b es) {g : Option Value} (hg : zdF es k = g) :
 Vl P n F ⟨dst, .lookup t x y false, ty, pos, af, gd⟩ w (g.getD z) w :=
 fun a ha => by subst hg; simp [execOp, ha.eval hx, ha.eval hy, zg2 hm hk hz h k]
theorem zcI (hm : zft P t = some (kt, et)) (hk : P.underlying kt = some κ.kd) {z : Value} (hz : zaA P et = some z) {x y : Operand} {k : K} (hx : ev F x = some (.map (some b))) (hy : ev F y = some (κ.kv k)) (h : zae κ w b es) {g : Option Value} (hg : zdF es k = g) {v : Value} (hv : g.getD z = v) :
 Vl P n F ⟨dst, .lookup t x y false, ty, pos, af, gd⟩ w v w := hv ▸ znB hm hk hz hx hy h hg
theorem zqB (hm : zft P t = some (kt, et)) (hk : P.underlying kt = some κ.kd) {x y z : Operand} {k : K} {v : Value} (hx : ev F x = some (.map (some b))) (hy : ev F y = some (κ.kv k)) (hz : ev F z = some v) (h : zae κ w b es)
 (hK : ∀ w', w'.heap.size = w.heap.size → zk [b] w w' → zae κ w' b (zeg es k v) → K' F w') : St P n F ⟨none, .mapUpdate t x y z, ty, pos, af, gd⟩ w K' := by
 obtain ⟨w', hr, h1, h2, h3⟩ := zlw (P := P) hm hk h k v
 refine St.sk (w' := w') ?_ rfl (hK w' h1 h2 h3)
 intro a ha
 simp [execOp, ha.eval hx, ha.eval hy, ha.eval hz, hr]
theorem zaS (hm : zft P t = some (kt, et)) (hk : P.underlying kt = some κ.kd) {x y z : Operand} {k : K} {v : Value} (hx : ev F x = some (.map (some b))) (hy : ev F y = some (κ.kv k)) (hz : ev F z = some v) (h : zae κ w b es)
 (hK : ∀ w', w'.heap.size = w.heap.size → zk [b] w w' → zae κ w' b (zeg es k v) → K' F w') : St P n F ⟨none, .insert t x y z, ty, pos, af, gd⟩ w K' := by
 obtain ⟨w', hr, h1, h2, h3⟩ := zlw (P := P) hm hk h k v
 refine St.sk (w' := w') ?_ rfl (hK w' h1 h2 h3)
 intro a ha
 simp [execOp, ha.eval hx, ha.eval hy, ha.eval hz, hr]
theorem zgD (hm : zft P t = some (kt, et)) {x : Operand} (hx : ev F x = some (.map (some b))) (h : zae κ w b es) (hn : Nat.blt d n = true)
 (hK : ∀ r w', w.heap.size = r → w'.heap.size = r + 1 → zk [] w w' → zh8 κ w' r b es es none → K' ((d, .pointer (some ⟨r, 0, none⟩)) :: F) w') : St P n F ⟨some d, .range t x, ty, pos, af, gd⟩ w K' := by
 have hlt := h.lt
 obtain ⟨a, c, hb, hl, hs⟩ := h
 refine St.vl (v := .pointer (some ⟨w.heap.size, 0, none⟩)) (w' := w.alloc (.mapIter (some b) c #[] c)) ?_ rfl hn
  (hK _ _ rfl (by simp) (zk.alloc _ _ _) ⟨a, c, #[], heap_alloc_new w _, (Go.RowKit.Below.heap_alloc w _ b hlt).trans hb, hl, hs, fun p hp => hp, ?_, by simp⟩)
 ·intro ac ha
  simp [execOp, Instr.range, ha.eval hx, run_underlying (ze7 hm), Go.MapKept.run_getObj_map hb]
 unfold leftOf
 have hf : a.toList.filter (fun _ => true) = a.toList := List.filter_eq_self.2 fun _ _ => rfl
 simp [hf, hl]
theorem zd5 {x : Operand} {last : Option (K × Value)} (hx : ev F x = some (.pointer (some ⟨r, 0, none⟩))) (h : zh8 κ w r b es left last) (hn : Nat.blt d n = true)
 (h0 : left = [] → K' ((d, .tuple #[.bool false]) :: F) w)
 (h1 : ∀ (p : K × Value) (l1 l2 : List (K × Value)) (w' : World), left = l1 ++ p :: l2 → w'.heap.size = w.heap.size → zk [r] w w' → zh8 κ w' r b es (l1 ++ l2) (some p) → K' ((d, .tuple #[.bool true, κ.kv p.1, p.2]) :: F) w') :
 St P n F ⟨some d, .next x false, ty, pos, af, gd⟩ w K' := by
 obtain ⟨a, c, seen, hr, hb, hl, ⟨hs1, hs2⟩, hsub, hleft, _⟩ := h
 have hrlt := (Array.getElem?_eq_some_iff.1 hr).1
 have hne : b ≠ r := by
  rintro rfl
  rw [hr] at hb
  cases hb
 rcases run_next_at (P := P) w ty r b c c seen a c hr hb (fun x hx => hs2 x hx) (Nat.le_refl _) with ⟨hz, hrun⟩ | ⟨e, he, w1, hw1, hrun⟩
 ·have hnil : left = [] := by
   have : (leftOf a seen).toList = [] := by simpa using Array.eq_empty_of_size_eq_zero hz
   rw [this] at hleft
   simpa using hleft.symm
  refine St.vl (v := .tuple #[.bool false]) (w' := w) ?_ rfl hn (h0 hnil)
  intro ac ha
  simp [execOp, ha.eval hx, hrun]
 -- the entry's place among what is left
 obtain ⟨s, t', hst⟩ := List.append_of_mem he
 have hlen := congrArg List.length hleft
 have hmap : (s ++ e :: t').map rd = left.map (krd κ) := by rw [← hst]; exact hleft
 obtain ⟨l1, l2', hl12, hm1, hm2⟩ : ∃ l1 l2', left = l1 ++ l2' ∧ l1.map (krd κ) = s.map rd ∧ l2'.map (krd κ) = (e :: t').map rd := by
  refine ⟨left.take s.length, left.drop s.length, (List.take_append_drop _ _).symm, ?_, ?_⟩
  ·rw [List.map_take, ← hmap, List.map_append, List.take_left' (by simp)]
  rw [List.map_drop, ← hmap, List.map_append, List.drop_left' (by simp)]
 cases l2' with
 | nil => simp at hm2
 | cons p l2 =>
  simp only [List.map_cons, List.cons.injEq] at hm2
  obtain ⟨hpe, hm2⟩ := hm2
  have hw1h : w1.heap = w.heap := by rcases hw1 with rfl | rfl <;> rfl
  have hc1 : zk [r] w (Go.ChangeMaps.setBlock w1 r (.mapIter (some b) c (seen.push e.born) c)) := by
   rcases hw1 with rfl | rfl
   ·exact zk.put w1 r _
   exact (zk.drew [r] w).transS (zk.put w.drew r _)
  have hae : e ∈ a.toList := by
   have : e ∈ (leftOf a seen).toList := by rw [hst]; simp
   unfold leftOf at this
   simp only [Array.toList_filter, List.mem_filter] at this
   exact this.1
  have hleft2 : (leftOf a (seen.push e.born)).toList.map rd = (l1 ++ l2).map (krd κ) := by
   rw [zll, hst, List.filter_append, List.filter_cons]
   have hnd : ((s ++ e :: t').map (·.born)).Nodup := by
    rw [← hst]
    refine hs1.sublist ?_
    unfold leftOf
    simp only [Array.toList_filter]
    exact List.filter_sublist.map _
   rw [List.map_append, List.map_cons, List.nodup_append] at hnd
   obtain ⟨_, h2, h3⟩ := hnd
   rw [List.nodup_cons] at h2
   have f1 : s.filter (fun x => !(x.born == e.born)) = s := List.filter_eq_self.2 fun x hx => by
    have := h3 x.born (List.mem_map.2 ⟨x, hx, rfl⟩) e.born (by simp)
    simpa using this
   have f2 : t'.filter (fun x => !(x.born == e.born)) = t' := List.filter_eq_self.2 fun x hx => by
    have : x.born ≠ e.born := fun hh => h2.1 (List.mem_map.2 ⟨x, hx, hh⟩)
    simpa using this
   simp only [beq_self_eq_true, Bool.not_true, Bool.false_eq_true, if_false, f1, f2, List.map_append, hm1, hm2]
  refine St.vl (v := .tuple #[.bool true, κ.kv p.1, p.2]) (w' := Go.ChangeMaps.setBlock w1 r (.mapIter (some b) c (seen.push e.born) c)) ?_ rfl hn (h1 p l1 l2 _ hl12 (by simp [Go.ChangeMaps.setBlock, hw1h]) hc1 ⟨a, c, seen.push e.born, ?_, ?_, hl, ⟨hs1, hs2⟩, ?_, hleft2, ?_⟩)
  ·intro ac ha
   have e1 : e.key = κ.kv p.1 := by have := congrArg Prod.fst hpe; simpa [rd, krd] using this.symm
   have e2 : e.val = p.2 := by have := congrArg Prod.snd hpe; simpa [rd, krd] using this.symm
   simp [execOp, ha.eval hx, hrun, e1, e2]
  ·have : r < w1.heap.size := by rw [hw1h]; exact hrlt
   simp [Go.ChangeMaps.setBlock, this]
  ·rw [← hb, ← hw1h]
   simp [Go.ChangeMaps.setBlock, Ne.symm hne]
  ·intro q hq
   refine hsub q ?_
   rw [hl12]
   rcases List.mem_append.1 hq with h | h <;> simp [h]
  intro q hq
  simp only [Option.some.injEq] at hq
  subst hq
  exact ⟨e, seen, hae, rfl, hpe.symm⟩
theorem zgt {x : Operand} {p : K × Value} (hx : ev F x = some (.pointer (some ⟨r, 0, none⟩))) (h : zh8 κ w r b es left (some p)) : Vl P n F ⟨dst, .entry x, ty, pos, af, gd⟩ w (.tuple #[κ.kv p.1, p.2]) w := by
 intro ac ha
 obtain ⟨a, c, seen, hr, hb, hl, ⟨hs1, hs2⟩, _, _, hlast⟩ := h
 obtain ⟨e, s, he, rfl, hp⟩ := hlast p rfl
 have hrun := run_entry_at (P := P) w r b c s a c e hr hb he hs1
 have e1 : e.key = κ.kv p.1 := by have := congrArg Prod.fst hp; simpa [rd, krd] using this
 have e2 : e.val = p.2 := by have := congrArg Prod.snd hp; simpa [rd, krd] using this
 simp [execOp, ha.eval hx, hrun, e1, e2]
end
end
def zry (w : World) (r : Nat) (s : ByteArray) (p : Nat) : Prop := w.heap[r]? = some (.stringIter s p)
section
variable {P : Program} {n : Nat} {F : Fr} {w : World} {d : Tmp} {ty t : TypeId} {pos : String} {af : Array Edge} {gd : Option (Nat × Bool)} {K' : Fr → World → Prop} {r p : Nat} {s : ByteArray}
theorem znE (hs : zhj P t = true) {x : Operand} (hx : ev F x = some (.string s)) (hn : Nat.blt d n = true)
 (hK : ∀ r w', w.heap.size = r → w'.heap.size = r + 1 → zk [] w w' → zry w' r s 0 → K' ((d, .pointer (some ⟨r, 0, none⟩)) :: F) w') : St P n F ⟨some d, .range t x, ty, pos, af, gd⟩ w K' := by
 refine St.vl (v := .pointer (some ⟨w.heap.size, 0, none⟩)) (w' := w.alloc (.stringIter s 0)) ?_ rfl hn (hK _ _ rfl (by simp) (zk.alloc _ _ _) (heap_alloc_new w _))
 intro ac ha
 simp [execOp, Instr.range, ha.eval hx, run_underlying (zcY hs)]
theorem zkZ {x : Operand} (hx : ev F x = some (.pointer (some ⟨r, 0, none⟩))) (h : zry w r s p) (hn : Nat.blt d n = true)
 (h0 : s.size ≤ p → K' ((d, .tuple #[.bool false]) :: F) w)
 (h1 : ∀ w', p < s.size → w'.heap.size = w.heap.size → zk [r] w w' → zry w' r s (p + (Utf8.decode s p).2) → K' ((d, .tuple #[.bool true, .int .i64 p, .int .i32 (Utf8.decode s p).1]) :: F) w') :
 St P n F ⟨some d, .next x true, ty, pos, af, gd⟩ w K' := by
 have hr := (Array.getElem?_eq_some_iff.1 h).1
 have hg : (getObj r).run P w = .ok (.stringIter s p) w := by simp [getObj, Sem.run, (show w.heap[r]? = _ from h)]
 by_cases hp : p < s.size
 ·have hset : ∀ o, (setObj r o).run P w = .ok () (w.putObj r o) := fun o => by simp [setObj, Sem.run, (show w.heap[r]? = _ from h), World.putObj]
  refine St.vl (v := .tuple #[.bool true, .int .i64 p, .int .i32 (Utf8.decode s p).1]) (w' := w.putObj r (.stringIter s (p + (Utf8.decode s p).2))) ?_ rfl hn (h1 _ hp (by simp [World.putObj]) (zk.put _ _ _) (World.putObj_heap_same hr))
  intro ac ha
  simp [execOp, Instr.next, ha.eval hx, hg, hp, hset, goInt]
 refine St.vl (v := .tuple #[.bool false]) (w' := w) ?_ rfl hn (h0 (by omega))
 intro ac ha
 simp [execOp, Instr.next, ha.eval hx, hg, hp]
end
section
variable {P : Program} {n : Nat} {Q : Exit → Fr → World → Prop} {F : Fr} {w : World} {ops : Array Oper} {rest : List Oper} {ty : TypeId} {pos : String} {af : Array Edge}
theorem Rep.defer {a : Act} (h : Rep n F a) (f : Fn) (first cap : Array Value) : Rep n ((1000001, .func f first cap) :: F) { a with defers := { target := .fn f cap, args := first } :: a.defers } := by
 refine ⟨h.lt, h.size, ?_, fun i v hi => ?_⟩
 ·have hb : Nat.ble 1000000 1000001 = true := rfl
  have e : zac ((1000001, Value.func f first cap) :: F) = { target := .fn f cap, args := first } :: zac F := by simp [zac, zdx, dOf, hb]
  rw [e]
  simp [h.defers]
 refine h.get i v ?_
 simp only [Wk.get] at hi
 by_cases e : i = 1000001
 ·subst e
  have hb : Nat.ble 1000000 1000001 = true := rfl
  simp [hb] at hi
 rw [zjS e] at hi; exact hi
theorem zrl {f : Operand} {az : List Operand} {ts : Array TypeId} {g : Fn} {first cap : Array Value} {vs : List Value} (hf : ev F f = some (.func g first cap)) (ha : evs F az = some vs)
 (h : O P n ops Q rest ((1000001, .func g (first ++ vs.toArray) cap) :: F) w) : O P n ops Q (⟨none, .defer { callee := .value f, args := az.toArray, argTypes := ts }, ty, pos, af, none⟩ :: rest) F w := by
 intro a hr
 refine wpList_plain rfl fun K hK => ?_
 have hx : (execOp a.eval ⟨none, .defer { callee := .value f, args := az.toArray, argTypes := ts }, ty, pos, af, none⟩).run P w = .ok (.defer { target := .fn g cap, args := first ++ vs.toArray }) w := by
  simp [execOp, resolve, hr.eval hf, Deferred.ofValue, hr.evals az vs ha]
 unfold Oper.wp
 rw [hx]
 exact hK _ _ (h _ (hr.defer g (first ++ vs.toArray) cap))
end
def zos (P : Program) (fn : Func) (R : Value → World → Prop) (n : Nat) : Exit → Fr → World → Prop
 | .normal, F, w | .ret, F, w => ∀ a, Rep n F a → Leaves P fn a.tmps (fun e w' => ∃ v, e = .returned v ∧ R v w') (zac F) .returning w
 | _, _, _ => False
theorem z9.of_WD {P : Program} {f : FuncId} {fn : Func} {c : Code} {args : List Value} {w : World} {R : Value → World → Prop} {n : Nat} {F : Fr}
 (hf : P.funcs[f]? = some fn) (hb : fn.body = some c) (hn : fn.ntmps = n) (hl : Nat.ble args.length n = true) (hF : frameOf 0 args = F)
 (h : W P n c (zos P fn R n) F w) (hk : Nat.ble n 1000000 = true := by rfl) : z9 P f args.toArray w R := by
 subst hF hn
 refine calls_of_wp_defers hf hb ?_
 refine wp_mono (h _ (Rep.frameOf hl (Nat.le_of_ble_eq_true hk))) ?_
 rintro e a w' ⟨F', hr', hq⟩
 cases e <;> simp only [zos] at hq
 case normal => have := hq _ hr'; rw [← hr'.defers] at this; exact this
 case ret => have := hq _ hr'; rw [← hr'.defers] at this; exact this
section
variable {P : Program} {fn : Func} {R : Value → World → Prop} {n : Nat} {F : Fr} {w : World}
theorem zya {g : FuncId} {cap dargs : Array Value} {Rd : World → Prop} (hm : zac F = [{ target := .fn (.func g) cap, args := dargs }]) (hb : zn P g = true)
 (hc : CallsD P g (dargs ++ cap) .returning w fun e u' w' => (∃ v, e = .returned v) ∧ u' = .returning ∧ Rd w')
 (hR : ∀ w' a, Rep n F a → Rd w' → ∃ v, (results fn a.tmps).run P w' = .ok v w' ∧ R v w') : zos P fn R n .ret F w := by
 intro a ha
 rw [hm]
 have hi : (invoke (.fn (.func g) cap) dargs).run P w = .ok (.enter g (dargs ++ cap)) w := by
  unfold zn at hb
  split at hb
  ·rename_i f hfn
   simp only [Bool.and_eq_true, Bool.not_eq_true'] at hb
   have h1 : ¬ f.body = none := by cases hx : f.body <;> simp_all
   have h2 : ¬ f.name = "runtime.NumGoroutine" := by simpa using hb.2
   simp [invoke, callFunc, hfn, h1, h2]
  simp at hb
 refine leaves_cons (f := g) (args := dargs ++ cap) (by simp) hi (CallsD.mono hc ?_)
 rintro e u' w' ⟨⟨v, rfl⟩, rfl, hr⟩
 obtain ⟨v', hv, hR'⟩ := hR w' a ha hr
 exact ⟨v', hv, v', rfl, hR'⟩
end
def zaM (w : World) (e k : Nat) (v : Value) (len : Nat) (xs : List Value) : Prop :=
 (v = .slice none 0 0 ∧ len = 0 ∧ xs = []) ∨ ∃ b off cap c fr, v = .slice (some ⟨b, off, none⟩) len cap ∧ w.heap[b]? = some (.cells (c : List Value).toArray e fr) ∧ len ≤ cap ∧ cap ≤ maxLen ∧ off + cap * k ≤ c.length ∧ xs = (c.drop off).take (len * k) ∧ ∀ u ∈ c, u.oneCell' = true
theorem zv.rd {w : World} {e k : Nat} {v : Value} {len : Nat} {xs : List Value} (h : zv w e k v len xs) : zaM w e k v len xs := by
 rcases h with h | ⟨b, off, cap, c, rfl, h⟩
 ·exact .inl h
 exact .inr ⟨b, off, cap, c, (0, 0), rfl, h.blk, h.le, h.max, h.fit, h.xs, h.one⟩
theorem zaM.chg {S : List Nat} {w w' : World} {e k : Nat} {v : Value} {len : Nat} {xs : List Value} (h : zaM w e k v len xs) (hc : zk S w w') (hb : ∀ b ∈ zp v, b ∉ S) : zaM w' e k v len xs := by
 rcases h with h | ⟨b, off, cap, c, fr, rfl, h1, h2⟩
 ·exact .inl h
 exact .inr ⟨b, off, cap, c, fr, rfl, (hc.block b (Array.getElem?_eq_some_iff.1 h1).1 (hb b (by simp [zp]))).trans h1, h2⟩
theorem zaM.chg0 {w w' : World} {e k : Nat} {v : Value} {len : Nat} {xs : List Value} (h : zaM w e k v len xs) (hc : zk [] w w') : zaM w' e k v len xs := h.chg hc (by simp)
theorem zaM.val {w : World} {e k : Nat} {v : Value} {len : Nat} {xs : List Value} (h : zaM w e k v len xs) : ∃ p c, v = .slice p len c ∧ len ≤ c := by
 rcases h with ⟨rfl, rfl, _⟩ | ⟨b, off, cap, c, fr, rfl, _, h, _⟩
 ·exact ⟨_, _, rfl, Nat.le_refl _⟩
 exact ⟨_, _, rfl, h⟩
theorem zaM.len_xs {w : World} {e k : Nat} {v : Value} {len : Nat} {xs : List Value} (h : zaM w e k v len xs) : xs.length = len * k := by
 rcases h with ⟨_, rfl, rfl⟩ | ⟨b, off, cap, c, fr, _, _, h2, h3, h4, rfl, _⟩
 ·simp
 have : len * k ≤ cap * k := Nat.mul_le_mul_right _ h2
 rw [List.length_take, List.length_drop]; omega
theorem zaM.one_xs {w : World} {e k : Nat} {v : Value} {len : Nat} {xs : List Value} (h : zaM w e k v len xs) : ∀ u ∈ xs, u.oneCell' = true := by
 rcases h with ⟨_, rfl, rfl⟩ | ⟨b, off, cap, c, fr, _, _, _, _, _, rfl, h1⟩
 ·simp
 exact fun u hu => h1 u (List.mem_of_mem_drop (List.mem_of_mem_take hu))
theorem zaM.lt {w : World} {e k : Nat} {v : Value} {len : Nat} {xs : List Value} (h : zaM w e k v len xs) : ∀ b ∈ zp v, b < w.heap.size := by
 rcases h with ⟨rfl, _⟩ | ⟨b, off, cap, c, fr, rfl, h, _⟩
 ·simp [zp]
 intro b' hb'
 simp [zp] at hb'
 subst hb'
 exact (Array.getElem?_eq_some_iff.1 h).1
theorem zaM.cells {w : World} {e k b off len cap : Nat} {xs : List Value} (h : zaM w e k (.slice (some ⟨b, off, none⟩) len cap) len xs) : zy w b off xs := by
 rcases h with ⟨h, _, _⟩ | ⟨b', off', cap', c, fr, he, h1, h2, h3, h4, rfl, h6⟩
 ·cases h
 simp only [Value.slice.injEq, Option.some.injEq, Addr.mk.injEq, and_true, true_and] at he
 obtain ⟨⟨rfl, rfl⟩, rfl⟩ := he
 intro j u hj
 have hx : w.cell? ⟨b, off + j, none⟩ = c[off + j]? := by simp [World.cell?, h1]
 rw [hx]
 rw [List.getElem?_take] at hj
 split at hj
 ·rw [List.getElem?_drop] at hj
  exact hj
 cases hj
theorem zaM.at1 {w : World} {e : Nat} {v : Value} {len : Nat} {xs : List Value} (h : zaM w e 1 v len xs) {i : Nat} {u : Value} (hi : xs[i]? = some u) : ∃ b off cap, v = .slice (some ⟨b, off, none⟩) len cap ∧ w.cell? ⟨b, off + i * 1, none⟩ = some u := by
 obtain ⟨p, c, rfl, _⟩ := h.val
 have hl := (List.getElem?_eq_some_iff.1 hi).1
 have hlen := h.len_xs
 rcases id h with ⟨h', _, hx⟩ | ⟨b, off, cap, c', fr, he, _⟩
 ·rw [hx] at hi; cases hi
 simp only [Value.slice.injEq] at he
 obtain ⟨rfl, _, rfl⟩ := he
 refine ⟨b, off, c, rfl, ?_⟩
 rw [Nat.mul_one]
 exact h.cells i u hi
theorem zaM.cut {w : World} {e k len : Nat} {p : Option Addr} {cap : Nat} {xs : List Value} (hs : zaM w e k (.slice p len cap) len xs) {l h m : Nat} (h1 : l ≤ h) (h2 : h ≤ m) (h3 : m ≤ cap) (h4 : h ≤ len) :
 zaM w e k (Wk.cut p l h m k) (h - l) ((xs.drop (l * k)).take ((h - l) * k)) := by
 rcases hs with ⟨he, rfl, rfl⟩ | ⟨b, off, cap', c, fr, he, g1, g2, g3, g4, rfl, g6⟩
 ·simp only [Value.slice.injEq] at he
  obtain ⟨rfl, _, rfl⟩ := he
  have : h = 0 := by omega
  subst this
  have : l = 0 := by omega
  subst this
  have : m = 0 := by omega
  subst this
  exact .inl ⟨by simp [Wk.cut], rfl, by simp⟩
 simp only [Value.slice.injEq] at he
 obtain ⟨rfl, _, rfl⟩ := he
 have hmk : m * k ≤ cap * k := Nat.mul_le_mul_right _ h3
 have hlk : l * k ≤ m * k := Nat.mul_le_mul_right _ (by omega)
 have hsub : (m - l) * k = m * k - l * k := Nat.sub_mul _ _ _
 have hh : h * k ≤ len * k := Nat.mul_le_mul_right _ h4
 have hl : l * k ≤ h * k := Nat.mul_le_mul_right _ h1
 have hs2 : (h - l) * k = h * k - l * k := Nat.sub_mul _ _ _
 have e1 : (((c.drop off).take (len * k)).drop (l * k)).take ((h - l) * k) = (c.drop (off + l * k)).take ((h - l) * k) := by
  rw [List.drop_take, List.take_take, List.drop_drop]
  congr 1
  omega
 rw [e1]
 unfold Wk.cut
 by_cases he : m = l
 ·subst he
  have : h = m := by omega
  subst this
  refine .inr ⟨b, off, 0, c, fr, by simp, g1, by omega, by simp [maxLen], by omega, by simp, g6⟩
 rw [if_neg he]
 exact .inr ⟨b, off + l * k, m - l, c, fr, by simp [Addr.add_lit], g1, by omega, by omega, by omega, rfl, g6⟩
def bv (l : List UInt8) : List Value := l.map fun b => .int .u8 (b.toNat : Int)
theorem zcp (l : List UInt8) : (bv l).length = l.length := by simp [bv]
theorem zcd (l : List UInt8) : ∀ u ∈ bv l, u.oneCell' = true := by
 intro u hu
 simp only [bv, List.mem_map] at hu
 obtain ⟨b, _, rfl⟩ := hu
 rfl
theorem yK (a b : List UInt8) : bv (a ++ b) = bv a ++ bv b := by simp [bv]
theorem zm6 {l : List UInt8} {i : Nat} {b : UInt8} (h : l[i]? = some b) : (bv l)[i]? = some (.int .u8 (b.toNat : Int)) := by simp [bv, h]
section
variable {P : Program} {n : Nat} {F : Fr} {w : World} {d : Tmp} {dst : Option Tmp} {ty t u e : TypeId} {pos : String} {af : Array Edge} {gd : Option (Nat × Bool)} {K : Fr → World → Prop}
theorem zkk {x : Operand} {s : ByteArray} (hs : zhj P t = true) (hu : za6 P u = some e) (he : zc5 P e .u8 = true) (hx : ev F x = some (.string s)) (hl : s.size ≤ maxLen) (hn : Nat.blt d n = true)
 (h : ∀ b cap w', w.heap.size = b → zk [] w w' → s.size ≤ cap → zaM w' e 1 (.slice (some ⟨b, 0, none⟩) s.size cap) s.size (bv s.data.toList) → K ((d, .slice (some ⟨b, 0, none⟩) s.size cap) :: F) w') :
 St P n F ⟨some d, .convert t u x, ty, pos, af, gd⟩ w K := by
 have hrun := run_bytes_of_string (P := P) w t u e s (zcY hs) (yI hu) (yv he)
 have hge := grownCap_ge w s.size 0 e
 have hcm := grownCap_le_maxLen w s.size 0 e hl
 refine St.vl (v := .slice (some ⟨w.heap.size, 0, none⟩) s.size (grownCap w s.size 0 e)) ?_ rfl hn (h _ _ (w.drew.alloc (.cells (bytesRow s (grownCap w s.size 0 e)) e ((bytesRow s (grownCap w s.size 0 e)).size, (bytesRow s (grownCap w s.size 0 e)).size + 1))) rfl ((zk.drew [] w).trans (zk.alloc [] _ _)) hge ?_)
 ·intro a ha
  simp [execOp, ha.eval hx, hrun]
 have hsz : s.data.toList.length = s.size := by simp
 refine .inr ⟨w.heap.size, 0, _, (bytesRow s (grownCap w s.size 0 e)).toList, ((bytesRow s (grownCap w s.size 0 e)).size, (bytesRow s (grownCap w s.size 0 e)).size + 1), rfl, ?_, hge, hcm, ?_, ?_, ?_⟩
 ·have := heap_alloc_new w.drew (.cells (bytesRow s (grownCap w s.size 0 e)) e ((bytesRow s (grownCap w s.size 0 e)).size, (bytesRow s (grownCap w s.size 0 e)).size + 1))
  simpa using this
 ·have : s.data.size = s.size := rfl
  simp [bytesRow, this]; omega
 ·rw [List.drop_zero, Nat.mul_one]
  unfold bytesRow
  rw [Array.toList_append, List.take_left' (by simp)]
  simp [bv]
 intro u hu
 simp only [bytesRow, Array.toList_append, List.mem_append, Array.toList_map, List.mem_map, Array.toList_replicate, List.mem_replicate] at hu
 rcases hu with ⟨b, _, rfl⟩ | ⟨_, rfl⟩ <;> rfl
end
end Go.Wk
