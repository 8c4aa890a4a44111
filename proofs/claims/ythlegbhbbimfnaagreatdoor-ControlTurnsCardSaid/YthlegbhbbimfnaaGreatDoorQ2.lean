/- joined texts -/
import Derived.Test.YthlegbhbbimfnaaGreatDoorQ1
import Derived.Laws.StructEq
import Derived.RangeFuncNested
import Derived.RangeFuncLeaves
import Derived.Carry
import Derived.Scope
import Derived.RangeFuncCalls
import Derived.RangeFuncBound
import Derived.Laws.MakeOwn
import Derived.Laws.IdiomStrings
import Derived.MapKept
import Derived.Maps.RangeRun
import Derived.Defers
import Derived.Recover
set_option linter.all false
namespace Go.Wk
theorem zB.one1 {w : World} {e k : Nat} {v : Value} {len : Nat} {xs : List Value} (h : zB w e k v len xs) : v.oneCell' = true := by
 obtain ⟨p, c, rfl, _⟩ := h.val
 rfl
theorem zB.of_blk {w : World} {e k b n : Nat} {c : List Value} (hb : zV w b e c) (hl : c.length = n * k) (hn : n ≤ maxLen) (h1 : ∀ u ∈ c, u.oneCell' = true) : zB w e k (.slice (some ⟨b, 0, none⟩) n n) n c :=
 .inr ⟨b, 0, n, c, rfl, ⟨hb, Nat.le_refl _, hn, by omega, by rw [List.drop_zero, List.take_of_length_le (by omega)], h1⟩⟩
section
variable {P : Program} {n : Nat} {Q : Exit → Fr → World → Prop} {F : Fr} {w : World} {o : Oper} {ops : Array Oper} {rest : List Oper} {C : World → Prop} {k d : Nat}
theorem zt {j t : Nat} {b : Bool} (hg : o.guard = some (j, b)) (hd : o.dst = some d) (hn : Nat.blt d n = true) (ht : (ops[j]?).bind (·.dst) = some t) (hv : get F t = some undef) (h : O P n ops Q rest ((d, undef) :: F) w) : O P n ops Q (o :: rest) F w := by
 intro a ha
 have hw : Region.wanted o (yielded ops a.tmps) = false := by
  simp [Region.wanted, hg, yielded, ht, ha.get t _ hv, undef]
 refine wpList_step fun K' hK => ?_
 rw [if_neg (by simp [hw]), hd]
 exact hK _ _ (h _ (ha.put hn undef))
theorem y8 {j t : Nat} {b : Bool} (hg : o.guard = some (j, b)) (hd : o.dst = some d) (hn : Nat.blt d n = true) (ht : (ops[j]?).bind (·.dst) = some t) (hv : get F t = some undef) (h : T P n ops C Q (k + 1) rest ((d, undef) :: F) w) : T P n ops C Q k (o :: rest) F w := by
 intro a ha
 have hw : Region.wanted o (yielded ops a.tmps) = false := by
  simp [Region.wanted, hg, yielded, ht, ha.get t _ hv, undef]
 simp only [wpT, hw, Bool.false_eq_true, if_false]
 rw [hd]
 exact h _ (ha.put hn undef)
end
section
variable {P : Program} {fn : Func} {R : Value → World → Prop} {n : Nat} {F : Fr} {w : World}
theorem zcW {t ty k b off : Nat} {cs : List Value} (hr : fn.results = #[.cell t ty]) (hag : yB P ty = some true) (hk : yQ P ty = some k) (hv : get F t = some (.pointer (some ⟨b, off, none⟩))) (hl : cs.length = k) (hc : zu w b off cs) (h : R (.agg cs.toArray) w) (hm : zar F = [] := by rfl) : zeb P fn R n .ret F w := by
 refine ⟨_, fun a ha => ?_, hm, h⟩
 subst hl
 have h1 : (loadCells ⟨b, off, none⟩ cs.length).run P w = .ok cs.toArray w := run_loadCells_list w ⟨b, off, none⟩ cs (fun j v hv => by rw [Addr.add_lit]; exact hc j v hv)
 simp [results, hr, ha.get t _ hv, asAddr, loadVar, zan hag, zX hk, h1]
end
theorem yo {P : Program} {t : TypeId} (h : zeV P t = true) : P.underlying t = some .string := by unfold zeV at h; split at h <;> simp_all
theorem zB.apartSl {w : World} {e k len e' k' len' : Nat} {u v : Value} {xs ys : List Value} (h : zB w e k u len xs) (hv : zB w e' k' v len' ys) (hne : Nat.beq e e' = false) : ∀ x ∈ zC u, x ∉ zC v := by
 rcases hv with ⟨rfl, _, _⟩ | ⟨b, off, cap, c, rfl, hs⟩
 ·simp [zC]
 have := h.apart hs.blk hne
 simpa [zC] using this
theorem zio {v v' : Value} {w : World} (ho : zC v' = zC v ∨ ∃ b, zC v' = [b] ∧ w.heap.size ≤ b) {s : Nat} (hf : ∀ b ∈ zC v, s ≤ b) (hs : s ≤ w.heap.size) : ∀ b ∈ zC v', s ≤ b := by
 rcases ho with ho | ⟨b, ho, hb⟩
 ·rw [ho]; exact hf
 rw [ho]; intro x hx; simp at hx; subst hx; omega
theorem zm.cell {w w' : World} (h : zm [] w w') {a : Addr} {v : Value} (hc : w.cell? a = some v) : w'.cell? a = some v := by
 have hl : a.block < w.heap.size := by
  rcases Nat.lt_or_ge a.block w.heap.size with h' | h'
  ·exact h'
  have hn : w.heap[a.block]? = none := Array.getElem?_eq_none h'
  unfold World.cell? at hc
  rw [hn] at hc
  cases hc
 have hb := h.block a.block hl (by simp)
 unfold World.cell? at hc ⊢
 rw [hb]
 exact hc
theorem zu.chg0 {w w' : World} {b off : Nat} {cs : List Value} (hc : zu w b off cs) (h : zm [] w w') : zu w' b off cs := fun j u hj => h.cell (hc j u hj)
theorem zm.put (w : World) (b : Nat) (o : Obj) : zm [b] w (w.putObj b o) :=
 ⟨rfl, rfl, rfl, by simp [World.putObj], fun k _ hn => World.putObj_heap_other (fun e => hn (by simp [e]))⟩
inductive zal where
 | done
 | one (i : Nat) (t : zal)
 | two (i : Nat) (t : zal) (j : Nat) (u : zal)
def zal.seq : List Nat → zal → zal
 | [], t => t
 | i :: r, t => .one i (zal.seq r t)
def wpF (P : Program) (ops : Array Oper) (C : World → Prop) (Q : Act → World → Prop) : zal → Act → World → Prop
 | .done, a, w => Q a w
 | .one i t, a, w => tOp P ops C i (wpF P ops C Q t) a w
 | .two i t j u, a, w => tOp P ops C i (wpF P ops C Q t) a w ∧ tOp P ops C j (wpF P ops C Q u) a w
def ziy (ops : Array Oper) (listed : Array Bool) (i : Nat) : Bool := match ops[i]? with
 | none => false
 | some oi => (List.range ops.size).all fun j => Nat.beq j i || listed.getD j true || zbR ops i oi j
def okF (ops : Array Oper) : zal → Nat → Array Bool → Bool
 | .done, _, listed => (Region.ready .any ops listed).isEmpty
 | .one _ _, 0, _ => false
 | .one i t, f + 1, listed => (Region.ready .any ops listed).contains i && ziy ops listed i && okF ops t f (listed.setIfInBounds i true)
 | .two .., 0, _ => false
 | .two i t j u, f + 1, listed => (Region.ready .any ops listed == [i, j]) && okF ops t f (listed.setIfInBounds i true) && okF ops u f (listed.setIfInBounds j true)
def okR (ops : Array Oper) (t : zal) : Bool := (List.range ops.size).all (fun i => match ops[i]? with | some o => kd o != 3 | none => true) && okF ops t ops.size (Array.replicate ops.size false)
section
variable {P : Program} {ops : Array Oper} {C : World → Prop}
theorem zdu {Q : Act → World → Prop} (hk3 : ∀ (j : Nat) (oj : Oper), ops[j]? = some oj → kd oj ≠ 3) {w0 : World} (hw0 : C w0) : ∀ (t : zal) (f : Nat) (listed : Array Bool) (a : Act) (w : World),
 okF ops t f listed = true → yH ops listed → wpF P ops C Q t a w → aT P ops C Q f listed a w
 | .done, f, listed, a, w, h, _, hq => by
  have hr : Region.ready .any ops listed = [] := by simpa [okF] using h
  cases f with
  | zero => exact ⟨hr, hq⟩
  | succ f => exact ⟨fun _ => hq, fun i hi => by rw [hr] at hi; cases hi⟩
 | .one i t, 0, listed, a, w, h, _, _ => by simp [okF] at h
 | .one i t, f + 1, listed, a, w, h, hc, hq => by
  simp only [okF, Bool.and_eq_true, List.contains_iff_mem] at h
  obtain ⟨⟨hr, hf⟩, ht⟩ := h
  unfold ziy at hf
  split at hf
  ·cases hf
  rename_i oi hi
  refine zcV hi (hk3 i oi hi) hk3 hw0 f listed a w hc ?_ hr ?_
  ·intro j oj hj hne hun
   have h1 := List.all_eq_true.1 hf j (List.mem_range.2 (Array.getElem?_eq_some_iff.1 hj).1)
   simp only [Bool.or_eq_true, hun, Bool.false_eq_true, or_false, zbR, hj] at h1
   rcases h1 with h1 | h1
   ·exact absurd (Nat.eq_of_beq_eq_true h1) hne
   rcases h1 with h1 | h1
   ·exact .inl h1
   simp only [Bool.and_eq_true, Bool.not_eq_true'] at h1
   refine .inr ⟨h1.1, fun ⟨e1, e2⟩ => ?_⟩
   have h3 := h1.2
   rw [e1, e2] at h3
   simp at h3
  exact zaG (fun a' w' _ h' => zdu hk3 hw0 t f _ a' w' ht (hc.set hr) h') hq
 | .two i t j u, 0, listed, a, w, h, _, _ => by simp [okF] at h
 | .two i t j u, f + 1, listed, a, w, h, hc, hq => by
  simp only [okF, Bool.and_eq_true, beq_iff_eq] at h
  obtain ⟨⟨hr, ht⟩, hu⟩ := h
  have hi : i ∈ Region.ready .any ops listed := by rw [hr]; simp
  have hj : j ∈ Region.ready .any ops listed := by rw [hr]; simp
  refine ⟨fun h0 => (by rw [h0] at hi; cases hi), fun k hk => ?_⟩
  rw [hr] at hk
  simp only [List.mem_cons, List.not_mem_nil, or_false] at hk
  rcases hk with rfl | rfl
  ·exact zaG (fun a' w' _ h' => zdu hk3 hw0 t f _ a' w' ht (hc.set hi) h') hq.1
  exact zaG (fun a' w' _ h' => zdu hk3 hw0 u f _ a' w' hu (hc.set hj) h') hq.2
theorem zfJ {id : Nat} {t : zal} {Q : Act → World → Prop} {Q' : Exit → Act → World → Prop} {a : Act} {w : World} (hQ : ∀ a w, Q a w → Q' .normal a w) (hm : P.follows .mixedOrders = true) (hB : okR ops t = true) (hC : C w.drew)
 (h : wpF P ops C Q t a w.drew) : (Code.region id ops true).wp P Q' a w := by
 refine wp_region_any hm ?_
 simp only [okR, Bool.and_eq_true] at hB
 have hcl : yH ops (Array.replicate ops.size false) := by
  intro j oj hj hl
  have hjlt := (Array.getElem?_eq_some_iff.1 hj).1
  simp [hjlt] at hl
 have := zdu (P := P) (Q := Q) (fun j oj hj => by
  have h1 := List.all_eq_true.1 hB.1 j (List.mem_range.2 (Array.getElem?_eq_some_iff.1 hj).1)
  rw [hj] at h1
  simpa using h1) hC t ops.size _ a w.drew hB.2 hcl h
 exact zao (C := C) hQ _ _ _ _ hcl (.inl hC) (by simpa using this)
end
section
variable {P : Program} {n : Nat} {Q : Exit → Fr → World → Prop} {F : Fr} {w w' : World} {o : Oper} {ops : Array Oper} {C : World → Prop} {i d : Nat} {t : zal}
def TF (P : Program) (n : Nat) (ops : Array Oper) (C : World → Prop) (Q : Exit → Fr → World → Prop) (t : zal) (F : Fr) (w : World) : Prop :=
 ∀ a, Rep n F a → wpF P ops C (fun a w => ∃ F, Rep n F a ∧ Q .normal F w) t a w
theorem zeY (C : World → Prop) (t : zal) {id : Nat} {l : List Oper} (hm : P.follows .mixedOrders = true) (hB : okR l.toArray t = true) (hC : C w.drew) (h : TF P n l.toArray C Q t F w.drew) : W P n (.region id l.toArray true) Q F w :=
 fun a ha => zfJ (C := C) (Q := fun a w => ∃ F, Rep n F a ∧ Q .normal F w) (fun _ _ h => h) hm hB hC (h a ha)
theorem zcJ {K : Fr → World → Prop} (keep : List Nat) {F' : Fr} (hF : prune keep F = F') (h : K F' w) : TF P n ops C (yY K Q) .done F w := fun _ ha => ⟨F', hF ▸ ha.prune keep, h⟩
theorem zeE {i j : Nat} {t u : zal} (h1 : TF P n ops C Q (.one i t) F w) (h2 : TF P n ops C Q (.one j u) F w) : TF P n ops C Q (.two i t j u) F w := fun a ha => ⟨h1 a ha, h2 a ha⟩
theorem ya {v : Value} (hi : ops[i]? = some o) (hk : Nat.ble (kd o) 1 = true) (hw : Wd n F ops o) (hv : ∀ w, Vl P n F o w v w) (hd : o.dst = some d) (hn : Nat.blt d n = true) (h : TF P n ops C Q t ((d, v) :: F) w) : TF P n ops C Q (.one i t) F w := by
 intro a ha
 have hk' : kd o = 0 ∨ kd o = 1 := by have := Nat.le_of_ble_eq_true hk; omega
 rcases hk' with hk | hk
 ·simp only [wpF, tOp, hi, hw a ha, if_true, tAt, hk]
  refine ⟨v, fun w' => hv w' a ha, ?_⟩
  rw [hd]
  exact h _ (ha.put hn v)
 simp only [wpF, tOp, hi, hw a ha, if_true, tAt, hk]
 refine ⟨v, fun w' _ => hv w' a ha, ?_⟩
 rw [hd]
 exact h _ (ha.put hn v)
theorem zgp {v : Value} (hi : ops[i]? = some o) (hk : kd o = 1) (hw : Wd n F ops o) (hv : ∀ w, C w → Vl P n F o w v w) (hd : o.dst = some d) (hn : Nat.blt d n = true) (h : TF P n ops C Q t ((d, v) :: F) w) : TF P n ops C Q (.one i t) F w := by
 intro a ha
 simp only [wpF, tOp, hi, hw a ha, if_true, tAt, hk]
 refine ⟨v, fun w' hw' => hv w' hw' a ha, ?_⟩
 rw [hd]
 exact h _ (ha.put hn v)
theorem y9 (hi : ops[i]? = some o) (hk : kd o = 2) (hw : Wd n F ops o) (h : St P n F o w (fun F' w' => (C w' ∨ fin ops i = true) ∧ TF P n ops C Q t F' w')) : TF P n ops C Q (.one i t) F w := by
 intro a ha
 simp only [wpF, tOp, hi, hw a ha, if_true, tAt, hk]
 refine Oper.wp_mono ?_ (zcX (h a ha) fun a' w' ⟨F', _, hd, _⟩ => hd)
 rintro a' w' ⟨hs, F', hr, _, hc, hT⟩
 exact ⟨hc, hs, hT _ hr⟩
end
section
variable {P : Program} {n : Nat} {F : Fr} {w : World} {d : Tmp} {ty t e : TypeId} {k by' : Nat} {z : Value} {pos : String} {af : Array Edge} {gd : Option (Nat × Bool)} {K : Fr → World → Prop}
theorem zhB (A : App P t e k by' z) {x y : Operand} {kl kc : IntKind} {i j : Int} {l m : Nat} (hx : ev F x = some (.int kl i)) (hy : ev F y = some (.int kc j)) (hi : i = (l : Int)) (hj : j = (m : Int)) (hlm : l ≤ m) (hmax : m ≤ maxLen) (hbytes : m * by' ≤ 140737488355328) (hn : Nat.blt d n = true)
 (h : ∀ b w', w.heap.size = b → w'.heap.size = b + 1 → zm [] w w' → zV w' b e (madeCells z.cells (m * k)).toList → K ((d, .slice (some ⟨b, 0, none⟩) l m) :: F) w') :
 St P n F ⟨some d, .makeSlice t x y, ty, pos, af, gd⟩ w K := by
 subst hi hj
 obtain ⟨inf, hi, hk, hb, hz⟩ := A.info
 have hund := y0 A.sl
 have hm63 : (m : Int) ≤ 9223372036854775807 := by simp only [maxLen] at hmax; omega
 have hb' : (inf.bytes : Int) * (m : Int) ≤ 281474976710656 := by
  have h0 : inf.bytes * m ≤ 281474976710656 := by rw [hb, Nat.mul_comm]; omega
  have h1 : ((inf.bytes * m : Nat) : Int) ≤ 281474976710656 := by omega
  rwa [Int.natCast_mul] at h1
 have hr := run_make (P := P) w t e inf z hund hi hz kl kc l m (by omega) (by omega) hb' hm63
 simp only [Int.toNat_natCast, hk] at hr
 refine St.vl (v := .slice (some ⟨w.heap.size, 0, none⟩) l m) (w' := w.alloc (.cells (madeCells z.cells (m * k)) e)) ?_ rfl hn (h _ _ rfl (by simp) (zm.alloc _ _ _) (by simpa using zV.new w e (madeCells z.cells (m * k)).toList))
 intro a ha
 simp [execOp, ha.eval hx, ha.eval hy, hr]
end
section
variable {P : Program} {n : Nat} {F : Fr} {w : World} {dst : Option Tmp} {ty t u e : TypeId} {pos : String} {af : Array Edge} {gd : Option (Nat × Bool)}
theorem zS {k : IntKind} (h : zbJ P t k = true) : P.underlying t = some (.int k) := by unfold zbJ at h; split at h <;> simp_all
theorem ziI {x : Operand} {b off c len : Nat} {l : List UInt8} (hs : za3 P t = some e) (he : zbJ P e .u8 = true) (hu : zeV P u = true) (hx : ev F x = some (.slice (some ⟨b, off, none⟩) len c)) (hl : len = l.length) (hc : zu w b off (l.map fun x => .int .u8 (x.toNat : Int))) :
 Vl P n F ⟨dst, .convert t u x, ty, pos, af, gd⟩ w (.string ⟨l.toArray⟩) w := by
 intro a ha
 subst hl
 have hr := run_convert_bytes_back (P := P) w t u e ⟨b, off, none⟩ c l (y0 hs) (zS he) (yo hu) (fun j hj => by rw [Addr.add_lit]; exact hc j _ (by simp [hj]))
 simp [execOp, ha.eval hx, hr]
end
def rd (e : MapEntry) : Value × Value := (e.key, e.val)
def zcu (P : Program) (t : TypeId) : Option (TypeId × TypeId) := match P.underlying t with | some (.map k e) => some (k, e) | _ => none
theorem zcN {P : Program} {t k e : TypeId} (h : zcu P t = some (k, e)) : P.underlying t = some (.map k e) := by
 unfold zcu at h
 split at h
 ·rename_i k' e' he; simp at h; obtain ⟨rfl, rfl⟩ := h; exact he
 simp at h
theorem ziZ (s u : ByteArray) : (s == u) = decide (s = u) := by
 have h0 : (s == u) = (s.data == u.data) := rfl
 rw [h0]
 by_cases h : s = u
 ·subst h; simp
 have h1 : ¬ s.data = u.data := fun e => h (by cases s; cases u; simpa using e)
 simp [h, h1]
def zkM (P : Program) (t : TypeId) (i : Nat) : Option (Nat × Nat × Bool) := match P.underlying t with
 | some (.struct fs) => (fs[i]?).bind fun f => match yQ P f.type, yB P f.type with
  | some z, some b => some (f.offset, z, b)
  | _, _ => none
 | _ => none
section
variable {P : Program} {n : Nat} {F : Fr} {w : World} {dst : Option Tmp} {ty : TypeId} {pos : String} {af : Array Edge} {gd : Option (Nat × Bool)}
theorem zaR {x y : Operand} {t u : TypeId} {k k' : IntKind} {a c : Int} {i : Int} (m : Nat) (hx : ev F x = some (.int k a)) (hy : ev F y = some (.int k' i)) (hi : i = (m : Int)) (hm : m ≤ k.bits) (hc : a.fdiv (2 ^ m) = c) :
 Vl P n F ⟨dst, .binOp .shr t x y u, ty, pos, af, gd⟩ w (.int k c) w := by
 intro ac ha
 subst hi hc
 have h1 : ¬ ((m : Int) < 0) := by omega
 have h2 : min m k.bits = m := Nat.min_eq_left hm
 simp only [execOp, ha.eval hx, ha.eval hy, eqGuard, binOp, Op.shift, Int.toNat_natCast, h1, h2, if_false]
 simp
theorem zbL {x y : Operand} {t u : TypeId} {k k' : IntKind} {a c : Int} {i : Int} (m : Nat) (hx : ev F x = some (.int k a)) (hy : ev F y = some (.int k' i)) (hi : i = (m : Int)) (hm : m ≤ k.bits) (hc : k.wrap (a * 2 ^ m) = c) :
 Vl P n F ⟨dst, .binOp .shl t x y u, ty, pos, af, gd⟩ w (.int k c) w := by
 intro ac ha
 subst hi hc
 have h1 : ¬ ((m : Int) < 0) := by omega
 have h2 : min m k.bits = m := Nat.min_eq_left hm
 simp only [execOp, ha.eval hx, ha.eval hy, eqGuard, binOp, Op.shift, Int.toNat_natCast, h1, h2, if_false]
 simp
theorem ziV {i : Int} (h0 : 0 ≤ i) (h1 : i < 18446744073709551616) : IntKind.u64.wrap i = i := by
 simp only [IntKind.wrap, IntKind.bits, IntKind.signed]
 simp
 omega
theorem zap {x y : Operand} {t : TypeId} {s : ByteArray} {kk : IntKind} {j : Int} (hb : zeV P t = true) (hx : ev F x = some (.string s)) (hy : ev F y = some (.int kk j)) (i : Nat) (hi : j = (i : Int)) {b : UInt8} (hlt : s.data[i]? = some b) :
 Vl P n F ⟨dst, .index t x y, ty, pos, af, gd⟩ w (.int .u8 (b.toNat : Int)) w := by
 intro a ha
 subst hi
 have h1 : (0 : Int) ≤ (i : Int) := by omega
 have hl := (Array.getElem?_eq_some_iff.1 hlt).1
 have hs : s[i]? = some b := by
  have : i < s.size := hl
  rw [getElem?_pos s i this]
  exact congrArg some (Array.getElem?_eq_some_iff.1 hlt).2
 simp [execOp, Instr.index, ha.eval hx, ha.eval hy, asIntOf, run_underlying (yo hb), h1, hs]
theorem zhs {x : Operand} {t : TypeId} {f k z : Nat} {cs : List Value} {v : Value} (h : zkM P t f = some (k, z, false)) (hx : ev F x = some (.agg cs.toArray)) (hv : cs[k]? = some v) : Vl P n F ⟨dst, .field t x f, ty, pos, af, gd⟩ w v w := by
 intro a ha
 unfold zkM at h
 split at h
 ·rename_i fs hu
  simp only [Option.bind_eq_some_iff] at h
  obtain ⟨fd, hi, h⟩ := h
  split at h
  ·rename_i z' b' hz hb
   simp only [Option.some.injEq, Prod.mk.injEq] at h
   obtain ⟨rfl, rfl, rfl⟩ := h
   simp [execOp, Instr.field, ha.eval hx, run_underlying hu, hi, asAgg, part, zan hb, hv]
  simp at h
 simp at h
end
def zhL (P : Program) (t : TypeId) : Bool := match P.underlying t with | some (.interface _) => false | some _ => true | none => false
def zid (P : Program) (t : TypeId) : Bool := match P.underlying t with | some (.interface _) => true | _ => false
def Mth (P : Program) (t : TypeId) (v : Value) (name : String) (f : FuncId) (r : Value) : Prop := ∀ w : World, (method (P.types.size + Made.depth) t v name).run P w = .ok (f, r) w
def zhW : Value → Option Bool
 | .nilIface => some true
 | .iface _ _ => some false
 | _ => none
section
variable {P : Program} {n : Nat} {F : Fr} {w : World} {dst : Option Tmp} {ty : TypeId} {pos : String} {af : Array Edge} {gd : Option (Nat × Bool)}
theorem zh3 {t : TypeId} (h : zhL P t = true) : ∃ d, P.underlying t = some d ∧ ∀ ms, d ≠ .interface ms := by
 unfold zhL at h
 split at h
 ·simp at h
 ·rename_i d hd hne
  exact ⟨d, hne, fun ms e => hd ms e⟩
 simp at h
theorem ziP {t : TypeId} (h : zid P t = true) : ∃ ms, P.underlying t = some (.interface ms) := by
 unfold zid at h
 split at h
 ·exact ⟨_, ‹_›⟩
 simp at h
theorem zaf {x : Operand} {t : TypeId} {v : Value} (h : zhL P t = true) (hx : ev F x = some v) : Vl P n F ⟨dst, .makeInterface t x, ty, pos, af, gd⟩ w (.iface t v) w := by
 intro a ha
 obtain ⟨d, hd, hne⟩ := zh3 h
 cases d <;> simp [execOp, Instr.makeInterface, ha.eval hx, run_underlying hd]
 exact absurd rfl (hne _)
theorem zdw {x : Operand} {t u : TypeId} {v : Value} {b : Bool} (h : zid P t = true) (hx : ev F x = some v) (hv : zhW v = some b) : Vl P n F ⟨dst, .binOp .eql t x (.const .nilIface) u, ty, pos, af, gd⟩ w (.bool b) w := by
 intro a ha
 obtain ⟨ms, hu⟩ := ziP h
 have hc : a.eval (.const .nilIface) = .nilIface := rfl
 have he := ha.eval hx
 cases v with
 | nilIface =>
  simp only [zhW, Option.some.injEq] at hv
  subst hv
  have h1 : (Op.equal t .nilIface .nilIface).run P w = .ok true w := zbr fun d => by simp [Op.equalIn, run_underlying hu]
  simp [execOp, he, hc, eqGuard, binOp, h1]
 | iface tx vx =>
  simp only [zhW, Option.some.injEq] at hv
  subst hv
  have h1 : (Op.equal t (.iface tx vx) .nilIface).run P w = .ok false w := zbr fun d => by simp [Op.equalIn, run_underlying hu]
  simp [execOp, he, hc, eqGuard, binOp, h1]
 | _ => simp [zhW] at hv
end
section
variable {P : Program} {n : Nat} {F : Fr} {w : World} {d : Tmp} {ty : TypeId} {pos : String} {af : Array Edge} {gd : Option (Nat × Bool)} {K : Fr → World → Prop}
theorem zhp {x : Operand} {az : List Operand} {ts : Array TypeId} {t : TypeId} {v r : Value} {name : String} {g : FuncId} {vs : List Value} {R : Value → World → Prop} (hm : Mth P t v name g r) (hb : zl P g = true) (hx : ev F x = some (.iface t v)) (ha : evs F az = some vs)
 (hn : Nat.blt d n = true) (hc : zO P g (r :: vs).toArray w R) (h : ∀ v w', R v w' → K ((d, v) :: F) w') :
 St P n F ⟨some d, .call { callee := .invoke x name, args := az.toArray, argTypes := ts }, ty, pos, af, gd⟩ w K := by
 refine St.enter (f := g) (args := (r :: vs).toArray) ?_ rfl hn hc h
 intro a hr
 unfold zl at hb
 split at hb
 ·rename_i fn hfn
  simp only [Bool.and_eq_true, Bool.not_eq_true'] at hb
  have h1 : ¬ fn.body = none := by cases hx : fn.body <;> simp_all
  have h2 : ¬ fn.name = "runtime.NumGoroutine" := by simpa using hb.2
  have e1 : ∀ X : Array Value, (callFunc g X).run P w = .ok (.enter g X) w := fun X => by simp [callFunc, hfn, h1, h2]
  have hmw := hm w
  have ev := hr.evals az vs ha
  have e3 : (#[Value.iface t v] ++ vs.toArray).extract 1 (vs.length + 1) = vs.toArray := by
   apply Array.toList_inj.1
   simp
  simp [execOp, resolve, hr.eval hx, ev, invoke, callMethod, hmw, e1, e3]
 simp at hb
theorem zaB {x : Operand} {az : List Operand} {ts : Array TypeId} {t : TypeId} {v r : Value} {name : String} {g : FuncId} {vs : List Value} {e : Array Value → Sem Value} {u : Value} {w' : World} (hm : Mth P t v name g r) (hb : zcU P g = some e) (hx : ev F x = some (.iface t v)) (ha : evs F az = some vs)
 (hrun : (e (r :: vs).toArray).run P w = .ok u w') (hn : Nat.blt d n = true) (h : K ((d, u) :: F) w') :
 St P n F ⟨some d, .call { callee := .invoke x name, args := az.toArray, argTypes := ts }, ty, pos, af, gd⟩ w K := by
 refine St.vl (v := u) (w' := w') ?_ rfl hn h
 intro a hr
 unfold zcU at hb
 split at hb
 ·rename_i fn hfn
  split at hb
  ·simp at hb
  rename_i hc
  simp only [Bool.or_eq_true, not_or, Bool.not_eq_true] at hc
  obtain ⟨⟨c1, c2⟩, c3⟩ := hc
  have h1 : fn.body = none := by simpa using c2
  have h2 : ¬ fn.name = "runtime.NumGoroutine" := by simpa using c1
  have h3 : Extern.findNext fn = none := by simpa using c3
  have hmw := hm w
  have ev := hr.evals az vs ha
  have e3 : (#[Value.iface t v] ++ vs.toArray).extract 1 (vs.length + 1) = vs.toArray := by
   apply Array.toList_inj.1
   simp
  have e4 : #[r] ++ vs.toArray = (r :: vs).toArray := by simp
  simp [execOp, resolve, hr.eval hx, ev, invoke, callMethod, hmw, e3, callFunc, hfn, h1, h2, h3, hb, hrun]
 simp at hb
end
structure zh2 (K : Type) [DecidableEq K] where
 kv : K → Value
 kd : TypeDesc
 now : ∀ a b, Instr.sameNow kd (kv a) (kv b) = some (decide (a = b))
 bits : ∀ a, Instr.sameBits 10000 (kv a) (kv a) = true
 chk : ∀ (P : Program) (kt : TypeId) (a : K) (e : Bool) (w : World), P.underlying kt = some kd → (Instr.checkKey e 10000 kt (kv a)).run P w = .ok () w
def zbp : zh2 ByteArray where
 kv := .string
 kd := .string
 now a b := by show some (a == b) = _; rw [ziZ]
 bits a := by simp [Instr.sameBits, ziZ]
 chk P kt a e w h := by
  unfold Instr.checkKey
  simp [run_underlying h]
def zab (k : IntKind) : zh2 Int where
 kv := .int k
 kd := .int k
 now a b := by simp [Instr.sameNow]; rfl
 bits a := by simp [Instr.sameBits]
 chk P kt a e w h := by
  unfold Instr.checkKey
  simp [run_underlying h]
section
variable {K : Type} [DecidableEq K]
def yL : List (K × Value) → K → Option Value
 | [], _ => none
 | p :: r, k => if p.1 = k then some p.2 else yL r k
def zat : List (K × Value) → K → Value → List (K × Value)
 | [], k, v => [(k, v)]
 | p :: r, k, v => if p.1 = k then (k, v) :: r else p :: zat r k v
def krd (κ : zh2 K) (p : K × Value) : Value × Value := (κ.kv p.1, p.2)
def zjb (a : Array MapEntry) (clock : Nat) : Prop := (a.toList.map (·.born)).Nodup ∧ ∀ e ∈ a.toList, e.born < clock
def zZ (κ : zh2 K) (w : World) (b : Nat) (es : List (K × Value)) : Prop := ∃ (a : Array MapEntry) (clock : Nat), w.heap[b]? = some (.map a clock) ∧ a.toList.map rd = es.map (krd κ) ∧ zjb a clock
variable {κ : zh2 K}
theorem zZ.chg {S : List Nat} {w w' : World} {b : Nat} {es : List (K × Value)} (h : zZ κ w b es) (hc : zm S w w') (hb : b ∉ S) : zZ κ w' b es := by
 obtain ⟨a, c, h1, h2, h3⟩ := h
 exact ⟨a, c, (hc.block b (Array.getElem?_eq_some_iff.1 h1).1 hb).trans h1, h2, h3⟩
theorem zZ.chg0 {w w' : World} {b : Nat} {es : List (K × Value)} (h : zZ κ w b es) (hc : zm [] w w') : zZ κ w' b es := h.chg hc (by simp)
theorem zZ.ne {w : World} {b b' : Nat} {es : List (K × Value)} {e : TypeId} {c : List Value} (h : zZ κ w b es) (hb : zV w b' e c) : b ≠ b' := by
 rintro rfl
 obtain ⟨a, k, h1, _⟩ := h
 have := h1.symm.trans hb
 cases this
def zbB : List (K × Value) → K → Nat → Option (Nat × Value)
 | [], _, _ => none
 | p :: r, k, i => if p.1 = k then some (i, p.2) else zbB r k (i + 1)
theorem zeD (k : K) : ∀ (l : List MapEntry) (es : List (K × Value)) (i : Nat), l.map rd = es.map (krd κ) → Instr.findNow κ.kd (κ.kv k) l i = some (zbB es k i)
 | [], [], i, _ => rfl
 | [], _ :: _, _, h => by simp at h
 | _ :: _, [], _, h => by simp at h
 | e :: l, p :: es, i, h => by
  simp only [List.map_cons, List.cons.injEq] at h
  obtain ⟨h1, h2⟩ := h
  simp only [rd, krd, Prod.mk.injEq] at h1
  obtain ⟨hk, hv⟩ := h1
  have hs : Instr.sameNow κ.kd (κ.kv k) e.key = some (decide (k = p.1)) := by rw [hk]; exact κ.now k p.1
  simp only [Instr.findNow, hs, zbB]
  by_cases he : p.1 = k
  ·subst he
   simp [hv]
  rw [decide_eq_false (fun e => he e.symm), if_neg he]
  exact zeD k l es (i + 1) h2
theorem zfm (k : K) : ∀ (es : List (K × Value)) (i : Nat), (zbB es k i).map (·.2) = yL es k
 | [], _ => rfl
 | p :: r, i => by
  simp only [zbB, yL]
  split
  ·rfl
  exact zfm k r (i + 1)
theorem zeN (k : K) : ∀ (es : List (K × Value)) (i j : Nat) (v : Value), zbB es k i = some (j, v) → i ≤ j
 | [], _, _, _, h => by simp [zbB] at h
 | p :: r, i, j, v, h => by
  simp only [zbB] at h
  split at h
  ·simp at h; omega
  have := zeN k r (i + 1) j v h; omega
theorem zgz (k : K) : ∀ (es : List (K × Value)) (i0 j : Nat) (u : Value), zbB es k i0 = some (j, u) → ∃ p, es[j - i0]? = some p ∧ p.1 = k
 | [], _, _, _, h => by simp [zbB] at h
 | p :: r, i0, j, u, h => by
  simp only [zbB] at h
  split at h
  ·rename_i he
   simp at h
   exact ⟨p, by simp [h.1], he⟩
  have hge := zeN k r (i0 + 1) j u h
  obtain ⟨q, hq, hqk⟩ := zgz k r (i0 + 1) j u h
  refine ⟨q, ?_, hqk⟩
  rw [show j - i0 = (j - (i0 + 1)) + 1 by omega]
  simpa using hq
theorem zfz (k : K) (v : Value) : ∀ (l : List MapEntry) (es : List (K × Value)) (i j : Nat) (u : Value), l.map rd = es.map (krd κ) → zbB es k i = some (j, u) →
 (l.modify (j - i) fun e => { e with key := κ.kv k, val := v }).map rd = (zat es k v).map (krd κ)
 | [], [], _, _, _, _, h => by simp [zbB] at h
 | [], _ :: _, _, _, _, h, _ => by simp at h
 | _ :: _, [], _, _, _, h, _ => by simp at h
 | e :: l, p :: es, i, j, u, h, hm => by
  simp only [List.map_cons, List.cons.injEq] at h
  obtain ⟨h1, h2⟩ := h
  simp only [zbB] at hm
  by_cases he : p.1 = k
  ·rw [if_pos he] at hm
   simp only [Option.some.injEq, Prod.mk.injEq] at hm
   obtain ⟨rfl, _⟩ := hm
   rw [Nat.sub_self]
   simp only [zat, if_pos he, List.modify_zero_cons, List.map_cons, h2]
   rfl
  rw [if_neg he] at hm
  have hge := zeN k es (i + 1) j u hm
  rw [show j - i = (j - (i + 1)) + 1 by omega]
  simp only [zat, if_neg he, List.modify_succ_cons, List.map_cons, h1, zfz k v l es (i + 1) j u h2 hm]
theorem zev (k : K) (v : Value) : ∀ (es : List (K × Value)) (i : Nat), zbB es k i = none → zat es k v = es ++ [(k, v)]
 | [], _, _ => rfl
 | p :: r, i, h => by
  simp only [zbB] at h
  split at h
  ·cases h
  rename_i he
  simp only [zat, if_neg he, zev k v r (i + 1) h, List.cons_append]
theorem zdi (f : MapEntry → MapEntry) (hf : ∀ e, (f e).born = e.born) : ∀ (l : List MapEntry) (i : Nat), (l.modify i f).map (·.born) = l.map (·.born)
 | [], _ => by simp
 | e :: l, 0 => by simp [hf]
 | e :: l, i + 1 => by simp [zdi f hf l i]
section
variable {P : Program} {w : World} {t kt et : TypeId} {b : Nat} {es : List (K × Value)}
theorem zcb (hk : P.underlying kt = some κ.kd) (k : K) {l : List MapEntry} (h : l.map rd = es.map (krd κ)) : (Instr.findKey kt (κ.kv k) l).run P w = .ok (zbB es k 0) w :=
 Go.MapKept.run_findKey hk (zeD k l es 0 h)
theorem zdk (hm : zcu P t = some (kt, et)) (hk : P.underlying kt = some κ.kd) {z : Value} (hz : yZ P et = some z) (h : zZ κ w b es) (k : K) (ok : Bool) :
 (Instr.lookup t (.map (some b)) (κ.kv k) ok).run P w = .ok (if ok then .tuple #[(yL es k).getD z, .bool (yL es k).isSome] else (yL es k).getD z) w := by
 obtain ⟨a, c, hb, hl, _⟩ := h
 have h1 := zfm k es 0
 cases hx : zbB es k 0 with
 | none =>
  rw [hx] at h1
  rw [← h1]
  cases ok <;> simp [Instr.lookup, run_underlying (zcN hm), Go.MapKept.run_getObj_map hb, κ.chk P kt k _ w hk, zcb hk k hl, hx, zaM hz]
 | some q =>
  rw [hx] at h1
  rw [← h1]
  cases ok <;> simp [Instr.lookup, run_underlying (zcN hm), Go.MapKept.run_getObj_map hb, κ.chk P kt k _ w hk, zcb hk k hl, hx]
theorem zfd (hm : zcu P t = some (kt, et)) (hk : P.underlying kt = some κ.kd) (h : zZ κ w b es) (k : K) (v : Value) :
 ∃ w', (Instr.mapUpdate t (.map (some b)) (κ.kv k) v).run P w = .ok () w' ∧ w'.heap.size = w.heap.size ∧ zm [b] w w' ∧ zZ κ w' b (zat es k v) := by
 obtain ⟨a, c, hb, hl, hs1, hs2⟩ := h
 have hlt := (Array.getElem?_eq_some_iff.1 hb).1
 cases hx : zbB es k 0 with
 | none =>
  refine ⟨w.putObj b (.map (a.push { key := κ.kv k, val := v, born := c }) (c + 1)), ?_, by simp [World.putObj], zm.put _ _ _, _, _, World.putObj_heap_same hlt, ?_, ?_, ?_⟩
  ·simp [Instr.mapUpdate, run_underlying (zcN hm), Go.MapKept.run_getObj_map hb, κ.chk P kt k _ w hk, zcb hk k hl, hx, Go.MapKept.run_setObj_map _ hb, World.putObj]
  ·rw [zev k v es 0 hx]
   simp [hl, rd, krd]
  ·simp only [Array.toList_push, List.map_append, List.map_cons, List.map_nil]
   refine List.nodup_append.2 ⟨hs1, by simp, ?_⟩
   intro x hx y hy e
   simp at hy
   subst hy
   obtain ⟨e', he', rfl⟩ := List.mem_map.1 hx
   have := hs2 e' he'
   omega
  intro e he
  simp at he
  rcases he with he | rfl
  ·have := hs2 e (by simpa using he); omega
  simp
 | some q =>
  obtain ⟨i, u⟩ := q
  have hmod := zfz (κ := κ) k v a.toList es 0 i u hl hx
  have hget : ((a[i]?).map (·.key)).getD (κ.kv k) = κ.kv k := by
   cases he : a[i]? with
   | none => rfl
   | some e =>
    have hi : (es.map (krd κ))[i]? = some (rd e) := by rw [← hl, List.getElem?_map]; simp [he]
    obtain ⟨p, hp, hpk⟩ := zgz k es 0 i u hx
    rw [List.getElem?_map, show es[i]? = some p by simpa using hp] at hi
    simp only [Option.map_some, Option.some.injEq, krd, rd, Prod.mk.injEq] at hi
    simp [← hi.1, hpk]
  have hbn := zdi (fun e : MapEntry => { e with key := κ.kv k, val := v }) (fun _ => rfl) a.toList i
  refine ⟨w.putObj b (.map (a.modify i fun e => { e with key := κ.kv k, val := v }) c), ?_, by simp [World.putObj], zm.put _ _ _, _, _, World.putObj_heap_same hlt, ?_, ?_, ?_⟩
  ·have hkeep : (Instr.keyThatStays (κ.kv k) (κ.kv k)).run P w = .ok (κ.kv k) w := by
    simp [Instr.keyThatStays, κ.bits]
   simp [Instr.mapUpdate, run_underlying (zcN hm), Go.MapKept.run_getObj_map hb, κ.chk P kt k _ w hk, zcb hk k hl, hx, Go.MapKept.run_setObj_map _ hb, World.putObj, hget, hkeep]
  ·simpa using hmod
  ·simp only [Array.toList_modify, hbn]
   exact hs1
  intro e he
  have h1 : e.born ∈ (a.toList.modify i fun e => { e with key := κ.kv k, val := v }).map (·.born) := List.mem_map.2 ⟨e, by simpa using he, rfl⟩
  rw [hbn] at h1
  obtain ⟨e', he', hh⟩ := List.mem_map.1 h1
  rw [← hh]
  exact hs2 e' he'
end
section
variable {P : Program} {n : Nat} {F : Fr} {w : World} {d : Tmp} {dst : Option Tmp} {ty t kt et : TypeId} {pos : String} {af : Array Edge} {gd : Option (Nat × Bool)} {K' : Fr → World → Prop} {b r : Nat} {es left : List (K × Value)}
theorem zaF (κ : zh2 K) (hn : Nat.blt d n = true) (h : ∀ b w', w.heap.size = b → w'.heap.size = b + 1 → zm [] w w' → zZ κ w' b [] → K' ((d, .map (some b)) :: F) w') : St P n F ⟨some d, .makeMap t none, ty, pos, af, gd⟩ w K' := by
 refine St.vl (v := .map (some w.heap.size)) (w' := w.alloc (.map #[] 0)) ?_ rfl hn (h _ _ rfl (by simp) (zm.alloc _ _ _) ⟨#[], 0, heap_alloc_new w _, rfl, by simp [zjb]⟩)
 intro a _
 simp [execOp, Go.RowKit.run_makeMap]
theorem zek (hm : zcu P t = some (kt, et)) (hk : P.underlying kt = some κ.kd) {z : Value} (hz : yZ P et = some z) {x y : Operand} {k : K} (hx : ev F x = some (.map (some b))) (hy : ev F y = some (κ.kv k)) (h : zZ κ w b es) {g : Option Value} (hg : yL es k = g) :
 Vl P n F ⟨dst, .lookup t x y true, ty, pos, af, gd⟩ w (.tuple #[g.getD z, .bool g.isSome]) w :=
 fun a ha => by subst hg; simp [execOp, ha.eval hx, ha.eval hy, zdk hm hk hz h k]
theorem zay (hm : zcu P t = some (kt, et)) (hk : P.underlying kt = some κ.kd) {z : Value} (hz : yZ P et = some z) {x y : Operand} {k : K} (hx : ev F x = some (.map (some b))) (hy : ev F y = some (κ.kv k)) (h : zZ κ w b es) {g : Option Value} (hg : yL es k = g) {v : Value} (hv : g.getD z = v) :
 Vl P n F ⟨dst, .lookup t x y true, ty, pos, af, gd⟩ w (.tuple #[v, .bool g.isSome]) w := hv ▸ zek hm hk hz hx hy h hg
theorem zhK (hm : zcu P t = some (kt, et)) (hk : P.underlying kt = some κ.kd) {z : Value} (hz : yZ P et = some z) {x y : Operand} {k : K} (hx : ev F x = some (.map (some b))) (hy : ev F y = some (κ.kv k)) (h : zZ κ w b es) {g : Option Value} (hg : yL es k = g) :
 Vl P n F ⟨dst, .lookup t x y false, ty, pos, af, gd⟩ w (g.getD z) w :=
 fun a ha => by subst hg; simp [execOp, ha.eval hx, ha.eval hy, zdk hm hk hz h k]
theorem zax (hm : zcu P t = some (kt, et)) (hk : P.underlying kt = some κ.kd) {z : Value} (hz : yZ P et = some z) {x y : Operand} {k : K} (hx : ev F x = some (.map (some b))) (hy : ev F y = some (κ.kv k)) (h : zZ κ w b es) {g : Option Value} (hg : yL es k = g) {v : Value} (hv : g.getD z = v) :
 Vl P n F ⟨dst, .lookup t x y false, ty, pos, af, gd⟩ w v w := hv ▸ zhK hm hk hz hx hy h hg
theorem zg0 (hm : zcu P t = some (kt, et)) (hk : P.underlying kt = some κ.kd) {x y z : Operand} {k : K} {v : Value} (hx : ev F x = some (.map (some b))) (hy : ev F y = some (κ.kv k)) (hz : ev F z = some v) (h : zZ κ w b es)
 (hK : ∀ w', w'.heap.size = w.heap.size → zm [b] w w' → zZ κ w' b (zat es k v) → K' F w') : St P n F ⟨none, .mapUpdate t x y z, ty, pos, af, gd⟩ w K' := by
 obtain ⟨w', hr, h1, h2, h3⟩ := zfd (P := P) hm hk h k v
 refine St.sk (w' := w') ?_ rfl (hK w' h1 h2 h3)
 intro a ha
 simp [execOp, ha.eval hx, ha.eval hy, ha.eval hz, hr]
theorem yj (hm : zcu P t = some (kt, et)) (hk : P.underlying kt = some κ.kd) {x y z : Operand} {k : K} {v : Value} (hx : ev F x = some (.map (some b))) (hy : ev F y = some (κ.kv k)) (hz : ev F z = some v) (h : zZ κ w b es)
 (hK : ∀ w', w'.heap.size = w.heap.size → zm [b] w w' → zZ κ w' b (zat es k v) → K' F w') : St P n F ⟨none, .insert t x y z, ty, pos, af, gd⟩ w K' := by
 obtain ⟨w', hr, h1, h2, h3⟩ := zfd (P := P) hm hk h k v
 refine St.sk (w' := w') ?_ rfl (hK w' h1 h2 h3)
 intro a ha
 simp [execOp, ha.eval hx, ha.eval hy, ha.eval hz, hr]
end
end
def zjN (w : World) (r : Nat) (s : ByteArray) (p : Nat) : Prop := w.heap[r]? = some (.stringIter s p)
section
variable {P : Program} {n : Nat} {F : Fr} {w : World} {d : Tmp} {ty t : TypeId} {pos : String} {af : Array Edge} {gd : Option (Nat × Bool)} {K' : Fr → World → Prop} {r p : Nat} {s : ByteArray}
theorem zhC (hs : zeV P t = true) {x : Operand} (hx : ev F x = some (.string s)) (hn : Nat.blt d n = true)
 (hK : ∀ r w', w.heap.size = r → w'.heap.size = r + 1 → zm [] w w' → zjN w' r s 0 → K' ((d, .pointer (some ⟨r, 0, none⟩)) :: F) w') : St P n F ⟨some d, .range t x, ty, pos, af, gd⟩ w K' := by
 refine St.vl (v := .pointer (some ⟨w.heap.size, 0, none⟩)) (w' := w.alloc (.stringIter s 0)) ?_ rfl hn (hK _ _ rfl (by simp) (zm.alloc _ _ _) (heap_alloc_new w _))
 intro ac ha
 simp [execOp, Instr.range, ha.eval hx, run_underlying (yo hs)]
theorem zfg {x : Operand} (hx : ev F x = some (.pointer (some ⟨r, 0, none⟩))) (h : zjN w r s p) (hn : Nat.blt d n = true)
 (h0 : s.size ≤ p → K' ((d, .tuple #[.bool false]) :: F) w)
 (h1 : ∀ w', p < s.size → w'.heap.size = w.heap.size → zm [r] w w' → zjN w' r s (p + (Utf8.decode s p).2) → K' ((d, .tuple #[.bool true, .int .i64 p, .int .i32 (Utf8.decode s p).1]) :: F) w') :
 St P n F ⟨some d, .next x true, ty, pos, af, gd⟩ w K' := by
 have hr := (Array.getElem?_eq_some_iff.1 h).1
 have hg : (getObj r).run P w = .ok (.stringIter s p) w := by simp [getObj, Sem.run, (show w.heap[r]? = _ from h)]
 by_cases hp : p < s.size
 ·have hset : ∀ o, (setObj r o).run P w = .ok () (w.putObj r o) := fun o => by simp [setObj, Sem.run, (show w.heap[r]? = _ from h), World.putObj]
  refine St.vl (v := .tuple #[.bool true, .int .i64 p, .int .i32 (Utf8.decode s p).1]) (w' := w.putObj r (.stringIter s (p + (Utf8.decode s p).2))) ?_ rfl hn (h1 _ hp (by simp [World.putObj]) (zm.put _ _ _) (World.putObj_heap_same hr))
  intro ac ha
  simp [execOp, Instr.next, ha.eval hx, hg, hp, hset, goInt]
 refine St.vl (v := .tuple #[.bool false]) (w' := w) ?_ rfl hn (h0 (by omega))
 intro ac ha
 simp [execOp, Instr.next, ha.eval hx, hg, hp]
end
def zfR (w : World) (e k : Nat) (v : Value) (len : Nat) (xs : List Value) : Prop :=
 (v = .slice none 0 0 ∧ len = 0 ∧ xs = []) ∨ ∃ b off cap c fr, v = .slice (some ⟨b, off, none⟩) len cap ∧ w.heap[b]? = some (.cells (c : List Value).toArray e fr) ∧ len ≤ cap ∧ cap ≤ maxLen ∧ off + cap * k ≤ c.length ∧ xs = (c.drop off).take (len * k) ∧ ∀ u ∈ c, u.oneCell' = true
theorem zB.rd {w : World} {e k : Nat} {v : Value} {len : Nat} {xs : List Value} (h : zB w e k v len xs) : zfR w e k v len xs := by
 rcases h with h | ⟨b, off, cap, c, rfl, h⟩
 ·exact .inl h
 exact .inr ⟨b, off, cap, c, (0, 0), rfl, h.blk, h.le, h.max, h.fit, h.xs, h.one⟩
theorem zfR.val {w : World} {e k : Nat} {v : Value} {len : Nat} {xs : List Value} (h : zfR w e k v len xs) : ∃ p c, v = .slice p len c ∧ len ≤ c := by
 rcases h with ⟨rfl, rfl, _⟩ | ⟨b, off, cap, c, fr, rfl, _, h, _⟩
 ·exact ⟨_, _, rfl, Nat.le_refl _⟩
 exact ⟨_, _, rfl, h⟩
theorem zfR.len_xs {w : World} {e k : Nat} {v : Value} {len : Nat} {xs : List Value} (h : zfR w e k v len xs) : xs.length = len * k := by
 rcases h with ⟨_, rfl, rfl⟩ | ⟨b, off, cap, c, fr, _, _, h2, h3, h4, rfl, _⟩
 ·simp
 have : len * k ≤ cap * k := Nat.mul_le_mul_right _ h2
 rw [List.length_take, List.length_drop]; omega
theorem zfR.cells {w : World} {e k b off len cap : Nat} {xs : List Value} (h : zfR w e k (.slice (some ⟨b, off, none⟩) len cap) len xs) : zu w b off xs := by
 rcases h with ⟨h, _, _⟩ | ⟨b', off', cap', c, fr, he, h1, h2, h3, h4, rfl, h6⟩
 ·cases h
 simp only [Value.slice.injEq, Option.some.injEq, Addr.mk.injEq, and_true, true_and] at he
 obtain ⟨⟨rfl, rfl⟩, rfl⟩ := he
 intro j u hj
 have hx : w.cell? ⟨b, off + j, none⟩ = c[off + j]? := by simp [World.cell?, h1]
 rw [hx]
 rw [List.getElem?_take] at hj
 split at hj
 ·rw [List.getElem?_drop] at hj
  exact hj
 cases hj
def bv (l : List UInt8) : List Value := l.map fun b => .int .u8 (b.toNat : Int)
theorem ziM (l : List UInt8) : (bv l).length = l.length := by simp [bv]
theorem zk3 (l : List UInt8) : ∀ u ∈ bv l, u.oneCell' = true := by
 intro u hu
 simp only [bv, List.mem_map] at hu
 obtain ⟨b, _, rfl⟩ := hu
 rfl
theorem zdd (a b : List UInt8) : bv (a ++ b) = bv a ++ bv b := by simp [bv]
end Go.Wk
