/- joined texts -/
import Derived.Test.YthlegbhbbimfnaaGreatDoorQ2
import Derived.Stop.Asserts
import Derived.RangeFuncRecord
import Derived.OrdersIn
import Derived.Test.YthlegbhbbimfnaaGreatDoorProg
set_option linter.all false
namespace Go.Wk
theorem zau {a b : Int} (h : a = b) : (!decide (a = b)) = false := by simp [h]
theorem zck {a b : Int} (h : a ≠ b) : (!decide (a = b)) = true := by simp [h]
section
variable {P : Program} {n : Nat} {F : Fr} {w : World} {dst : Option Tmp} {ty t u e : TypeId} {pos : String} {af : Array Edge} {gd : Option (Nat × Bool)}
theorem zb7 {x : Operand} {v : Value} {len : Nat} {l : List UInt8} (hs : za3 P t = some e) (he : zbJ P e .u8 = true) (hu : zeV P u = true) (hx : ev F x = some v) (hv : zfR w e 1 v len (bv l)) :
 Vl P n F ⟨dst, .convert t u x, ty, pos, af, gd⟩ w (.string ⟨l.toArray⟩) w := by
 have hl := hv.len_xs
 rw [ziM, Nat.mul_one] at hl
 obtain ⟨p, c, rfl, _⟩ := hv.val
 rcases id hv with ⟨h, rfl, _⟩ | ⟨b, off, cap, c', fr, h, _⟩
 ·cases h
  have : l = [] := List.eq_nil_of_length_eq_zero hl
  subst this
  intro a ha
  simp [execOp, ha.eval hx, convert, run_underlying (y0 hs), run_underlying (zS he), run_underlying (yo hu)]
  trivial
 cases h
 exact ziI hs he hu hx hl.symm hv.cells
end
def zgc (P : Program) (t : TypeId) : Option Nat := match P.underlying t with
 | some (.int _) => some 0
 | some .string => some 1
 | some .bool => some 2
 | _ => none
def zeg (P : Program) : List Field → Nat → List Nat → Bool
 | [], _, [] => true
 | f :: r, i, k :: ks => (zgc P f.type == some k) && Nat.beq f.offset i && decide (f.name ≠ "_") && (yB P f.type == some false) && zeg P r (i + 1) ks
 | _, _, _ => false
def zgm (P : Program) (t : TypeId) (ks : List Nat) : Bool := match P.underlying t with
 | some (.struct fs) => !P.stoodInHeld t && !P.eqGuardType P.depth t && zeg P fs.toList 0 ks
 | _ => false
def zeU : Nat → Value → Value → Option Bool
 | 0, .int k i, .int k' j => if k = k' then some (decide (i = j)) else none
 | 1, .string a, .string b => some (decide (a = b))
 | 2, .bool a, .bool b => some (a == b)
 | _, _, _ => none
def zaT : List Nat → List Value → List Value → Option Bool
 | [], [], [] => some true
 | k :: ks, a :: r, b :: s => match zeU k a b, zaT ks r s with
  | some x, some y => some (x && y)
  | _, _ => none
 | _, _, _ => none
section
variable {P : Program} {w : World}
theorem zi8 {t : TypeId} {k : Nat} {a b : Value} {r : Bool} (d : Nat) (ht : zgc P t = some k) (h : zeU k a b = some r) : (Op.equalIn (d + 1) t a b).run P w = .ok r w := by
 unfold zgc at ht
 split at ht
 ·rename_i k' hu
  cases ht
  cases a <;> cases b <;> simp only [zeU] at h <;> try (cases h; done)
  rename_i k1 i k2 j
  split at h
  ·rename_i he
   subst he
   cases h
   rw [run_equalIn_int w d t k1 k' i j hu]
   rfl
  cases h
 ·rename_i hu
  cases ht
  cases a <;> cases b <;> simp only [zeU] at h <;> try (cases h; done)
  cases h
  rw [run_equalIn_string w d t _ _ hu, zcC]
 ·rename_i hu
  cases ht
  cases a <;> cases b <;> simp only [zeU] at h <;> try (cases h; done)
  cases h
  rw [run_equalIn_bool w d t _ _ hu]
 cases ht
theorem zdJ (d : Nat) : ∀ (fs : List Field) (ks : List Nat) (i : Nat) (az bs A B : List Value) (r : Bool), zeg P fs i ks = true → A = az.drop i → B = bs.drop i → zaT ks A B = some r →
 (Op.eqFields (d + 1) az.toArray bs.toArray fs).run P w = .ok r w
 | [], [], i, az, bs, A, B, r, _, hA, hB, h => by
  cases A <;> cases B <;> simp only [zaT] at h <;> try (cases h; done)
  cases h
  simp [Op.eqFields]
 | [], _ :: _, i, az, bs, A, B, r, hf, _, _, _ => by simp [zeg] at hf
 | _ :: _, [], i, az, bs, A, B, r, hf, _, _, _ => by simp [zeg] at hf
 | f :: fs, k :: ks, i, az, bs, A, B, r, hf, hA, hB, h => by
  simp only [zeg, Bool.and_eq_true, beq_iff_eq, decide_eq_true_eq] at hf
  obtain ⟨⟨⟨⟨h1, h2⟩, h3⟩, h4⟩, h5⟩ := hf
  have ei : f.offset = i := Nat.eq_of_beq_eq_true h2
  cases A with
  | nil => cases B <;> simp [zaT] at h
  | cons a A =>
   cases B with
   | nil => simp [zaT] at h
   | cons b B =>
    simp only [zaT] at h
    cases hx : zeU k a b with
    | none => simp [hx] at h
    | some x =>
     rw [hx] at h
     cases hy : zaT ks A B with
     | none => simp [hy] at h
     | some y =>
      rw [hy] at h
      simp only [Option.some.injEq] at h
      have ga : az.toArray[i]? = some a := by
       have : (az.drop i)[0]? = some a := by rw [← hA]; rfl
       simpa using this
      have gb : bs.toArray[i]? = some b := by
       have : (bs.drop i)[0]? = some b := by rw [← hB]; rfl
       simpa using this
      have hA' : A = az.drop (i + 1) := by
       have : A = (az.drop i).drop 1 := by rw [← hA]; rfl
       rw [this, List.drop_drop]
      have hB' : B = bs.drop (i + 1) := by
       have : B = (bs.drop i).drop 1 := by rw [← hB]; rfl
       rw [this, List.drop_drop]
      have ih := zdJ d fs ks (i + 1) az bs A B y h5 hA' hB' hy
      have p1 : (part f.type az.toArray i).run P w = .ok a w := by simp [part, zan h4, ga]
      have p2 : (part f.type bs.toArray i).run P w = .ok b w := by simp [part, zan h4, gb]
      have q := zi8 (P := P) (w := w) d h1 hx
      subst h
      cases x <;> simp only [Op.eqFields, ei, Sem.run_ite, if_pos h3, Sem.run_bind, p1, p2, q, ih, Result.andThen_ok, Sem.run_pure, Bool.not_true, Bool.not_false, Bool.true_and, Bool.false_and] <;> simp
end
section
variable {P : Program} {n : Nat} {F : Fr} {w : World} {dst : Option Tmp} {ty : TypeId} {pos : String} {af : Array Edge} {gd : Option (Nat × Bool)}
theorem zgT {t : TypeId} {ks : List Nat} {az bs : List Value} {r : Bool} (h : zgm P t ks = true) (he : zaT ks az bs = some r) : (Op.equalIn 10000 t (.agg az.toArray) (.agg bs.toArray)).run P w = .ok r w ∧ P.eqGuardType P.depth t = false := by
 unfold zgm at h
 split at h
 ·rename_i fs hu
  simp only [Bool.and_eq_true, Bool.not_eq_true'] at h
  obtain ⟨⟨hs, hg⟩, h2⟩ := h
  have hfo : P.fieldsOf t = fs := by simp [Program.fieldsOf, hu]
  refine ⟨?_, hg⟩
  rw [run_equalIn_agg w 9999 t _ _ (by rw [hfo]; exact hu) hs, hfo]
  exact zdJ 9998 _ ks 0 az bs az bs r h2 rfl rfl he
 cases h
theorem zbO {x y : Operand} {t u : TypeId} {ks : List Nat} {az bs : List Value} {r : Bool} (h : zgm P t ks = true) (hx : ev F x = some (.agg az.toArray)) (hy : ev F y = some (.agg bs.toArray)) (he : zaT ks az bs = some r) :
 Vl P n F ⟨dst, .binOp .neq t x y u, ty, pos, af, gd⟩ w (.bool (!r)) w := by
 intro ac ha
 obtain ⟨e1, hg⟩ := zgT (P := P) (w := w) h he
 simp only [execOp, ha.eval hx, ha.eval hy, Sem.run_bind, run_eqGuard_agg w _ _ _ _ _ _ hg, Result.andThen_ok, run_neq_struct, e1]
 simp
theorem zgu {x y : Operand} {t u : TypeId} {ks : List Nat} {az bs : List Value} {r : Bool} (h : zgm P t ks = true) (hx : ev F x = some (.agg az.toArray)) (hy : ev F y = some (.agg bs.toArray)) (he : zaT ks az bs = some r) :
 Vl P n F ⟨dst, .binOp .eql t x y u, ty, pos, af, gd⟩ w (.bool r) w := by
 intro ac ha
 obtain ⟨e1, hg⟩ := zgT (P := P) (w := w) h he
 simp only [execOp, ha.eval hx, ha.eval hy, Sem.run_bind, run_eqGuard_agg w _ _ _ _ _ _ hg, Result.andThen_ok, run_eql_struct, e1]
 simp
end
def zj0 (P : Program) (i t : TypeId) : Option Bool := match P.underlying i with
 | some (.interface want) => (P.info? t).map fun d => (lacking want d.methods).isEmpty
 | _ => none
section
variable {P : Program} {n : Nat} {F : Fr} {w : World} {dst : Option Tmp} {ty : TypeId} {pos : String} {af : Array Edge} {gd : Option (Nat × Bool)}
theorem zgI {x : Operand} {xt i t : TypeId} {v : Value} {b : Bool} (h : zj0 P i t = some b) (hz : yZ P i = some .nilIface) (hx : ev F x = some (.iface t v)) :
 Vl P n F ⟨dst, .typeAssert x xt i true, ty, pos, af, gd⟩ w (.tuple #[if b then .iface t v else .nilIface, .bool b]) w := by
 intro a ha
 unfold zj0 at h
 split at h
 ·rename_i want hu
  cases b with
  | true =>
   have h1 := run_typeAssert_hasB hu h v xt w
   simp [execOp, ha.eval hx, h1]
  | false =>
   cases hi : P.info? t with
   | none => simp [hi] at h
   | some d =>
    simp only [hi, Option.map_some, Option.some.injEq] at h
    cases hm : Instr.missingMethod want d.methods with
    | none =>
     exfalso
     have hl : lacking want d.methods ≠ [] := fun e => by rw [e] at h; cases h
     obtain ⟨m, hm'⟩ := missingMethod_some hl
     rw [hm] at hm'; cases hm'
    | some m => simp [execOp, Instr.typeAssert, ha.eval hx, run_underlying hu, typeInfo, hi, hm, zaM hz]
 simp at h
end
section
variable {P : Program} {fn : Func} {R : Value → World → Prop} {n : Nat} {F : Fr} {w : World}
theorem zkz {t ty : Nat} {p : Addr} {v : Value} (hr : fn.results = #[.cell t ty]) (hag : yB P ty = some false) (hv : get F t = some (.pointer (some p))) (hc : w.cell? p = some v) (h : R v w) (hm : zar F = [] := by rfl) : zeb P fn R n .ret F w :=
 ⟨v, fun a ha => by simp [results, hr, ha.get t _ hv, asAddr, loadVar, zan hag, hc], hm, h⟩
end
def zfF (pl : Nat → Option (Nat × Nat)) : List Value → List (Nat × Value) → List (List Value) → Option (List Value)
 | c, [], [] => some c
 | c, (i, _) :: r, s :: ss => match pl i with
  | some (o, z) => if Nat.beq z s.length && Nat.ble (o + z) c.length then zfF pl (zaH c o s) r ss else none
  | none => none
 | _, _, _ => none
theorem ze9 (place : Nat → Option (Nat × Nat)) : ∀ (qs : List (Nat × Value)) (css : List (List Value)) (c cs : List Value), zcB (qs.map (·.2)) css → zfF place c qs css = some cs → Instr.fill place c.toArray qs = some cs.toArray
 | [], [], c, cs, _, h => by simp [zfF] at h; subst h; simp [Instr.fill]
 | [], _ :: _, _, _, h, _ => h.elim
 | _ :: _, [], _, _, h, _ => h.elim
 | (i, v) :: r, s :: ss, c, cs, h, hf => by
  obtain ⟨hv, hr⟩ := h
  unfold zfF at hf
  simp only [Instr.fill]
  cases hpl : place i with
  | none => simp [hpl] at hf
  | some oz =>
   obtain ⟨o, z⟩ := oz
   simp only [hpl] at hf
   split at hf
   ·rename_i hc
    simp only [Bool.and_eq_true] at hc
    have e2 : z = s.length := Nat.eq_of_beq_eq_true hc.1
    have hle := Nat.le_of_ble_eq_true hc.2
    subst e2
    simp only at hv
    simp only [hv, List.size_toArray]
    rw [if_neg (by simp; omega)]
    have hfs := zfo s 0 o c.toArray (by simp; omega)
    simp only [Nat.add_zero] at hfs
    have hz : s.toArray.zipIdx = (s.zipIdx 0).toArray := by simp
    rw [hz, List.foldl_toArray', hfs] <;> try simp
    exact ze9 place r ss _ cs hr hf
   cases hf
section
variable {P : Program} {n : Nat} {F : Fr} {w : World} {dst : Option Tmp} {ty : TypeId} {pos : String} {af : Array Edge} {gd : Option (Nat × Bool)}
theorem zaq {t : TypeId} {pl : List (Nat × Nat)} {z : Value} {zc : List Value} {parts : List (Nat × Operand)} {qs : List (Nat × Value)} {css : List (List Value)} {cs : List Value} (hpl : zcy P t = some pl) (hz : yZ P t = some z) (hzc : z.cells = zc.toArray)
 (hp : zcz F parts = some qs) (hc : zcB (qs.map (·.2)) css) (hcs : zfF (pl[·]?) zc qs css = some cs) :
 Vl P n F ⟨dst, .build t parts.toArray, ty, pos, af, gd⟩ w (.agg cs.toArray) w := by
 intro a ha
 unfold zcy at hpl
 split at hpl
 ·rename_i fs hu
  have hpl' := zcq (w := w) fs.toList pl hpl
  have hm : (fs.mapM (fun f => do pure (f.offset, ← sizeOf f.type) : Field → Sem (Nat × Nat))).run P w = .ok pl.toArray w := by
   rw [Array.mapM_eq_mapM_toList]
   simp only [Sem.run_map, hpl', Result.andThen_ok]
  have hfill := ze9 (pl[·]?) qs css zc cs hc hcs
  have hev := ha.evals2 parts _ hp
  have hget : (fun i : Nat => pl.toArray[i]?) = (fun i : Nat => pl[i]?) := by funext i; simp
  have hpm : (parts.toArray.map fun (i, x) => (i, a.eval x)).toList = qs := by rw [← hev]; simp
  simp only [execOp, Instr.build, Sem.run_bind, zaM hz, Result.andThen_ok, run_underlying hu, hm, hpm, hzc, hget, hfill, Sem.run_pure]
 simp at hpl
end
def zfS (ms : List Nat) : List Edge → Nat
 | [] => 0
 | e :: r => (if Region.binds .any e then (ms.getD e.on 0) ||| (1 <<< e.on) else 0) ||| zfS ms r
def zgM : List Oper → List Nat → List Nat
 | [], ms => ms
 | o :: r, ms => zgM r (ms ++ [zfS ms o.after.toList])
def ziN (ms : List Nat) (j i : Nat) : Bool := Nat.testBit (ms.getD j 0) i
def zmE (ops : List Oper) (ms : List Nat) : Bool := (List.range ops.length).all fun i => match ops[i]? with
 | none => true
 | some oi => kd oi != 3 && oi.after.all (fun e => !Region.binds .any e || Nat.blt e.on i) && (List.range ops.length).all fun j => Nat.ble j i || (match ops[j]? with
  | none => true
  | some oj => ziN ms j i || (oi.apart ops.toArray oj && !(kd oi == 2 && kd oj == 2)))
theorem zfL {ops : Array Oper} : ∀ (f j i : Nat), yr ops f j i = true → yr ops (f + 1) j i = true
 | 0, _, _, h => by simp [yr] at h
 | f + 1, j, i, h => by
  unfold yr at h ⊢
  cases hj : ops[j]? with
  | none => simp [hj] at h
  | some oj =>
   simp only [hj, Bool.or_eq_true] at h ⊢
   rcases h with h | h
   ·exact .inl h
   obtain ⟨e, he, hb⟩ := Array.any_eq_true'.1 h
   simp only [Bool.and_eq_true] at hb
   exact .inr (Array.any_eq_true'.2 ⟨e, he, by simp only [Bool.and_eq_true]; exact ⟨hb.1, zfL f e.on i hb.2⟩⟩)
theorem ze5 {ops : Array Oper} {f g j i : Nat} (h : yr ops f j i = true) (hle : f ≤ g) : yr ops g j i = true := by
 induction g with
 | zero => have : f = 0 := by omega
           subst this; exact h
 | succ g ih =>
  rcases Nat.lt_or_ge g f with hl | hl
  ·have : f = g + 1 := by omega
   subst this; exact h
  exact zfL _ _ _ (ih hl)
def zlR (ops : Array Oper) (ms : List Nat) : Prop := ∀ j i, Nat.testBit (ms.getD j 0) i = true → yr ops (j + 1) j i = true
theorem zeo {ms : List Nat} {i : Nat} : ∀ {l : List Edge}, Nat.testBit (zfS ms l) i = true → ∃ e ∈ l, Region.binds .any e = true ∧ (Nat.testBit (ms.getD e.on 0) i = true ∨ e.on = i)
 | [], h => by simp [zfS] at h
 | e :: r, h => by
  unfold zfS at h
  rw [Nat.testBit_or, Bool.or_eq_true] at h
  rcases h with h | h
  ·by_cases hb : Region.binds .any e = true
   ·rw [if_pos hb, Nat.testBit_or, Bool.or_eq_true] at h
    refine ⟨e, by simp, hb, ?_⟩
    rcases h with h | h
    ·exact .inl h
    rw [Nat.one_shiftLeft, Nat.testBit_two_pow] at h
    exact .inr (of_decide_eq_true h)
   rw [if_neg hb] at h; simp at h
  obtain ⟨e', he, h1⟩ := zeo h
  exact ⟨e', by simp [he], h1⟩
theorem zdM {ops : Array Oper} : ∀ (l : List Oper) (ms : List Nat), (∀ k, l[k]? = ops[ms.length + k]?) → zlR ops ms → zlR ops (zgM l ms)
 | [], ms, _, h => h
 | o :: r, ms, hl, h => by
  refine zdM r _ (fun k => ?_) ?_
  ·have := hl (k + 1)
   simp only [List.length_append, List.length_cons, List.length_nil]
   rw [show ms.length + (0 + 1) + k = ms.length + (k + 1) by omega, ← this]
   simp
  intro j i hb
  rcases Nat.lt_or_ge j ms.length with hj | hj
  ·rw [List.getD_eq_getElem?_getD, List.getElem?_append_left hj, ← List.getD_eq_getElem?_getD] at hb
   exact h j i hb
  by_cases hje : j = ms.length
  ·subst hje
   have ho : ops[ms.length]? = some o := by have := hl 0; simp at this; exact this.symm
   rw [List.getD_eq_getElem?_getD, List.getElem?_append_right (Nat.le_refl _)] at hb
   simp at hb
   obtain ⟨e, he, h1, h2⟩ := zeo hb
   have he' : e ∈ o.after := by simpa using he
   unfold yr
   simp only [ho, Bool.or_eq_true]
   rcases h2 with h2 | h2
   ·have hlt : e.on < ms.length := by
     rcases Nat.lt_or_ge e.on ms.length with hh | hh
     ·exact hh
     rw [List.getD_eq_getElem?_getD, List.getElem?_eq_none hh] at h2; simp at h2
    refine .inr (Array.any_eq_true'.2 ⟨e, he', ?_⟩)
    simp only [Bool.and_eq_true]
    exact ⟨h1, ze5 (h e.on i h2) (by omega)⟩
   refine .inl (Array.any_eq_true'.2 ⟨e, he', ?_⟩)
   simp only [Bool.and_eq_true, beq_iff_eq]
   exact ⟨h1, h2⟩
  rw [List.getD_eq_getElem?_getD, List.getElem?_eq_none (by simp; omega)] at hb
  simp at hb
theorem zhl {l : List Oper} {j i : Nat} (hj : j < l.length) (h : ziN (zgM l []) j i = true) : yr l.toArray l.toArray.size j i = true := by
 have hg := zdM (ops := l.toArray) l [] (fun k => by simp) (fun j i hb => by simp at hb)
 exact ze5 (hg j i h) (by simp; omega)
theorem yX {l : List Oper} (h : zmE l (zgM l []) = true) : tOk l.toArray = true := by
 unfold tOk
 unfold zmE at h
 rw [List.all_eq_true] at h ⊢
 intro i hi
 have hi' : i ∈ List.range l.length := by simpa using hi
 have h1 := h i hi'
 have e : l.toArray[i]? = l[i]? := by simp
 rw [e]
 cases ho : l[i]? with
 | none => rfl
 | some oi =>
  rw [ho] at h1
  simp only [Bool.and_eq_true] at h1 ⊢
  refine ⟨h1.1, ?_⟩
  have h2 := h1.2
  rw [List.all_eq_true] at h2 ⊢
  intro j hj
  have hj' : j ∈ List.range l.length := by simpa using hj
  have h3 := h2 j hj'
  simp only [Bool.or_eq_true] at h3 ⊢
  rcases h3 with h3 | h3
  ·exact .inl h3
  refine .inr ?_
  unfold zbR
  have e' : l.toArray[j]? = l[j]? := by simp
  rw [e']
  cases hoj : l[j]? with
  | none => rfl
  | some oj =>
   rw [hoj] at h3
   simp only [Bool.or_eq_true] at h3 ⊢
   rcases h3 with h3 | h3
   ·exact .inl (zhl (List.mem_range.1 hj') h3)
   exact .inr h3
theorem yO {α β : Type} {a c : α} {b d : β} (h : (a, b) = (c, d)) : a = c ∧ b = d := Prod.mk.inj h
section
variable {P : Program} {n : Nat} {Q : Exit → Fr → World → Prop} {K : Fr → World → Prop} {C : World → Prop} {F : Fr} {w w' : World} {ops : Array Oper} {rest : List Oper} {op : Op} {ty t e : TypeId} {pos : String} {af : Array Edge} {d j q : Nat} {v : Value} {x y c : Operand} {k : Nat} {ρ : Option Nat} {b b' : Bool}
theorem Og (hv : Vl P n F ⟨some d, op, ty, pos, af, none⟩ w v w') (hn : Nat.blt d n = true) (h : O P n ops Q rest ((d, v) :: F) w') : O P n ops Q (⟨some d, op, ty, pos, af, none⟩ :: rest) F w := zA (gn rfl) (St.vl hv rfl hn h)
theorem Om (hx : (ev F x, Nat.blt d n) = (some v, true)) (h : O P n ops Q rest ((d, v) :: F) w) : O P n ops Q (⟨some d, .move x, ty, pos, af, none⟩ :: rest) F w := zA (gn rfl) (St.vl (zae (yO hx).1) rfl (yO hx).2 h)
theorem Oa (hx : (ev F x, Nat.blt d n) = (some v, true)) (h : O P n ops Q rest ((d, v) :: F) w) : O P n ops Q (⟨some d, .assign x, ty, pos, af, none⟩ :: rest) F w := zA (gn rfl) (St.vl (yW (yO hx).1) rfl (yO hx).2 h)
theorem Oe {i : Nat} {vs : List Value} (hx : ev F x = some (.tuple vs.toArray)) (hi : (vs[i]?, Nat.blt d n) = (some v, true)) (h : O P n ops Q rest ((d, v) :: F) w) : O P n ops Q (⟨some d, .extract x i, ty, pos, af, none⟩ :: rest) F w := zA (gn rfl) (St.vl (z2 hx (yO hi).1) rfl (yO hi).2 h)
theorem Ot {z : Operand} (hc : (ev F c, ev F x, Nat.blt d n) = (some (.bool true), some v, true)) (h : O P n ops Q rest ((d, v) :: F) w) : O P n ops Q (⟨some d, .pick c x z, ty, pos, af, none⟩ :: rest) F w := zA (gn rfl) (St.vl (zy (yO hc).1 (yO (yO hc).2).1) rfl (yO (yO hc).2).2 h)
theorem Of {z : Operand} (hc : (ev F c, ev F x, Nat.blt d n) = (some (.bool false), some v, true)) (h : O P n ops Q rest ((d, v) :: F) w) : O P n ops Q (⟨some d, .pick c z x, ty, pos, af, none⟩ :: rest) F w := zA (gn rfl) (St.vl (zz (yO hc).1 (yO (yO hc).2).1) rfl (yO (yO hc).2).2 h)
theorem Oy (ht : (ops[j]?).bind (·.dst) = some q) (hb : (get F q, Nat.blt d n) = (some (.bool b), true)) (hv : Vl P n F ⟨some d, op, ty, pos, af, some (j, b)⟩ w v w') (h : O P n ops Q rest ((d, v) :: F) w') : O P n ops Q (⟨some d, op, ty, pos, af, some (j, b)⟩ :: rest) F w := zA (gy rfl ht (yO hb).1) (St.vl hv rfl (yO hb).2 h)
theorem Oz (ht : (ops[j]?).bind (·.dst) = some q) (hb : (get F q, Nat.blt d n, b') = (some (.bool b'), true, !b)) (h : O P n ops Q rest ((d, undef) :: F) w) : O P n ops Q (⟨some d, op, ty, pos, af, some (j, b)⟩ :: rest) F w := zgk rfl rfl (yO (yO hb).2).1 ht (yO hb).1 (yO (yO hb).2).2 h
theorem Ol {p : Addr} (ht : yB P t = some false) (hx : (ev F x, Nat.blt d n) = (some (.pointer (some p)), true)) (hc : w.cell? p = some v) (h : O P n ops Q rest ((d, v) :: F) w) : O P n ops Q (⟨some d, .load t x, ty, pos, af, none⟩ :: rest) F w := zA (gn rfl) (St.vl (zb ht (yO hx).1 hc) rfl (yO hx).2 h)
theorem Od {f bb off : Nat} (hf : yF P t f = some k) (hx : (ev F x, Nat.blt d n) = (some (.pointer (some ⟨bb, off, none⟩)), true)) (h : O P n ops Q rest ((d, .pointer (some ⟨bb, off + k, none⟩)) :: F) w) : O P n ops Q (⟨some d, .fieldAddr t x f, ty, pos, af, none⟩ :: rest) F w := zA (gn rfl) (St.vl (za hf (yO hx).1) rfl (yO hx).2 h)
theorem On {p : Option Addr} {l m : Nat} (hb : za3 P t = some e) (hx : (ev F x, Nat.blt d n) = (some (.slice p l m), true)) (h : O P n ops Q rest ((d, .int .i64 l) :: F) w) : O P n ops Q (⟨some d, .call { callee := .builtin .len, args := #[x], argTypes := #[t] }, ty, pos, af, none⟩ :: rest) F w := zA (gn rfl) (St.vl (z4 hb (yO hx).1) rfl (yO hx).2 h)
theorem Oc {f : Operand} {az : List Operand} {ts : Array TypeId} {g : FuncId} {first captured : Array Value} {vs args : List Value} {R : Value → World → Prop} (hb : zl P g = true) (hf : ev F f = some (.func (.func g) first captured)) (ha : evs F az = some vs)
 (hn : (first.toList ++ vs ++ captured.toList, Nat.blt d n) = (args, true)) (hc : zO P g args.toArray w R) (h : ∀ v w', R v w' → O P n ops Q rest ((d, v) :: F) w') :
 O P n ops Q (⟨some d, .call { callee := .value f, args := az.toArray, argTypes := ts }, ty, pos, af, none⟩ :: rest) F w := zA (gn rfl) (yg hb hf ha (yO hn).1 (yO hn).2 hc h)
theorem Ob {cs : List Value} (hx : ev F x = some v) (hc : (v.cells, Nat.blt d n) = (cs.toArray, true)) (h : ∀ b w', w.heap.size = b → w'.heap.size = b + 1 → zm [] w w' → zV w' b e cs → O P n ops Q rest ((d, .pointer (some ⟨b, 0, none⟩)) :: F) w') :
 O P n ops Q (⟨some d, .box e x, ty, pos, af, none⟩ :: rest) F w := zA (gn rfl) (zk2 hx (yO hc).1 (yO hc).2 h)
theorem Sr {id : Nat} {l : List Oper} {y : Code} (h : O P n l.toArray (yY (fun F w => W P n y Q F w) Q) l F w) : W P n (.seq (.region id l.toArray false) y) Q F w := zh (zd h)
theorem Tm (hx : (ev F x, Nat.blt d n) = (some v, true)) (h : T P n ops C Q (k + 1) rest ((d, v) :: F) w) : T P n ops C Q k (⟨some d, .move x, ty, pos, af, none⟩ :: rest) F w := t_pure rfl (gn rfl) (fun _ => zae (yO hx).1) rfl (yO hx).2 h
theorem Ta (hx : (ev F x, Nat.blt d n) = (some v, true)) (h : T P n ops C Q (k + 1) rest ((d, v) :: F) w) : T P n ops C Q k (⟨some d, .assign x, ty, pos, af, none⟩ :: rest) F w := t_pure rfl (gn rfl) (fun _ => yW (yO hx).1) rfl (yO hx).2 h
theorem Td {f bb off i : Nat} (hf : yF P t f = some i) (hx : (ev F x, Nat.blt d n) = (some (.pointer (some ⟨bb, off, none⟩)), true)) (h : T P n ops C Q (k + 1) rest ((d, .pointer (some ⟨bb, off + i, none⟩)) :: F) w) : T P n ops C Q k (⟨some d, .fieldAddr t x f, ty, pos, af, none⟩ :: rest) F w := t_pure rfl (gn rfl) (fun _ => za hf (yO hx).1) rfl (yO hx).2 h
theorem Tq (ht : (ops[j]?).bind (·.dst) = some q) (hb : get F q = some (.bool b)) (hx : (ev F x, Nat.blt d n) = (some v, true)) (h : T P n ops C Q (k + 1) rest ((d, v) :: F) w) : T P n ops C Q k (⟨some d, .move x, ty, pos, af, some (j, b)⟩ :: rest) F w := t_pure rfl (gy rfl ht hb) (fun _ => zae (yO hx).1) rfl (yO hx).2 h
theorem Tz (ht : (ops[j]?).bind (·.dst) = some q) (hb : (get F q, Nat.blt d n, b') = (some (.bool b'), true, !b)) (h : T P n ops C Q (k + 1) rest ((d, undef) :: F) w) : T P n ops C Q k (⟨some d, op, ty, pos, af, some (j, b)⟩ :: rest) F w := zlC rfl rfl (yO (yO hb).2).1 ht (yO hb).1 (yO (yO hb).2).2 h
theorem E1 (a : Nat) {x0 : Value} (hF : prune [a] F = [(a, x0)]) (h : K [(a, x0)] w) : O P n ops (yY K Q) [] F w := zY [a] hF h
theorem E2 (a b : Nat) {x0 x1 : Value} (hF : prune [a, b] F = [(a, x0), (b, x1)]) (h : K [(a, x0), (b, x1)] w) : O P n ops (yY K Q) [] F w := zY [a, b] hF h
theorem E3 (a b c : Nat) {x0 x1 x2 : Value} (hF : prune [a, b, c] F = [(a, x0), (b, x1), (c, x2)]) (h : K [(a, x0), (b, x1), (c, x2)] w) : O P n ops (yY K Q) [] F w := zY [a, b, c] hF h
theorem N3 (a b c : Nat) {x0 x1 x2 : Value} (hF : prune [a, b, c] F = [(a, x0), (b, x1), (c, x2)]) (h : Q .normal [(a, x0), (b, x1), (c, x2)] w) : O P n ops Q [] F w := zY [a, b, c] hF h
theorem E4 (a b c d : Nat) {x0 x1 x2 x3 : Value} (hF : prune [a, b, c, d] F = [(a, x0), (b, x1), (c, x2), (d, x3)]) (h : K [(a, x0), (b, x1), (c, x2), (d, x3)] w) : O P n ops (yY K Q) [] F w := zY [a, b, c, d] hF h
theorem N4 (a b c d : Nat) {x0 x1 x2 x3 : Value} (hF : prune [a, b, c, d] F = [(a, x0), (b, x1), (c, x2), (d, x3)]) (h : Q .normal [(a, x0), (b, x1), (c, x2), (d, x3)] w) : O P n ops Q [] F w := zY [a, b, c, d] hF h
theorem E5 (a b c d e : Nat) {x0 x1 x2 x3 x4 : Value} (hF : prune [a, b, c, d, e] F = [(a, x0), (b, x1), (c, x2), (d, x3), (e, x4)]) (h : K [(a, x0), (b, x1), (c, x2), (d, x3), (e, x4)] w) : O P n ops (yY K Q) [] F w := zY [a, b, c, d, e] hF h
theorem N5 (a b c d e : Nat) {x0 x1 x2 x3 x4 : Value} (hF : prune [a, b, c, d, e] F = [(a, x0), (b, x1), (c, x2), (d, x3), (e, x4)]) (h : Q .normal [(a, x0), (b, x1), (c, x2), (d, x3), (e, x4)] w) : O P n ops Q [] F w := zY [a, b, c, d, e] hF h
theorem E6 (a b c d e f : Nat) {x0 x1 x2 x3 x4 x5 : Value} (hF : prune [a, b, c, d, e, f] F = [(a, x0), (b, x1), (c, x2), (d, x3), (e, x4), (f, x5)]) (h : K [(a, x0), (b, x1), (c, x2), (d, x3), (e, x4), (f, x5)] w) : O P n ops (yY K Q) [] F w := zY [a, b, c, d, e, f] hF h
theorem N6 (a b c d e f : Nat) {x0 x1 x2 x3 x4 x5 : Value} (hF : prune [a, b, c, d, e, f] F = [(a, x0), (b, x1), (c, x2), (d, x3), (e, x4), (f, x5)]) (h : Q .normal [(a, x0), (b, x1), (c, x2), (d, x3), (e, x4), (f, x5)] w) : O P n ops Q [] F w := zY [a, b, c, d, e, f] hF h
theorem E7 (a b c d e f g : Nat) {x0 x1 x2 x3 x4 x5 x6 : Value} (hF : prune [a, b, c, d, e, f, g] F = [(a, x0), (b, x1), (c, x2), (d, x3), (e, x4), (f, x5), (g, x6)]) (h : K [(a, x0), (b, x1), (c, x2), (d, x3), (e, x4), (f, x5), (g, x6)] w) : O P n ops (yY K Q) [] F w := zY [a, b, c, d, e, f, g] hF h
theorem E8 (a b c d e f g i : Nat) {x0 x1 x2 x3 x4 x5 x6 x7 : Value} (hF : prune [a, b, c, d, e, f, g, i] F = [(a, x0), (b, x1), (c, x2), (d, x3), (e, x4), (f, x5), (g, x6), (i, x7)]) (h : K [(a, x0), (b, x1), (c, x2), (d, x3), (e, x4), (f, x5), (g, x6), (i, x7)] w) : O P n ops (yY K Q) [] F w := zY [a, b, c, d, e, f, g, i] hF h
theorem Oj (ht : (ops[j]?).bind (·.dst) = some q) (hb : (get F q, ev F x, Nat.blt d n) = (some (.bool b), some v, true)) (h : O P n ops Q rest ((d, v) :: F) w) : O P n ops Q (⟨some d, .move x, ty, pos, af, some (j, b)⟩ :: rest) F w := zA (gy rfl ht (yO hb).1) (St.vl (zae (yO (yO hb).2).1) rfl (yO (yO hb).2).2 h)
theorem Ow {f : Operand} {az : List Operand} {ts : Array TypeId} {g : FuncId} {first captured : Array Value} {vs args : List Value} {R : Value → World → Prop} (ht : (ops[j]?).bind (·.dst) = some q) (hq : get F q = some (.bool b)) (hb : zl P g = true) (hf : ev F f = some (.func (.func g) first captured)) (ha : evs F az = some vs)
 (hn : (first.toList ++ vs ++ captured.toList, Nat.blt d n) = (args, true)) (hc : zO P g args.toArray w R) (h : ∀ v w', R v w' → O P n ops Q rest ((d, v) :: F) w') :
 O P n ops Q (⟨some d, .call { callee := .value f, args := az.toArray, argTypes := ts }, ty, pos, af, some (j, b)⟩ :: rest) F w := zA (gy rfl ht hq) (yg hb hf ha (yO hn).1 (yO hn).2 hc h)
theorem Tp (hv : ∀ w, Vl P n F ⟨some d, op, ty, pos, af, none⟩ w v w) (hk : (Nat.ble (kd ⟨some d, op, ty, pos, af, none⟩) 1, Nat.blt d n) = (true, true)) (h : T P n ops C Q (k + 1) rest ((d, v) :: F) w) : T P n ops C Q k (⟨some d, op, ty, pos, af, none⟩ :: rest) F w := t_pure (yO hk).1 (gn rfl) hv rfl (yO hk).2 h
theorem Tg (ht : (ops[j]?).bind (·.dst) = some q) (hb : get F q = some (.bool b)) (hv : ∀ w, Vl P n F ⟨some d, op, ty, pos, af, some (j, b)⟩ w v w) (hk : (Nat.ble (kd ⟨some d, op, ty, pos, af, some (j, b)⟩) 1, Nat.blt d n) = (true, true)) (h : T P n ops C Q (k + 1) rest ((d, v) :: F) w) : T P n ops C Q k (⟨some d, op, ty, pos, af, some (j, b)⟩ :: rest) F w := t_pure (yO hk).1 (gy rfl ht hb) hv rfl (yO hk).2 h
theorem Tr (hv : ∀ w, C w → Vl P n F ⟨some d, op, ty, pos, af, none⟩ w v w) (hk : (kd ⟨some d, op, ty, pos, af, none⟩, Nat.blt d n) = (1, true)) (h : T P n ops C Q (k + 1) rest ((d, v) :: F) w) : T P n ops C Q k (⟨some d, op, ty, pos, af, none⟩ :: rest) F w := t_read (yO hk).1 (gn rfl) hv rfl (yO hk).2 h
theorem Ts (ht : (ops[j]?).bind (·.dst) = some q) (hb : get F q = some (.bool b)) (hv : ∀ w, C w → Vl P n F ⟨some d, op, ty, pos, af, some (j, b)⟩ w v w) (hk : (kd ⟨some d, op, ty, pos, af, some (j, b)⟩, Nat.blt d n) = (1, true)) (h : T P n ops C Q (k + 1) rest ((d, v) :: F) w) : T P n ops C Q k (⟨some d, op, ty, pos, af, some (j, b)⟩ :: rest) F w := t_read (yO hk).1 (gy rfl ht hb) hv rfl (yO hk).2 h
theorem Tc {f : Operand} {az : List Operand} {ts : Array TypeId} {g : FuncId} {first captured : Array Value} {vs args : List Value} {R : Value → World → Prop} (hb : zl P g = true) (hf : ev F f = some (.func (.func g) first captured)) (ha : evs F az = some vs)
 (hn : (first.toList ++ vs ++ captured.toList, Nat.blt d n) = (args, true)) (hc : zO P g args.toArray w R) (h : ∀ v w', R v w' → (C w' ∨ fin ops k = true) ∧ T P n ops C Q (k + 1) rest ((d, v) :: F) w') :
 T P n ops C Q k (⟨some d, .call { callee := .value f, args := az.toArray, argTypes := ts }, ty, pos, af, none⟩ :: rest) F w := t_st rfl (gn rfl) (yg hb hf ha (yO hn).1 (yO hn).2 hc h)
theorem Tv {f : Operand} {az : List Operand} {ts : Array TypeId} {g : FuncId} {first captured : Array Value} {vs args : List Value} {R : Value → World → Prop} (ht : (ops[j]?).bind (·.dst) = some q) (hq : get F q = some (.bool b)) (hb : zl P g = true) (hf : ev F f = some (.func (.func g) first captured)) (ha : evs F az = some vs)
 (hn : (first.toList ++ vs ++ captured.toList, Nat.blt d n) = (args, true)) (hc : zO P g args.toArray w R) (h : ∀ v w', R v w' → (C w' ∨ fin ops k = true) ∧ T P n ops C Q (k + 1) rest ((d, v) :: F) w') :
 T P n ops C Q k (⟨some d, .call { callee := .value f, args := az.toArray, argTypes := ts }, ty, pos, af, some (j, b)⟩ :: rest) F w := t_st rfl (gy rfl ht hq) (yg hb hf ha (yO hn).1 (yO hn).2 hc h)
theorem vt {o : Oper} (h : Vl P n F o w (.bool b) w') (e : b = true) : Vl P n F o w (.bool true) w' := e ▸ h
theorem vf {o : Oper} (h : Vl P n F o w (.bool b) w') (e : b = false) : Vl P n F o w (.bool false) w' := e ▸ h
theorem D1 (a : Nat) {x0 : Value} (hF : prune [a] F = [(a, x0)]) (h : K [(a, x0)] w) : T P n ops C (yY K Q) k [] F w := yD [a] hF h
theorem D2 (a b : Nat) {x0 x1 : Value} (hF : prune [a, b] F = [(a, x0), (b, x1)]) (h : K [(a, x0), (b, x1)] w) : T P n ops C (yY K Q) k [] F w := yD [a, b] hF h
theorem D3 (a b c : Nat) {x0 x1 x2 : Value} (hF : prune [a, b, c] F = [(a, x0), (b, x1), (c, x2)]) (h : K [(a, x0), (b, x1), (c, x2)] w) : T P n ops C (yY K Q) k [] F w := yD [a, b, c] hF h
theorem D4 (a b c d : Nat) {x0 x1 x2 x3 : Value} (hF : prune [a, b, c, d] F = [(a, x0), (b, x1), (c, x2), (d, x3)]) (h : K [(a, x0), (b, x1), (c, x2), (d, x3)] w) : T P n ops C (yY K Q) k [] F w := yD [a, b, c, d] hF h
theorem D5 (a b c d e : Nat) {x0 x1 x2 x3 x4 : Value} (hF : prune [a, b, c, d, e] F = [(a, x0), (b, x1), (c, x2), (d, x3), (e, x4)]) (h : K [(a, x0), (b, x1), (c, x2), (d, x3), (e, x4)] w) : T P n ops C (yY K Q) k [] F w := yD [a, b, c, d, e] hF h
end
theorem A1 {P : Program} {f : FuncId} {fn : Func} {y : Code} {a : Value} {w : World} {R : Value → World → Prop} {n : Nat} {F : Fr} (hf : P.funcs[f]? = some fn) (hb : (fn.body, fn.ntmps) = (some y, n)) (hl : (Nat.ble 1 n, frameOf 0 [a]) = (true, F)) (h : W P n y (zeb P fn R n) F w) (hk : Nat.ble n 1000000 = true := by rfl) : zO P f #[a] w R := zO.of_W (args := [a]) hf (yO hb).1 (yO hb).2 (yO hl).1 (yO hl).2 h hk
theorem A2 {P : Program} {f : FuncId} {fn : Func} {y : Code} {a b : Value} {w : World} {R : Value → World → Prop} {n : Nat} {F : Fr} (hf : P.funcs[f]? = some fn) (hb : (fn.body, fn.ntmps) = (some y, n)) (hl : (Nat.ble 2 n, frameOf 0 [a, b]) = (true, F)) (h : W P n y (zeb P fn R n) F w) (hk : Nat.ble n 1000000 = true := by rfl) : zO P f #[a, b] w R := zO.of_W (args := [a, b]) hf (yO hb).1 (yO hb).2 (yO hl).1 (yO hl).2 h hk
theorem A3 {P : Program} {f : FuncId} {fn : Func} {y : Code} {a b c : Value} {w : World} {R : Value → World → Prop} {n : Nat} {F : Fr} (hf : P.funcs[f]? = some fn) (hb : (fn.body, fn.ntmps) = (some y, n)) (hl : (Nat.ble 3 n, frameOf 0 [a, b, c]) = (true, F)) (h : W P n y (zeb P fn R n) F w) (hk : Nat.ble n 1000000 = true := by rfl) : zO P f #[a, b, c] w R := zO.of_W (args := [a, b, c]) hf (yO hb).1 (yO hb).2 (yO hl).1 (yO hl).2 h hk
theorem A4 {P : Program} {f : FuncId} {fn : Func} {y : Code} {a b c d : Value} {w : World} {R : Value → World → Prop} {n : Nat} {F : Fr} (hf : P.funcs[f]? = some fn) (hb : (fn.body, fn.ntmps) = (some y, n)) (hl : (Nat.ble 4 n, frameOf 0 [a, b, c, d]) = (true, F)) (h : W P n y (zeb P fn R n) F w) (hk : Nat.ble n 1000000 = true := by rfl) : zO P f #[a, b, c, d] w R := zO.of_W (args := [a, b, c, d]) hf (yO hb).1 (yO hb).2 (yO hl).1 (yO hl).2 h hk
section
variable {K : Fr → World → Prop} {Q : Exit → Fr → World → Prop} {F : Fr} {w : World} {id i : Nat}
theorem tr (h : Q .ret F w) : yY K Q .ret F w := h
theorem br (h : Q .ret F w) : zbx id Q .ret F w := h
theorem te (h : Q (.exit id) F w) : yY K Q (.exit id) F w := h
theorem bo (hne : Nat.beq i id = false) (h : Q (.exit i) F w) : zbx id Q (.exit i) F w := zeI hne h
end
def Rd (w : World) (k : Nat) (v : Value) (len : Nat) (xs : List Value) : Prop :=
 ∃ p cap, v = .slice p len cap ∧ len ≤ cap ∧ cap ≤ maxLen ∧ xs.length = len * k ∧ (∀ u ∈ xs, u.oneCell' = true) ∧ (0 < len → ∃ b off, p = some ⟨b, off, none⟩ ∧ zu w b off xs)
section
variable {w w' : World} {e k : Nat} {v : Value} {len : Nat} {xs : List Value}
theorem zB.toRd (h : zB w e k v len xs) : Rd w k v len xs := by
 have hl := h.len_xs
 have ho := h.one_xs
 rcases h with ⟨rfl, rfl, rfl⟩ | ⟨b, off, cap, c, rfl, h⟩
 ·exact ⟨none, 0, rfl, Nat.le_refl _, Nat.zero_le _, hl, ho, fun h => absurd h (by omega)⟩
 exact ⟨some ⟨b, off, none⟩, cap, rfl, h.le, h.max, hl, ho, fun _ => ⟨b, off, rfl, h.cells⟩⟩
theorem Rd.val (h : Rd w k v len xs) : ∃ p c, v = .slice p len c ∧ len ≤ c := let ⟨p, c, h1, h2, _⟩ := h; ⟨p, c, h1, h2⟩
theorem Rd.max (h : Rd w k v len xs) : len ≤ maxLen := let ⟨_, _, _, h2, h3, _⟩ := h; Nat.le_trans h2 h3
theorem Rd.nil (w : World) (k : Nat) : Rd w k (.slice none 0 0) 0 [] := ⟨none, 0, rfl, Nat.le_refl _, Nat.zero_le _, by simp, by simp, fun h => absurd h (by omega)⟩
theorem Rd.keep (h : Rd w k v len xs) (hk : ∀ b off u j, v = .slice (some ⟨b, off, none⟩) len (match v with | .slice _ _ c => c | _ => 0) → xs[j]? = some u → w.cell? ⟨b, off + j, none⟩ = some u → w'.cell? ⟨b, off + j, none⟩ = some u) : Rd w' k v len xs := by
 obtain ⟨p, cap, rfl, h2, h3, h4, h5, h6⟩ := h
 refine ⟨p, cap, rfl, h2, h3, h4, h5, fun hp => ?_⟩
 obtain ⟨b, off, rfl, hc⟩ := h6 hp
 exact ⟨b, off, rfl, fun j u hj => hk b off u j rfl hj (hc j u hj)⟩
theorem zhF {S : List Nat} (hc : zm S w w') {b o : Nat} {u : Value} (h : w.cell? ⟨b, o, none⟩ = some u) (hb : b ∉ S) : w'.cell? ⟨b, o, none⟩ = some u := by
 have hlt : b < w.heap.size := by
  rcases Nat.lt_or_ge b w.heap.size with h1 | h1
  ·exact h1
  simp [World.cell?, Array.getElem?_eq_none h1] at h
 have := hc.block b hlt hb
 unfold World.cell? at h ⊢
 rw [this]; exact h
theorem Rd.chg {S : List Nat} (h : Rd w k v len xs) (hc : zm S w w') (hb : ∀ b ∈ zC v, b ∉ S) : Rd w' k v len xs :=
 h.keep fun b off u j hv _ hcell => zhF hc hcell (hb b (by rw [hv]; simp [zC]))
theorem Rd.chg0 (h : Rd w k v len xs) (hc : zm [] w w') : Rd w' k v len xs := h.chg hc (by simp)
theorem Rd.at1 (h : Rd w 1 v len xs) {i : Nat} (hi : i < len) : ∃ b off cap u, v = .slice (some ⟨b, off, none⟩) len cap ∧ xs[i]? = some u ∧ w.cell? ⟨b, off + i * 1, none⟩ = some u := by
 obtain ⟨p, cap, rfl, h2, h3, h4, h5, h6⟩ := h
 obtain ⟨b, off, rfl, hc⟩ := h6 (by omega)
 have hl : i < xs.length := by omega
 refine ⟨b, off, cap, xs[i], rfl, by simp [hl], ?_⟩
 rw [Nat.mul_one]
 exact hc i _ (by simp [hl])
theorem Rd.atk (h : Rd w k v len xs) {i : Nat} (hi : i < len) : ∃ b off cap, v = .slice (some ⟨b, off, none⟩) len cap ∧ zu w b (off + i * k) ((xs.drop (i * k)).take k) := by
 obtain ⟨p, cap, rfl, h2, h3, h4, h5, h6⟩ := h
 obtain ⟨b, off, rfl, hc⟩ := h6 (by omega)
 refine ⟨b, off, cap, rfl, fun j u hj => ?_⟩
 have h1 : xs[i * k + j]? = some u := by
  rw [List.getElem?_take] at hj
  split at hj
  ·simpa using hj
  cases hj
 have := hc (i * k + j) u h1
 rw [← this]
 congr 2
 omega
theorem Rd.cut {p : Option Addr} {cap : Nat} (hs : Rd w k (.slice p len cap) len xs) {l h m : Nat} (h1 : l ≤ h) (h2 : h ≤ m) (h3 : m ≤ cap) (h4 : h ≤ len) :
 Rd w k (Wk.cut p l h m k) (h - l) ((xs.drop (l * k)).take ((h - l) * k)) := by
 obtain ⟨p', cap', he, g2, g3, g4, g5, g6⟩ := hs
 simp only [Value.slice.injEq] at he
 obtain ⟨rfl, _, rfl⟩ := he
 have hmk : h * k ≤ len * k := Nat.mul_le_mul_right _ h4
 have hs2 : (h - l) * k = h * k - l * k := Nat.sub_mul _ _ _
 refine ⟨_, m - l, rfl, by omega, by omega, ?_, fun u hu => g5 u (List.mem_of_mem_drop (List.mem_of_mem_take hu)), fun hp => ?_⟩
 ·rw [List.length_take, List.length_drop, g4]; omega
 obtain ⟨b, off, rfl, hc⟩ := g6 (by omega)
 have hne : m ≠ l := by omega
 refine ⟨b, off + l * k, by rw [if_neg hne]; simp [Addr.add_lit], fun j u hj => ?_⟩
 rw [List.getElem?_take] at hj
 split at hj
 ·rw [List.getElem?_drop] at hj
  have := hc _ _ hj
  rw [← this]; congr 2; omega
 cases hj
end
def dr (ds : List Nat) : Fr → Fr
 | [] => []
 | (j, v) :: F => bif Nat.ble 1000000 j then (j, v) :: dr ds F else bif ds.any (Nat.beq j) then dr ds F else (j, v) :: dr ds F
theorem zjc (ds : List Nat) : ∀ (F : Fr) (i : Nat) (v : Value), get (dr ds F) i = some v → get F i = some v
 | [], i, v, h => by simp [dr, get] at h
 | (j, u) :: F, i, v, h => by
  have ih := zjc ds F i v
  have hin : ∀ (F : Fr), ds.any (Nat.beq i) = true → Nat.ble 1000000 i = false → get (dr ds F) i = none := by
   intro F hi hb
   induction F with
   | nil => rfl
   | cons p F ih =>
    obtain ⟨j, u⟩ := p
    unfold dr
    cases hj : Nat.ble 1000000 j with
    | true =>
     simp only [cond_true, Wk.get]
     have : Nat.beq i j = false := by
      cases hb2 : Nat.beq i j with
      | false => rfl
      | true => have := Nat.eq_of_beq_eq_true hb2; subst this; rw [hb] at hj; cases hj
     rw [this]; exact ih
    | false =>
     simp only [cond_false]
     cases hd : ds.any (Nat.beq j) with
     | true => simpa using ih
     | false =>
      simp only [cond_false, Wk.get]
      have : Nat.beq i j = false := by
       cases hb2 : Nat.beq i j with
       | false => rfl
       | true => have := Nat.eq_of_beq_eq_true hb2; subst this; rw [hi] at hd; cases hd
      rw [this]; exact ih
  unfold dr at h
  cases hj : Nat.ble 1000000 j with
  | true =>
   simp only [hj, cond_true, Wk.get] at h ⊢
   cases hb : Nat.beq i j with
   | true => rw [hb] at h; simp at h
   | false => rw [hb] at h; exact ih h
  | false =>
   simp only [hj, cond_false] at h
   simp only [Wk.get, hj, cond_false]
   cases hb : Nat.beq i j with
   | true =>
    have e := Nat.eq_of_beq_eq_true hb
    subst e
    cases hd : ds.any (Nat.beq i) with
    | true =>
     rw [hd] at h
     simp only [cond_true] at h
     rw [hin F hd hj] at h; cases h
    | false =>
     rw [hd] at h
     simpa [Wk.get, hj, hb] using h
   | false =>
    cases hd : ds.any (Nat.beq j) with
    | true => rw [hd] at h; simp only [cond_true] at h; exact ih h
    | false =>
     rw [hd] at h
     simp only [cond_false, Wk.get, hb] at h
     exact ih h
theorem zfW (ds : List Nat) : ∀ F : Fr, zar (dr ds F) = zar F
 | [] => rfl
 | (j, u) :: F => by
  have ih := zfW ds F
  unfold dr
  cases hj : Nat.ble 1000000 j with
  | true =>
   simp only [cond_true]
   have e : ∀ F : Fr, zar ((j, u) :: F) = zar ([(j, u)] : Fr) ++ zar F := by
    intro F
    simp [zar, zav, hj, dOf, zkw]
   rw [e, e F, ih]
  | false =>
   simp only [cond_false]
   rw [zbn hj]
   cases ds.any (Nat.beq j) with
   | true => simpa using ih
   | false => simp only [cond_false]; rw [zbn hj]; exact ih
theorem Rep.dr {n : Nat} {F : Fr} {a : Act} (h : Rep n F a) (ds : List Nat) : Rep n (dr ds F) a :=
 ⟨h.lt, h.size, by rw [zfW]; exact h.defers, fun i v hi => h.get i v (zjc ds F i v hi)⟩
section
variable {P : Program} {n k m : Nat} {ops : Array Oper} {Q : Exit → Fr → World → Prop} {C : World → Prop} {ρ : Option Nat} {F F' G : Fr} {w : World} {l rest' : List Oper} {c d : Bool} {g t : Nat}
theorem yK (ds : List Nat) (hF : dr ds F = F') (h : O P n ops Q l F' w) : O P n ops Q l F w := fun a ha => h a (hF ▸ ha.dr ds)
theorem zef (h0 : O P n ops Q rest' ((t, .bool true) :: (g, .bool true) :: G) w → O P n ops Q l ((g, .bool true) :: G) w)
 (h1 : c = false → O P n ops Q rest' ((t, .bool d) :: (g, .bool false) :: G) w → O P n ops Q l ((g, .bool false) :: G) w)
 (h : O P n ops Q rest' ((t, .bool (c || d)) :: (g, .bool c) :: G) w) : O P n ops Q l ((g, .bool c) :: G) w := by
 cases c with
 | true => exact h0 (by simpa using h)
 | false => exact h1 rfl (by simpa using h)
theorem zb1 (h0 : O P n ops Q rest' ((t, .bool false) :: (g, .bool false) :: G) w → O P n ops Q l ((g, .bool false) :: G) w)
 (h1 : c = true → O P n ops Q rest' ((t, .bool d) :: (g, .bool true) :: G) w → O P n ops Q l ((g, .bool true) :: G) w)
 (h : O P n ops Q rest' ((t, .bool (c && d)) :: (g, .bool c) :: G) w) : O P n ops Q l ((g, .bool c) :: G) w := by
 cases c with
 | true => exact h1 rfl (by simpa using h)
 | false => exact h0 (by simpa using h)
end
open Go.Proofs
noncomputable abbrev TP := Tryz.prog
abbrev Pt (b : Nat) : Value := .pointer (some ⟨b, 0, none⟩)
abbrev Ii (i : Int) : Value := .int .i64 i
theorem ag2 : yB TP 2 = some false := by kernel_rfl
theorem ag3 : yB TP 3 = some false := by kernel_rfl
theorem ag4 : yB TP 4 = some false := by kernel_rfl
theorem yt : yB TP 9 = some false := by kernel_rfl
theorem zak : yB TP 22 = some false := by kernel_rfl
theorem zcK : yB TP 24 = some true := by kernel_rfl
theorem yy : yB TP 25 = some false := by kernel_rfl
theorem zac : yB TP 27 = some true := by kernel_rfl
theorem zk5 : yB TP 31 = some false := by kernel_rfl
theorem yz : yB TP 44 = some false := by kernel_rfl
theorem zba : yB TP 46 = some false := by kernel_rfl
theorem zk1 : yB TP 47 = some false := by kernel_rfl
theorem zf4 : yB TP 48 = some false := by kernel_rfl
theorem zhA : yB TP 49 = some false := by kernel_rfl
theorem zmq : yB TP 50 = some false := by kernel_rfl
theorem zjh : yB TP 52 = some true := by kernel_rfl
theorem zh5 : yB TP 53 = some false := by kernel_rfl
theorem zdo : yB TP 55 = some true := by kernel_rfl
theorem zbS : yB TP 59 = some false := by kernel_rfl
theorem zch : yB TP 60 = some false := by kernel_rfl
theorem zbU : yB TP 62 = some true := by kernel_rfl
theorem zhm : yB TP 98 = some false := by kernel_rfl
theorem zdm : yB TP 100 = some true := by kernel_rfl
theorem zmo : yB TP 131 = some false := by kernel_rfl
theorem zcH : yB TP 135 = some true := by kernel_rfl
theorem zl2 : yB TP 139 = some false := by kernel_rfl
theorem zkn : yB TP 161 = some false := by kernel_rfl
theorem zf3 : yB TP 163 = some true := by kernel_rfl
theorem zlX : yB TP 243 = some false := by kernel_rfl
theorem zmX : yB TP 254 = some false := by kernel_rfl
theorem zlF : yB TP 263 = some false := by kernel_rfl
theorem zgL : yB TP 299 = some true := by kernel_rfl
theorem zmT : yB TP 302 = some false := by kernel_rfl
theorem zlH : yB TP 309 = some false := by kernel_rfl
theorem zgw : zhw TP 58 = some (2, 44) := by kernel_rfl
theorem bd4 : zl TP 4 = true := by kernel_rfl
theorem bd5 : zl TP 5 = true := by kernel_rfl
theorem bd6 : zl TP 6 = true := by kernel_rfl
theorem bd7 : zl TP 7 = true := by kernel_rfl
theorem bd8 : zl TP 8 = true := by kernel_rfl
theorem bd9 : zl TP 9 = true := by kernel_rfl
theorem zkQ : zl TP 10 = true := by kernel_rfl
theorem zlj : zl TP 11 = true := by kernel_rfl
theorem zkS : zl TP 12 = true := by kernel_rfl
theorem zed : zl TP 13 = true := by kernel_rfl
theorem zjU : zl TP 14 = true := by kernel_rfl
theorem zjT : zl TP 15 = true := by kernel_rfl
theorem zmH : zl TP 16 = true := by kernel_rfl
theorem znD : zl TP 17 = true := by kernel_rfl
theorem znu : zl TP 18 = true := by kernel_rfl
theorem zkG : zl TP 19 = true := by kernel_rfl
theorem zne : zl TP 20 = true := by kernel_rfl
theorem zmK : zl TP 21 = true := by kernel_rfl
theorem zjC : zl TP 22 = true := by kernel_rfl
theorem zmn : zl TP 23 = true := by kernel_rfl
theorem zk7 : zl TP 24 = true := by kernel_rfl
theorem zns : zl TP 25 = true := by kernel_rfl
theorem znd : zl TP 26 = true := by kernel_rfl
theorem zm1 : zl TP 27 = true := by kernel_rfl
theorem zng : zl TP 28 = true := by kernel_rfl
theorem zmM : zl TP 29 = true := by kernel_rfl
theorem znx : zl TP 30 = true := by kernel_rfl
theorem zm2 : zl TP 31 = true := by kernel_rfl
theorem zlo : zl TP 35 = true := by kernel_rfl
theorem zm5 : zl TP 36 = true := by kernel_rfl
theorem zhu : zl TP 37 = true := by kernel_rfl
theorem zkE : zl TP 38 = true := by kernel_rfl
theorem zkY : zl TP 39 = true := by kernel_rfl
theorem zkK : zl TP 40 = true := by kernel_rfl
theorem znA : zl TP 41 = true := by kernel_rfl
theorem zlS : zl TP 42 = true := by kernel_rfl
theorem znp : zl TP 45 = true := by kernel_rfl
theorem znn : zl TP 47 = true := by kernel_rfl
theorem zm9 : zl TP 50 = true := by kernel_rfl
theorem znz : zl TP 52 = true := by kernel_rfl
theorem zm4 : zl TP 55 = true := by kernel_rfl
theorem zi0 : zl TP 56 = true := by kernel_rfl
theorem zmG : zl TP 57 = true := by kernel_rfl
theorem zmk : zl TP 58 = true := by kernel_rfl
theorem zmp : zl TP 59 = true := by kernel_rfl
theorem zlZ : zl TP 60 = true := by kernel_rfl
theorem zmJ : zl TP 61 = true := by kernel_rfl
theorem zm0 : zl TP 66 = true := by kernel_rfl
theorem zm3 : zl TP 67 = true := by kernel_rfl
theorem zlz : zl TP 69 = true := by kernel_rfl
theorem znv : zl TP 70 = true := by kernel_rfl
theorem zmi : zl TP 71 = true := by kernel_rfl
theorem znl : zl TP 72 = true := by kernel_rfl
theorem znG : zl TP 73 = true := by kernel_rfl
theorem zmw : zl TP 74 = true := by kernel_rfl
theorem zlJ : zl TP 75 = true := by kernel_rfl
theorem zml : zl TP 76 = true := by kernel_rfl
theorem zlP : zl TP 77 = true := by kernel_rfl
theorem zny : zl TP 78 = true := by kernel_rfl
theorem znf : zl TP 79 = true := by kernel_rfl
theorem zm7 : zl TP 80 = true := by kernel_rfl
theorem znk : zl TP 93 = true := by kernel_rfl
theorem zlQ : zl TP 94 = true := by kernel_rfl
theorem znq : zl TP 95 = true := by kernel_rfl
theorem znE : zl TP 96 = true := by kernel_rfl
theorem znc : zl TP 97 = true := by kernel_rfl
theorem zna : zl TP 99 = true := by kernel_rfl
theorem zin : zl TP 100 = true := by kernel_rfl
theorem zie : zl TP 101 = true := by kernel_rfl
theorem zlT : zl TP 102 = true := by kernel_rfl
theorem zkA : zl TP 103 = true := by kernel_rfl
theorem zky : zl TP 104 = true := by kernel_rfl
theorem zfN : zl TP 107 = true := by kernel_rfl
theorem zmZ : zl TP 108 = true := by kernel_rfl
theorem zl9 : zl TP 109 = true := by kernel_rfl
theorem zki : zl TP 110 = true := by kernel_rfl
theorem zmj : zl TP 111 = true := by kernel_rfl
theorem zl5 : zl TP 112 = true := by kernel_rfl
theorem zmc : zl TP 113 = true := by kernel_rfl
theorem zkf : zl TP 114 = true := by kernel_rfl
theorem zks : zl TP 115 = true := by kernel_rfl
theorem zl4 : zl TP 123 = true := by kernel_rfl
theorem zlW : zl TP 124 = true := by kernel_rfl
theorem zlG : zl TP 135 = true := by kernel_rfl
theorem zmF : zl TP 136 = true := by kernel_rfl
theorem zmh : zl TP 152 = true := by kernel_rfl
theorem zl8 : zl TP 154 = true := by kernel_rfl
theorem zma : zl TP 157 = true := by kernel_rfl
theorem zmy : zl TP 160 = true := by kernel_rfl
theorem zl0 : zl TP 163 = true := by kernel_rfl
theorem zl3 : zl TP 172 = true := by kernel_rfl
theorem zme : zl TP 206 = true := by kernel_rfl
theorem zmz : zl TP 207 = true := by kernel_rfl
theorem zkv : zl TP 209 = true := by kernel_rfl
theorem zkx : zl TP 224 = true := by kernel_rfl
theorem zgO : zl TP 225 = true := by kernel_rfl
theorem zkp : zl TP 227 = true := by kernel_rfl
theorem zmW : zl TP 241 = true := by kernel_rfl
theorem zkk : zl TP 242 = true := by kernel_rfl
theorem zms : zl TP 243 = true := by kernel_rfl
theorem zmt : zl TP 244 = true := by kernel_rfl
theorem zmR : zl TP 245 = true := by kernel_rfl
theorem zmL : zl TP 246 = true := by kernel_rfl
theorem zmS : zl TP 247 = true := by kernel_rfl
theorem zmU : zl TP 248 = true := by kernel_rfl
theorem ziR : zl TP 250 = true := by kernel_rfl
theorem zlV : zl TP 251 = true := by kernel_rfl
theorem zmV : zl TP 252 = true := by kernel_rfl
theorem zjd : zl TP 258 = true := by kernel_rfl
theorem zmb : zl TP 259 = true := by kernel_rfl
theorem zmO : zl TP 260 = true := by kernel_rfl
theorem zmm : zl TP 283 = true := by kernel_rfl
theorem bo4 : ziD TP 4 = true := by kernel_rfl
theorem zgh : zgm TP 24 [0, 0] = true := by kernel_rfl
theorem zlm : zgm TP 62 [0, 0, 0, 1] = true := by kernel_rfl
theorem zlB : zgm TP 163 [1, 0, 0, 2] = true := by kernel_rfl
theorem zdE : yF TP 24 0 = some 0 := by kernel_rfl
theorem zdI : yF TP 24 1 = some 1 := by kernel_rfl
theorem z3 : yF TP 27 0 = some 0 := by kernel_rfl
theorem z8 : yF TP 27 1 = some 1 := by kernel_rfl
theorem yI : yF TP 27 2 = some 2 := by kernel_rfl
theorem yp : yF TP 27 3 = some 3 := by kernel_rfl
theorem zaj : yF TP 27 4 = some 5 := by kernel_rfl
theorem zN : yF TP 27 5 = some 6 := by kernel_rfl
theorem zcr : yF TP 52 0 = some 0 := by kernel_rfl
theorem zeO : yF TP 52 1 = some 1 := by kernel_rfl
theorem ziU : yF TP 52 2 = some 2 := by kernel_rfl
theorem yA : yF TP 55 0 = some 0 := by kernel_rfl
theorem zaQ : yF TP 55 1 = some 1 := by kernel_rfl
theorem zbk : yF TP 55 2 = some 2 := by kernel_rfl
theorem zb4 : yF TP 55 3 = some 3 := by kernel_rfl
theorem zgy : yF TP 55 4 = some 4 := by kernel_rfl
theorem zgj : yF TP 55 5 = some 5 := by kernel_rfl
theorem zgl : yF TP 55 6 = some 6 := by kernel_rfl
theorem zf9 : yF TP 55 7 = some 9 := by kernel_rfl
theorem zag : yF TP 62 0 = some 0 := by kernel_rfl
theorem yG : yF TP 62 1 = some 1 := by kernel_rfl
theorem zaa : yF TP 62 2 = some 2 := by kernel_rfl
theorem yv : yF TP 62 3 = some 3 := by kernel_rfl
theorem zb8 : yF TP 100 0 = some 0 := by kernel_rfl
theorem zdr : yF TP 100 1 = some 1 := by kernel_rfl
theorem zhe : yF TP 100 2 = some 2 := by kernel_rfl
theorem zgX : yF TP 100 3 = some 5 := by kernel_rfl
theorem zhh : yF TP 100 4 = some 6 := by kernel_rfl
theorem zgE : yF TP 100 5 = some 7 := by kernel_rfl
theorem zjs : yF TP 135 0 = some 0 := by kernel_rfl
theorem zbA : yF TP 163 0 = some 0 := by kernel_rfl
theorem zgY : yF TP 163 1 = some 1 := by kernel_rfl
theorem zgK : yF TP 163 2 = some 2 := by kernel_rfl
theorem zje : yF TP 163 3 = some 3 := by kernel_rfl
theorem zjG : yF TP 175 0 = some 0 := by kernel_rfl
theorem zjA : yF TP 281 1 = some 1 := by kernel_rfl
theorem zj1 : yF TP 283 0 = some 0 := by kernel_rfl
theorem zg2 : yF TP 283 1 = some 1 := by kernel_rfl
theorem zjP : yF TP 283 2 = some 2 := by kernel_rfl
theorem zk8 : zkM TP 79 0 = some (0, 1, false) := by kernel_rfl
theorem znh : zid TP 20 = true := by kernel_rfl
theorem zi2 : zid TP 243 = true := by kernel_rfl
theorem zfM : zj0 TP 318 279 = some false := by kernel_rfl
theorem zff : zj0 TP 321 279 = some true := by kernel_rfl
theorem zdt : zbJ TP 3 .i64 = true := by kernel_rfl
theorem zaO : zbJ TP 5 .u8 = true := by kernel_rfl
theorem zfb : zbJ TP 21 .i32 = true := by kernel_rfl
theorem zh4 : zbJ TP 22 .i64 = true := by kernel_rfl
theorem zaI : zbJ TP 59 .i64 = true := by kernel_rfl
theorem zb5 : zbJ TP 60 .u64 = true := by kernel_rfl
theorem za4 : zbJ TP 98 .i64 = true := by kernel_rfl
theorem yV : zbJ TP 161 .i64 = true := by kernel_rfl
theorem zjX : zcu TP 57 = some (9, 58) := by kernel_rfl
theorem zho : zcu TP 73 = some (9, 79) := by kernel_rfl
theorem zdK : zcu TP 126 = some (98, 124) := by kernel_rfl
theorem zdf : zcu TP 177 = some (59, 175) := by kernel_rfl
theorem zcl : zcu TP 284 = some (161, 283) := by kernel_rfl
theorem ziK : zhL TP 31 = true := by kernel_rfl
theorem zkm : zhL TP 229 = true := by kernel_rfl
theorem zf0 : zhL TP 279 = true := by kernel_rfl
theorem znw : zcy TP 24 = some [(0, 1), (1, 1)] := by kernel_rfl
theorem zni : zcy TP 27 = some [(0, 1), (1, 1), (2, 1), (3, 2), (5, 1), (6, 1)] := by kernel_rfl
theorem zhR : zcy TP 55 = some [(0, 1), (1, 1), (2, 1), (3, 1), (4, 1), (5, 1), (6, 3), (9, 1)] := by kernel_rfl
theorem zh1 : zcy TP 62 = some [(0, 1), (1, 1), (2, 1), (3, 1)] := by kernel_rfl
theorem zil : zcy TP 79 = some [(0, 1), (1, 1), (2, 1)] := by kernel_rfl
theorem zkt : zcy TP 100 = some [(0, 1), (1, 1), (2, 3), (5, 1), (6, 1), (7, 1)] := by kernel_rfl
theorem zhf : zcy TP 135 = some [(0, 1), (1, 1), (2, 1)] := by kernel_rfl
theorem zlD : zcy TP 163 = some [(0, 1), (1, 1), (2, 1), (3, 1)] := by kernel_rfl
theorem zfj : zcy TP 175 = some [(0, 1), (1, 1)] := by kernel_rfl
theorem zfQ : zcy TP 281 = some [(0, 1), (1, 1)] := by kernel_rfl
theorem zgS : zcy TP 283 = some [(0, 1), (1, 1), (2, 1)] := by kernel_rfl
theorem z6 : za3 TP 25 = some 9 := by kernel_rfl
theorem yn : za3 TP 30 = some 55 := by kernel_rfl
theorem yE : za3 TP 40 = some 44 := by kernel_rfl
theorem yS : za3 TP 44 = some 62 := by kernel_rfl
theorem zjx : za3 TP 47 = some 120 := by kernel_rfl
theorem zfi : za3 TP 48 = some 163 := by kernel_rfl
theorem zec : za3 TP 49 = some 3 := by kernel_rfl
theorem zgx : za3 TP 50 = some 49 := by kernel_rfl
theorem zjy : za3 TP 53 = some 123 := by kernel_rfl
theorem zd8 : za3 TP 86 = some 5 := by kernel_rfl
theorem ziS : za3 TP 124 = some 135 := by kernel_rfl
theorem st9 : zeV TP 9 = true := by kernel_rfl
theorem sz2 : yQ TP 2 = some 1 := by kernel_rfl
theorem sz3 : yQ TP 3 = some 1 := by kernel_rfl
theorem sz4 : yQ TP 4 = some 1 := by kernel_rfl
theorem sz5 : yQ TP 5 = some 1 := by kernel_rfl
theorem sz9 : yQ TP 9 = some 1 := by kernel_rfl
theorem zcM : yQ TP 24 = some 2 := by kernel_rfl
theorem znm : yQ TP 25 = some 1 := by kernel_rfl
theorem y7 : yQ TP 27 = some 7 := by kernel_rfl
theorem zlO : yQ TP 31 = some 1 := by kernel_rfl
theorem zaz : yQ TP 44 = some 1 := by kernel_rfl
theorem zmQ : yQ TP 49 = some 1 := by kernel_rfl
theorem zj2 : yQ TP 52 = some 3 := by kernel_rfl
theorem yf : yQ TP 55 = some 10 := by kernel_rfl
theorem zm8 : yQ TP 58 = some 2 := by kernel_rfl
theorem znB : yQ TP 60 = some 1 := by kernel_rfl
theorem yM : yQ TP 62 = some 4 := by kernel_rfl
theorem zb2 : yQ TP 100 = some 8 := by kernel_rfl
theorem zaJ : yQ TP 135 = some 3 := by kernel_rfl
theorem zdU : yQ TP 163 = some 4 := by kernel_rfl
theorem ziQ : yQ TP 175 = some 2 := by kernel_rfl
theorem zet : yQ TP 283 = some 3 := by kernel_rfl
theorem zf1 : yQ TP 299 = some 3 := by kernel_rfl
theorem zmx : yQ TP 309 = some 1 := by kernel_rfl
theorem zr3 : yZ TP 3 = some (Ii 0) := by kernel_rfl
theorem zr5 : yZ TP 5 = some (.int .u8 0) := by kernel_rfl
theorem zr9 : yZ TP 9 = some (.string ⟨#[]⟩) := by kernel_rfl
theorem zm6 : yZ TP 24 = some (.agg #[Ii 0, Ii 0]) := by kernel_rfl
theorem zk6 : yZ TP 27 = some (.agg #[Ii 0, .string ⟨#[]⟩, .bool false, Ii 0, Ii 0, Ii 0, .slice none 0 0]) := by kernel_rfl
theorem znr : yZ TP 31 = some (Ii 0) := by kernel_rfl
theorem znC : yZ TP 44 = some (.slice none 0 0) := by kernel_rfl
theorem zc3 : yZ TP 55 = some (.agg #[Ii 0, .string ⟨#[]⟩, .slice none 0 0, .slice none 0 0, .slice none 0 0, Ii 0, .slice none 0 0, .slice none 0 0, .slice none 0 0, .slice none 0 0]) := by kernel_rfl
theorem zh7 : yZ TP 58 = some (.agg #[.slice none 0 0, .slice none 0 0]) := by kernel_rfl
theorem zdP : yZ TP 62 = some (.agg #[Ii 0, Ii 0, .int .u64 0, .string ⟨#[]⟩]) := by kernel_rfl
theorem zhG : yZ TP 79 = some (.agg #[.nilFunc, .nilFunc, .bool false]) := by kernel_rfl
theorem zfB : yZ TP 100 = some (.agg #[Ii 0, .string ⟨#[]⟩, .slice none 0 0, .slice none 0 0, .slice none 0 0, .slice none 0 0, .slice none 0 0, .slice none 0 0]) := by kernel_rfl
theorem zlI : yZ TP 124 = some (.slice none 0 0) := by kernel_rfl
theorem zbY : yZ TP 135 = some (.agg #[.nilFunc, .nilFunc, .nilFunc]) := by kernel_rfl
theorem zlL : yZ TP 163 = some (.agg #[.string ⟨#[]⟩, Ii 0, Ii 0, .bool false]) := by kernel_rfl
theorem zb0 : yZ TP 175 = some (.agg #[.nilFunc, .nilFunc]) := by kernel_rfl
theorem zfr : yZ TP 281 = some (.agg #[.string ⟨#[]⟩, .nilIface]) := by kernel_rfl
theorem zaU : yZ TP 283 = some (.agg #[.nilFunc, Ii 0, .nilFunc]) := by kernel_rfl
theorem zmY : yZ TP 299 = some (.agg #[.pointer none, .pointer none, .int .u64 0]) := by kernel_rfl
theorem zmv : yZ TP 309 = some (.nilFunc) := by kernel_rfl
theorem zl1 : yZ TP 318 = some (.nilIface) := by kernel_rfl
theorem zlM : yZ TP 321 = some (.nilIface) := by kernel_rfl
theorem zno : App TP 25 9 1 16 (.string ⟨#[]⟩) := ⟨z6, sz9, zr9, by as_aux_lemma => kernel_rfl, rfl, by simp [Value.cells, Value.oneCell'], by decide⟩
theorem zcO : App TP 30 55 10 200 (.agg #[Ii 0, .string ⟨#[]⟩, .slice none 0 0, .slice none 0 0, .slice none 0 0, Ii 0, .slice none 0 0, .slice none 0 0, .slice none 0 0, .slice none 0 0]) := ⟨yn, yf, zc3, by as_aux_lemma => kernel_rfl, rfl, by simp [Value.cells, Value.oneCell'], by decide⟩
theorem zdZ : App TP 40 44 1 24 (.slice none 0 0) := ⟨yE, zaz, znC, by as_aux_lemma => kernel_rfl, rfl, by simp [Value.cells, Value.oneCell'], by decide⟩
theorem ziY : App TP 44 62 4 40 (.agg #[Ii 0, Ii 0, .int .u64 0, .string ⟨#[]⟩]) := ⟨yS, yM, zdP, by as_aux_lemma => kernel_rfl, rfl, by simp [Value.cells, Value.oneCell'], by decide⟩
theorem zmu : App TP 49 3 1 8 (Ii 0) := ⟨zec, sz3, zr3, by as_aux_lemma => kernel_rfl, rfl, by simp [Value.cells, Value.oneCell'], by decide⟩
theorem zf2 : App TP 86 5 1 1 (.int .u8 0) := ⟨zd8, sz5, zr5, by as_aux_lemma => kernel_rfl, rfl, by simp [Value.cells, Value.oneCell'], by decide⟩
theorem zeC : App TP 124 135 3 24 (.agg #[.nilFunc, .nilFunc, .nilFunc]) := ⟨ziS, zaJ, zbY, by as_aux_lemma => kernel_rfl, rfl, by simp [Value.cells, Value.oneCell'], by decide⟩
theorem mix : Tryz.prog.follows .mixedOrders = true := by kernel_rfl
end Go.Wk
