/-
  Results that lie in cells; '==' of structs of texts; more of rows of slices.
-/
import Derived.Test.YthbahcjkncfpdaaEngG
import Derived.Laws.StructEq
namespace Go.Wk

section
variable {P : Program} {fn : Func} {R : Value → World → Prop} {n : Nat} {F : Fr} {w : World}
/-- A result of a struct that lies in a cell. -/
theorem retC {t ty k b off : Nat} {cs : List Value} (hr : fn.results = #[.cell t ty]) (hag : agOf P ty = some true) (hk : szOf P ty = some k) (hv : get F t = some (.pointer (some ⟨b, off, none⟩))) (hl : cs.length = k) (hc : Cells w b off cs) (h : R (.agg cs.toArray) w) (hm : marks F = [] := by rfl) : retF P fn R n .ret F w := by
  refine ⟨_, fun a ha => ?_, hm, h⟩
  subst hl
  have h1 : (loadCells ⟨b, off, none⟩ cs.length).run P w = .ok cs.toArray w := run_loadCells_list w ⟨b, off, none⟩ cs (fun j v hv => by rw [Addr.add_lit]; exact hc j v hv)
  simp [results, hr, ha.get t _ hv, asAddr, loadVar, run_isAgg hag, run_sizeOf hk, h1]
theorem ret3C {t u s ty k b off : Nat} {v y : Value} {cs : List Value} (hr : fn.results = #[.tmp t, .cell u ty, .tmp s]) (hag : agOf P ty = some true) (hk : szOf P ty = some k) (hv : get F t = some v) (hu : get F u = some (.pointer (some ⟨b, off, none⟩))) (hy : get F s = some y) (hl : cs.length = k) (hc : Cells w b off cs)
    (h : R (.tuple #[v, .agg cs.toArray, y]) w) (hm : marks F = [] := by rfl) : retF P fn R n .ret F w := by
  refine ⟨.tuple #[v, .agg cs.toArray, y], fun a ha => ?_, hm, h⟩
  subst hl
  have h1 : (loadCells ⟨b, off, none⟩ cs.length).run P w = .ok cs.toArray w := run_loadCells_list w ⟨b, off, none⟩ cs (fun j v hv => by rw [Addr.add_lit]; exact hc j v hv)
  simp [results, hr, ha.get t _ hv, ha.get u _ hu, ha.get s _ hy, asAddr, loadVar, run_isAgg hag, run_sizeOf hk, h1]
end

/-- A struct of two texts? -/
def two9 (P : Program) (t : TypeId) : Bool :=
  match P.underlying t with
  | some (.struct fs) => !P.stoodInHeld t && !P.eqGuardType P.depth t && (match fs.toList with
    | [f, g] => stOf P f.type && stOf P g.type && Nat.beq f.offset 0 && Nat.beq g.offset 1 && decide (f.name ≠ "_") && decide (g.name ≠ "_") && (agOf P f.type == some false) && (agOf P g.type == some false)
    | _ => false)
  | _ => false
theorem stOf_und {P : Program} {t : TypeId} (h : stOf P t = true) : P.underlying t = some .string := by unfold stOf at h; split at h <;> simp_all

section
variable {P : Program} {n : Nat} {F : Fr} {w : World} {dst : Option Tmp} {ty : TypeId} {pos : String} {af : Array Edge} {gd : Option (Nat × Bool)}
theorem vl_ne2 {x y : Operand} {t u : TypeId} {a b c d : ByteArray} (h2 : two9 P t = true) (hx : ev F x = some (.agg #[.string a, .string b])) (hy : ev F y = some (.agg #[.string c, .string d])) :
    Vl P n F ⟨dst, .binOp .neq t x y u, ty, pos, af, gd⟩ w (.bool (!(decide (a = c) && decide (b = d)))) w := by
  intro ac ha
  unfold two9 at h2
  split at h2
  · rename_i fs hu
    simp only [Bool.and_eq_true, Bool.not_eq_true'] at h2
    obtain ⟨⟨hs, hg⟩, h2⟩ := h2
    split at h2
    · rename_i f g hfs
      simp only [Bool.and_eq_true, decide_eq_true_eq, beq_iff_eq] at h2
      obtain ⟨⟨⟨⟨⟨⟨⟨hf, hgs⟩, hf0⟩, hg1⟩, hfn⟩, hgn⟩, haf⟩, hag⟩ := h2
      have ef : f.offset = 0 := Nat.eq_of_beq_eq_true hf0
      have eg : g.offset = 1 := Nat.eq_of_beq_eq_true hg1
      have hfo : P.fieldsOf t = fs := by simp [Program.fieldsOf, hu]
      have hsf := stOf_und hf
      have hsg := stOf_und hgs
      have pf : ∀ (vs : Array Value) (v : Value), vs[0]? = some v → (part f.type vs 0).run P w = .ok v w := by
        intro vs v hv
        simp [part, run_isAgg haf, hv]
      have pg : ∀ (vs : Array Value) (v : Value), vs[1]? = some v → (part g.type vs 1).run P w = .ok v w := by
        intro vs v hv
        simp [part, run_isAgg hag, hv]
      have e1 : (Op.equalIn 10000 t (.agg #[.string a, .string b]) (.agg #[.string c, .string d])).run P w = .ok (decide (a = c) && decide (b = d)) w := by
        rw [run_equalIn_agg w 9999 t _ _ (by rw [hfo]; exact hu) hs, hfo, hfs]
        have p1 := pf #[.string a, .string b] (.string a) rfl
        have p2 := pf #[.string c, .string d] (.string c) rfl
        have p3 := pg #[.string a, .string b] (.string b) rfl
        have p4 := pg #[.string c, .string d] (.string d) rfl
        have q1 := run_equalIn_string (P := P) w 9998 f.type a c hsf
        have q2 := run_equalIn_string (P := P) w 9998 g.type b d hsg
        rw [toList_beq] at q1 q2
        by_cases h1 : a = c <;> by_cases h2 : b = d <;> simp only [Op.eqFields, ef, eg, hfn, hgn, Sem.run_bind, p1, p2, p3, p4, Result.andThen_ok, q1, q2, Sem.run_ite, Sem.run_pure, ne_eq, not_false_eq_true, if_true] <;> simp [h1, h2]
      simp only [execOp, ha.eval hx, ha.eval hy, Sem.run_bind, run_eqGuard_agg w _ _ _ _ _ _ hg, Result.andThen_ok, run_neq_struct, e1]
      simp
    · simp at h2
  · simp at h2
end

theorem AllS.append {w : World} {e k : Nat} : ∀ {us vs : List Value} {xs ys : List (List Value)}, AllS w e k us xs → AllS w e k vs ys → AllS w e k (us ++ vs) (xs ++ ys)
  | [], _, [], _, _, h => h
  | _ :: _, _, _ :: _, _, h, h' => ⟨h.1, h.2.append h'⟩
theorem AllS.take {w : World} {e k : Nat} : ∀ {us : List Value} {xs : List (List Value)} (i : Nat), AllS w e k us xs → AllS w e k (us.take i) (xs.take i)
  | _, _, 0, _ => by simp [AllS]
  | [], [], _ + 1, _ => by simp [AllS]
  | _ :: _, _ :: _, i + 1, h => ⟨h.1, h.2.take i⟩
theorem AllS.drop {w : World} {e k : Nat} : ∀ {us : List Value} {xs : List (List Value)} (i : Nat), AllS w e k us xs → AllS w e k (us.drop i) (xs.drop i)
  | _, _, 0, h => h
  | [], [], _ + 1, _ => by simp [AllS]
  | _ :: _, _ :: _, i + 1, h => by simpa using h.2.drop i
theorem AllS.chg {S : List Nat} {w w' : World} {e k : Nat} (hc : Chg S w w') : ∀ {us : List Value} {xs : List (List Value)}, (∀ v ∈ us, ∀ b ∈ blkOf v, b ∉ S) → AllS w e k us xs → AllS w' e k us xs
  | [], [], _, _ => trivial
  | v :: vs, l :: ls, hb, h => ⟨h.1.chg hc (hb v (by simp)), AllS.chg hc (fun u hu => hb u (by simp [hu])) h.2⟩
theorem AllS.lt {w : World} {e k : Nat} : ∀ {us : List Value} {xs : List (List Value)}, AllS w e k us xs → ∀ v ∈ us, ∀ x ∈ blkOf v, x < w.heap.size
  | [], [], h, v, hv => by simp at hv
  | v :: vs, l :: ls, h, u, hu => by
    rcases List.mem_cons.1 hu with rfl | hu
    · exact IsSl.lt h.1
    · exact AllS.lt h.2 u hu
theorem AllS.one {w : World} {e k : Nat} : ∀ {us : List Value} {xs : List (List Value)}, AllS w e k us xs → ∀ u ∈ us, u.oneCell' = true
  | [], [], h, v, hv => by simp at hv
  | v :: vs, l :: ls, h, u, hu => by
    rcases List.mem_cons.1 hu with rfl | hu
    · exact IsSl.one1 h.1
    · exact AllS.one h.2 u hu
theorem IsSl.ltn {w w' : World} {e k len : Nat} {v : Value} {xs : List Value} (h : IsSl w e k v len xs) (hn : w.heap.size ≤ w'.heap.size) : ∀ b ∈ blkOf v, b < w'.heap.size := fun b hb => Nat.lt_of_lt_of_le (h.lt b hb) hn
theorem IsSl.apartSl {w : World} {e k len e' k' len' : Nat} {u v : Value} {xs ys : List Value} (h : IsSl w e k u len xs) (hv : IsSl w e' k' v len' ys) (hne : Nat.beq e e' = false) : ∀ x ∈ blkOf u, x ∉ blkOf v := by
  rcases hv with ⟨rfl, _, _⟩ | ⟨b, off, cap, c, rfl, hs⟩
  · simp [blkOf]
  · have := h.apart hs.blk hne
    simpa [blkOf] using this
theorem AllS.apartSl {w : World} {e k e' k' len' : Nat} {v : Value} {ys : List Value} (hv : IsSl w e' k' v len' ys) (hne : Nat.beq e e' = false) : ∀ {us : List Value} {xs : List (List Value)}, AllS w e k us xs → ∀ u ∈ us, ∀ x ∈ blkOf u, x ∉ blkOf v
  | [], [], h, u, hu => by simp at hu
  | u :: us, x :: xs, h, u', hu => by
    rcases List.mem_cons.1 hu with rfl | hu
    · exact h.1.apartSl hv hne
    · exact AllS.apartSl hv hne h.2 u' hu

theorem fresh_of {v v' : Value} {w : World} (ho : blkOf v' = blkOf v ∨ ∃ b, blkOf v' = [b] ∧ w.heap.size ≤ b) {s : Nat} (hf : ∀ b ∈ blkOf v, s ≤ b) (hs : s ≤ w.heap.size) : ∀ b ∈ blkOf v', s ≤ b := by
  rcases ho with ho | ⟨b, ho, hb⟩
  · rw [ho]; exact hf
  · rw [ho]; intro x hx; simp at hx; subst hx; omega

theorem Chg.cell {w w' : World} (h : Chg [] w w') {a : Addr} {v : Value} (hc : w.cell? a = some v) : w'.cell? a = some v := by
  have hl : a.block < w.heap.size := by
    rcases Nat.lt_or_ge a.block w.heap.size with h' | h'
    · exact h'
    · have hn : w.heap[a.block]? = none := Array.getElem?_eq_none h'
      unfold World.cell? at hc
      rw [hn] at hc
      cases hc
  have hb := h.block a.block hl (by simp)
  unfold World.cell? at hc ⊢
  rw [hb]
  exact hc
theorem Cells.chg0 {w w' : World} {b off : Nat} {cs : List Value} (hc : Cells w b off cs) (h : Chg [] w w') : Cells w' b off cs := fun j u hj => h.cell (hc j u hj)

/-- Rows of texts. -/
def IsKeys (w : World) (s t : TypeId) (v : Value) (kss : List (List ByteArray)) : Prop := ∃ us, IsSl w s 1 v kss.length us ∧ AllS w t 1 us (kss.map fun l => l.map Value.string)
theorem IsKeys.chg0 {w w' : World} {s t : TypeId} {v : Value} {kss : List (List ByteArray)} (h : IsKeys w s t v kss) (hc : Chg [] w w') : IsKeys w' s t v kss :=
  let ⟨us, h1, h2⟩ := h; ⟨us, h1.chg0 hc, h2.chg0 hc⟩
theorem IsKeys.at {w : World} {s t : TypeId} {v : Value} {kss : List (List ByteArray)} (h : IsKeys w s t v kss) {i : Nat} {l : List ByteArray} (hi : kss[i]? = some l) :
    ∃ b off cap p c, v = .slice (some ⟨b, off, none⟩) kss.length cap ∧ w.cell? ⟨b, off + i * 1, none⟩ = some (.slice p l.length c) ∧ IsSl w t 1 (.slice p l.length c) l.length (l.map Value.string) := by
  obtain ⟨us, h1, h2⟩ := h
  obtain ⟨b, off, cap, u, hv, hu, hc⟩ := h1.at1 (List.getElem?_eq_some_iff.1 hi).1
  obtain ⟨u', hu', hl⟩ := h2.at (show (kss.map fun l => l.map Value.string)[i]? = some (l.map Value.string) by rw [List.getElem?_map, hi]; rfl)
  rw [hu] at hu'
  simp only [Option.some.injEq] at hu'
  subst hu'
  have e : (l.map Value.string).length / 1 = l.length := by simp
  rw [e] at hl
  obtain ⟨p, c, rfl, _⟩ := hl.val
  exact ⟨b, off, cap, p, c, hv, hc, hl⟩
end Go.Wk
