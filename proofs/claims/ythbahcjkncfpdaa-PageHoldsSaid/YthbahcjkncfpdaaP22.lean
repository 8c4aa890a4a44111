/-
  The law PageCopies: for every row of calls and every two calls behind, the call returns true, and each argument reads as it did. No condition.
-/
import Derived.Test.YthbahcjkncfpdaaRows
import Derived.Test.YthbahcjkncfpdaaP21
import Derived.ProofKit
import Derived.OpenShut
import Derived.Deep.Slices
namespace Go.Proofs.Ythbahcjkncfpdaa
open Go.ChangeShapes Go.WideShapes Go.ChangeAt Go.RowKit Go.Deep

set_option maxRecDepth 10000

theorem ownT : ownKnob Try.prog.godebug = none := by kernel_rfl
theorem laidOutT : laidOutB Try.prog = true := by kernel_rfl
theorem cells3 : Try.prog.cellsOf 3 = 1 := by kernel_rfl
theorem cells9 : Try.prog.cellsOf 9 = 1 := by kernel_rfl
theorem cells29 : Try.prog.cellsOf 29 = 3 := by kernel_rfl
theorem cells59 : Try.prog.cellsOf 59 = 6 := by kernel_rfl

section
variable {H : Type} {enc : TypeId × Value → H} {W : World} {b : Nat} {sp : Nat → Bool} {hd : Bool}

theorem open_act {n : Nat} {cs : List Value} {x : DataW H × List MemPlace} (h : DataW.trod enc Try.prog W b sp hd n 29 cs = some x) :
    ∃ q : Int × ByteArray × ByteArray, cs = [.int .i64 q.1, .string q.2.1, .string q.2.2] := by
  obtain ⟨xs, m, _, _, hlen, hxl, hf⟩ := DataW.trod_struct Try.underlying29 h
  rw [cells29] at hlen
  match cs, hlen with
  | [c0, c1, c2], _ =>
    have g0 : DataW.trod enc Try.prog W b sp hd m 3 (([c0, c1, c2].drop 0).take (Try.prog.cellsOf 3)) = xs[0]? := hf 0 _ rfl
    have g1 : DataW.trod enc Try.prog W b sp hd m 9 (([c0, c1, c2].drop 1).take (Try.prog.cellsOf 9)) = xs[1]? := hf 1 _ rfl
    have g2 : DataW.trod enc Try.prog W b sp hd m 9 (([c0, c1, c2].drop 2).take (Try.prog.cellsOf 9)) = xs[2]? := hf 2 _ rfl
    rw [cells3] at g0
    rw [cells9] at g1 g2
    have hx3 : xs.length = 3 := hxl
    match xs, hx3 with
    | [y0, y1, y2], _ =>
      have g0 : DataW.trod enc Try.prog W b sp hd m 3 [c0] = some y0 := g0
      have g1 : DataW.trod enc Try.prog W b sp hd m 9 [c1] = some y1 := g1
      have g2 : DataW.trod enc Try.prog W b sp hd m 9 [c2] = some y2 := g2
      obtain ⟨i, e0, _, _⟩ := DataW.trod_int Try.underlying3 g0
      obtain ⟨s, e1, _, _⟩ := DataW.trod_string Try.underlying9 g1
      obtain ⟨t, e2, _, _⟩ := DataW.trod_string Try.underlying9 g2
      simp only [List.cons.injEq, and_true] at e0 e1 e2
      exact ⟨(i, s, t), by rw [e0, e1, e2]⟩

theorem open_acts {v : Value} {d : DataW H} {p : List MemPlace} (hv : ∃ a len cap, v = .slice a len cap) (h : DataW.Trod enc Try.prog W 0 sp hd 22 v d p) : ∃ acts, Wk.IsActs W v acts := by
  obtain ⟨a, len, cap, rfl⟩ := hv
  obtain ⟨fuel, h⟩ := h
  have hc : (Value.slice a len cap).cells.toList = [.slice a len cap] := rfl
  rw [hc] at h
  rcases open_slice Try.underlying22 h with ⟨h0, _⟩ | ⟨a', len', cap', m, n, D, Pl, h0, _, hl, _, hm, _, hx⟩
  · simp only [List.cons.injEq, Value.slice.injEq, and_true] at h0
    obtain ⟨rfl, rfl, rfl⟩ := h0
    exact ⟨[], none, 0, rfl, fun i x hi => by simp at hi⟩
  · simp only [List.cons.injEq, Value.slice.injEq, and_true] at h0
    obtain ⟨rfl, rfl, rfl⟩ := h0
    have hlm : len ≤ m := by rw [hm]; split <;> omega
    rcases Nat.eq_zero_or_pos len with hz | hpos
    · subst hz
      exact ⟨[], some a', cap, rfl, fun i x hi => by simp at hi⟩
    have hs : a'.spot = none := by
      obtain ⟨cs, h1, h2⟩ := hx 0 (by omega)
      rw [cells29] at h1
      obtain ⟨_, hl3, hcell⟩ := World.cells?_some h1
      have h3 := hcell 0 (by omega)
      have h4 : cs[0]? = some (cs[0]'(by omega)) := by simp
      rw [h4] at h3
      simpa [Addr.add] using World.cell?_spot h3
    obtain ⟨bb, oo, ss⟩ := a'
    dsimp only at hs
    subst hs
    have each : ∀ i, i < len → ∃ q : Int × ByteArray × ByteArray, Wk.Cells W bb (oo + i * 3) [.int .i64 q.1, .string q.2.1, .string q.2.2] := by
      intro i hi
      obtain ⟨cs, h1, h2⟩ := hx i (by omega)
      rw [cells29, Addr.add_lit] at h1
      obtain ⟨_, _, hcell⟩ := World.cells?_some h1
      obtain ⟨q, rfl⟩ := open_act h2
      refine ⟨q, fun j u hj => ?_⟩
      have hj3 : j < 3 := by
        have := (List.getElem?_eq_some_iff.1 hj).1
        simpa using this
      have h3 := hcell j hj3
      rw [hj, Addr.add_lit] at h3
      exact h3
    obtain ⟨q, hq⟩ := choose_lt each
    refine ⟨(List.range len).map q, some ⟨bb, oo, none⟩, cap, by simp, fun i x hi => ?_⟩
    rw [List.getElem?_map] at hi
    have hil : i < len := by
      rcases Nat.lt_or_ge i len with h' | h'
      · exact h'
      · rw [List.getElem?_eq_none (by simpa using h')] at hi
        cases hi
    rw [List.getElem?_range hil] at hi
    simp only [Option.map_some, Option.some.injEq] at hi
    subst hi
    exact ⟨bb, oo, rfl, hq i hil⟩

theorem open_two {v : Value} {d : DataW H} {p : List MemPlace} (hv : ∃ cs : Array Value, v = .agg cs) (h : DataW.Trod enc Try.prog W 0 sp hd 59 v d p) :
    ∃ x0 x1 : Int × ByteArray × ByteArray, v = .agg #[.int .i64 x0.1, .string x0.2.1, .string x0.2.2, .int .i64 x1.1, .string x1.2.1, .string x1.2.2] := by
  obtain ⟨cs, rfl⟩ := hv
  obtain ⟨fuel, h⟩ := h
  have hc : (Value.agg cs).cells.toList = cs.toList := rfl
  rw [hc] at h
  obtain ⟨xs, m, _, _, hlen, hxl, hf⟩ := DataW.trod_array Try.underlying59 h
  rw [cells59] at hlen
  obtain ⟨l⟩ := cs
  dsimp only at hlen hf
  match l, hlen with
  | [c0, c1, c2, c3, c4, c5], _ =>
    have g0 : DataW.trod enc Try.prog W 0 sp hd m 29 (([c0, c1, c2, c3, c4, c5].drop (0 * Try.prog.cellsOf 29)).take (Try.prog.cellsOf 29)) = xs[0]? := hf 0 (by omega)
    have g1 : DataW.trod enc Try.prog W 0 sp hd m 29 (([c0, c1, c2, c3, c4, c5].drop (1 * Try.prog.cellsOf 29)).take (Try.prog.cellsOf 29)) = xs[1]? := hf 1 (by omega)
    rw [cells29] at g0 g1
    match xs, hxl with
    | [y0, y1], _ =>
      have g0 : DataW.trod enc Try.prog W 0 sp hd m 29 [c0, c1, c2] = some y0 := g0
      have g1 : DataW.trod enc Try.prog W 0 sp hd m 29 [c3, c4, c5] = some y1 := g1
      obtain ⟨q0, e0⟩ := open_act g0
      obtain ⟨q1, e1⟩ := open_act g1
      simp only [List.cons.injEq, and_true] at e0 e1
      obtain ⟨rfl, rfl, rfl⟩ := e0
      obtain ⟨rfl, rfl, rfl⟩ := e1
      exact ⟨q0, q1, rfl⟩
end

set_option maxRecDepth 100000 in
theorem pageCopies_lifted (os : Os) (started : os.Started) (H : Type) (enc : TypeId × Value → H) :
    ReturnsInHanded {} Try.checked os 6 .any (Rows.pageCopiesSpec.pre6 enc Try.prog Try.f6 Rows.pageCopiesRow.domain false) (Rows.pageCopiesSpec.post enc Try.prog Try.f6 false true false false) := by
  refine returnsInHanded_of_change (C := Try.checked) ownT started (by kernel_rfl) Try.func6
    (ChangeSpec.witness6 (enc := enc) (C := Try.checked) false ⟨#[], #[.slice none 0 0, .agg #[.int .i64 0, .string ⟨#[]⟩, .string ⟨#[]⟩, .int .i64 0, .string ⟨#[]⟩, .string ⟨#[]⟩]], []⟩ 8 (by kernel_rfl) (by kernel_rfl) (by kernel_rfl) (by kernel_rfl)) ?_
  intro W base args ds gs before hval0 hW _ _
  have hval : ∀ (j : Nat) t v, Try.f6.params[j]? = some t → args[j]? = some v → Value.okWide Try.prog W .any base t v := hval0
  have hW' := hW
  obtain ⟨p, q, hA0, hV, rfl, hfz, hnd⟩ := hW
  have hA : DataW.TrodAll enc Try.prog W 0 (fun _ => true) true Try.f6.params.toList args.toList ds p := hA0
  rw [Try.params6] at hA hval
  obtain ⟨v0, v1, d0, d1, p0, p1, rfl, rfl, rfl, h0, h1⟩ := trodAll_two hA
  obtain ⟨rfl, rfl⟩ := trodVars_none hV
  clear hA0 hval0
  simp only [List.append_nil] at hW'
  have hlt : ∀ x ∈ p0 ++ p1, x.block < W.heap.size := fun x hx => by simpa using hW'.lt x hx
  obtain ⟨acts, ha⟩ := open_acts (okWide_slice Try.underlying22 (hval 0 22 v0 rfl rfl)) h0
  have hagg : ∃ cs : Array Value, v1 = .agg cs := by
    have h := hval 1 59 v1 rfl rfl
    simp only [Value.okWide, Try.underlying59] at h
    obtain ⟨cs, e, _⟩ := h
    exact ⟨cs, e⟩
  obtain ⟨x0, x1, rfl⟩ := open_two hagg h1
  refine Calls.mono (Wk.f6 v0 acts x0 x1 W ha) fun e W' hh => ?_
  obtain ⟨r, he, hr, hc⟩ := hh
  subst he
  subst hr
  have hb : Below W.heap.size W W' := hc.below
  refine ⟨_, rfl, _, _, _, [], p0 ++ p1, [], hW', trodAll_mk1 (shut_bool Try.underlying4 _), ?_, rfl, hb.frame _, fun h => by cases h⟩
  exact trodAll_mk2 (Below.trod laidOutT (by kernel_rfl) (of_decide_eq_true (by kernel_rfl)) h0 hb (fun x hx => hlt x (List.mem_append.2 (.inl hx)))) (Below.trod laidOutT (by kernel_rfl) (of_decide_eq_true (by kernel_rfl)) h1 hb (fun x hx => hlt x (List.mem_append.2 (.inr hx))))

theorem pageCopies_holds : Rows.PageCopiesSaid :=
  OpenClaim.holds_of_wide 6 Try.f6 rfl rfl rfl rfl rfl rfl rfl ⟨rfl, rfl, rfl, rfl, rfl⟩ rfl rfl rfl rfl rfl (by kernel_rfl) Try.func6 (by kernel_rfl)
    (of_decide_eq_true (by kernel_rfl)) (by unfold Func.isWrapper; first | (rw [if_pos (by decide +kernel)]; kernel_rfl) | (rw [if_neg (by decide +kernel)]; exact ⟨rfl, rfl⟩))
    (fun os started H enc _ => pageCopies_lifted os started H enc)
end Go.Proofs.Ythbahcjkncfpdaa

