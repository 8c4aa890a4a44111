/-
  A range over a function, whose body is walked once.
-/
import Derived.Test.YthbahcjkncfpdaaEngX
namespace Go.Wk

/-- What a round keeps: what lay ahead of the loop, but for the boxes that the body writes. -/
def Kp (S : List Nat) (B : Nat) (W W' : World) : Prop := W.heap.size ≤ W'.heap.size ∧ ∀ k, k < B → k ∉ S → W'.heap[k]? = W.heap[k]?
theorem Kp.trans {S : List Nat} {B : Nat} {W1 W2 W3 : World} (h : Kp S B W1 W2) (k : Kp S B W2 W3) : Kp S B W1 W3 := ⟨Nat.le_trans h.1 k.1, fun i hi hs => (k.2 i hi hs).trans (h.2 i hi hs)⟩

/-- How a round may end. -/
def postR {α : Type} (S0 : List Nat) (I : List α → World → Prop) (Ix : Code → List α → World → Prop) (xs : List α) (W : World) : Exit → Fr → World → Prop
  | .normal, _, W' => Chg S0 W W' ∧ I xs W'
  | .ret, _, W' => Chg S0 W W' ∧ Ix .ret xs W'
  | .exit id, _, W' => Chg S0 W W' ∧ Ix (.exit id) xs W'
  | _, _, _ => False

section
variable {P : Program} {n : Nat} {Q : Exit → Fr → World → Prop} {F : Fr} {w : World}
theorem W_range {α : Type} {g : Operand} {ps : Array Tmp} {assign body : Code} {gf : FuncId} {lb : List Value} {encs : α → Array Value} {S Sp : List α → Prop} {N : Nat} (S0 : List Nat) (I : List α → World → Prop) (Ix : Code → List α → World → Prop) (F1 Fx : α → Fr)
    (hg : ev F g = some (.func (.func gf) #[] lb.toArray)) (hb : bodied P gf = true) (hS0 : ∀ b ∈ S0, b < w.heap.size)
    (hseq : SeqStopsK Fence.wide 2 P gf lb.toArray encs (Kp S0 w.heap.size) S Sp N w) (hps : ∀ x, (encs x).size = ps.size)
    (hI : ∀ pre W W' T, (∀ b ∈ T, w.heap.size ≤ b) → Chg T W W' → I pre W → I pre W') (hIx : ∀ c pre W W' T, (∀ b ∈ T, w.heap.size ≤ b) → Chg T W W' → Ix c pre W → Ix c pre W') (h0 : I [] w) (hsz : ∀ pre W, I pre W → w.heap.size ≤ W.heap.size)
    (hF1 : ∀ x a, Rep n F a → Rep n (F1 x) { tmps := (ps.zip (encs x)).foldl (fun t (p, v) => t.setIfInBounds p v) a.tmps, defers := [] })
    (hasg : ∀ l x W, WX (some l) P n assign (fun e F' W' => e = .normal ∧ F' = Fx x ∧ W' = W) (F1 x) W)
    (hbody : ∀ l pre x W, I pre W → pre.length < N → WX (some l) P n body (postR S0 I Ix (pre ++ [x]) W) (Fx x) W)
    (hdone : ∀ (D : Nat) (xs : List α) (W : World), w.heap.size ≤ D → S xs → I xs W → W.heap[D]? = some (.deferred (some [])) → Q .normal ((1000000, .int .i64 D) :: F) W)
    (hstop : ∀ (D : Nat) (c : Code) (pre : List α) (W' : World), w.heap.size ≤ D → Sp pre → Ix c pre W' → W'.heap[D]? = some (.deferred (some [])) → W P n c Q ((1000000, .int .i64 D) :: F) W') :
    W P n (.rangeFunc g ps assign body) Q F w := by
  intro a ha
  refine (wpIn_wide (n := 3)).1 ?_
  have eg : ∀ (args : Array Value) (w : World), (callFunc gf args).run P w = .ok (.enter gf args) w := by
    intro args w
    unfold bodied at hb
    split at hb
    · rename_i fn hfn
      simp only [Bool.and_eq_true, Bool.not_eq_true'] at hb
      have h1 : ¬ fn.body = none := by cases hx : fn.body <;> simp_all
      have h2 : ¬ fn.name = "runtime.NumGoroutine" := by simpa using hb.2
      simp [callFunc, hfn, h1, h2]
    · simp at hb
  have toChg : ∀ {W W' : World} {row : Option Nat}, W.grownBy W' row → Chg row.toList W W' := fun hg => ⟨hg.os, hg.tape, hg.output, hg.size, fun k hk hn => hg.block k hk (fun e => hn (by rw [← e]; simp))⟩
  have rowOk : ∀ {row : Option Nat} {W : World}, (∀ r, row = some r → w.heap.size ≤ r ∧ ∃ o : Obj, W.heap[r]? = some o ∧ o.isCells = false) → ∀ b ∈ row.toList, w.heap.size ≤ b := by
    intro row W hr b hb
    cases row with
    | none => simp at hb
    | some r => simp at hb; subst hb; exact (hr _ rfl).1
  have kf : ∀ {W W' : World}, Chg S0 W W' → KeepsFrom w.heap.size W W' := fun hc => ⟨hc.size, fun k o hB hk _ => (hc.block k (Array.getElem?_eq_some_iff.1 hk).1 (fun hm => by have := hS0 k hm; omega)).trans hk⟩
  refine wpIn_rangeFunc_ownH (F := Fence.wide) (n := 3) rfl (by omega) (gf := gf) (lb := lb.toArray) (ha.eval hg) trivial eg hseq
    (fun h k => Kp.trans h k) ?_ (Go.RowKit.Below.refl _ _) hps I Ix ?_ ?_ h0 (fun x a' _ => Rep n (Fx x) a') (fun _ _ _ _ _ _ hs _ _ => hs) ?_ ?_ ?_ ?_
  · intro W l o o' hl _ _ _
    exact ⟨by simp [World.putObj], fun k hk _ => World.putObj_heap_other (by omega)⟩
  · intro s W W' row hs hgr hr
    exact hI s W W' _ (rowOk hr) (toChg hgr) hs
  · intro c s W W' row hs hgr hr
    exact hIx c s W W' _ (rowOk hr) (toChg hgr) hs
  · intro l pre x W K hi hK
    refine wpIn_mono (hasg l x W _ (hF1 x a ha)) ?_
    rintro e a' W' ⟨F', hr, rfl, rfl, rfl⟩
    exact hK a' W' (KeepsFrom.refl _ _) ⟨Nat.le_refl _, fun _ _ _ => rfl⟩ hi hr
  · intro l pre x a' W _ _ hi hA hlen
    refine wpIn_mono (hbody l pre x W hi hlen _ hA) ?_
    rintro e a1 W' ⟨F', hr, hq⟩
    cases e <;> simp only [postR] at hq
    case normal => exact ⟨kf hq.1, ⟨hq.1.size, fun k hk hs => by
      rcases Nat.lt_or_ge k W.heap.size with h' | h'
      · exact hq.1.block k h' hs
      · have := hsz pre W hi; omega⟩, hq.2⟩
    case ret => exact ⟨kf hq.1, hq.2⟩
    case exit id => exact ⟨kf hq.1, hq.2⟩
  · intro D xs W hD hS hi hK
    exact ⟨_, ha.mark D, hdone D xs W hD hS hi hK⟩
  · intro D c pre W' hD hS hi hK
    exact wpIn_wide.2 (hstop D c pre W' hD hS hi hK _ (ha.mark D))
end
end Go.Wk
