/-
  A range over a function whose iterator hands over memory of its own: what is told of each thing at its round, and of all behind the loop.
  Pieces of arrays; a region of free order within a round.
  Structs of which some fields are named.
  Results in temporaries, behind a range over a function.
  A quick reckoning of which operations of a region stand behind which.
  Short forms of the walk's steps, for texts that are handed in.
  Slices that are read alone, of cells in whatever block: what is handed in.
  Closed facts of the program: types, sizes, bodies. Written by a program.
  Contracts of the functions that look for a key.
  The binary searches.
-/
import Derived.Test.YtcnkdoecfljnlaaGreatDoorQ3
import Derived.RangeFuncRecord
import Derived.OrdersIn
import Derived.Test.YtcnkdoecfljnlaaGreatDoorProg
set_option linter.all false
namespace Go.Wk

/-- A turn of book-keeping: new blocks, and objects from B on that are no cells. -/
def Bk (B : Nat) (W W' : World) : Prop := ∃ T, (∀ b ∈ T, B ≤ b ∧ ∃ o : Obj, W.heap[b]? = some o ∧ o.isCells = false) ∧ Chg T W W'
def isIter : Obj → Bool
  | .mapIter .. => true
  | _ => false
/-- .. of the loop's own objects alone. -/
def BkL (B : Nat) (W W' : World) : Prop := ∃ T, (∀ b ∈ T, B ≤ b ∧ ∃ o : Obj, W.heap[b]? = some o ∧ o.isCells = false ∧ isIter o = false) ∧ Chg T W W'
theorem BkL.bk {B : Nat} {W W' : World} (h : BkL B W W') : Bk B W W' :=
  let ⟨T, hT, hc⟩ := h; ⟨T, fun b hb => let ⟨h1, o, h2, h3, _⟩ := hT b hb; ⟨h1, o, h2, h3⟩, hc⟩
theorem Blk.bk {B : Nat} {W W' : World} {b : Nat} {e : TypeId} {c : List Value} (h : Blk W b e c) (hk : Bk B W W') : Blk W' b e c := by
  obtain ⟨T, hT, hc⟩ := hk
  refine h.chg hc fun hm => ?_
  obtain ⟨_, o, ho, hn⟩ := hT b hm
  rw [show W.heap[b]? = _ from h] at ho
  cases ho; cases hn
theorem IsSl.bk {B : Nat} {W W' : World} {e k : Nat} {v : Value} {len : Nat} {xs : List Value} (h : IsSl W e k v len xs) (hk : Bk B W W') : IsSl W' e k v len xs := by
  obtain ⟨T, hT, hc⟩ := hk
  refine h.chg hc fun b hb hm => ?_
  rcases h with ⟨rfl, _, _⟩ | ⟨b', off, cap, c, rfl, hs⟩
  · simp [blkOf] at hb
  · simp [blkOf] at hb
    subst hb
    obtain ⟨_, o, ho, hn⟩ := hT b hm
    have := hs.blk
    rw [show W.heap[b]? = _ from this] at ho
    cases ho; cases hn
theorem Chg.bk {S : List Nat} {B : Nat} {w W W' : World} (h : Chg S w W) (hB : w.heap.size ≤ B) (hk : Bk B W W') : Chg S w W' := by
  obtain ⟨T, hT, hc⟩ := hk
  exact h.trans' hc fun b hb => .inr (Nat.le_trans hB (hT b hb).1)
/-- What a round keeps. -/
structure Kr (S : List Nat) (keep : TypeId → Bool) (B : Nat) (W W' : World) : Prop where
  size : W.heap.size ≤ W'.heap.size
  low : ∀ k, k < B → k ∉ S → W'.heap[k]? = W.heap[k]?
  cells : ∀ (k : Nat) b e f, W.heap[k]? = some (Obj.cells b e f) → keep e = true → W'.heap[k]? = some (Obj.cells b e f)
  iters : ∀ (k : Nat) (o : Obj), B ≤ k → W.heap[k]? = some o → isIter o = true → W'.heap[k]? = some o
theorem Kr.refl (S : List Nat) (keep : TypeId → Bool) (B : Nat) (W : World) : Kr S keep B W W := ⟨Nat.le_refl _, fun _ _ _ => rfl, fun _ _ _ _ h _ => h, fun _ _ _ h _ => h⟩
theorem Kr.trans {S : List Nat} {keep : TypeId → Bool} {B : Nat} {W1 W2 W3 : World} (h : Kr S keep B W1 W2) (k : Kr S keep B W2 W3) : Kr S keep B W1 W3 :=
  ⟨Nat.le_trans h.size k.size, fun i hi hs => (k.low i hi hs).trans (h.low i hi hs), fun i b e f hi he => k.cells i b e f (h.cells i b e f hi he) he, fun i o hB hi ho => k.iters i o hB (h.iters i o hB hi ho) ho⟩
theorem Kr.kp {S : List Nat} {keep : TypeId → Bool} {B : Nat} {W1 W2 : World} (h : Kr S keep B W1 W2) : Kp S B W1 W2 := ⟨h.size, h.low⟩
theorem Kr.bk {S : List Nat} {keep : TypeId → Bool} {B : Nat} {W W' : World} (hk : BkL B W W') (hs : B ≤ W.heap.size) : Kr S keep B W W' := by
  obtain ⟨T, hT, hc⟩ := hk
  refine ⟨hc.size, fun k hk _ => hc.block k (by omega) (fun hm => by have := (hT k hm).1; omega), fun k b e f h _ => ?_, fun k o _ h ho => ?_⟩
  · refine (hc.block k (Array.getElem?_eq_some_iff.1 h).1 fun hm => ?_).trans h
    obtain ⟨_, o, ho, hn, _⟩ := hT k hm
    rw [h] at ho
    cases ho; cases hn
  · refine (hc.block k (Array.getElem?_eq_some_iff.1 h).1 fun hm => ?_).trans h
    obtain ⟨_, o', ho', _, hn⟩ := hT k hm
    rw [h] at ho'
    cases ho'
    rw [ho] at hn; cases hn
theorem Kr.chg {S T : List Nat} {keep : TypeId → Bool} {B : Nat} {W W' : World} (hc : Chg T W W') (hB : B ≤ W.heap.size) (hT : ∀ b ∈ T, (b ∈ S ∨ B ≤ b) ∧ ∃ e c, Blk W b e c ∧ keep e = false) : Kr S keep B W W' := by
  refine ⟨hc.size, fun k hk hs => hc.block k (by omega) (fun hm => by rcases (hT k hm).1 with h | h; exact hs h; omega), fun k b e f h he => ?_, fun k o _ h ho => ?_⟩
  · refine (hc.block k (Array.getElem?_eq_some_iff.1 h).1 fun hm => ?_).trans h
    obtain ⟨_, e', c, hb, hke⟩ := hT k hm
    rw [show W.heap[k]? = _ from hb] at h
    cases h
    rw [he] at hke; cases hke
  · refine (hc.block k (Array.getElem?_eq_some_iff.1 h).1 fun hm => ?_).trans h
    obtain ⟨_, e', c, hb, hke⟩ := hT k hm
    rw [show W.heap[k]? = _ from hb] at h
    cases h
    cases ho

/-- An iterator: Rel is told of a thing when it is handed over, Done of all behind. -/
def SeqR {α : Type} (P : Program) (g : Nat) (lb : Array Value) (encs : α → Array Value) (S0 : List Nat) (keep : TypeId → Bool) (Rel : α → World → Prop) (Done Part : List α → World → Prop) (N : Nat) (w : World) : Prop :=
  ∀ (l : Nat) (J Jx : List α → World → Prop) (W : World), Chg [] w W → AbidesFrom W.heap.size J → AbidesFrom W.heap.size Jx →
    (∀ pre x W1, J pre W1 → Rel x W1 → pre.length < N → YieldAt Fence.wide 1 P l (encs x) W1 fun e W' =>
      (e = .returned (.bool true) ∧ J (pre ++ [x]) W' ∧ Kr S0 keep w.heap.size W1 W') ∨ (e = .returned (.bool false) ∧ Jx (pre ++ [x]) W')) →
    J [] W →
    CallsIn Fence.wide 2 P g (#[.func (.yield l) #[] #[]] ++ lb) W fun e W' => (∃ v, e = .returned v) ∧ ((∃ xs, Done xs W' ∧ J xs W') ∨ (∃ pre, Part pre W' ∧ Jx pre W'))
theorem SeqR.of_K {α : Type} {P : Program} {g : Nat} {lb : Array Value} {encs : α → Array Value} {S0 : List Nat} {S Sp : List α → Prop} {N : Nat} {w : World} (h : SeqStopsK Fence.wide 2 P g lb encs (Kp S0 w.heap.size) S Sp N w) (keep : TypeId → Bool) :
    SeqR P g lb encs S0 keep (fun _ _ => True) (fun xs _ => S xs) (fun xs _ => Sp xs) N w := by
  intro l J Jx W hc hJ hJx hY h0
  refine h l J Jx W hc.below hJ hJx (fun pre x W1 hj hl => ?_) h0
  obtain ⟨fn, tmps, assign, body, hr, hR⟩ := hY pre x W1 hj trivial hl
  exact ⟨fn, tmps, assign, body, hr, hR.mono fun e w' hq => hq.imp (fun ⟨h1, h2, h3⟩ => ⟨h1, h2, h3.kp⟩) id⟩

/-- How a round may end. -/
def postQ {α : Type} (S0 : List Nat) (keep : TypeId → Bool) (B : Nat) (I : List α → World → Prop) (Ix : Code → List α → World → Prop) (xs : List α) (W : World) : Exit → Fr → World → Prop
  | .normal, _, W' => KeepsFrom B W W' ∧ Kr S0 keep B W W' ∧ I xs W'
  | .ret, _, W' => KeepsFrom B W W' ∧ Ix .ret xs W'
  | .exit id, _, W' => KeepsFrom B W W' ∧ Ix (.exit id) xs W'
  | _, _, _ => False
theorem KeepsFrom.chg {B : Nat} {T : List Nat} {W W' : World} (hc : Chg T W W') (hT : ∀ b ∈ T, ∃ e c, Blk W b e c) : KeepsFrom B W W' :=
  ⟨hc.size, fun k o _ hk ho => by
    refine (hc.block k (Array.getElem?_eq_some_iff.1 hk).1 fun hm => ?_).trans hk
    obtain ⟨e, c, hb⟩ := hT k hm
    rw [show W.heap[k]? = _ from hb] at hk
    cases hk; cases ho⟩

section
variable {P : Program} {n : Nat} {Q : Exit → Fr → World → Prop} {F : Fr} {w : World}
theorem W_rangeR {α : Type} {g : Operand} {ps : Array Tmp} {assign body : Code} {gf : FuncId} {lb : List Value} {encs : α → Array Value} {S0 : List Nat} {keep : TypeId → Bool} {Rel : α → World → Prop} {Done Part : List α → World → Prop} {N : Nat}
    (I : List α → World → Prop) (Ix : Code → List α → World → Prop) (F1 Fx : α → Fr)
    (hg : ev F g = some (.func (.func gf) #[] lb.toArray)) (hb : bodied P gf = true)
    (hseq : SeqR P gf lb.toArray encs S0 keep Rel Done Part N w) (hps : ∀ x, (encs x).size = ps.size)
    (hRel : ∀ x W W', Bk w.heap.size W W' → Rel x W → Rel x W') (hDone : ∀ x W W', Bk w.heap.size W W' → Done x W → Done x W') (hPart : ∀ x W W', Bk w.heap.size W W' → Part x W → Part x W')
    (hI : ∀ pre W W', Bk w.heap.size W W' → I pre W → I pre W') (hIx : ∀ c pre W W', Bk w.heap.size W W' → Ix c pre W → Ix c pre W') (h0 : I [] w) (hsz : ∀ pre W, I pre W → w.heap.size ≤ W.heap.size)
    (hF1 : ∀ x a, Rep n F a → Rep n (F1 x) { tmps := (ps.zip (encs x)).foldl (fun t (p, v) => t.setIfInBounds p v) a.tmps, defers := [] })
    (hasg : ∀ l x W, WX (some l) P n assign (fun e F' W' => e = .normal ∧ F' = Fx x ∧ W' = W) (F1 x) W)
    (hbody : ∀ l pre x W, I pre W → Rel x W → pre.length < N → WX (some l) P n body (postQ S0 keep w.heap.size I Ix (pre ++ [x]) W) (Fx x) W)
    (hdone : ∀ (D : Nat) (xs : List α) (W : World), w.heap.size ≤ D → Done xs W → I xs W → W.heap[D]? = some (.deferred (some [])) → Q .normal ((1000000, .int .i64 D) :: F) W)
    (hstop : ∀ (D : Nat) (c : Code) (pre : List α) (W' : World), w.heap.size ≤ D → Part pre W' → Ix c pre W' → W'.heap[D]? = some (.deferred (some [])) → W P n c Q ((1000000, .int .i64 D) :: F) W') :
    W P n (.rangeFunc g ps assign body) Q F w := by
  intro a ha
  refine (wpIn_wide (n := 3)).1 ?_
  have eg : ∀ (args : Array Value) (w : World), (callFunc gf args).run P w = .ok (.enter gf args) w := by
    intro args w
    unfold bodied at hb
    split at hb
    · rename_i fn hfn
      simp only [Bool.and_eq_true, Bool.not_eq_true'] at hb
      have h1 : ¬ fn.body = none := by cases hx : fn.body <;> simp_all
      have h2 : ¬ fn.name = "runtime.NumGoroutine" := by simpa using hb.2
      simp [callFunc, hfn, h1, h2]
    · simp at hb
  refine wpIn_rangeFunc ?_
  intro fn hfn
  generalize hB : w.heap.size = B at *
  generalize hrec : (fun (st : LoopState) (pe : Option Code) => ({ state := st, pending := pe, fn, tmps := a.tmps, params := ps, assign, body, defers := B } : Loop)) = rec
  have hrp : ∀ st pe, (rec st pe).params = ps ∧ (rec st pe).fn = fn ∧ (rec st pe).tmps = a.tmps ∧ (rec st pe).assign = assign ∧ (rec st pe).body = body ∧ (rec st pe).state = st ∧ (rec st pe).pending = pe := fun st pe => by rw [← hrec]; exact ⟨rfl, rfl, rfl, rfl, rfl, rfl, rfl⟩
  have hst : ∀ st pe st', ({ rec st pe with state := st' } : Loop) = rec st' pe := fun st pe st' => by rw [← hrec]
  have hst2 : ∀ st pe st' pe', ({ rec st pe with state := st', pending := pe' } : Loop) = rec st' pe' := fun st pe st' pe' => by rw [← hrec]
  generalize hWa : w.alloc (.deferred (some [])) = Wa
  have hca : Chg [] w Wa := hWa ▸ Chg.alloc [] w _
  have hsa : Wa.heap.size = B + 1 := by rw [← hWa, ← hB]; simp
  have hda : Wa.heap[B]? = some (.deferred (some [])) := by rw [← hWa, ← hB]; exact heap_alloc_new w _
  generalize hW1 : Wa.alloc (.loop (rec .ready none)) = W1
  have hc1 : Chg [] Wa W1 := hW1 ▸ Chg.alloc [] Wa _
  have hl1 : W1.heap[B + 1]? = some (.loop (rec .ready none)) := by rw [← hW1, ← hsa]; exact heap_alloc_new Wa _
  have hd1 : W1.heap[B]? = some (.deferred (some [])) := (hc1.block B (by omega) (by simp)).trans hda
  have hw1 : Chg [] w W1 := hca.trans hc1
  have bk0 : ∀ {X Y : World}, Chg [] X Y → Bk B X Y := fun h => ⟨[], by simp, h⟩
  have bkp : ∀ {X : World} {l : Nat} {o : Obj} (o' : Obj), B ≤ l → X.heap[l]? = some o → o.isCells = false ∧ isIter o = false → BkL B X (X.putObj l o') := fun {X l o} o' hl ho hn => ⟨[l], by intro b hb; simp at hb; subst hb; exact ⟨hl, o, ho, hn.1, hn.2⟩, Chg.put X l o'⟩
  have bkr : ∀ {X Y : World} {row : Option Nat}, X.grownBy Y row → (∀ r, row = some r → W1.heap.size ≤ r ∧ ∃ o : Obj, X.heap[r]? = some o ∧ o.isWalk = true) → Bk B X Y := fun {X Y row} hg hr => by
    refine ⟨row.toList, ?_, ⟨hg.os, hg.tape, hg.output, hg.size, fun k hk hn => hg.block k hk (fun e => hn (by rw [← e]; simp))⟩⟩
    intro b hb
    cases row with
    | none => simp at hb
    | some r =>
      simp at hb
      subst hb
      obtain ⟨h1, o, ho, hw⟩ := hr b rfl
      have := hw1.size
      exact ⟨by omega, o, ho, Obj.not_cells_of_walk hw⟩
  have keepO : ∀ {X Y : World} {row : Option Nat} {k : Nat} {o : Obj}, X.grownBy Y row → (∀ r, row = some r → W1.heap.size ≤ r ∧ ∃ o : Obj, X.heap[r]? = some o ∧ o.isWalk = true) → X.heap[k]? = some o → o.isWalk = false → Y.heap[k]? = some o := fun {X Y row k o} hg hr hk ho => by
    refine (hg.block k (Array.getElem?_eq_some_iff.1 hk).1 fun e => ?_).trans hk
    obtain ⟨_, o', ho', hw⟩ := hr k e.symm
    rw [hk] at ho'
    cases ho'
    rw [ho] at hw; cases hw
  refine ⟨B + 1, [{ target := .collected B, args := #[] }], W1, { target := .fn (.func gf) lb.toArray, args := #[.func (.yield (B + 1)) #[] #[]] }, W1, gf,
    #[.func (.yield (B + 1)) #[] #[]] ++ lb.toArray, W1, ?_, ?_, ?_, ?_, fun _ => by omega, ?_⟩
  · rw [← hW1, ← hWa, ← hrec, ← hB]
    exact run_enterLoop_outer _ _ _ _ _
  · simp only [resolve, ha.eval hg]
    simp [go_sem]
  · intro f' hf'
    simp [Target.leads] at hf'
    trivial
  · simp [invoke, go_sem, eg]
  refine (hseq (B + 1) (fun pre W => I pre W ∧ W.heap[B + 1]? = some (.loop (rec .ready none)) ∧ W.heap[B]? = some (.deferred (some [])))
    (fun pre W => ∃ c, Ix c pre W ∧ W.heap[B + 1]? = some (.loop (rec .done (some c))) ∧ W.heap[B]? = some (.deferred (some []))) W1 hw1
    (fun s X Y row hs hg' hr => ⟨hI s X Y (bkr hg' hr) hs.1, keepO hg' hr hs.2.1 rfl, keepO hg' hr hs.2.2 rfl⟩)
    (fun s X Y row hs hg' hr => by obtain ⟨c, h1, h2, h3⟩ := hs; exact ⟨c, hIx c s X Y (bkr hg' hr) h1, keepO hg' hr h2 rfl, keepO hg' hr h3 rfl⟩)
    ?_ ⟨hI [] w W1 (bk0 hw1) h0, hl1, hd1⟩).mono ?_
  · rintro pre x X ⟨hi, hl, hd⟩ hr hlen
    have hX := hsz pre X hi
    have hlt := (Array.getElem?_eq_some_iff.1 hl).1
    have hy := run_yield (P := P) (args := encs x) hl (by rw [(hrp _ _).1]; exact hps x)
    rw [(hrp .ready none).1, (hrp .ready none).2.1, (hrp .ready none).2.2.1, (hrp .ready none).2.2.2.1, (hrp .ready none).2.2.2.2.1] at hy
    refine ⟨fn, _, assign, body, hy, roundIn_of_wpIn hfn ?_⟩
    refine wpIn_mono (hasg (B + 1) x X _ (hF1 x a ha)) ?_
    rintro e a' X' ⟨F', hrep, rfl, rfl, rfl⟩
    have hbg := run_beginRound (P := P) hl (hrp _ _).2.2.2.2.2.1
    rw [hst] at hbg
    refine ⟨_, hbg, ?_⟩
    have hl2 : (X'.putObj (B + 1) (.loop (rec .busy none))).heap[B + 1]? = some (.loop (rec .busy none)) := World.putObj_heap_same hlt
    have hd2 : (X'.putObj (B + 1) (.loop (rec .busy none))).heap[B]? = some (.deferred (some [])) := (World.putObj_heap_other (by omega)).trans hd
    have hbk := bkp (X := X') (.loop (rec .busy none)) (show B ≤ B + 1 by omega) hl ⟨rfl, rfl⟩
    generalize hY : X'.putObj (B + 1) (.loop (rec .busy none)) = Y at *
    have hYs : B ≤ Y.heap.size := by obtain ⟨T, _, hc⟩ := hbk; exact Nat.le_trans hX hc.size
    refine wpIn_mono (hbody (B + 1) pre x Y (hI pre X' Y hbk.bk hi) (hRel x X' Y hbk.bk hr) hlen _ hrep) ?_
    have fin : ∀ (jump : Option Code) (Z : World), KeepsFrom B Y Z → ∃ Z', (Instr.endRound (B + 1) jump).run P Z = .ok (.bool jump.isNone) Z' ∧ BkL B Z Z' ∧
        Z'.heap[B + 1]? = some (.loop (rec (if jump.isNone then .ready else .done) jump)) ∧ Z'.heap[B]? = some (.deferred (some [])) := fun jump Z hk => by
      have hl3 := hk.same (B + 1) _ (by omega) hl2 rfl
      have hd3 := hk.same B _ (Nat.le_refl _) hd2 rfl
      have he := run_endRound (P := P) jump hl3
      rw [hst2] at he
      exact ⟨_, he, bkp _ (by omega) hl3 ⟨rfl, rfl⟩, World.putObj_heap_same (Array.getElem?_eq_some_iff.1 hl3).1, (World.putObj_heap_other (by omega)).trans hd3⟩
    rintro e a1 Z ⟨F2, hr2, hq⟩
    cases e <;> simp only [postQ] at hq
    case normal =>
      obtain ⟨hk, hkr, hi3⟩ := hq
      obtain ⟨Z', he, hb', hl', hd'⟩ := fin none Z hk
      exact ⟨_, _, he, .inl ⟨rfl, ⟨hI _ _ _ hb'.bk hi3, hl', hd'⟩, by rw [hB]; exact ((Kr.bk hbk hX).trans hkr).trans (Kr.bk hb' (Nat.le_trans hYs hkr.size))⟩⟩
    case ret =>
      obtain ⟨hk, hi3⟩ := hq
      obtain ⟨Z', he, hb', hl', hd'⟩ := fin (some .ret) Z hk
      exact ⟨_, _, he, .inr ⟨rfl, .ret, hIx _ _ _ _ hb'.bk hi3, hl', hd'⟩⟩
    case exit id =>
      obtain ⟨hk, hi3⟩ := hq
      obtain ⟨Z', he, hb', hl', hd'⟩ := fin (some (.exit id)) Z hk
      exact ⟨_, _, he, .inr ⟨rfl, .exit id, hIx _ _ _ _ hb'.bk hi3, hl', hd'⟩⟩
  · rintro e X ⟨⟨v, rfl⟩, (⟨xs, hS, hi, hl, hd⟩ | ⟨pre, hS, c, hi, hl, hd⟩)⟩
    · have he := run_endLoop (P := P) hl (by rw [(hrp _ _).2.2.2.2.2.1]; simp)
      rw [hst, (hrp _ _).2.2.2.2.2.2] at he
      have hbk := bkp (X := X) (.loop (rec .exhausted none)) (show B ≤ B + 1 by omega) hl ⟨rfl, rfl⟩
      exact ⟨none, _, he, _, ha.mark B, hdone B xs _ (Nat.le_refl _) (hDone _ _ _ hbk.bk hS) (hI _ _ _ hbk.bk hi) ((World.putObj_heap_other (by omega)).trans hd)⟩
    · have he := run_endLoop (P := P) hl (by rw [(hrp _ _).2.2.2.2.2.1]; simp)
      rw [hst, (hrp _ _).2.2.2.2.2.2] at he
      have hbk := bkp (X := X) (.loop (rec .exhausted (some c))) (show B ≤ B + 1 by omega) hl ⟨rfl, rfl⟩
      exact ⟨some c, _, he, wpIn_wide.2 (hstop B c pre _ (Nat.le_refl _) (hPart _ _ _ hbk.bk hS) (hIx _ _ _ _ hbk.bk hi) ((World.putObj_heap_other (by omega)).trans hd) _ (ha.mark B))⟩
end
end Go.Wk

namespace Go.Wk
section
variable {P : Program} {n : Nat} {F : Fr} {w : World} {d : Tmp} {dst : Option Tmp} {ty t t2 u e : TypeId} {by' : Nat} {z : Value} {pos : String} {af : Array Edge} {gd : Option (Nat × Bool)} {K : Fr → World → Prop}
theorem vl_cutA {x : Operand} {t : TypeId} {m k b off : Nat} (hs : arOf P t = some (m, e)) (hk : szOf P e = some k) (hx : ev F x = some (.pointer (some ⟨b, off, none⟩))) :
    Vl P n F ⟨dst, .slice t x none none none, ty, pos, af, gd⟩ w (.slice (some ⟨b, off, none⟩) m m) w := by
  intro a ha
  by_cases h0 : m = 0
  · subst h0
    simp [execOp, Instr.sliceAt, Instr.sureAddr, Instr.slice, Instr.sliceBounds, Instr.sliceBound, ha.eval hx, run_underlying (arOf_und hs), run_sizeOf hk, asAddr]
  · simp [execOp, Instr.sliceAt, Instr.sureAddr, Instr.slice, Instr.sliceBounds, Instr.sliceBound, ha.eval hx, run_underlying (arOf_und hs), run_sizeOf hk, asAddr, h0, Addr.add_lit]
/-- A piece of an array is read. -/
theorem RdSl.of_blk {w : World} {e b : Nat} {cs : List Value} (hb : Blk w b e cs) (hl : cs.length ≤ maxLen) (h1 : ∀ u ∈ cs, u.oneCell' = true) : RdSl w e 1 (.slice (some ⟨b, 0, none⟩) cs.length cs.length) cs.length cs :=
  .inr ⟨b, 0, cs.length, cs, (0, 0), rfl, hb, Nat.le_refl _, hl, by omega, by simp, h1⟩
/-- copy, into a piece of an array. -/
theorem st_copyA {t2 e' : TypeId} {k : Nat} (hs : slOf P t = some e) (hk : szOf P e = some k) {x y : Operand} {v : Value} {b off dl dc m c : Nat} {cs ys : List Value} (hx : ev F x = some (.slice (some ⟨b, off, none⟩) dl dc)) (hy : ev F y = some v) (hv : RdSl w e k v m ys)
    (hb : Blk w b e' cs) (hc : min m dl = c) (hl : off + c * k ≤ cs.length) (hn : Nat.blt d n = true)
    (h : ∀ w', w'.heap.size = w.heap.size → Chg [b] w w' → Blk w' b e' (laid cs off (ys.take (c * k))) → K ((d, .int .i64 c) :: F) w') :
    St P n F ⟨some d, .call { callee := .builtin .copy, args := #[x, y], argTypes := #[t, t2] }, ty, pos, af, gd⟩ w K := by
  subst hc
  have hly := hv.len_xs
  have hle : min m dl * k ≤ m * k := Nat.mul_le_mul_right _ (Nat.min_le_left _ _)
  have hlt : (ys.take (min m dl * k)).length = min m dl * k := by rw [List.length_take]; omega
  have hone : ∀ u ∈ ys.take (min m dl * k), u.oneCell' = true := fun u hu => hv.one_xs u (List.mem_of_mem_take hu)
  have hst := run_stores (P := P) (off := off) (vs := ys.take (min m dl * k)) hb (by rw [hlt]; exact hl) hone
  have hlo : (Builtin.lenOf v).run P w = .ok m w := by
    obtain ⟨p, c, rfl, _⟩ := hv.val
    simp [Builtin.lenOf]
  refine St.vl (v := .int .i64 (min m dl : Nat)) (w' := w.setRow b (laid cs off (ys.take (min m dl * k))).toArray) ?_ rfl hn (h _ (by simp [World.setRow]) (Chg.row _ _ _) (hb.row _))
  intro a ha
  have hfirst : (Builtin.firstCells k (min m dl) v).run P w = .ok (ys.take (min m dl * k)).toArray w := by
    obtain ⟨p, c, rfl, _⟩ := hv.val
    rcases id hv with ⟨he, rfl, rfl⟩ | ⟨b', off', cap', c', fr, he, _⟩
    · simp only [Value.slice.injEq] at he
      obtain ⟨rfl, _, _⟩ := he
      simp [Builtin.firstCells]
    · simp only [Value.slice.injEq] at he
      obtain ⟨rfl, _, rfl⟩ := he
      have hcs := hv.cells
      refine run_firstCells_some w k (min m dl) ⟨b', off', none⟩ m c _ hlt (fun j u hu => ?_)
      rw [Addr.add_lit]
      rw [List.getElem?_take] at hu
      split at hu
      · exact hcs j u hu
      · cases hu
  simp [execOp, resolve, invoke, builtin, Builtin.copy_, ha.eval hx, ha.eval hy, run_underlying (slOf_und hs), run_sizeOf hk, hlo, hfirst, hst, goInt]
/-- append, of a piece of an array. -/
theorem st_appendA {e2 e' : TypeId} {k : Nat} (A : App P t e k by' z) (ht2 : slOf P t2 = some e2) {x y : Operand} {v s : Value} {l m : Nat} {xs ys : List Value} (hx : ev F x = some v) (hy : ev F y = some s) (hv : IsSl w e k v l xs) (hs : RdSl w e' k s m ys) (h63 : l + m ≤ maxLen) (hbytes : (l + m) * by' ≤ 140737488355328)
    (hn : Nat.blt d n = true) (h : ∀ v' w', IsSl w' e k v' (l + m) (xs ++ ys) → Chg (blkOf v) w w' → (blkOf v' = blkOf v ∨ ∃ b, blkOf v' = [b] ∧ w.heap.size ≤ b) → (v' = .slice none 0 0 ↔ v = .slice none 0 0 ∧ m = 0) → K ((d, v') :: F) w') :
    St P n F ⟨some d, .call { callee := .builtin .append, args := #[x, y], argTypes := #[t, t2] }, ty, pos, af, gd⟩ w K := by
  obtain ⟨v', w', hr, h1, h2, h3, h4⟩ := run_appendG (ty := ty) (s := s) (m := m) (ys := ys) A (slOf_und ht2) (.inl ⟨_, rfl⟩) hv hs.len_xs hs.one_xs (by
      obtain ⟨p, c, rfl, _⟩ := hs.val
      simp [Builtin.lenOf])
    (fun w1 h1 => by
      have hs1 : RdSl w1 e' k s m ys := by
        rcases hs with hs | ⟨b, off, cap, c, fr, rfl, hs⟩
        · exact .inl hs
        · exact .inr ⟨b, off, cap, c, fr, rfl, by rw [h1]; exact hs⟩
      have hl := hs1.len_xs
      obtain ⟨p, c, rfl, _⟩ := hs1.val
      rcases id hs1 with ⟨he, rfl, rfl⟩ | ⟨b', off', cap', c', fr, he, _⟩
      · simp only [Value.slice.injEq] at he
        obtain ⟨rfl, _, _⟩ := he
        simp [Builtin.firstCells]
      · simp only [Value.slice.injEq] at he
        obtain ⟨rfl, _, rfl⟩ := he
        exact run_firstCells_some w1 k m ⟨b', off', none⟩ m c _ hl (fun j u hu => by rw [Addr.add_lit]; exact hs1.cells j u hu)) h63 hbytes
  refine St.vl (v := v') (w' := w') ?_ rfl hn (h v' w' h1 h2 h3 h4)
  intro a ha
  simp [execOp, resolve, invoke, builtin, ha.eval hx, ha.eval hy, hr]
end

section
variable {ρ : Option Nat} {P : Program} {ops : Array Oper} {C : World → Prop}
theorem notDef {o : Oper} (h : kd o ≠ 3) : isDef o = false := by
  cases hd : isDef o with
  | false => rfl
  | true =>
    exfalso
    apply h
    unfold isDef at hd
    split at hd
    · rename_i d he
      unfold kd
      rw [he]
    · cases hd
theorem wpAnyIn_of_aT {Q : Act → World → Prop} {Q' : Exit → Act → World → Prop} (hQ : ∀ a w, Q a w → Q' .normal a w) : ∀ (f : Nat) (listed : Array Bool) (a : Act) (w : World), Closed ops listed → (C w ∨ rdone ops listed) →
    aT P ops C Q f listed a w → wpAnyIn (fz ρ) 1 P .any ops Q' f listed a w
  | 0, _, _, _, _, _, h => ⟨h.1, hQ _ _ h.2⟩
  | f + 1, listed, a, w, hc, hw, h => by
    refine ⟨fun h0 => hQ _ _ (h.1 h0), fun i hi => ?_⟩
    have h1 := h.2 i hi
    have ih := fun a' w' hw' => wpAnyIn_of_aT (Q := Q) (Q' := Q') hQ f (listed.setIfInBounds i true) a' w' (hc.set hi) hw'
    have hw' : C w ∨ rdone ops (listed.setIfInBounds i true) := hw.imp id (fun h => h.set i)
    unfold tOp at h1
    unfold wpOpIn
    cases ho : ops[i]? with
    | none => simp only [ho] at h1 ⊢; exact ih _ _ hw' h1
    | some o =>
      simp only [ho] at h1 ⊢
      split at h1
      · rename_i hwd
        rw [if_pos hwd]
        have val : ∀ v, (execOp a.eval o).run P w = .ok (.value v) w → aT P ops C Q f (listed.setIfInBounds i true) (a.put o.dst v) w → kd o ≠ 3 → o.wpIn (fz ρ) 1 P a w (wpAnyIn (fz ρ) 1 P .any ops Q' f (listed.setIfInBounds i true)) Q' := fun v e hk h3 => by
          have hwp : o.wp P a w (fun a' w' => a' = a.put o.dst v ∧ w' = w) (fun _ _ _ => False) := by
            unfold Oper.wp
            rw [e]
            exact ⟨rfl, rfl⟩
          exact wpIn_of_wp (notDef h3) hwp (by rintro a' w' ⟨rfl, rfl⟩; exact ih _ _ hw' hk)
        unfold tAt at h1
        split at h1
        · rename_i hk0
          obtain ⟨v, hv, hk⟩ := h1
          exact val v (hv w) hk (by omega)
        · rename_i hk1
          obtain ⟨v, hv, hk⟩ := h1
          have hCw : C w := by
            rcases hw with hw | hw
            · exact hw
            · have := hw i o ho hk1
              have h0 := (mem_ready.1 hi).1
              rw [this] at h0
              cases h0
          exact val v (hv w hCw) hk (by omega)
        · rename_i hk2
          exact wpIn_of_wp (notDef (by omega)) h1 (by rintro a' w' ⟨q1, _, q3⟩; exact ih _ _ (q1.imp id fun hf => fin_done hf hc hi) q3)
        · exact h1.elim
      · rename_i hwd
        rw [if_neg hwd]
        exact ⟨fun _ _ => trivial, ih _ _ hw' h1⟩
theorem wpIn_region_T {id : Nat} {Q : Act → World → Prop} {Q' : Exit → Act → World → Prop} {a : Act} {w : World} (hQ : ∀ a w, Q a w → Q' .normal a w) (hm : P.follows .mixedOrders = true) (hB : tOk ops = true) (hC : C w.drew)
    (h : wpT P ops C Q 0 ops.toList a w.drew) : (Code.region id ops true).wpIn (fz ρ) 1 P Q' a w := by
  refine wpIn_region_any hm ?_
  have := aT_of_wpT (P := P) (Q := Q) hB hC ops.toList 0 (Array.replicate ops.size false) a w.drew (by simp) (by simp) (by simp) (fun j hj => by simp [hj]) h
  refine wpAnyIn_of_aT (C := C) hQ _ _ _ _ ?_ (.inl hC) (by simpa using this)
  intro j oj hj hl
  have hjlt := (Array.getElem?_eq_some_iff.1 hj).1
  simp [hjlt] at hl
end
section
variable {ρ : Option Nat} {P : Program} {n : Nat} {Q : Exit → Fr → World → Prop} {F : Fr} {w : World}
theorem X_draw (C : World → Prop) {id : Nat} {l : List Oper} (hm : P.follows .mixedOrders = true) (hB : tOk l.toArray = true) (hC : C w.drew) (h : T P n l.toArray C Q 0 l F w.drew) : WX ρ P n (.region id l.toArray true) Q F w :=
  fun a ha => wpIn_region_T (C := C) (Q := fun a w => ∃ F, Rep n F a ∧ Q .normal F w) (fun _ _ h => h) hm hB hC (by simpa using h a ha)
end
theorem Rep.vars1 {n : Nat} {F F1 : Fr} {a : Act} (h : Rep n F a) {p : Nat} {u : Value} (hp : Nat.blt p n = true) (hF : (p, u) :: Wk.nomark F = F1) :
    Rep n F1 { tmps := ((#[p] : Array Tmp).zip #[u]).foldl (fun t (p, v) => t.setIfInBounds p v) a.tmps, defers := [] } := by
  subst hF
  have := h.nomark.put hp u
  simpa [Act.put] using this
section
variable {ρ : Option Nat} {P : Program} {n : Nat} {Q : Exit → Fr → World → Prop} {F : Fr} {w : World}
theorem X_mono {c : Code} {Q' : Exit → Fr → World → Prop} (h : WX ρ P n c Q F w) (hq : ∀ e F w, Q e F w → Q' e F w) : WX ρ P n c Q' F w :=
  fun a ha => wpIn_mono (h a ha) fun e a w ⟨F, hr, hQ⟩ => ⟨F, hr, hq e F w hQ⟩
theorem X_seq_cut {x y : Code} (M : Fr → World → Prop) (h : WX ρ P n x (thenF M Q) F w) (h2 : ∀ F' w', M F' w' → WX ρ P n y Q F' w') : WX ρ P n (.seq x y) Q F w :=
  X_seq (X_mono h fun e F w hq => by
    cases e with
    | normal => exact h2 F w hq
    | _ => exact hq)
end
end Go.Wk

namespace Go.Wk

def fillL (pl : Nat → Option (Nat × Nat)) : List Value → List (Nat × Value) → List (List Value) → Option (List Value)
  | c, [], [] => some c
  | c, (i, _) :: r, s :: ss => match pl i with
    | some (o, z) => if Nat.beq z s.length && Nat.ble (o + z) c.length then fillL pl (laid c o s) r ss else none
    | none => none
  | _, _, _ => none
theorem fillL_ok (place : Nat → Option (Nat × Nat)) : ∀ (qs : List (Nat × Value)) (css : List (List Value)) (c cs : List Value), CellsL (qs.map (·.2)) css → fillL place c qs css = some cs → Instr.fill place c.toArray qs = some cs.toArray
  | [], [], c, cs, _, h => by simp [fillL] at h; subst h; simp [Instr.fill]
  | [], _ :: _, _, _, h, _ => h.elim
  | _ :: _, [], _, _, h, _ => h.elim
  | (i, v) :: r, s :: ss, c, cs, h, hf => by
    obtain ⟨hv, hr⟩ := h
    unfold fillL at hf
    simp only [Instr.fill]
    cases hpl : place i with
    | none => simp [hpl] at hf
    | some oz =>
      obtain ⟨o, z⟩ := oz
      simp only [hpl] at hf
      split at hf
      · rename_i hc
        simp only [Bool.and_eq_true] at hc
        have e2 : z = s.length := Nat.eq_of_beq_eq_true hc.1
        have hle := Nat.le_of_ble_eq_true hc.2
        subst e2
        simp only at hv
        simp only [hv, List.size_toArray]
        rw [if_neg (by simp; omega)]
        have hfs := fold_set s 0 o c.toArray (by simp; omega)
        simp only [Nat.add_zero] at hfs
        have hz : s.toArray.zipIdx = (s.zipIdx 0).toArray := by simp
        rw [hz, List.foldl_toArray', hfs] <;> try simp
        exact fillL_ok place r ss _ cs hr hf
      · cases hf
section
variable {P : Program} {n : Nat} {F : Fr} {w : World} {dst : Option Tmp} {ty : TypeId} {pos : String} {af : Array Edge} {gd : Option (Nat × Bool)}
theorem vl_buildH {t : TypeId} {pl : List (Nat × Nat)} {z : Value} {zc : List Value} {parts : List (Nat × Operand)} {qs : List (Nat × Value)} {css : List (List Value)} {cs : List Value} (hpl : plOf P t = some pl) (hz : zrOf P t = some z) (hzc : z.cells = zc.toArray)
    (hp : evs2 F parts = some qs) (hc : CellsL (qs.map (·.2)) css) (hcs : fillL (pl[·]?) zc qs css = some cs) :
    Vl P n F ⟨dst, .build t parts.toArray, ty, pos, af, gd⟩ w (.agg cs.toArray) w := by
  intro a ha
  unfold plOf at hpl
  split at hpl
  · rename_i fs hu
    have hpl' := run_places (w := w) fs.toList pl hpl
    have hm : (fs.mapM (fun f => do pure (f.offset, ← sizeOf f.type) : Field → Sem (Nat × Nat))).run P w = .ok pl.toArray w := by
      rw [Array.mapM_eq_mapM_toList]
      simp only [Sem.run_map, hpl', Result.andThen_ok]
    have hfill := fillL_ok (pl[·]?) qs css zc cs hc hcs
    have hev := ha.evals2 parts _ hp
    have hget : (fun i : Nat => pl.toArray[i]?) = (fun i : Nat => pl[i]?) := by funext i; simp
    have hpm : (parts.toArray.map fun (i, x) => (i, a.eval x)).toList = qs := by rw [← hev]; simp
    simp only [execOp, Instr.build, Sem.run_bind, run_zero hz, Result.andThen_ok, run_underlying hu, hm, hpm, hzc, hget, hfill, Sem.run_pure]
  · simp at hpl
end
end Go.Wk

namespace Go.Wk

section
variable {P : Program} {fn : Func} {R : Value → World → Prop} {n : Nat} {F : Fr} {w : World}
theorem retFM_one {D : Nat} (hm : marks F = [mkD D]) (hD : w.heap[D]? = some (.deferred (some [])))
    (h : ∀ w', Chg [D] w w' → ∃ v, (∀ a, Rep n F a → (results fn a.tmps).run P w' = .ok v w') ∧ R v w') : retFM P fn R n .ret F w := by
  obtain ⟨v, h1, h2⟩ := h _ (Chg.put w D (.deferred none))
  exact ⟨v, _, by rw [hm]; exact ⟨D, rfl, hD, rfl⟩, h1, h2⟩
theorem retMT1 {t D : Nat} {v : Value} (hr : fn.results = #[.tmp t]) (hv : get F t = some v) (hm : marks F = [mkD D]) (hD : w.heap[D]? = some (.deferred (some [])))
    (h : ∀ w', Chg [D] w w' → R v w') : retFM P fn R n .ret F w :=
  retFM_one hm hD fun w' hc => ⟨v, fun a ha => by simp [results, hr, ha.get t _ hv], h w' hc⟩
theorem retMT2 {t u D : Nat} {v y : Value} (hr : fn.results = #[.tmp t, .tmp u]) (hv : get F t = some v) (hy : get F u = some y) (hm : marks F = [mkD D]) (hD : w.heap[D]? = some (.deferred (some [])))
    (h : ∀ w', Chg [D] w w' → R (.tuple #[v, y]) w') : retFM P fn R n .ret F w :=
  retFM_one hm hD fun w' hc => ⟨_, fun a ha => by simp [results, hr, ha.get t _ hv, ha.get u _ hy], h w' hc⟩
theorem retMT10 {t : Nat} {v : Value} (hr : fn.results = #[.tmp t]) (hv : get F t = some v) (h : R v w) (hm : marks F = [] := by rfl) : retFM P fn R n .ret F w :=
  ⟨v, w, by rw [hm]; rfl, fun a ha => by simp [results, hr, ha.get t _ hv], h⟩
theorem retMT20 {t u : Nat} {v y : Value} (hr : fn.results = #[.tmp t, .tmp u]) (hv : get F t = some v) (hy : get F u = some y) (h : R (.tuple #[v, y]) w) (hm : marks F = [] := by rfl) : retFM P fn R n .ret F w :=
  ⟨_, w, by rw [hm]; rfl, fun a ha => by simp [results, hr, ha.get t _ hv, ha.get u _ hy], h⟩
end
end Go.Wk

namespace Go.Wk

def maskE (ms : List Nat) : List Edge → Nat
  | [] => 0
  | e :: r => (if Region.binds .any e then (ms.getD e.on 0) ||| (1 <<< e.on) else 0) ||| maskE ms r
def masks : List Oper → List Nat → List Nat
  | [], ms => ms
  | o :: r, ms => masks r (ms ++ [maskE ms o.after.toList])
def reachF (ms : List Nat) (j i : Nat) : Bool := Nat.testBit (ms.getD j 0) i
def tOkF (ops : List Oper) (ms : List Nat) : Bool := (List.range ops.length).all fun i => match ops[i]? with
  | none => true
  | some oi => kd oi != 3 && oi.after.all (fun e => !Region.binds .any e || Nat.blt e.on i) && (List.range ops.length).all fun j => Nat.ble j i || (match ops[j]? with
    | none => true
    | some oj => reachF ms j i || (oi.apart ops.toArray oj && !(kd oi == 2 && kd oj == 2)))

theorem reach_up {ops : Array Oper} : ∀ (f j i : Nat), reach ops f j i = true → reach ops (f + 1) j i = true
  | 0, _, _, h => by simp [reach] at h
  | f + 1, j, i, h => by
    unfold reach at h ⊢
    cases hj : ops[j]? with
    | none => simp [hj] at h
    | some oj =>
      simp only [hj, Bool.or_eq_true] at h ⊢
      rcases h with h | h
      · exact .inl h
      · obtain ⟨e, he, hb⟩ := Array.any_eq_true'.1 h
        simp only [Bool.and_eq_true] at hb
        exact .inr (Array.any_eq_true'.2 ⟨e, he, by simp only [Bool.and_eq_true]; exact ⟨hb.1, reach_up f e.on i hb.2⟩⟩)
theorem reach_le {ops : Array Oper} {f g j i : Nat} (h : reach ops f j i = true) (hle : f ≤ g) : reach ops g j i = true := by
  induction g with
  | zero => have : f = 0 := by omega
            subst this; exact h
  | succ g ih =>
    rcases Nat.lt_or_ge g f with hl | hl
    · have : f = g + 1 := by omega
      subst this; exact h
    · exact reach_up _ _ _ (ih hl)
def Good (ops : Array Oper) (ms : List Nat) : Prop := ∀ j i, Nat.testBit (ms.getD j 0) i = true → reach ops (j + 1) j i = true
theorem maskE_bit {ms : List Nat} {i : Nat} : ∀ {l : List Edge}, Nat.testBit (maskE ms l) i = true → ∃ e ∈ l, Region.binds .any e = true ∧ (Nat.testBit (ms.getD e.on 0) i = true ∨ e.on = i)
  | [], h => by simp [maskE] at h
  | e :: r, h => by
    unfold maskE at h
    rw [Nat.testBit_or, Bool.or_eq_true] at h
    rcases h with h | h
    · by_cases hb : Region.binds .any e = true
      · rw [if_pos hb, Nat.testBit_or, Bool.or_eq_true] at h
        refine ⟨e, by simp, hb, ?_⟩
        rcases h with h | h
        · exact .inl h
        · rw [Nat.one_shiftLeft, Nat.testBit_two_pow] at h
          exact .inr (of_decide_eq_true h)
      · rw [if_neg hb] at h; simp at h
    · obtain ⟨e', he, h1⟩ := maskE_bit h
      exact ⟨e', by simp [he], h1⟩
theorem masks_good {ops : Array Oper} : ∀ (l : List Oper) (ms : List Nat), (∀ k, l[k]? = ops[ms.length + k]?) → Good ops ms → Good ops (masks l ms)
  | [], ms, _, h => h
  | o :: r, ms, hl, h => by
    refine masks_good r _ (fun k => ?_) ?_
    · have := hl (k + 1)
      simp only [List.length_append, List.length_cons, List.length_nil]
      rw [show ms.length + (0 + 1) + k = ms.length + (k + 1) by omega, ← this]
      simp
    · intro j i hb
      rcases Nat.lt_or_ge j ms.length with hj | hj
      · rw [List.getD_eq_getElem?_getD, List.getElem?_append_left hj, ← List.getD_eq_getElem?_getD] at hb
        exact h j i hb
      · by_cases hje : j = ms.length
        · subst hje
          have ho : ops[ms.length]? = some o := by have := hl 0; simp at this; exact this.symm
          rw [List.getD_eq_getElem?_getD, List.getElem?_append_right (Nat.le_refl _)] at hb
          simp at hb
          obtain ⟨e, he, h1, h2⟩ := maskE_bit hb
          have he' : e ∈ o.after := by simpa using he
          unfold reach
          simp only [ho, Bool.or_eq_true]
          rcases h2 with h2 | h2
          · have hlt : e.on < ms.length := by
              rcases Nat.lt_or_ge e.on ms.length with hh | hh
              · exact hh
              · rw [List.getD_eq_getElem?_getD, List.getElem?_eq_none hh] at h2; simp at h2
            refine .inr (Array.any_eq_true'.2 ⟨e, he', ?_⟩)
            simp only [Bool.and_eq_true]
            exact ⟨h1, reach_le (h e.on i h2) (by omega)⟩
          · refine .inl (Array.any_eq_true'.2 ⟨e, he', ?_⟩)
            simp only [Bool.and_eq_true, beq_iff_eq]
            exact ⟨h1, h2⟩
        · rw [List.getD_eq_getElem?_getD, List.getElem?_eq_none (by simp; omega)] at hb
          simp at hb
theorem reachF_ok {l : List Oper} {j i : Nat} (hj : j < l.length) (h : reachF (masks l []) j i = true) : reach l.toArray l.toArray.size j i = true := by
  have hg := masks_good (ops := l.toArray) l [] (fun k => by simp) (fun j i hb => by simp at hb)
  exact reach_le (hg j i h) (by simp; omega)
theorem tOk_of {l : List Oper} (h : tOkF l (masks l []) = true) : tOk l.toArray = true := by
  unfold tOk
  unfold tOkF at h
  rw [List.all_eq_true] at h ⊢
  intro i hi
  have hi' : i ∈ List.range l.length := by simpa using hi
  have h1 := h i hi'
  have e : l.toArray[i]? = l[i]? := by simp
  rw [e]
  cases ho : l[i]? with
  | none => rfl
  | some oi =>
    rw [ho] at h1
    simp only [Bool.and_eq_true] at h1 ⊢
    refine ⟨h1.1, ?_⟩
    have h2 := h1.2
    rw [List.all_eq_true] at h2 ⊢
    intro j hj
    have hj' : j ∈ List.range l.length := by simpa using hj
    have h3 := h2 j hj'
    simp only [Bool.or_eq_true] at h3 ⊢
    rcases h3 with h3 | h3
    · exact .inl h3
    · refine .inr ?_
      unfold pairOk
      have e' : l.toArray[j]? = l[j]? := by simp
      rw [e']
      cases hoj : l[j]? with
      | none => rfl
      | some oj =>
        rw [hoj] at h3
        simp only [Bool.or_eq_true] at h3 ⊢
        rcases h3 with h3 | h3
        · exact .inl (reachF_ok (List.mem_range.1 hj') h3)
        · exact .inr h3
def finF (l : List Oper) (ms : List Nat) (i : Nat) : Bool := (List.range l.length).all fun j => match l[j]? with | some oj => kd oj != 1 || reachF ms i j | none => true
theorem fin_of {l : List Oper} {i : Nat} (hi : Nat.blt i l.length = true) (h : finF l (masks l []) i = true) : fin l.toArray i = true := by
  unfold fin
  unfold finF at h
  rw [List.all_eq_true] at h ⊢
  intro j hj
  have hj' : j ∈ List.range l.length := by simpa using hj
  have h1 := h j hj'
  have e : l.toArray[j]? = l[j]? := by simp
  rw [e]
  cases ho : l[j]? with
  | none => rfl
  | some oj =>
    rw [ho] at h1
    simp only [Bool.or_eq_true] at h1 ⊢
    rcases h1 with h1 | h1
    · exact .inl h1
    · exact .inr (reachF_ok (Nat.le_of_ble_eq_true hi) h1)
end Go.Wk

namespace Go.Wk
section
variable {P : Program} {n : Nat} {Q : Exit → Fr → World → Prop} {C : World → Prop} {F : Fr} {w w' : World} {ops : Array Oper} {rest : List Oper} {op : Op} {ty : TypeId} {pos : String} {af : Array Edge} {d : Nat} {v : Value} {x y c : Operand} {k : Nat} {ρ : Option Nat}
theorem Og (hv : Vl P n F ⟨some d, op, ty, pos, af, none⟩ w v w') (hn : Nat.blt d n = true) (h : O P n ops Q rest ((d, v) :: F) w') : O P n ops Q (⟨some d, op, ty, pos, af, none⟩ :: rest) F w := O_go (gn rfl) (St.vl hv rfl hn h)
theorem Om (hx : ev F x = some v) (hn : Nat.blt d n = true) (h : O P n ops Q rest ((d, v) :: F) w) : O P n ops Q (⟨some d, .move x, ty, pos, af, none⟩ :: rest) F w := O_go (gn rfl) (St.vl (vl_move hx) rfl hn h)
theorem Oa (hx : ev F x = some v) (hn : Nat.blt d n = true) (h : O P n ops Q rest ((d, v) :: F) w) : O P n ops Q (⟨some d, .assign x, ty, pos, af, none⟩ :: rest) F w := O_go (gn rfl) (St.vl (vl_assign hx) rfl hn h)
theorem Oe {i : Nat} {vs : List Value} (hx : ev F x = some (.tuple vs.toArray)) (hi : vs[i]? = some v) (hn : Nat.blt d n = true) (h : O P n ops Q rest ((d, v) :: F) w) : O P n ops Q (⟨some d, .extract x i, ty, pos, af, none⟩ :: rest) F w := O_go (gn rfl) (St.vl (vl_extract hx hi) rfl hn h)
theorem Ot {z : Operand} (hc : ev F c = some (.bool true)) (hx : ev F x = some v) (hn : Nat.blt d n = true) (h : O P n ops Q rest ((d, v) :: F) w) : O P n ops Q (⟨some d, .pick c x z, ty, pos, af, none⟩ :: rest) F w := O_go (gn rfl) (St.vl (vl_pick_t hc hx) rfl hn h)
theorem Of {z : Operand} (hc : ev F c = some (.bool false)) (hx : ev F x = some v) (hn : Nat.blt d n = true) (h : O P n ops Q rest ((d, v) :: F) w) : O P n ops Q (⟨some d, .pick c z x, ty, pos, af, none⟩ :: rest) F w := O_go (gn rfl) (St.vl (vl_pick_f hc hx) rfl hn h)
theorem Oy {j t : Nat} {b : Bool} (ht : (ops[j]?).bind (·.dst) = some t) (hb : get F t = some (.bool b)) (hv : Vl P n F ⟨some d, op, ty, pos, af, some (j, b)⟩ w v w') (hn : Nat.blt d n = true) (h : O P n ops Q rest ((d, v) :: F) w') : O P n ops Q (⟨some d, op, ty, pos, af, some (j, b)⟩ :: rest) F w := O_go (gy rfl ht hb) (St.vl hv rfl hn h)
theorem Oz {j t : Nat} {b b' : Bool} (hn : Nat.blt d n = true) (ht : (ops[j]?).bind (·.dst) = some t) (hb : get F t = some (.bool b')) (hne : b' = !b) (h : O P n ops Q rest ((d, undef) :: F) w) : O P n ops Q (⟨some d, op, ty, pos, af, some (j, b)⟩ :: rest) F w := O_guard_no rfl rfl hn ht hb hne h
theorem Sr {id : Nat} {l : List Oper} {y : Code} (h : O P n l.toArray (thenF (fun F w => W P n y Q F w) Q) l F w) : W P n (.seq (.region id l.toArray false) y) Q F w := W_seq (W_region h)
theorem Tm (hx : ev F x = some v) (hn : Nat.blt d n = true) (h : T P n ops C Q (k + 1) rest ((d, v) :: F) w) : T P n ops C Q k (⟨some d, .move x, ty, pos, af, none⟩ :: rest) F w := t_pure rfl (gn rfl) (fun _ => vl_move hx) rfl hn h
theorem Ta (hx : ev F x = some v) (hn : Nat.blt d n = true) (h : T P n ops C Q (k + 1) rest ((d, v) :: F) w) : T P n ops C Q k (⟨some d, .assign x, ty, pos, af, none⟩ :: rest) F w := t_pure rfl (gn rfl) (fun _ => vl_assign hx) rfl hn h
theorem Tq {j t : Nat} {b : Bool} (ht : (ops[j]?).bind (·.dst) = some t) (hb : get F t = some (.bool b)) (hx : ev F x = some v) (hn : Nat.blt d n = true) (h : T P n ops C Q (k + 1) rest ((d, v) :: F) w) : T P n ops C Q k (⟨some d, .move x, ty, pos, af, some (j, b)⟩ :: rest) F w := t_pure rfl (gy rfl ht hb) (fun _ => vl_move hx) rfl hn h
theorem Tz {j t : Nat} {b b' : Bool} (hn : Nat.blt d n = true) (ht : (ops[j]?).bind (·.dst) = some t) (hb : get F t = some (.bool b')) (hne : b' = !b) (h : T P n ops C Q (k + 1) rest ((d, undef) :: F) w) : T P n ops C Q k (⟨some d, op, ty, pos, af, some (j, b)⟩ :: rest) F w := t_no rfl rfl hn ht hb hne h
theorem Xm (hx : ev F x = some v) (hn : Nat.blt d n = true) (h : OX ρ P n ops Q rest ((d, v) :: F) w) : OX ρ P n ops Q (⟨some d, .move x, ty, pos, af, none⟩ :: rest) F w := X_go (gn rfl) rfl (St.vl (vl_move hx) rfl hn h)
end
end Go.Wk

namespace Go.Wk

/-- v reads xs: len elements of k cells each. -/
def Rd (w : World) (k : Nat) (v : Value) (len : Nat) (xs : List Value) : Prop :=
  ∃ p cap, v = .slice p len cap ∧ len ≤ cap ∧ cap ≤ maxLen ∧ xs.length = len * k ∧ (∀ u ∈ xs, u.oneCell' = true) ∧ (0 < len → ∃ b off, p = some ⟨b, off, none⟩ ∧ Cells w b off xs)
section
variable {w w' : World} {e k : Nat} {v : Value} {len : Nat} {xs : List Value}
theorem IsSl.toRd (h : IsSl w e k v len xs) : Rd w k v len xs := by
  have hl := h.len_xs
  have ho := h.one_xs
  rcases h with ⟨rfl, rfl, rfl⟩ | ⟨b, off, cap, c, rfl, h⟩
  · exact ⟨none, 0, rfl, Nat.le_refl _, Nat.zero_le _, hl, ho, fun h => absurd h (by omega)⟩
  · exact ⟨some ⟨b, off, none⟩, cap, rfl, h.le, h.max, hl, ho, fun _ => ⟨b, off, rfl, h.cells⟩⟩
theorem Rd.val (h : Rd w k v len xs) : ∃ p c, v = .slice p len c ∧ len ≤ c := let ⟨p, c, h1, h2, _⟩ := h; ⟨p, c, h1, h2⟩
theorem Rd.max (h : Rd w k v len xs) : len ≤ maxLen := let ⟨_, _, _, h2, h3, _⟩ := h; Nat.le_trans h2 h3
theorem Rd.len_xs (h : Rd w k v len xs) : xs.length = len * k := let ⟨_, _, _, _, _, h4, _⟩ := h; h4
theorem Rd.one_xs (h : Rd w k v len xs) : ∀ u ∈ xs, u.oneCell' = true := let ⟨_, _, _, _, _, _, h5, _⟩ := h; h5
theorem Rd.one1 (h : Rd w k v len xs) : v.oneCell' = true := by obtain ⟨p, c, rfl, _⟩ := h; rfl
theorem Rd.nil (w : World) (k : Nat) : Rd w k (.slice none 0 0) 0 [] := ⟨none, 0, rfl, Nat.le_refl _, Nat.zero_le _, by simp, by simp, fun h => absurd h (by omega)⟩
theorem cells_lt {b off : Nat} {u : Value} {j : Nat} (h : Cells w b off xs) (hj : xs[j]? = some u) : b < w.heap.size := by
  have hc := h j u hj
  rcases Nat.lt_or_ge b w.heap.size with h1 | h1
  · exact h1
  · simp [World.cell?, Array.getElem?_eq_none h1] at hc
theorem Rd.keep (h : Rd w k v len xs) (hk : ∀ b off u j, v = .slice (some ⟨b, off, none⟩) len (match v with | .slice _ _ c => c | _ => 0) → xs[j]? = some u → w.cell? ⟨b, off + j, none⟩ = some u → w'.cell? ⟨b, off + j, none⟩ = some u) : Rd w' k v len xs := by
  obtain ⟨p, cap, rfl, h2, h3, h4, h5, h6⟩ := h
  refine ⟨p, cap, rfl, h2, h3, h4, h5, fun hp => ?_⟩
  obtain ⟨b, off, rfl, hc⟩ := h6 hp
  exact ⟨b, off, rfl, fun j u hj => hk b off u j rfl hj (hc j u hj)⟩
theorem cell_keep {S : List Nat} (hc : Chg S w w') {b o : Nat} {u : Value} (h : w.cell? ⟨b, o, none⟩ = some u) (hb : b ∉ S) : w'.cell? ⟨b, o, none⟩ = some u := by
  have hlt : b < w.heap.size := by
    rcases Nat.lt_or_ge b w.heap.size with h1 | h1
    · exact h1
    · simp [World.cell?, Array.getElem?_eq_none h1] at h
  have := hc.block b hlt hb
  unfold World.cell? at h ⊢
  rw [this]; exact h
theorem Rd.chg {S : List Nat} (h : Rd w k v len xs) (hc : Chg S w w') (hb : ∀ b ∈ blkOf v, b ∉ S) : Rd w' k v len xs :=
  h.keep fun b off u j hv _ hcell => cell_keep hc hcell (hb b (by rw [hv]; simp [blkOf]))
theorem Rd.chg0 (h : Rd w k v len xs) (hc : Chg [] w w') : Rd w' k v len xs := h.chg hc (by simp)
/-- What turns holds none of its cells. -/
theorem Rd.chgC {S : List Nat} (h : Rd w k v len xs) (hc : Chg S w w') (hd : ∀ b ∈ S, ∀ c e fr, w.heap[b]? = some (.cells c e fr) → ∀ u ∈ xs, u ∉ c.toList) : Rd w' k v len xs :=
  h.keep fun b off u j _ hj hcell => cell_keep hc hcell fun hm => by
    have hlt : b < w.heap.size := by
      rcases Nat.lt_or_ge b w.heap.size with h1 | h1
      · exact h1
      · simp [World.cell?, Array.getElem?_eq_none h1] at hcell
    obtain ⟨o, ho⟩ : ∃ o, w.heap[b]? = some o := ⟨w.heap[b], by simp [hlt]⟩
    unfold World.cell? at hcell
    rw [ho] at hcell
    cases o with
    | cells c e fr =>
      refine hd b hm c e fr ho u (List.mem_of_getElem? hj) ?_
      have h2 : c[off + j]? = some u := by simpa using hcell
      exact Array.mem_toList_iff.2 (Array.mem_of_getElem? h2)
    | _ => simp at hcell
theorem Rd.cells {b off cap : Nat} (h : Rd w k (.slice (some ⟨b, off, none⟩) len cap) len xs) : Cells w b off xs := by
  obtain ⟨p, cap', he, h2, h3, h4, h5, h6⟩ := h
  simp only [Value.slice.injEq] at he
  obtain ⟨rfl, _, rfl⟩ := he
  rcases Nat.eq_zero_or_pos len with hz | hp
  · subst hz
    have : xs = [] := List.eq_nil_of_length_eq_zero (by rw [h4]; simp)
    subst this
    intro j u hj; simp at hj
  · obtain ⟨b', off', he', hc⟩ := h6 hp
    cases he'
    exact hc
theorem Rd.at1 (h : Rd w 1 v len xs) {i : Nat} (hi : i < len) : ∃ b off cap u, v = .slice (some ⟨b, off, none⟩) len cap ∧ xs[i]? = some u ∧ w.cell? ⟨b, off + i * 1, none⟩ = some u := by
  obtain ⟨p, cap, rfl, h2, h3, h4, h5, h6⟩ := h
  obtain ⟨b, off, rfl, hc⟩ := h6 (by omega)
  have hl : i < xs.length := by omega
  refine ⟨b, off, cap, xs[i], rfl, by simp [hl], ?_⟩
  rw [Nat.mul_one]
  exact hc i _ (by simp [hl])
theorem Rd.atk (h : Rd w k v len xs) {i : Nat} (hi : i < len) : ∃ b off cap, v = .slice (some ⟨b, off, none⟩) len cap ∧ Cells w b (off + i * k) ((xs.drop (i * k)).take k) := by
  obtain ⟨p, cap, rfl, h2, h3, h4, h5, h6⟩ := h
  obtain ⟨b, off, rfl, hc⟩ := h6 (by omega)
  refine ⟨b, off, cap, rfl, fun j u hj => ?_⟩
  have h1 : xs[i * k + j]? = some u := by
    rw [List.getElem?_take] at hj
    split at hj
    · simpa using hj
    · cases hj
  have := hc (i * k + j) u h1
  rw [← this]
  congr 2
  omega
/-- v[l:h:m] and v[l:h]. -/
theorem Rd.cut {p : Option Addr} {cap : Nat} (hs : Rd w k (.slice p len cap) len xs) {l h m : Nat} (h1 : l ≤ h) (h2 : h ≤ m) (h3 : m ≤ cap) (h4 : h ≤ len) :
    Rd w k (Wk.cut p l h m k) (h - l) ((xs.drop (l * k)).take ((h - l) * k)) := by
  obtain ⟨p', cap', he, g2, g3, g4, g5, g6⟩ := hs
  simp only [Value.slice.injEq] at he
  obtain ⟨rfl, _, rfl⟩ := he
  have hmk : h * k ≤ len * k := Nat.mul_le_mul_right _ h4
  have hs2 : (h - l) * k = h * k - l * k := Nat.sub_mul _ _ _
  refine ⟨_, m - l, rfl, by omega, by omega, ?_, fun u hu => g5 u (List.mem_of_mem_drop (List.mem_of_mem_take hu)), fun hp => ?_⟩
  · rw [List.length_take, List.length_drop, g4]; omega
  · obtain ⟨b, off, rfl, hc⟩ := g6 (by omega)
    have hne : m ≠ l := by omega
    refine ⟨b, off + l * k, by rw [if_neg hne]; simp [Addr.add_lit], fun j u hj => ?_⟩
    rw [List.getElem?_take] at hj
    split at hj
    · rw [List.getElem?_drop] at hj
      have := hc _ _ hj
      rw [← this]; congr 2; omega
    · cases hj
end

section
variable {P : Program} {n : Nat} {F : Fr} {w : World} {d : Tmp} {ty t t2 e : TypeId} {by' : Nat} {z : Value} {pos : String} {af : Array Edge} {gd : Option (Nat × Bool)} {K : Fr → World → Prop}
/-- append, of what is read alone. -/
theorem st_appendW {e2 : TypeId} {k : Nat} (A : App P t e k by' z) (ht2 : slOf P t2 = some e2) {x y : Operand} {v s : Value} {l m : Nat} {xs ys : List Value} (hx : ev F x = some v) (hy : ev F y = some s) (hv : IsSl w e k v l xs) (hs : Rd w k s m ys) (h63 : l + m ≤ maxLen) (hbytes : (l + m) * by' ≤ 140737488355328)
    (hn : Nat.blt d n = true) (h : ∀ v' w', IsSl w' e k v' (l + m) (xs ++ ys) → Chg (blkOf v) w w' → (blkOf v' = blkOf v ∨ ∃ b, blkOf v' = [b] ∧ w.heap.size ≤ b) → (v' = .slice none 0 0 ↔ v = .slice none 0 0 ∧ m = 0) → K ((d, v') :: F) w') :
    St P n F ⟨some d, .call { callee := .builtin .append, args := #[x, y], argTypes := #[t, t2] }, ty, pos, af, gd⟩ w K := by
  obtain ⟨v', w', hr, h1, h2, h3, h4⟩ := run_appendG (ty := ty) (s := s) (m := m) (ys := ys) A (slOf_und ht2) (.inl ⟨_, rfl⟩) hv hs.len_xs hs.one_xs (by
      obtain ⟨p, c, rfl, _⟩ := hs.val
      simp [Builtin.lenOf])
    (fun w1 h1 => by
      obtain ⟨p, cap, rfl, g2, g3, g4, g5, g6⟩ := hs
      rcases Nat.eq_zero_or_pos m with hz | hp
      · subst hz
        have : ys = [] := List.eq_nil_of_length_eq_zero (by rw [g4]; simp)
        subst this
        cases p with
        | none => simp [Builtin.firstCells]
        | some a => exact run_firstCells_some w1 k 0 a 0 cap [] (by simp) (fun j u hu => by simp at hu)
      · obtain ⟨b, off, rfl, hc⟩ := g6 hp
        exact run_firstCells_some w1 k m ⟨b, off, none⟩ m cap _ g4 (fun j u hu => by
          rw [Addr.add_lit]
          have := hc j u hu
          unfold World.cell? at this ⊢
          rw [h1]; exact this)) h63 hbytes
  refine St.vl (v := v') (w' := w') ?_ rfl hn (h v' w' h1 h2 h3 h4)
  intro a ha
  simp [execOp, resolve, invoke, builtin, ha.eval hx, ha.eval hy, hr]
end
end Go.Wk

namespace Go.Wk
open Go.Proofs
theorem ag2 : agOf Tryz.prog 2 = some false := by kernel_rfl
theorem ag3 : agOf Tryz.prog 3 = some false := by kernel_rfl
theorem ag4 : agOf Tryz.prog 4 = some false := by kernel_rfl
theorem ag5 : agOf Tryz.prog 5 = some false := by kernel_rfl
theorem ag9 : agOf Tryz.prog 9 = some false := by kernel_rfl
theorem ag23 : agOf Tryz.prog 23 = some false := by kernel_rfl
theorem ag25 : agOf Tryz.prog 25 = some true := by kernel_rfl
theorem ag26 : agOf Tryz.prog 26 = some false := by kernel_rfl
theorem ag27 : agOf Tryz.prog 27 = some false := by kernel_rfl
theorem ag28 : agOf Tryz.prog 28 = some false := by kernel_rfl
theorem ag30 : agOf Tryz.prog 30 = some true := by kernel_rfl
theorem ag31 : agOf Tryz.prog 31 = some false := by kernel_rfl
theorem ag32 : agOf Tryz.prog 32 = some false := by kernel_rfl
theorem ag37 : agOf Tryz.prog 37 = some false := by kernel_rfl
theorem ag38 : agOf Tryz.prog 38 = some false := by kernel_rfl
theorem ag40 : agOf Tryz.prog 40 = some true := by kernel_rfl
theorem ag48 : agOf Tryz.prog 48 = some false := by kernel_rfl
theorem ag50 : agOf Tryz.prog 50 = some true := by kernel_rfl
theorem ag94 : agOf Tryz.prog 94 = some false := by kernel_rfl
theorem ag96 : agOf Tryz.prog 96 = some false := by kernel_rfl
theorem ag103 : agOf Tryz.prog 103 = some true := by kernel_rfl
theorem ag106 : agOf Tryz.prog 106 = some false := by kernel_rfl
theorem ag108 : agOf Tryz.prog 108 = some false := by kernel_rfl
theorem ag110 : agOf Tryz.prog 110 = some false := by kernel_rfl
theorem ag132 : agOf Tryz.prog 132 = some false := by kernel_rfl
theorem ag143 : agOf Tryz.prog 143 = some true := by kernel_rfl
theorem ag145 : agOf Tryz.prog 145 = some false := by kernel_rfl
theorem ag175 : agOf Tryz.prog 175 = some true := by kernel_rfl
theorem ag177 : agOf Tryz.prog 177 = some false := by kernel_rfl
theorem ag185 : agOf Tryz.prog 185 = some false := by kernel_rfl
theorem ag189 : agOf Tryz.prog 189 = some false := by kernel_rfl
theorem ag194 : agOf Tryz.prog 194 = some false := by kernel_rfl
theorem ag202 : agOf Tryz.prog 202 = some true := by kernel_rfl
theorem ag214 : agOf Tryz.prog 214 = some true := by kernel_rfl
theorem ag231 : agOf Tryz.prog 231 = some false := by kernel_rfl
theorem ag235 : agOf Tryz.prog 235 = some false := by kernel_rfl
theorem ag257 : agOf Tryz.prog 257 = some false := by kernel_rfl
theorem ag288 : agOf Tryz.prog 288 = some false := by kernel_rfl
theorem ag312 : agOf Tryz.prog 312 = some false := by kernel_rfl
theorem ag331 : agOf Tryz.prog 331 = some false := by kernel_rfl
theorem ar214 : arOf Tryz.prog 214 = some (2, 177) := by kernel_rfl
theorem ar348 : arOf Tryz.prog 348 = some (9, 5) := by kernel_rfl
theorem bd9 : bodied Tryz.prog 9 = true := by kernel_rfl
theorem bd10 : bodied Tryz.prog 10 = true := by kernel_rfl
theorem bd11 : bodied Tryz.prog 11 = true := by kernel_rfl
theorem bd12 : bodied Tryz.prog 12 = true := by kernel_rfl
theorem bd13 : bodied Tryz.prog 13 = true := by kernel_rfl
theorem bd14 : bodied Tryz.prog 14 = true := by kernel_rfl
theorem bd15 : bodied Tryz.prog 15 = true := by kernel_rfl
theorem bd18 : bodied Tryz.prog 18 = true := by kernel_rfl
theorem bd20 : bodied Tryz.prog 20 = true := by kernel_rfl
theorem bd23 : bodied Tryz.prog 23 = true := by kernel_rfl
theorem bd27 : bodied Tryz.prog 27 = true := by kernel_rfl
theorem bd29 : bodied Tryz.prog 29 = true := by kernel_rfl
theorem bd31 : bodied Tryz.prog 31 = true := by kernel_rfl
theorem bd34 : bodied Tryz.prog 34 = true := by kernel_rfl
theorem bd35 : bodied Tryz.prog 35 = true := by kernel_rfl
theorem bd37 : bodied Tryz.prog 37 = true := by kernel_rfl
theorem bd38 : bodied Tryz.prog 38 = true := by kernel_rfl
theorem bd39 : bodied Tryz.prog 39 = true := by kernel_rfl
theorem bd40 : bodied Tryz.prog 40 = true := by kernel_rfl
theorem bd41 : bodied Tryz.prog 41 = true := by kernel_rfl
theorem bd42 : bodied Tryz.prog 42 = true := by kernel_rfl
theorem bd43 : bodied Tryz.prog 43 = true := by kernel_rfl
theorem bd44 : bodied Tryz.prog 44 = true := by kernel_rfl
theorem bd45 : bodied Tryz.prog 45 = true := by kernel_rfl
theorem bd46 : bodied Tryz.prog 46 = true := by kernel_rfl
theorem bd47 : bodied Tryz.prog 47 = true := by kernel_rfl
theorem bd48 : bodied Tryz.prog 48 = true := by kernel_rfl
theorem bd49 : bodied Tryz.prog 49 = true := by kernel_rfl
theorem bd50 : bodied Tryz.prog 50 = true := by kernel_rfl
theorem bd51 : bodied Tryz.prog 51 = true := by kernel_rfl
theorem bd52 : bodied Tryz.prog 52 = true := by kernel_rfl
theorem bd53 : bodied Tryz.prog 53 = true := by kernel_rfl
theorem bd62 : bodied Tryz.prog 62 = true := by kernel_rfl
theorem bd65 : bodied Tryz.prog 65 = true := by kernel_rfl
theorem bd66 : bodied Tryz.prog 66 = true := by kernel_rfl
theorem bd67 : bodied Tryz.prog 67 = true := by kernel_rfl
theorem bd68 : bodied Tryz.prog 68 = true := by kernel_rfl
theorem bd69 : bodied Tryz.prog 69 = true := by kernel_rfl
theorem bd70 : bodied Tryz.prog 70 = true := by kernel_rfl
theorem bd72 : bodied Tryz.prog 72 = true := by kernel_rfl
theorem bd73 : bodied Tryz.prog 73 = true := by kernel_rfl
theorem bd74 : bodied Tryz.prog 74 = true := by kernel_rfl
theorem bd75 : bodied Tryz.prog 75 = true := by kernel_rfl
theorem bd76 : bodied Tryz.prog 76 = true := by kernel_rfl
theorem bd77 : bodied Tryz.prog 77 = true := by kernel_rfl
theorem bd78 : bodied Tryz.prog 78 = true := by kernel_rfl
theorem bd79 : bodied Tryz.prog 79 = true := by kernel_rfl
theorem bd80 : bodied Tryz.prog 80 = true := by kernel_rfl
theorem bd81 : bodied Tryz.prog 81 = true := by kernel_rfl
theorem bd82 : bodied Tryz.prog 82 = true := by kernel_rfl
theorem bd83 : bodied Tryz.prog 83 = true := by kernel_rfl
theorem bd84 : bodied Tryz.prog 84 = true := by kernel_rfl
theorem bd85 : bodied Tryz.prog 85 = true := by kernel_rfl
theorem bd86 : bodied Tryz.prog 86 = true := by kernel_rfl
theorem bd92 : bodied Tryz.prog 92 = true := by kernel_rfl
theorem bd97 : bodied Tryz.prog 97 = true := by kernel_rfl
theorem bd98 : bodied Tryz.prog 98 = true := by kernel_rfl
theorem bd99 : bodied Tryz.prog 99 = true := by kernel_rfl
theorem bd100 : bodied Tryz.prog 100 = true := by kernel_rfl
theorem bd101 : bodied Tryz.prog 101 = true := by kernel_rfl
theorem bd102 : bodied Tryz.prog 102 = true := by kernel_rfl
theorem bd103 : bodied Tryz.prog 103 = true := by kernel_rfl
theorem bd104 : bodied Tryz.prog 104 = true := by kernel_rfl
theorem bd105 : bodied Tryz.prog 105 = true := by kernel_rfl
theorem bd106 : bodied Tryz.prog 106 = true := by kernel_rfl
theorem bd107 : bodied Tryz.prog 107 = true := by kernel_rfl
theorem bd108 : bodied Tryz.prog 108 = true := by kernel_rfl
theorem bd110 : bodied Tryz.prog 110 = true := by kernel_rfl
theorem bd111 : bodied Tryz.prog 111 = true := by kernel_rfl
theorem bd112 : bodied Tryz.prog 112 = true := by kernel_rfl
theorem bd113 : bodied Tryz.prog 113 = true := by kernel_rfl
theorem bd114 : bodied Tryz.prog 114 = true := by kernel_rfl
theorem bd115 : bodied Tryz.prog 115 = true := by kernel_rfl
theorem bd116 : bodied Tryz.prog 116 = true := by kernel_rfl
theorem bd117 : bodied Tryz.prog 117 = true := by kernel_rfl
theorem bd118 : bodied Tryz.prog 118 = true := by kernel_rfl
theorem bd119 : bodied Tryz.prog 119 = true := by kernel_rfl
theorem bd123 : bodied Tryz.prog 123 = true := by kernel_rfl
theorem bd124 : bodied Tryz.prog 124 = true := by kernel_rfl
theorem bd125 : bodied Tryz.prog 125 = true := by kernel_rfl
theorem bd126 : bodied Tryz.prog 126 = true := by kernel_rfl
theorem bd127 : bodied Tryz.prog 127 = true := by kernel_rfl
theorem bd128 : bodied Tryz.prog 128 = true := by kernel_rfl
theorem bd129 : bodied Tryz.prog 129 = true := by kernel_rfl
theorem bd130 : bodied Tryz.prog 130 = true := by kernel_rfl
theorem bd131 : bodied Tryz.prog 131 = true := by kernel_rfl
theorem bd132 : bodied Tryz.prog 132 = true := by kernel_rfl
theorem bd133 : bodied Tryz.prog 133 = true := by kernel_rfl
theorem bd134 : bodied Tryz.prog 134 = true := by kernel_rfl
theorem bd137 : bodied Tryz.prog 137 = true := by kernel_rfl
theorem bd138 : bodied Tryz.prog 138 = true := by kernel_rfl
theorem bd139 : bodied Tryz.prog 139 = true := by kernel_rfl
theorem bd140 : bodied Tryz.prog 140 = true := by kernel_rfl
theorem bd142 : bodied Tryz.prog 142 = true := by kernel_rfl
theorem bd143 : bodied Tryz.prog 143 = true := by kernel_rfl
theorem bd144 : bodied Tryz.prog 144 = true := by kernel_rfl
theorem bd145 : bodied Tryz.prog 145 = true := by kernel_rfl
theorem bd146 : bodied Tryz.prog 146 = true := by kernel_rfl
theorem bd147 : bodied Tryz.prog 147 = true := by kernel_rfl
theorem bd148 : bodied Tryz.prog 148 = true := by kernel_rfl
theorem bd149 : bodied Tryz.prog 149 = true := by kernel_rfl
theorem bd150 : bodied Tryz.prog 150 = true := by kernel_rfl
theorem bd151 : bodied Tryz.prog 151 = true := by kernel_rfl
theorem bd152 : bodied Tryz.prog 152 = true := by kernel_rfl
theorem bd155 : bodied Tryz.prog 155 = true := by kernel_rfl
theorem bd156 : bodied Tryz.prog 156 = true := by kernel_rfl
theorem bd157 : bodied Tryz.prog 157 = true := by kernel_rfl
theorem bd158 : bodied Tryz.prog 158 = true := by kernel_rfl
theorem bd159 : bodied Tryz.prog 159 = true := by kernel_rfl
theorem bd160 : bodied Tryz.prog 160 = true := by kernel_rfl
theorem bd161 : bodied Tryz.prog 161 = true := by kernel_rfl
theorem bd162 : bodied Tryz.prog 162 = true := by kernel_rfl
theorem bd163 : bodied Tryz.prog 163 = true := by kernel_rfl
theorem bd164 : bodied Tryz.prog 164 = true := by kernel_rfl
theorem bd165 : bodied Tryz.prog 165 = true := by kernel_rfl
theorem bd167 : bodied Tryz.prog 167 = true := by kernel_rfl
theorem bd168 : bodied Tryz.prog 168 = true := by kernel_rfl
theorem bd169 : bodied Tryz.prog 169 = true := by kernel_rfl
theorem bd170 : bodied Tryz.prog 170 = true := by kernel_rfl
theorem bd171 : bodied Tryz.prog 171 = true := by kernel_rfl
theorem bd173 : bodied Tryz.prog 173 = true := by kernel_rfl
theorem bd174 : bodied Tryz.prog 174 = true := by kernel_rfl
theorem bd175 : bodied Tryz.prog 175 = true := by kernel_rfl
theorem bd176 : bodied Tryz.prog 176 = true := by kernel_rfl
theorem bd177 : bodied Tryz.prog 177 = true := by kernel_rfl
theorem bd182 : bodied Tryz.prog 182 = true := by kernel_rfl
theorem bd183 : bodied Tryz.prog 183 = true := by kernel_rfl
theorem bd184 : bodied Tryz.prog 184 = true := by kernel_rfl
theorem bd185 : bodied Tryz.prog 185 = true := by kernel_rfl
theorem bd186 : bodied Tryz.prog 186 = true := by kernel_rfl
theorem bd187 : bodied Tryz.prog 187 = true := by kernel_rfl
theorem bd188 : bodied Tryz.prog 188 = true := by kernel_rfl
theorem bd189 : bodied Tryz.prog 189 = true := by kernel_rfl
theorem bd191 : bodied Tryz.prog 191 = true := by kernel_rfl
theorem bd192 : bodied Tryz.prog 192 = true := by kernel_rfl
theorem bd193 : bodied Tryz.prog 193 = true := by kernel_rfl
theorem bd197 : bodied Tryz.prog 197 = true := by kernel_rfl
theorem bd198 : bodied Tryz.prog 198 = true := by kernel_rfl
theorem bd200 : bodied Tryz.prog 200 = true := by kernel_rfl
theorem bd202 : bodied Tryz.prog 202 = true := by kernel_rfl
theorem bd204 : bodied Tryz.prog 204 = true := by kernel_rfl
theorem bd206 : bodied Tryz.prog 206 = true := by kernel_rfl
theorem bd207 : bodied Tryz.prog 207 = true := by kernel_rfl
theorem bd208 : bodied Tryz.prog 208 = true := by kernel_rfl
theorem bd209 : bodied Tryz.prog 209 = true := by kernel_rfl
theorem bd210 : bodied Tryz.prog 210 = true := by kernel_rfl
theorem bd211 : bodied Tryz.prog 211 = true := by kernel_rfl
theorem bd212 : bodied Tryz.prog 212 = true := by kernel_rfl
theorem bd213 : bodied Tryz.prog 213 = true := by kernel_rfl
theorem bd214 : bodied Tryz.prog 214 = true := by kernel_rfl
theorem bd215 : bodied Tryz.prog 215 = true := by kernel_rfl
theorem bd216 : bodied Tryz.prog 216 = true := by kernel_rfl
theorem bd217 : bodied Tryz.prog 217 = true := by kernel_rfl
theorem bd223 : bodied Tryz.prog 223 = true := by kernel_rfl
theorem bd227 : bodied Tryz.prog 227 = true := by kernel_rfl
theorem bd228 : bodied Tryz.prog 228 = true := by kernel_rfl
theorem bd229 : bodied Tryz.prog 229 = true := by kernel_rfl
theorem bd230 : bodied Tryz.prog 230 = true := by kernel_rfl
theorem bd231 : bodied Tryz.prog 231 = true := by kernel_rfl
theorem bd233 : bodied Tryz.prog 233 = true := by kernel_rfl
theorem bd234 : bodied Tryz.prog 234 = true := by kernel_rfl
theorem bd235 : bodied Tryz.prog 235 = true := by kernel_rfl
theorem bd236 : bodied Tryz.prog 236 = true := by kernel_rfl
theorem bd238 : bodied Tryz.prog 238 = true := by kernel_rfl
theorem bd241 : bodied Tryz.prog 241 = true := by kernel_rfl
theorem bd244 : bodied Tryz.prog 244 = true := by kernel_rfl
theorem bd247 : bodied Tryz.prog 247 = true := by kernel_rfl
theorem bd249 : bodied Tryz.prog 249 = true := by kernel_rfl
theorem bd250 : bodied Tryz.prog 250 = true := by kernel_rfl
theorem bd251 : bodied Tryz.prog 251 = true := by kernel_rfl
theorem bd252 : bodied Tryz.prog 252 = true := by kernel_rfl
theorem bd253 : bodied Tryz.prog 253 = true := by kernel_rfl
theorem bd254 : bodied Tryz.prog 254 = true := by kernel_rfl
theorem bd260 : bodied Tryz.prog 260 = true := by kernel_rfl
theorem bd268 : bodied Tryz.prog 268 = true := by kernel_rfl
theorem bd269 : bodied Tryz.prog 269 = true := by kernel_rfl
theorem bd270 : bodied Tryz.prog 270 = true := by kernel_rfl
theorem bd303 : bodied Tryz.prog 303 = true := by kernel_rfl
theorem bd320 : bodied Tryz.prog 320 = true := by kernel_rfl
theorem bo4 : boOf Tryz.prog 4 = true := by kernel_rfl
theorem fl25 : flOf Tryz.prog 25 [1, 0, 0, 2] = true := by kernel_rfl
theorem fl40 : flOf Tryz.prog 40 [0, 0, 0, 1] = true := by kernel_rfl
theorem fo25_0 : foOf Tryz.prog 25 0 = some 0 := by kernel_rfl
theorem fo25_1 : foOf Tryz.prog 25 1 = some 1 := by kernel_rfl
theorem fo25_2 : foOf Tryz.prog 25 2 = some 2 := by kernel_rfl
theorem fo25_3 : foOf Tryz.prog 25 3 = some 3 := by kernel_rfl
theorem fo30_0 : foOf Tryz.prog 30 0 = some 0 := by kernel_rfl
theorem fo30_1 : foOf Tryz.prog 30 1 = some 1 := by kernel_rfl
theorem fo30_2 : foOf Tryz.prog 30 2 = some 2 := by kernel_rfl
theorem fo40_0 : foOf Tryz.prog 40 0 = some 0 := by kernel_rfl
theorem fo40_1 : foOf Tryz.prog 40 1 = some 1 := by kernel_rfl
theorem fo40_2 : foOf Tryz.prog 40 2 = some 2 := by kernel_rfl
theorem fo40_3 : foOf Tryz.prog 40 3 = some 3 := by kernel_rfl
theorem fo50_1 : foOf Tryz.prog 50 1 = some 1 := by kernel_rfl
theorem fo50_2 : foOf Tryz.prog 50 2 = some 2 := by kernel_rfl
theorem fo50_3 : foOf Tryz.prog 50 3 = some 3 := by kernel_rfl
theorem fo98_0 : foOf Tryz.prog 98 0 = some 0 := by kernel_rfl
theorem fo98_1 : foOf Tryz.prog 98 1 = some 1 := by kernel_rfl
theorem fo98_2 : foOf Tryz.prog 98 2 = some 4 := by kernel_rfl
theorem fo103_0 : foOf Tryz.prog 103 0 = some 0 := by kernel_rfl
theorem fo103_1 : foOf Tryz.prog 103 1 = some 1 := by kernel_rfl
theorem fo141_1 : foOf Tryz.prog 141 1 = some 1 := by kernel_rfl
theorem fo143_0 : foOf Tryz.prog 143 0 = some 0 := by kernel_rfl
theorem fo147_0 : foOf Tryz.prog 147 0 = some 0 := by kernel_rfl
theorem fo175_0 : foOf Tryz.prog 175 0 = some 0 := by kernel_rfl
theorem fo175_1 : foOf Tryz.prog 175 1 = some 1 := by kernel_rfl
theorem fo237_0 : foOf Tryz.prog 237 0 = some 0 := by kernel_rfl
theorem fo259_0 : foOf Tryz.prog 259 0 = some 0 := by kernel_rfl
theorem fo259_1 : foOf Tryz.prog 259 1 = some 1 := by kernel_rfl
theorem fo259_2 : foOf Tryz.prog 259 2 = some 2 := by kernel_rfl
theorem fo295_0 : foOf Tryz.prog 295 0 = some 0 := by kernel_rfl
theorem fo317_1 : foOf Tryz.prog 317 1 = some 1 := by kernel_rfl
theorem fo343_0 : foOf Tryz.prog 343 0 = some 0 := by kernel_rfl
theorem fo343_1 : foOf Tryz.prog 343 1 = some 1 := by kernel_rfl
theorem fp30_0 : fpOf Tryz.prog 30 0 = some (0, 1, false) := by kernel_rfl
theorem fp220_0 : fpOf Tryz.prog 220 0 = some (0, 1, false) := by kernel_rfl
theorem fp220_1 : fpOf Tryz.prog 220 1 = some (1, 1, false) := by kernel_rfl
theorem fp242_0 : fpOf Tryz.prog 242 0 = some (0, 1, false) := by kernel_rfl
theorem in20 : inOf Tryz.prog 20 = true := by kernel_rfl
theorem in106 : inOf Tryz.prog 106 = true := by kernel_rfl
theorem iq249_141_n : iqOf Tryz.prog 249 141 = some false := by kernel_rfl
theorem iq249_315_n : iqOf Tryz.prog 249 315 = some false := by kernel_rfl
theorem iq249_32_n : iqOf Tryz.prog 249 32 = some false := by kernel_rfl
theorem iq252_141_y : iqOf Tryz.prog 252 141 = some true := by kernel_rfl
theorem iq252_315_y : iqOf Tryz.prog 252 315 = some true := by kernel_rfl
theorem iq252_32_n : iqOf Tryz.prog 252 32 = some false := by kernel_rfl
theorem iq254_32_n : iqOf Tryz.prog 254 32 = some false := by kernel_rfl
theorem iq268_141_n : iqOf Tryz.prog 268 141 = some false := by kernel_rfl
theorem iq268_315_n : iqOf Tryz.prog 268 315 = some false := by kernel_rfl
theorem it2_i64 : itOf Tryz.prog 2 .i64 = true := by kernel_rfl
theorem it3_i64 : itOf Tryz.prog 3 .i64 = true := by kernel_rfl
theorem it5_u8 : itOf Tryz.prog 5 .u8 = true := by kernel_rfl
theorem it21_i32 : itOf Tryz.prog 21 .i32 = true := by kernel_rfl
theorem it23_i64 : itOf Tryz.prog 23 .i64 = true := by kernel_rfl
theorem it32_i64 : itOf Tryz.prog 32 .i64 = true := by kernel_rfl
theorem it37_i64 : itOf Tryz.prog 37 .i64 = true := by kernel_rfl
theorem it38_u64 : itOf Tryz.prog 38 .u64 = true := by kernel_rfl
theorem it227_u64 : itOf Tryz.prog 227 .u64 = true := by kernel_rfl
theorem mp110 : mpOf Tryz.prog 110 = some (9, 3) := by kernel_rfl
theorem mp221 : mpOf Tryz.prog 221 = some (23, 220) := by kernel_rfl
theorem mp243 : mpOf Tryz.prog 243 = some (37, 242) := by kernel_rfl
theorem mp261 : mpOf Tryz.prog 261 = some (23, 259) := by kernel_rfl
theorem mp297 : mpOf Tryz.prog 297 = some (37, 295) := by kernel_rfl
theorem ni32 : niOf Tryz.prog 32 = true := by kernel_rfl
theorem ni141 : niOf Tryz.prog 141 = true := by kernel_rfl
theorem ni152 : niOf Tryz.prog 152 = true := by kernel_rfl
theorem ni315 : niOf Tryz.prog 315 = true := by kernel_rfl
theorem pl25 : plOf Tryz.prog 25 = some [(0, 1), (1, 1), (2, 1), (3, 1)] := by kernel_rfl
theorem pl30 : plOf Tryz.prog 30 = some [(0, 1), (1, 1), (2, 1)] := by kernel_rfl
theorem pl40 : plOf Tryz.prog 40 = some [(0, 1), (1, 1), (2, 1), (3, 1)] := by kernel_rfl
theorem pl98 : plOf Tryz.prog 98 = some [(0, 1), (1, 3), (4, 1)] := by kernel_rfl
theorem pl103 : plOf Tryz.prog 103 = some [(0, 1), (1, 1)] := by kernel_rfl
theorem pl141 : plOf Tryz.prog 141 = some [(0, 1), (1, 1)] := by kernel_rfl
theorem pl143 : plOf Tryz.prog 143 = some [(0, 3)] := by kernel_rfl
theorem pl147 : plOf Tryz.prog 147 = some [(0, 1)] := by kernel_rfl
theorem pl175 : plOf Tryz.prog 175 = some [(0, 1), (1, 1)] := by kernel_rfl
theorem pl220 : plOf Tryz.prog 220 = some [(0, 1), (1, 1), (2, 1)] := by kernel_rfl
theorem pl237 : plOf Tryz.prog 237 = some [(0, 1)] := by kernel_rfl
theorem pl242 : plOf Tryz.prog 242 = some [(0, 1), (1, 1)] := by kernel_rfl
theorem pl259 : plOf Tryz.prog 259 = some [(0, 1), (1, 1), (2, 1)] := by kernel_rfl
theorem pl295 : plOf Tryz.prog 295 = some [(0, 1), (1, 1)] := by kernel_rfl
theorem pl317 : plOf Tryz.prog 317 = some [(0, 1), (1, 1)] := by kernel_rfl
theorem pl343 : plOf Tryz.prog 343 = some [(0, 1), (1, 1)] := by kernel_rfl
theorem pt31 : ptOf Tryz.prog 31 = true := by kernel_rfl
theorem pt94 : ptOf Tryz.prog 94 = true := by kernel_rfl
theorem sl26 : slOf Tryz.prog 26 = some 25 := by kernel_rfl
theorem sl27 : slOf Tryz.prog 27 = some 3 := by kernel_rfl
theorem sl28 : slOf Tryz.prog 28 = some 27 := by kernel_rfl
theorem sl42 : slOf Tryz.prog 42 = some 48 := by kernel_rfl
theorem sl47 : slOf Tryz.prog 47 = some 50 := by kernel_rfl
theorem sl48 : slOf Tryz.prog 48 = some 40 := by kernel_rfl
theorem sl96 : slOf Tryz.prog 96 = some 103 := by kernel_rfl
theorem sl108 : slOf Tryz.prog 108 = some 9 := by kernel_rfl
theorem sl132 : slOf Tryz.prog 132 = some 5 := by kernel_rfl
theorem sl144 : slOf Tryz.prog 144 = some 177 := by kernel_rfl
theorem sl145 : slOf Tryz.prog 145 = some 177 := by kernel_rfl
theorem sl176 : slOf Tryz.prog 176 = some 175 := by kernel_rfl
theorem sl177 : slOf Tryz.prog 177 = some 175 := by kernel_rfl
theorem sl197 : slOf Tryz.prog 197 = some 28 := by kernel_rfl
theorem sl235 : slOf Tryz.prog 235 = some 5 := by kernel_rfl
theorem sl328 : slOf Tryz.prog 328 = some 145 := by kernel_rfl
theorem sl331 : slOf Tryz.prog 331 = some 5 := by kernel_rfl
theorem st9 : stOf Tryz.prog 9 = true := by kernel_rfl
theorem sz2 : szOf Tryz.prog 2 = some 1 := by kernel_rfl
theorem sz3 : szOf Tryz.prog 3 = some 1 := by kernel_rfl
theorem sz4 : szOf Tryz.prog 4 = some 1 := by kernel_rfl
theorem sz5 : szOf Tryz.prog 5 = some 1 := by kernel_rfl
theorem sz9 : szOf Tryz.prog 9 = some 1 := by kernel_rfl
theorem sz25 : szOf Tryz.prog 25 = some 4 := by kernel_rfl
theorem sz27 : szOf Tryz.prog 27 = some 1 := by kernel_rfl
theorem sz28 : szOf Tryz.prog 28 = some 1 := by kernel_rfl
theorem sz30 : szOf Tryz.prog 30 = some 3 := by kernel_rfl
theorem sz31 : szOf Tryz.prog 31 = some 1 := by kernel_rfl
theorem sz32 : szOf Tryz.prog 32 = some 1 := by kernel_rfl
theorem sz38 : szOf Tryz.prog 38 = some 1 := by kernel_rfl
theorem sz40 : szOf Tryz.prog 40 = some 4 := by kernel_rfl
theorem sz48 : szOf Tryz.prog 48 = some 1 := by kernel_rfl
theorem sz50 : szOf Tryz.prog 50 = some 4 := by kernel_rfl
theorem sz96 : szOf Tryz.prog 96 = some 1 := by kernel_rfl
theorem sz103 : szOf Tryz.prog 103 = some 2 := by kernel_rfl
theorem sz108 : szOf Tryz.prog 108 = some 1 := by kernel_rfl
theorem sz132 : szOf Tryz.prog 132 = some 1 := by kernel_rfl
theorem sz143 : szOf Tryz.prog 143 = some 3 := by kernel_rfl
theorem sz145 : szOf Tryz.prog 145 = some 1 := by kernel_rfl
theorem sz175 : szOf Tryz.prog 175 = some 2 := by kernel_rfl
theorem sz177 : szOf Tryz.prog 177 = some 1 := by kernel_rfl
theorem sz202 : szOf Tryz.prog 202 = some 3 := by kernel_rfl
theorem sz214 : szOf Tryz.prog 214 = some 2 := by kernel_rfl
theorem sz235 : szOf Tryz.prog 235 = some 1 := by kernel_rfl
theorem sz259 : szOf Tryz.prog 259 = some 3 := by kernel_rfl
theorem sz295 : szOf Tryz.prog 295 = some 2 := by kernel_rfl
theorem sz312 : szOf Tryz.prog 312 = some 1 := by kernel_rfl
theorem sz331 : szOf Tryz.prog 331 = some 1 := by kernel_rfl
theorem sz343 : szOf Tryz.prog 343 = some 2 := by kernel_rfl
theorem zr3 : zrOf Tryz.prog 3 = some (.int .i64 0) := by kernel_rfl
theorem zr4 : zrOf Tryz.prog 4 = some (.bool false) := by kernel_rfl
theorem zr5 : zrOf Tryz.prog 5 = some (.int .u8 0) := by kernel_rfl
theorem zr9 : zrOf Tryz.prog 9 = some (.string ⟨#[]⟩) := by kernel_rfl
theorem zr25 : zrOf Tryz.prog 25 = some (.agg #[.string ⟨#[]⟩, .int .i64 0, .int .i64 0, .bool false]) := by kernel_rfl
theorem zr27 : zrOf Tryz.prog 27 = some (.slice none 0 0) := by kernel_rfl
theorem zr28 : zrOf Tryz.prog 28 = some (.slice none 0 0) := by kernel_rfl
theorem zr30 : zrOf Tryz.prog 30 = some (.agg #[.slice none 0 0, .slice none 0 0, .slice none 0 0]) := by kernel_rfl
theorem zr31 : zrOf Tryz.prog 31 = some (.pointer none) := by kernel_rfl
theorem zr32 : zrOf Tryz.prog 32 = some (.int .i64 0) := by kernel_rfl
theorem zr40 : zrOf Tryz.prog 40 = some (.agg #[.int .i64 0, .int .i64 0, .int .u64 0, .string ⟨#[]⟩]) := by kernel_rfl
theorem zr48 : zrOf Tryz.prog 48 = some (.slice none 0 0) := by kernel_rfl
theorem zr50 : zrOf Tryz.prog 50 = some (.agg #[.int .i64 0, .int .i64 0, .slice none 0 0, .string ⟨#[]⟩]) := by kernel_rfl
theorem zr98 : zrOf Tryz.prog 98 = some (.agg #[.pointer none, .slice none 0 0, .slice none 0 0, .slice none 0 0, .slice none 0 0]) := by kernel_rfl
theorem zr103 : zrOf Tryz.prog 103 = some (.agg #[.slice none 0 0, .pointer none]) := by kernel_rfl
theorem zr132 : zrOf Tryz.prog 132 = some (.slice none 0 0) := by kernel_rfl
theorem zr141 : zrOf Tryz.prog 141 = some (.agg #[.string ⟨#[]⟩, .nilIface]) := by kernel_rfl
theorem zr143 : zrOf Tryz.prog 143 = some (.agg #[.slice none 0 0, .slice none 0 0, .slice none 0 0]) := by kernel_rfl
theorem zr145 : zrOf Tryz.prog 145 = some (.slice none 0 0) := by kernel_rfl
theorem zr147 : zrOf Tryz.prog 147 = some (.agg #[.slice none 0 0]) := by kernel_rfl
theorem zr175 : zrOf Tryz.prog 175 = some (.agg #[.string ⟨#[]⟩, .string ⟨#[]⟩]) := by kernel_rfl
theorem zr177 : zrOf Tryz.prog 177 = some (.slice none 0 0) := by kernel_rfl
theorem zr202 : zrOf Tryz.prog 202 = some (.agg #[.pointer none, .pointer none, .int .u64 0]) := by kernel_rfl
theorem zr214 : zrOf Tryz.prog 214 = some (.agg #[.slice none 0 0, .slice none 0 0]) := by kernel_rfl
theorem zr220 : zrOf Tryz.prog 220 = some (.agg #[.nilFunc, .nilFunc, .nilFunc]) := by kernel_rfl
theorem zr237 : zrOf Tryz.prog 237 = some (.agg #[.slice none 0 0]) := by kernel_rfl
theorem zr242 : zrOf Tryz.prog 242 = some (.agg #[.nilFunc, .nilFunc]) := by kernel_rfl
theorem zr249 : zrOf Tryz.prog 249 = some (.nilIface) := by kernel_rfl
theorem zr252 : zrOf Tryz.prog 252 = some (.nilIface) := by kernel_rfl
theorem zr254 : zrOf Tryz.prog 254 = some (.nilIface) := by kernel_rfl
theorem zr259 : zrOf Tryz.prog 259 = some (.agg #[.nilFunc, .int .i64 0, .nilFunc]) := by kernel_rfl
theorem zr268 : zrOf Tryz.prog 268 = some (.nilIface) := by kernel_rfl
theorem zr295 : zrOf Tryz.prog 295 = some (.agg #[.nilFunc, .nilFunc]) := by kernel_rfl
theorem zr312 : zrOf Tryz.prog 312 = some (.nilFunc) := by kernel_rfl
theorem zr317 : zrOf Tryz.prog 317 = some (.agg #[.string ⟨#[]⟩, .nilIface]) := by kernel_rfl
theorem zr343 : zrOf Tryz.prog 343 = some (.agg #[.slice none 0 0, .int .i64 0]) := by kernel_rfl
theorem zr348 : zrOf Tryz.prog 348 = some (.agg #[.int .u8 0, .int .u8 0, .int .u8 0, .int .u8 0, .int .u8 0, .int .u8 0, .int .u8 0, .int .u8 0, .int .u8 0]) := by kernel_rfl
theorem ap26 : App Tryz.prog 26 25 4 40 (.agg #[.string ⟨#[]⟩, .int .i64 0, .int .i64 0, .bool false]) := ⟨sl26, sz25, zr25, by as_aux_lemma => kernel_rfl, rfl, by simp [Value.cells, Value.oneCell'], by decide⟩
theorem ap27 : App Tryz.prog 27 3 1 8 (.int .i64 0) := ⟨sl27, sz3, zr3, by as_aux_lemma => kernel_rfl, rfl, by simp [Value.cells, Value.oneCell'], by decide⟩
theorem ap28 : App Tryz.prog 28 27 1 24 (.slice none 0 0) := ⟨sl28, sz27, zr27, by as_aux_lemma => kernel_rfl, rfl, by simp [Value.cells, Value.oneCell'], by decide⟩
theorem ap42 : App Tryz.prog 42 48 1 24 (.slice none 0 0) := ⟨sl42, sz48, zr48, by as_aux_lemma => kernel_rfl, rfl, by simp [Value.cells, Value.oneCell'], by decide⟩
theorem ap47 : App Tryz.prog 47 50 4 56 (.agg #[.int .i64 0, .int .i64 0, .slice none 0 0, .string ⟨#[]⟩]) := ⟨sl47, sz50, zr50, by as_aux_lemma => kernel_rfl, rfl, by simp [Value.cells, Value.oneCell'], by decide⟩
theorem ap48 : App Tryz.prog 48 40 4 40 (.agg #[.int .i64 0, .int .i64 0, .int .u64 0, .string ⟨#[]⟩]) := ⟨sl48, sz40, zr40, by as_aux_lemma => kernel_rfl, rfl, by simp [Value.cells, Value.oneCell'], by decide⟩
theorem ap96 : App Tryz.prog 96 103 2 32 (.agg #[.slice none 0 0, .pointer none]) := ⟨sl96, sz103, zr103, by as_aux_lemma => kernel_rfl, rfl, by simp [Value.cells, Value.oneCell'], by decide⟩
theorem ap108 : App Tryz.prog 108 9 1 16 (.string ⟨#[]⟩) := ⟨sl108, sz9, zr9, by as_aux_lemma => kernel_rfl, rfl, by simp [Value.cells, Value.oneCell'], by decide⟩
theorem ap132 : App Tryz.prog 132 5 1 1 (.int .u8 0) := ⟨sl132, sz5, zr5, by as_aux_lemma => kernel_rfl, rfl, by simp [Value.cells, Value.oneCell'], by decide⟩
theorem ap144 : App Tryz.prog 144 177 1 24 (.slice none 0 0) := ⟨sl144, sz177, zr177, by as_aux_lemma => kernel_rfl, rfl, by simp [Value.cells, Value.oneCell'], by decide⟩
theorem ap145 : App Tryz.prog 145 177 1 24 (.slice none 0 0) := ⟨sl145, sz177, zr177, by as_aux_lemma => kernel_rfl, rfl, by simp [Value.cells, Value.oneCell'], by decide⟩
theorem ap176 : App Tryz.prog 176 175 2 32 (.agg #[.string ⟨#[]⟩, .string ⟨#[]⟩]) := ⟨sl176, sz175, zr175, by as_aux_lemma => kernel_rfl, rfl, by simp [Value.cells, Value.oneCell'], by decide⟩
theorem ap177 : App Tryz.prog 177 175 2 32 (.agg #[.string ⟨#[]⟩, .string ⟨#[]⟩]) := ⟨sl177, sz175, zr175, by as_aux_lemma => kernel_rfl, rfl, by simp [Value.cells, Value.oneCell'], by decide⟩
theorem ap197 : App Tryz.prog 197 28 1 24 (.slice none 0 0) := ⟨sl197, sz28, zr28, by as_aux_lemma => kernel_rfl, rfl, by simp [Value.cells, Value.oneCell'], by decide⟩
theorem ap328 : App Tryz.prog 328 145 1 24 (.slice none 0 0) := ⟨sl328, sz145, zr145, by as_aux_lemma => kernel_rfl, rfl, by simp [Value.cells, Value.oneCell'], by decide⟩
theorem mix : Tryz.prog.follows .mixedOrders = true := by kernel_rfl
end Go.Wk

namespace Go.Wk
open Go.Proofs
set_option maxRecDepth 10000

theorem ex262 : exOf Tryz.prog 262 = some Extern.BytealgCompare.compare := by kernel_rfl
theorem run_compare (s u : ByteArray) (w : World) : (Extern.BytealgCompare.compare #[.string s, .string u]).run Tryz.prog w = .ok (.int .i64 (scmp s u)) w := by
  change Sem.run Tryz.prog (do pure (goInt (Extern.BytealgCompare.cmp (← Extern.Bytes.bytesOf (.string s)) (← Extern.Bytes.bytesOf (.string u))))) w = _
  simp [Extern.Bytes.bytesOf, goInt, scmp]

theorem f58 (s u : ByteArray) (w : World) : Ret Tryz.prog 235 #[.string s, .string u] w fun v w' => v = .int .i64 (scmp s u) ∧ w' = w := by
  refine Ret.of_W (args := [.string s, .string u]) Tryz.func235 rfl rfl rfl rfl ?_

  refine Sr (Oa rfl rfl (O_end [0, 1] (F' := [(0, _), (1, _)]) rfl (Sr (Om rfl rfl (Om rfl rfl ?_)))))
  refine O_go (gn rfl) (st_ext ex262 rfl rfl (run_compare _ _ _) rfl ?_)
  refine Oa rfl rfl (O_end [4] (F' := [(4, _)]) rfl (W_ret ?_))
  refine ret1 rfl rfl ?_
  exact ⟨rfl, rfl⟩

theorem f52 (s u : ByteArray) (w : World) : Ret Tryz.prog 186 #[.string s, .string u] w fun v w' => v = .int .i64 (scmp s u) ∧ w' = w := by
  refine Ret.of_W (args := [.string s, .string u]) Tryz.func186 rfl rfl rfl rfl ?_

  refine Sr (Oa rfl rfl (O_end [0, 1] (F' := [(0, _), (1, _)]) rfl (Sr (Om rfl rfl (Om rfl rfl ?_)))))
  refine O_go (gn rfl) (st_call bd235 rfl rfl rfl rfl (f58 _ _ _) ?_)
  rintro v7 w7 ⟨rfl, rfl⟩
  refine Oa rfl rfl (O_end [4] (F' := [(4, _)]) rfl (W_ret ?_))
  refine ret1 rfl rfl ?_
  exact ⟨rfl, rfl⟩

/-! ### entries and lists -/
abbrev Ent := ByteArray × ByteArray
def flat (es : List Ent) : List Value := es.flatMap fun x => [.string x.1, .string x.2]
theorem flat_cons (x : Ent) (es : List Ent) : flat (x :: es) = .string x.1 :: .string x.2 :: flat es := rfl
theorem flat_append (a b : List Ent) : flat (a ++ b) = flat a ++ flat b := by simp [flat]
theorem length_flat (es : List Ent) : (flat es).length = es.length * 2 := by
  induction es with
  | nil => rfl
  | cons x es ih => rw [flat_cons]; simp only [List.length_cons, ih]; omega
theorem flat_drop (es : List Ent) (i : Nat) : flat (es.drop i) = (flat es).drop (i * 2) := by
  induction es generalizing i with
  | nil => simp [flat]
  | cons x es ih =>
    cases i with
    | zero => simp
    | succ i => rw [List.drop_succ_cons, ih, flat_cons, show (i + 1) * 2 = (i * 2) + 1 + 1 by omega]; rfl
theorem flat_take (es : List Ent) (i : Nat) : flat (es.take i) = (flat es).take (i * 2) := by
  induction es generalizing i with
  | nil => simp [flat]
  | cons x es ih =>
    cases i with
    | zero => simp [flat]
    | succ i => rw [List.take_succ_cons, flat_cons, ih, flat_cons, show (i + 1) * 2 = (i * 2) + 1 + 1 by omega]; rfl
theorem flat_one (es : List Ent) : ∀ u ∈ flat es, u.oneCell' = true := by
  intro u hu
  simp only [flat, List.mem_flatMap] at hu
  obtain ⟨x, _, hu⟩ := hu
  simp at hu
  rcases hu with rfl | rfl <;> rfl
theorem flat_at {es : List Ent} {i : Nat} {x : Ent} (h : es[i]? = some x) : ((flat es).drop (i * 2)).take 2 = [.string x.1, .string x.2] := by
  rw [← flat_drop]
  have : es.drop i = x :: es.drop (i + 1) := by
    rw [List.getElem?_eq_some_iff] at h
    obtain ⟨hl, rfl⟩ := h
    exact List.drop_eq_getElem_cons hl
  rw [this, flat_cons]
  rfl

/-- v is a list of these entries. -/
def IsList (w : World) (v : Value) (es : List Ent) : Prop := IsSl w 175 2 v es.length (flat es)
theorem IsList.chg {S : List Nat} {w w' : World} {v : Value} {es : List Ent} (h : IsList w v es) (hc : Chg S w w') (hb : ∀ b ∈ blkOf v, b ∉ S) : IsList w' v es := IsSl.chg h hc hb
theorem IsList.chg0 {w w' : World} {v : Value} {es : List Ent} (h : IsList w v es) (hc : Chg [] w w') : IsList w' v es := IsSl.chg0 h hc
theorem IsList.at' {w : World} {v : Value} {es : List Ent} (h : IsList w v es) {i : Nat} {x : Ent} (hx : es[i]? = some x) : ∃ b off cap, v = .slice (some ⟨b, off, none⟩) es.length cap ∧ Cells w b (off + i * 2) [.string x.1, .string x.2] := by
  have hi : i < es.length := (List.getElem?_eq_some_iff.1 hx).1
  obtain ⟨b, off, cap, hv, hc⟩ := IsSl.atk h hi
  rw [flat_at hx] at hc
  exact ⟨b, off, cap, hv, hc⟩

theorem f41 (k x : ByteArray) (w : World) : Ret Tryz.prog 139 #[.agg #[.string k, .string x]] w fun r w' => r = .string k ∧ Chg [] w w' := by
  refine Ret.of_W (args := [.agg #[.string k, .string x]]) Tryz.func139 rfl rfl rfl rfl ?_

  refine Sr ?_
  refine O_go (gn rfl) (st_box rfl rfl rfl ?_)
  intro b1 w1 e1 n1 c1 k1
  refine Oa rfl rfl (O_end [1] (F' := [(1, _)]) rfl (Sr (Og (vl_fieldAddr fo175_0 rfl) rfl ?_)))
  refine Og (vl_load ag9 rfl (k1.cell' rfl)) rfl ?_
  refine Oa rfl rfl (O_end [2] (F' := [(2, _)]) rfl (W_ret ?_))
  refine ret1 rfl rfl ?_
  exact ⟨rfl, c1⟩

theorem f49 (v : Value) (k x : ByteArray) (es : List Ent) (w : World) (h : IsList w v ((k, x) :: es)) : Ret Tryz.prog 183 #[v] w fun r w' => r = .string k ∧ w' = w := by
  obtain ⟨b, off, cap, rfl, hc⟩ := h.at' (i := 0) rfl
  refine Ret.of_W (args := [_]) Tryz.func183 rfl rfl rfl rfl ?_

  refine Sr (Oa rfl rfl (O_end [0] (F' := [(0, _)]) rfl (Sr (Om rfl rfl ?_))))
  refine Og (vl_indexAddr sl177 sz175 rfl rfl 0 rfl (by simp)) rfl ?_
  refine Og (vl_fieldAddr fo175_0 rfl) rfl ?_
  refine Og (vl_load ag9 rfl (hc 0 _ rfl)) rfl ?_
  refine Oa rfl rfl (O_end [2] (F' := [(2, _)]) rfl (W_ret ?_))
  refine ret1 rfl rfl ?_
  exact ⟨rfl, rfl⟩

theorem f51 (k x key : ByteArray) (b : Nat) (w : World) (hb : Blk w b 231 [.func (.func 139) #[] #[]]) : Ret Tryz.prog 185 #[.agg #[.string k, .string x], .string key, .pointer (some ⟨b, 0, none⟩)] w fun r w' => r = .int .i64 (scmp k key) ∧ Chg [] w w' := by
  refine Ret.of_W (args := [_, _, _]) Tryz.func185 rfl rfl rfl rfl ?_

  refine Sr ?_
  refine O_go (gn rfl) (st_box rfl rfl rfl ?_)
  intro b3 w3 e3 n3 c3 k3
  refine Oa rfl rfl (O_end [1, 2, 3] (F' := [(1, _), (2, _), (3, _)]) rfl (Sr ?_))
  refine Og (vl_load ag231 rfl ((hb.chg0 c3).cell' rfl)) rfl ?_
  refine Og (vl_loadAgg ag175 sz175 rfl rfl (Cells.of_blk0 k3)) rfl ?_
  refine O_go (gn rfl) (st_call bd139 rfl rfl rfl rfl (f41 k x _) ?_)
  rintro v8 w8 ⟨rfl, c8⟩
  refine Om rfl rfl ?_
  refine O_go (gn rfl) (st_call bd186 rfl rfl rfl rfl (f52 _ _ _) ?_)
  rintro v10 w10 ⟨rfl, rfl⟩
  refine Oa rfl rfl (O_end [5] (F' := [(5, _)]) rfl (W_ret ?_))
  refine ret1 rfl rfl ?_
  exact ⟨rfl, c3.trans c8⟩

theorem f57 (v : Value) (k x key : ByteArray) (es : List Ent) (b : Nat) (w : World) (hl : IsList w v ((k, x) :: es)) (hb : Blk w b 288 [.func (.func 183) #[] #[]]) : Ret Tryz.prog 234 #[v, .string key, .pointer (some ⟨b, 0, none⟩)] w fun r w' => r = .int .i64 (scmp k key) ∧ w' = w := by
  refine Ret.of_W (args := [_, _, _]) Tryz.func234 rfl rfl rfl rfl ?_

  refine Sr (Oa rfl rfl (O_end [0, 1, 2] (F' := [(0, _), (1, _), (2, _)]) rfl (Sr ?_)))
  refine Og (vl_load ag288 rfl (hb.cell' rfl)) rfl ?_
  refine Om rfl rfl ?_
  refine O_go (gn rfl) (st_call bd183 rfl rfl rfl rfl (f49 _ _ _ _ _ hl) ?_)
  rintro v8 w8 ⟨rfl, rfl⟩
  refine Om rfl rfl ?_
  refine O_go (gn rfl) (st_call bd186 rfl rfl rfl rfl (f52 _ _ _) ?_)
  rintro v10 w10 ⟨rfl, rfl⟩
  refine Oa rfl rfl (O_end [5] (F' := [(5, _)]) rfl (W_ret ?_))
  refine ret1 rfl rfl ?_
  exact ⟨rfl, rfl⟩
end Go.Wk

namespace Go.Wk
open Go.Proofs
set_option maxRecDepth 10000

/-- i is the first place whose key isn't below. -/
def IsLb (ks : List ByteArray) (key : ByteArray) (i : Nat) : Prop := i ≤ ks.length ∧ ∀ j k, ks[j]? = some k → (blt k key = true ↔ j < i)
def Mono (ks : List ByteArray) (key : ByteArray) : Prop := ∀ (i j : Nat) (a b : ByteArray), i ≤ j → ks[i]? = some a → ks[j]? = some b → blt b key = true → blt a key = true
def Between (ks : List ByteArray) (key : ByteArray) (lo hi : Nat) : Prop := lo ≤ hi ∧ hi ≤ ks.length ∧ (∀ (j : Nat) (k : ByteArray), j < lo → ks[j]? = some k → blt k key = true) ∧ (∀ (j : Nat) (k : ByteArray), hi ≤ j → ks[j]? = some k → blt k key = false)
def hasAt (ks : List ByteArray) (key : ByteArray) (i : Nat) : Bool := match ks[i]? with | some k => decide (k = key) | none => false

theorem Between.start (ks : List ByteArray) (key : ByteArray) : Between ks key 0 ks.length :=
  ⟨Nat.zero_le _, Nat.le_refl _, fun j k h => by omega, fun j k h hk => by simp [List.getElem?_eq_none h] at hk⟩
theorem Between.low {ks : List ByteArray} {key k : ByteArray} {lo hi h : Nat} (hb : Between ks key lo hi) (hm : Mono ks key) (h1 : lo ≤ h) (h2 : h < hi) (hk : ks[h]? = some k) (hlt : blt k key = true) : Between ks key (h + 1) hi :=
  ⟨by omega, hb.2.1, fun j a hj ha => hm j h a k (by omega) ha hk hlt, hb.2.2.2⟩
theorem Between.high {ks : List ByteArray} {key k : ByteArray} {lo hi h : Nat} (hb : Between ks key lo hi) (hm : Mono ks key) (h1 : lo ≤ h) (h2 : h < hi) (hk : ks[h]? = some k) (hlt : blt k key = false) : Between ks key lo h :=
  ⟨h1, by have := hb.2.1; omega, hb.2.2.1, fun j a hj ha => by
    cases hx : blt a key with
    | false => rfl
    | true => rw [hm h j k a hj hk ha hx] at hlt; cases hlt⟩
theorem Between.done {ks : List ByteArray} {key : ByteArray} {lo hi : Nat} (hb : Between ks key lo hi) (he : hi ≤ lo) : IsLb ks key lo := by
  have : lo = hi := by have := hb.1; omega
  subst this
  refine ⟨hb.2.1, fun j k hk => ⟨fun h => ?_, fun h => hb.2.2.1 j k h hk⟩⟩
  rcases Nat.lt_or_ge j lo with h' | h'
  · exact h'
  · rw [hb.2.2.2 j k h' hk] at h; cases h
theorem half_lt {lo hi : Nat} (h : lo < hi) : lo ≤ (lo + hi) / 2 ∧ (lo + hi) / 2 < hi := by omega

theorem f50 (v : Value) (es : List Ent) (key : ByteArray) (b : Nat) (w : World) (hl : IsList w v es) (hn : es.length ≤ 4611686018427387903) (hb : Blk w b 231 [.func (.func 139) #[] #[]]) (hm : Mono (es.map (·.1)) key) :
    Ret Tryz.prog 184 #[v, .string key, .func (.func 185) #[] #[.pointer (some ⟨b, 0, none⟩)]] w fun r w' => ∃ i : Nat, r = .tuple #[.int .i64 i, .bool (hasAt (es.map (·.1)) key i)] ∧ IsLb (es.map (·.1)) key i ∧ Chg [] w w' := by
  obtain ⟨p, c, rfl, _⟩ := hl.val
  refine Ret.of_W (args := [_, _, _]) Tryz.func184 rfl rfl rfl rfl ?_

  refine Sr (Oa rfl rfl (Oa rfl rfl (O_end [0, 1, 2] (F' := [(0, _), (1, _), (2, _)]) rfl (Sr (Om rfl rfl (Og (vl_len sl176 rfl) rfl (Oa rfl rfl (O_end [0, 1, 2, 8] (F' := [(0, _), (1, _), (2, _), (8, _)]) rfl (Sr (Om rfl rfl ?_))))))))))
  refine Oa rfl rfl (Oa rfl rfl (O_end [0, 1, 2, 8, 9, 10] (F' := [(0, _), (1, _), (2, _), (8, _), (9, _), (10, _)]) rfl (W_seq (W_block ?_))))
  refine W_loop [0, 1, 2, 8, 9, 10] (fun m F wx => ∃ lo hi : Nat, m = hi - lo ∧ F = [(0, .slice p es.length c), (1, .string key), (2, .func (.func 185) #[] #[.pointer (some ⟨b, 0, none⟩)]), (8, .int .i64 es.length), (9, .int .i64 lo), (10, .int .i64 hi)] ∧ Between (es.map (·.1)) key lo hi ∧ Chg [] w wx) (m := es.length - 0) ⟨0, es.length, rfl, rfl, by simpa using Between.start (es.map (·.1)) key, Chg.refl _ _⟩ ?_
  rintro m F wx ⟨lo, hi, rfl, rfl, hbt, hcx⟩
  have hle := hbt.2.1
  rw [List.length_map] at hle
  refine W_seq (Sr (Om rfl rfl (Om rfl rfl (Og (vl_lss rfl rfl) rfl (O_end [0, 1, 2, 8, 9, 10, 17] (F' := [(0, _), (1, _), (2, _), (8, _), (9, _), (10, _), (17, _)]) rfl ?_)))))
  refine W_cond rfl (fun hT => ?_) (fun hF => ?_)
  · refine W_skipE ?_
    have hlt : lo < hi := by simpa using hT
    have hh := half_lt hlt
    have hk : es[(lo + hi) / 2]? = some es[(lo + hi) / 2] := by simp
    have hlw := hl.chg0 hcx
    obtain ⟨bb, off, cap, hv, hcs⟩ := hlw.at' hk
    cases hv
    refine W_block (Sr (Om rfl rfl (Om rfl rfl ?_)))
    refine Og (vl_add rfl rfl (by omega)) rfl ?_
    refine Og (vl_convn it227_u64 it3_i64 rfl (show IntKind.u64.wrap ((lo : Int) + (hi : Int)) = ((lo + hi : Nat) : Int) from by rw [IntWalk.u64_in _ ⟨by omega, by omega⟩]; omega)) rfl ?_
    refine Og (vl_shr 1 rfl rfl (by omega) (by decide) (show ((lo + hi : Nat) : Int).fdiv 2 = (((lo + hi) / 2 : Nat) : Int) from by rw [Int.fdiv_eq_ediv_of_nonneg _ (by omega)]; omega)) rfl ?_
    refine Og (vl_convn it3_i64 it227_u64 rfl (show IntKind.i64.wrap (((lo + hi) / 2 : Nat) : Int) = (((lo + hi) / 2 : Nat) : Int) from IntWalk.i64_in _ ⟨by omega, by omega⟩)) rfl ?_
    refine Oa rfl rfl (O_end [0, 1, 2, 8, 9, 10, 11] (F' := [(0, _), (1, _), (2, _), (8, _), (9, _), (10, _), (11, _)]) rfl (Sr (Om rfl rfl (Om rfl rfl (Om rfl rfl ?_)))))
    refine Og (vl_indexAddr sl176 sz175 rfl rfl _ rfl (by omega)) rfl ?_
    refine Og (vl_loadAgg ag175 sz175 rfl rfl hcs) rfl ?_
    refine Om rfl rfl ?_
    refine O_go (gn rfl) (st_call bd185 rfl rfl rfl rfl (f51 _ _ key b _ (hb.chg0 hcx)) ?_)
    rintro v30 w30 ⟨rfl, c30⟩
    refine Og (vl_lss rfl rfl) rfl (O_end [0, 1, 2, 8, 9, 10, 11, 31] (F' := [(0, _), (1, _), (2, _), (8, _), (9, _), (10, _), (11, _), (31, _)]) rfl ?_)
    have hkm : (es.map (·.1))[(lo + hi) / 2]? = some es[(lo + hi) / 2].1 := by rw [List.getElem?_map, hk]; rfl
    refine W_cond rfl (fun hT => ?_) (fun hF => ?_)
    · have hlt2 := (scmp_lt _ _).1 (of_decide_eq_true hT)
      refine W_region (Om rfl rfl ?_)
      refine Og (vl_add rfl rfl (by omega)) rfl ?_
      refine Oa rfl rfl ?_
      refine O_endN [0, 1, 2, 8, 9, 10] (F' := [(0, _), (1, _), (2, _), (8, _), (9, _), (10, _)]) rfl ?_
      refine ⟨hi - ((lo + hi) / 2 + 1), by omega, (lo + hi) / 2 + 1, hi, rfl, rfl, hbt.low hm hh.1 hh.2 hkm hlt2, hcx.trans c30⟩
    · have hlt2 : blt es[(lo + hi) / 2].1 key = false := by
        cases hx : blt es[(lo + hi) / 2].1 key with
        | false => rfl
        | true => have := (scmp_lt _ _).2 hx; simp at hF; omega
      refine W_region (Om rfl rfl (Oa rfl rfl ?_))
      refine O_endN [0, 1, 2, 8, 9, 10] (F' := [(0, _), (1, _), (2, _), (8, _), (9, _), (10, _)]) rfl ?_
      refine ⟨(lo + hi) / 2 - lo, by omega, lo, (lo + hi) / 2, rfl, rfl, hbt.high hm hh.1 hh.2 hkm hlt2, hcx.trans c30⟩
  · refine W_exit ?_
    repeat (first | refine then_exit ?_ | refine blockF_other rfl ?_)
    refine blockF_exit _ ?_
    have hge : hi ≤ lo := by simpa using hF
    have hlb := hbt.done hge
    refine W_seq ?_
    by_cases hlt : lo < es.length
    · have hk : es[lo]? = some es[lo] := by simp
      have hlw := hl.chg0 hcx
      obtain ⟨bb, off, cap, hv, hcs⟩ := hlw.at' hk
      cases hv
      have hhas : hasAt (es.map (·.1)) key lo = decide (scmp es[lo].1 key = 0) := by
        simp only [hasAt, List.getElem?_map, hk, Option.map_some]
        exact decide_eq_decide.2 (scmp_eq _ _).symm
      refine W_region (Om rfl rfl (Om rfl rfl (Om rfl rfl ?_)))
      refine Og (vl_is (b' := true) (vl_lss rfl rfl) (by simpa using hlt)) rfl ?_
      refine Om rfl rfl ?_
      refine Oy rfl rfl (vl_move rfl) rfl ?_
      refine Oy rfl rfl (vl_move rfl) rfl ?_
      refine Oy rfl rfl (vl_move rfl) rfl ?_
      refine Oy rfl rfl (vl_indexAddr sl176 sz175 rfl rfl _ rfl hlt) rfl ?_
      refine Oy rfl rfl (vl_loadAgg ag175 sz175 rfl rfl hcs) rfl ?_
      refine Oy rfl rfl (vl_move rfl) rfl ?_
      refine O_go (gy rfl rfl rfl) (st_call bd185 rfl rfl rfl rfl (f51 _ _ key b _ (hb.chg0 hcx)) ?_)
      rintro v46 w46 ⟨rfl, c46⟩
      refine Oy rfl rfl (vl_is (vl_ieq rfl rfl) hhas.symm) rfl ?_
      refine Ot rfl rfl rfl (Oa rfl rfl (Oa rfl rfl (O_end [6, 7] (F' := [(6, _), (7, _)]) rfl (W_ret ?_))))
      refine ret2 rfl rfl rfl ?_
      exact ⟨lo, rfl, hlb, hcx.trans c46⟩
    · have hhas : hasAt (es.map (·.1)) key lo = false := by
        simp only [hasAt, List.getElem?_map, List.getElem?_eq_none (Nat.not_lt.1 hlt), Option.map_none]
      refine W_region (Om rfl rfl (Om rfl rfl (Om rfl rfl ?_)))
      refine Og (vl_is (b' := false) (vl_lss rfl rfl) (by simpa using hlt)) rfl ?_
      refine Om rfl rfl ?_
      iterate 8 refine O_guard_no rfl rfl rfl rfl rfl rfl ?_
      refine Of rfl rfl rfl (Oa rfl rfl (Oa rfl rfl (O_end [6, 7] (F' := [(6, _), (7, _)]) rfl (W_ret ?_))))
      refine ret2 rfl rfl rfl ?_
      exact ⟨lo, by rw [hhas], hlb, hcx⟩
end Go.Wk
