/-
  Contracts of the functions that look for a key.
-/
import Derived.Test.YthbahcjkncfpdaaTy
namespace Go.Wk
open Go.Proofs
set_option maxRecDepth 10000

theorem ex60 : exOf Try.prog 60 = some Extern.BytealgCompare.compare := by kernel_rfl
theorem run_compare (s u : ByteArray) (w : World) : (Extern.BytealgCompare.compare #[.string s, .string u]).run Try.prog w = .ok (.int .i64 (scmp s u)) w := by
  change Sem.run Try.prog (do pure (goInt (Extern.BytealgCompare.cmp (← Extern.Bytes.bytesOf (.string s)) (← Extern.Bytes.bytesOf (.string u))))) w = _
  simp [Extern.Bytes.bytesOf, goInt, scmp]

theorem f58 (s u : ByteArray) (w : World) : Ret Try.prog 58 #[.string s, .string u] w fun v w' => v = .int .i64 (scmp s u) ∧ w' = w := by
  refine Ret.of_W (args := [.string s, .string u]) Try.func58 rfl rfl rfl rfl ?_

  refine W_seq ?_
  refine W_region ?_
  refine O_go (gn rfl) (St.vl (vl_assign rfl) rfl rfl ?_)
  refine O_end [0, 1] (F' := [(0, _), (1, _)]) rfl ?_
  refine W_seq ?_
  refine W_region ?_
  refine O_go (gn rfl) (St.vl (vl_move rfl) rfl rfl ?_)
  refine O_go (gn rfl) (St.vl (vl_move rfl) rfl rfl ?_)
  refine O_go (gn rfl) (st_ext ex60 rfl rfl (run_compare _ _ _) rfl ?_)
  refine O_go (gn rfl) (St.vl (vl_assign rfl) rfl rfl ?_)
  refine O_end [4] (F' := [(4, _)]) rfl ?_
  refine W_ret ?_
  refine ret1 rfl rfl ?_
  exact ⟨rfl, rfl⟩

theorem f52 (s u : ByteArray) (w : World) : Ret Try.prog 52 #[.string s, .string u] w fun v w' => v = .int .i64 (scmp s u) ∧ w' = w := by
  refine Ret.of_W (args := [.string s, .string u]) Try.func52 rfl rfl rfl rfl ?_

  refine W_seq ?_
  refine W_region ?_
  refine O_go (gn rfl) (St.vl (vl_assign rfl) rfl rfl ?_)
  refine O_end [0, 1] (F' := [(0, _), (1, _)]) rfl ?_
  refine W_seq ?_
  refine W_region ?_
  refine O_go (gn rfl) (St.vl (vl_move rfl) rfl rfl ?_)
  refine O_go (gn rfl) (St.vl (vl_move rfl) rfl rfl ?_)
  refine O_go (gn rfl) (st_call bd58 rfl rfl rfl rfl (f58 _ _ _) ?_)
  rintro v7 w7 ⟨rfl, rfl⟩
  refine O_go (gn rfl) (St.vl (vl_assign rfl) rfl rfl ?_)
  refine O_end [4] (F' := [(4, _)]) rfl ?_
  refine W_ret ?_
  refine ret1 rfl rfl ?_
  exact ⟨rfl, rfl⟩

/-! ### entries and lists -/
abbrev Ent := ByteArray × ByteArray
def flat (es : List Ent) : List Value := es.flatMap fun x => [.string x.1, .string x.2]
theorem flat_cons (x : Ent) (es : List Ent) : flat (x :: es) = .string x.1 :: .string x.2 :: flat es := rfl
theorem flat_append (a b : List Ent) : flat (a ++ b) = flat a ++ flat b := by simp [flat]
theorem length_flat (es : List Ent) : (flat es).length = es.length * 2 := by
  induction es with
  | nil => rfl
  | cons x es ih => rw [flat_cons]; simp only [List.length_cons, ih]; omega
theorem flat_drop (es : List Ent) (i : Nat) : flat (es.drop i) = (flat es).drop (i * 2) := by
  induction es generalizing i with
  | nil => simp [flat]
  | cons x es ih =>
    cases i with
    | zero => simp
    | succ i => rw [List.drop_succ_cons, ih, flat_cons, show (i + 1) * 2 = (i * 2) + 1 + 1 by omega]; rfl
theorem flat_take (es : List Ent) (i : Nat) : flat (es.take i) = (flat es).take (i * 2) := by
  induction es generalizing i with
  | nil => simp [flat]
  | cons x es ih =>
    cases i with
    | zero => simp [flat]
    | succ i => rw [List.take_succ_cons, flat_cons, ih, flat_cons, show (i + 1) * 2 = (i * 2) + 1 + 1 by omega]; rfl
theorem flat_one (es : List Ent) : ∀ u ∈ flat es, u.oneCell' = true := by
  intro u hu
  simp only [flat, List.mem_flatMap] at hu
  obtain ⟨x, _, hu⟩ := hu
  simp at hu
  rcases hu with rfl | rfl <;> rfl
theorem flat_at {es : List Ent} {i : Nat} {x : Ent} (h : es[i]? = some x) : ((flat es).drop (i * 2)).take 2 = [.string x.1, .string x.2] := by
  rw [← flat_drop]
  have : es.drop i = x :: es.drop (i + 1) := by
    rw [List.getElem?_eq_some_iff] at h
    obtain ⟨hl, rfl⟩ := h
    exact List.drop_eq_getElem_cons hl
  rw [this, flat_cons]
  rfl

/-- v is a list of these entries. -/
def IsList (w : World) (v : Value) (es : List Ent) : Prop := IsSl w 69 2 v es.length (flat es)
theorem IsList.chg {S : List Nat} {w w' : World} {v : Value} {es : List Ent} (h : IsList w v es) (hc : Chg S w w') (hb : ∀ b ∈ blkOf v, b ∉ S) : IsList w' v es := IsSl.chg h hc hb
theorem IsList.chg0 {w w' : World} {v : Value} {es : List Ent} (h : IsList w v es) (hc : Chg [] w w') : IsList w' v es := IsSl.chg0 h hc
theorem IsList.at' {w : World} {v : Value} {es : List Ent} (h : IsList w v es) {i : Nat} {x : Ent} (hx : es[i]? = some x) : ∃ b off cap, v = .slice (some ⟨b, off, none⟩) es.length cap ∧ Cells w b (off + i * 2) [.string x.1, .string x.2] := by
  have hi : i < es.length := (List.getElem?_eq_some_iff.1 hx).1
  obtain ⟨b, off, cap, hv, hc⟩ := IsSl.atk h hi
  rw [flat_at hx] at hc
  exact ⟨b, off, cap, hv, hc⟩

theorem f41 (k x : ByteArray) (w : World) : Ret Try.prog 41 #[.agg #[.string k, .string x]] w fun r w' => r = .string k ∧ Chg [] w w' := by
  refine Ret.of_W (args := [.agg #[.string k, .string x]]) Try.func41 rfl rfl rfl rfl ?_

  refine W_seq ?_
  refine W_region ?_
  refine O_go (gn rfl) (st_box rfl rfl rfl ?_)
  intro b1 w1 e1 n1 c1 k1
  refine O_go (gn rfl) (St.vl (vl_assign rfl) rfl rfl ?_)
  refine O_end [1] (F' := [(1, _)]) rfl ?_
  refine W_seq ?_
  refine W_region ?_
  refine O_go (gn rfl) (St.vl (vl_fieldAddr fo69_0 rfl) rfl rfl ?_)
  refine O_go (gn rfl) (St.vl (vl_load ag9 rfl (k1.cell' rfl)) rfl rfl ?_)
  refine O_go (gn rfl) (St.vl (vl_assign rfl) rfl rfl ?_)
  refine O_end [2] (F' := [(2, _)]) rfl ?_
  refine W_ret ?_
  refine ret1 rfl rfl ?_
  exact ⟨rfl, c1⟩

theorem f49 (v : Value) (k x : ByteArray) (es : List Ent) (w : World) (h : IsList w v ((k, x) :: es)) : Ret Try.prog 49 #[v] w fun r w' => r = .string k ∧ w' = w := by
  obtain ⟨b, off, cap, rfl, hc⟩ := h.at' (i := 0) rfl
  refine Ret.of_W (args := [_]) Try.func49 rfl rfl rfl rfl ?_

  refine W_seq ?_
  refine W_region ?_
  refine O_go (gn rfl) (St.vl (vl_assign rfl) rfl rfl ?_)
  refine O_end [0] (F' := [(0, _)]) rfl ?_
  refine W_seq ?_
  refine W_region ?_
  refine O_go (gn rfl) (St.vl (vl_move rfl) rfl rfl ?_)
  refine O_go (gn rfl) (St.vl (vl_indexAddr sl71 sz69 rfl rfl 0 rfl (by simp)) rfl rfl ?_)
  refine O_go (gn rfl) (St.vl (vl_fieldAddr fo69_0 rfl) rfl rfl ?_)
  refine O_go (gn rfl) (St.vl (vl_load ag9 rfl (hc 0 _ rfl)) rfl rfl ?_)
  refine O_go (gn rfl) (St.vl (vl_assign rfl) rfl rfl ?_)
  refine O_end [2] (F' := [(2, _)]) rfl ?_
  refine W_ret ?_
  refine ret1 rfl rfl ?_
  exact ⟨rfl, rfl⟩

theorem f51 (k x key : ByteArray) (b : Nat) (w : World) (hb : Blk w b 90 [.func (.func 41) #[] #[]]) : Ret Try.prog 51 #[.agg #[.string k, .string x], .string key, .pointer (some ⟨b, 0, none⟩)] w fun r w' => r = .int .i64 (scmp k key) ∧ Chg [] w w' := by
  refine Ret.of_W (args := [_, _, _]) Try.func51 rfl rfl rfl rfl ?_

  refine W_seq ?_
  refine W_region ?_
  refine O_go (gn rfl) (st_box rfl rfl rfl ?_)
  intro b3 w3 e3 n3 c3 k3
  refine O_go (gn rfl) (St.vl (vl_assign rfl) rfl rfl ?_)
  refine O_end [1, 2, 3] (F' := [(1, _), (2, _), (3, _)]) rfl ?_
  refine W_seq ?_
  refine W_region ?_
  refine O_go (gn rfl) (St.vl (vl_load ag90 rfl ((hb.chg0 c3).cell' rfl)) rfl rfl ?_)
  refine O_go (gn rfl) (St.vl (vl_loadAgg ag69 sz69 rfl rfl (Cells.of_blk0 k3)) rfl rfl ?_)
  refine O_go (gn rfl) (st_call bd41 rfl rfl rfl rfl (f41 k x _) ?_)
  rintro v8 w8 ⟨rfl, c8⟩
  refine O_go (gn rfl) (St.vl (vl_move rfl) rfl rfl ?_)
  refine O_go (gn rfl) (st_call bd52 rfl rfl rfl rfl (f52 _ _ _) ?_)
  rintro v10 w10 ⟨rfl, rfl⟩
  refine O_go (gn rfl) (St.vl (vl_assign rfl) rfl rfl ?_)
  refine O_end [5] (F' := [(5, _)]) rfl ?_
  refine W_ret ?_
  refine ret1 rfl rfl ?_
  exact ⟨rfl, c3.trans c8⟩

theorem f57 (v : Value) (k x key : ByteArray) (es : List Ent) (b : Nat) (w : World) (hl : IsList w v ((k, x) :: es)) (hb : Blk w b 98 [.func (.func 49) #[] #[]]) : Ret Try.prog 57 #[v, .string key, .pointer (some ⟨b, 0, none⟩)] w fun r w' => r = .int .i64 (scmp k key) ∧ w' = w := by
  refine Ret.of_W (args := [_, _, _]) Try.func57 rfl rfl rfl rfl ?_

  refine W_seq ?_
  refine W_region ?_
  refine O_go (gn rfl) (St.vl (vl_assign rfl) rfl rfl ?_)
  refine O_end [0, 1, 2] (F' := [(0, _), (1, _), (2, _)]) rfl ?_
  refine W_seq ?_
  refine W_region ?_
  refine O_go (gn rfl) (St.vl (vl_load ag98 rfl (hb.cell' rfl)) rfl rfl ?_)
  refine O_go (gn rfl) (St.vl (vl_move rfl) rfl rfl ?_)
  refine O_go (gn rfl) (st_call bd49 rfl rfl rfl rfl (f49 _ _ _ _ _ hl) ?_)
  rintro v8 w8 ⟨rfl, rfl⟩
  refine O_go (gn rfl) (St.vl (vl_move rfl) rfl rfl ?_)
  refine O_go (gn rfl) (st_call bd52 rfl rfl rfl rfl (f52 _ _ _) ?_)
  rintro v10 w10 ⟨rfl, rfl⟩
  refine O_go (gn rfl) (St.vl (vl_assign rfl) rfl rfl ?_)
  refine O_end [5] (F' := [(5, _)]) rfl ?_
  refine W_ret ?_
  refine ret1 rfl rfl ?_
  exact ⟨rfl, rfl⟩
end Go.Wk

