/-
  From of no pages: an iterator that hands over nothing.
-/
import Derived.Test.YthbahcjkncfpdaaP22
namespace Go.Wk
open Go.Proofs
set_option maxRecDepth 10000

def fnOf (P : Program) (t : TypeId) : Bool := match P.underlying t with | some (.func ..) => true | _ => false
section
variable {P : Program} {n : Nat} {F : Fr} {w : World} {dst : Option Tmp} {ty : TypeId} {pos : String} {af : Array Edge} {gd : Option (Nat × Bool)}
theorem vl_fnil {x y : Operand} {t u : TypeId} {f : Fn} {a b : Array Value} (hb : fnOf P t = true) (hx : ev F x = some (.func f a b)) (hy : ev F y = some .nilFunc) : Vl P n F ⟨dst, .binOp .eql t x y u, ty, pos, af, gd⟩ w (.bool false) w := by
  intro ac ha
  unfold fnOf at hb
  split at hb
  · rename_i hu
    have h1 : (Op.equal t (.func f a b) .nilFunc).run P w = .ok false w := run_equal fun d => by simp [Op.equalIn, run_underlying hu]
    simp [execOp, ha.eval hx, ha.eval hy, eqGuard, binOp, h1]
  · cases hb
theorem vl_rem {x y : Operand} {t u : TypeId} {i j : Int} (hx : ev F x = some (.int .i64 i)) (hy : ev F y = some (.int .i64 j)) (hi : 0 ≤ i ∧ i ≤ 9223372036854775807) (hj : 1 ≤ j) : Vl P n F ⟨dst, .binOp .rem t x y u, ty, pos, af, gd⟩ w (.int .i64 (i % j)) w := by
  intro a ha
  have h0 : j ≠ 0 := by omega
  have h1 : i.tmod j = i % j := Int.tmod_eq_emod_of_nonneg hi.1
  simp [execOp, ha.eval hx, ha.eval hy, eqGuard, binOp, Op.intDiv, h0, h1]
end
theorem fn40 : fnOf Try.prog 40 = true := by kernel_rfl

theorem f32_nil (l b5 b3 : Nat) (w : World) (h5 : Blk w b5 65 [.slice none 0 0]) : Ret Try.prog 32 #[.func (.yield l) #[] #[], .pointer (some ⟨b5, 0, none⟩), .pointer (some ⟨b3, 0, none⟩)] w fun _ w' => Chg [] w w' := by
  refine Ret.of_W (args := [_, _, _]) Try.func32 rfl rfl rfl rfl ?_

  refine W_scope ?_
  refine W_seq ?_
  refine W_label ?_
  refine W_seq ?_
  refine W_region ?_
  refine O_go (gn rfl) (St.vl (vl_load ag65 rfl (h5.cell' rfl)) rfl rfl ?_)
  refine O_go (gn rfl) (St.vl (vl_len sl65 rfl) rfl rfl ?_)
  refine O_go (gn rfl) (St.vl (vl_move rfl) rfl rfl ?_)
  refine O_end [0, 2, 8, 9, 10] (F' := [(0, _), (2, _), (8, _), (9, _), (10, _)]) rfl ?_
  refine W_block ?_
  refine W_loop [0, 2, 8, 9, 10] (fun m F wx => wx = w ∧ F = [(0, .func (.yield l) #[] #[]), (2, .pointer (some ⟨b3, 0, none⟩)), (8, .slice none 0 0), (9, .int .i64 (0 : Nat)), (10, .int .i64 0)]) (m := 0) ⟨rfl, rfl⟩ ?_
  rintro m F wx ⟨rfl, rfl⟩
  refine W_seq ?_
  refine W_region ?_
  refine O_go (gn rfl) (St.vl (vl_is (b' := false) (vl_lss rfl rfl) (decide_eq_false (by omega))) rfl rfl ?_)
  refine O_end [0, 2, 8, 9, 10, 11] (F' := [(0, _), (2, _), (8, _), (9, _), (10, _), (11, _)]) rfl ?_
  refine W_seq ?_
  refine W_cond_false rfl ?_
  refine W_exit ?_
  repeat (first | refine then_exit ?_ | refine blockF_other rfl ?_)
  refine blockF_exit _ ?_
  refine end0 rfl ?_
  exact Chg.refl _ _

theorem f14_nil (key : ByteArray) (w : World) : Ret Try.prog 14 #[.pointer none, .string key] w fun r w' => ∃ b5 b3, r = .func (.func 32) #[] #[.pointer (some ⟨b5, 0, none⟩), .pointer (some ⟨b3, 0, none⟩)] ∧ Blk w' b5 65 [.slice none 0 0] ∧ Chg [] w w' := by
  refine Ret.of_W (args := [_, _]) Try.func14 rfl rfl rfl rfl ?_

  refine W_seq ?_
  refine W_region ?_
  refine O_go (gn rfl) (st_box rfl rfl rfl ?_)
  intro b3 w3 e3 n3 c3 k3
  refine O_go (gn rfl) (St.vl (vl_assign rfl) rfl rfl ?_)
  refine O_end [0, 3] (F' := [(0, _), (3, _)]) rfl ?_
  refine W_seq ?_
  refine W_region ?_
  refine O_go (gn rfl) (st_alloc zr65 rfl rfl ?_)
  intro b5 w5 e5 n5 c5 k5
  refine O_end [0, 3, 5] (F' := [(0, _), (3, _), (5, _)]) rfl ?_
  refine W_seq ?_
  refine W_seq ?_
  refine W_region ?_
  refine O_go (gn rfl) (St.vl (vl_move rfl) rfl rfl ?_)
  refine O_go (gn rfl) (St.vl (vl_pnnil pt25 rfl rfl) rfl rfl ?_)
  refine O_end [0, 3, 5, 7] (F' := [(0, _), (3, _), (5, _), (7, _)]) rfl ?_
  refine W_cond_false rfl ?_
  refine W_prune [3, 5] rfl ?_
  refine W_skipE ?_
  refine W_seq ?_
  refine W_region ?_
  refine O_go (gn rfl) (St.vl (vl_func rfl rfl) rfl rfl ?_)
  refine O_go (gn rfl) (St.vl (vl_assign rfl) rfl rfl ?_)
  refine O_end [4] (F' := [(4, _)]) rfl ?_
  refine W_ret ?_
  refine ret1 rfl rfl ?_
  exact ⟨b5, b3, rfl, k5, c3.trans c5⟩
end Go.Wk

