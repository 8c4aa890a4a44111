/-
  From: the iterator over pages.
-/
import Derived.Test.YthbahcjkncfpdaaP24
namespace Go.Wk
open Go.Proofs
set_option maxRecDepth 10000

theorem f14 (p : Nat) (ls : List (List Ent)) (key : ByteArray) (w : World) (hp : Pg w p ls) (hn : ls.length ≤ 65536) :
    Ret Try.prog 14 #[.pointer (some ⟨p, 0, none⟩), .string key] w fun r w' => ∃ b5 b3 v, r = .func (.func 32) #[] #[.pointer (some ⟨b5, 0, none⟩), .pointer (some ⟨b3, 0, none⟩)] ∧ Blk w' b5 65 [v] ∧ IsPages w' v ls ∧ Blk w' b3 9 [.string key] ∧ w.heap.size ≤ b3 ∧ w.heap.size ≤ b5 ∧ Chg [] w w' := by
  obtain ⟨v, hb, hpg⟩ := id hp
  obtain ⟨vs, hsl, hal⟩ := id hpg
  refine Ret.of_W (args := [_, _]) Try.func14 rfl rfl rfl rfl ?_

  refine W_seq ?_
  refine W_region ?_
  refine O_go (gn rfl) (st_box rfl rfl rfl ?_)
  intro b3 w3 e3 n3 c3 k3
  refine O_go (gn rfl) (St.vl (vl_assign rfl) rfl rfl ?_)
  refine O_end [0, 3] (F' := [(0, _), (3, _)]) rfl ?_
  refine W_seq ?_
  refine W_region ?_
  refine O_go (gn rfl) (st_alloc zr65 rfl rfl ?_)
  intro b5 w5 e5 n5 c5 k5
  refine O_end [0, 3, 5] (F' := [(0, _), (3, _), (5, _)]) rfl ?_
  have hc5 := c3.trans c5
  have hs3 := c3.size
  refine W_seq ?_
  refine W_seq ?_
  refine W_region ?_
  refine O_go (gn rfl) (St.vl (vl_move rfl) rfl rfl ?_)
  refine O_go (gn rfl) (St.vl (vl_pnnil pt25 rfl rfl) rfl rfl ?_)
  refine O_end [0, 3, 5, 7] (F' := [(0, _), (3, _), (5, _), (7, _)]) rfl ?_
  refine W_cond_true rfl ?_
  refine W_region ?_
  refine O_go (gn rfl) (St.vl (vl_move rfl) rfl rfl ?_)
  refine O_go (gn rfl) (St.vl (vl_nilCheck rfl) rfl rfl ?_)
  refine O_go (gn rfl) (St.vl (vl_fieldAddr fo67_0 rfl) rfl rfl ?_)
  refine O_go (gn rfl) (St.vl (vl_load ag65 rfl ((hb.chg0 hc5).cell' rfl)) rfl rfl ?_)
  refine O_go (gn rfl) (st_call bd31 rfl rfl rfl rfl (f31 v ls.length vs _ (hsl.chg0 hc5) (by omega)) ?_)
  rintro v12 w12 ⟨i12, n12, c12⟩
  obtain ⟨p12, q12, rfl, _⟩ := i12.val
  refine O_go (gn rfl) (st_store sz65 rfl rfl rfl rfl (k5.chg0 c12) (by simp) (by intro u hu; simp at hu; subst hu; rfl) ?_)
  intro wF nF cF kF
  refine O_end [3, 5] (F' := [(3, _), (5, _)]) rfl ?_
  have hb5 := k5.chg0 c12
  have hb3 := ((k3.chg0 c5).chg0 c12).chg cF (by simp; omega)
  refine W_seq ?_
  refine W_region ?_
  refine O_go (gn rfl) (St.vl (vl_func rfl rfl) rfl rfl ?_)
  refine O_go (gn rfl) (St.vl (vl_assign rfl) rfl rfl ?_)
  refine O_end [4] (F' := [(4, _)]) rfl ?_
  refine W_ret ?_
  refine ret1 rfl rfl ?_
  refine ⟨b5, b3, _, rfl, kF, ⟨vs, i12.chg cF (i12.apart hb5 rfl), ?_⟩, hb3, by omega, by omega, (hc5.trans c12).own cF (by intro x hx; simp at hx; omega)⟩
  have hal12 := hal.chg (hc5.trans c12) (by simp)
  exact hal12.chg cF (hal12.apart hb5 rfl)
end Go.Wk

