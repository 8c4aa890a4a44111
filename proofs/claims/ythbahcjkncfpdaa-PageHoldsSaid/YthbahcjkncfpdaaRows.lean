/-
  No cell of these rows narrows 'for every input' (looked for: loops, veiled, ifaces, maps, wideKeys, modest, calm, conditions, laid).
  DERIVED. THE GIVEN ROWS OF THIS SEAT. 4 by the template 'for every input the law returns true; each argument reads behind the call as it read before'; 0 by the template 'total and deterministic' (their statements: YthbahcjkncfpdaaTotals.lean).
  GIVEN WITH THE SEED: the statements are not yours to turn. If you find one false, say at which input.
  Laid BY PROGRAM, IN A SANDBOX (cutbox-rows.mjs): the forced cells as the released guide's own fill.sh prints them over the translation 796689c14464298d… (all of the seat's roots in one cut). By AI agents, Wed Nov 11 2026. No macro, syntax, notation, axiom, sorry.
-/
import Derived.Test.YthbahcjkncfpdaaChecked
import GoSem.Claim
import GoSem.ClaimJoined
import GoSem.ClaimMapViews
import Derived.JoinedTies
import Derived.KernelRfl
namespace Go.Proofs.Ythbahcjkncfpdaa
/- THE CELL 'sum', in the pinned program and in every row, IS THE sha256 OF THE DUMP (.gsa) THAT YthbahcjkncfpdaaProg.lean LOADS. Nothing in Lean hashes anything: it is a label: what it is worth is what the hold of that sum in a sandbox is worth. -/
noncomputable def Try.pinned : Pinned := { name := "ythbahcjkncfpdaa", sum := "796689c14464298d741a78dcf16914cd253e62ebe425be6084ae40362896e716", checked := Try.checked }
namespace Rows
def none {H : Type} : Left H := { results := [], args := [] }

/-- 'swingbridgelaw11.PageHolds': WHATEVER THE INPUT: true; the input reads as it did. -/
def pageHoldsSpec : ChangeSpec := { name := "pageHolds", fn := fun _ => fun
  | [d] => { results := [.lit (.bool true)], args := [d] }
  | _ => none }
def pageHoldsRow : OpenClaim := { program := "ythbahcjkncfpdaa", sum := "796689c14464298d741a78dcf16914cd253e62ebe425be6084ae40362896e716", func := "swingbridge/swingbridgelaw11.PageHolds", spec := "pageHolds", inPlace := ["internal/bytealg.abigen_runtime_cmpstring", "slices.overlaps[swingbridge/page.entry]"], unfollowed := true, recurses := true, apart := false }
def PageHoldsSaid : Prop := pageHoldsRow.holds Try.pinned (OpenSpec.ofChange pageHoldsSpec)

/-- ITS FALSE NEIGHBOUR: 'it returns false'. Refute it at one input. -/
def pageHoldsWrong : ChangeSpec := { name := "pageHolds", fn := fun _ => fun
  | [d] => { results := [.lit (.bool false)], args := [d] }
  | _ => none }
def PageHoldsWrongFalsely : Prop := pageHoldsRow.holds Try.pinned (OpenSpec.ofChange pageHoldsWrong)

/-- 'swingbridgelaw11.PagePlays': WHATEVER THE INPUT: true; the input reads as it did. -/
def pagePlaysSpec : ChangeSpec := { name := "pagePlays", fn := fun _ => fun
  | [d] => { results := [.lit (.bool true)], args := [d] }
  | _ => none }
def pagePlaysRow : OpenClaim := { program := "ythbahcjkncfpdaa", sum := "796689c14464298d741a78dcf16914cd253e62ebe425be6084ae40362896e716", func := "swingbridge/swingbridgelaw11.PagePlays", spec := "pagePlays", inPlace := ["internal/bytealg.abigen_runtime_cmpstring", "slices.overlaps[swingbridge/page.entry]"], unfollowed := true, recurses := true, apart := false }
def PagePlaysSaid : Prop := pagePlaysRow.holds Try.pinned (OpenSpec.ofChange pagePlaysSpec)

/-- ITS FALSE NEIGHBOUR: 'it returns false'. Refute it at one input. -/
def pagePlaysWrong : ChangeSpec := { name := "pagePlays", fn := fun _ => fun
  | [d] => { results := [.lit (.bool false)], args := [d] }
  | _ => none }
def PagePlaysWrongFalsely : Prop := pagePlaysRow.holds Try.pinned (OpenSpec.ofChange pagePlaysWrong)

/-- 'swingbridgelaw11.PageFrom': WHATEVER THE INPUT: true; the input reads as it did. -/
def pageFromSpec : ChangeSpec := { name := "pageFrom", fn := fun _ => fun
  | [d1, d2, d3, d4] => { results := [.lit (.bool true)], args := [d1, d2, d3, d4] }
  | _ => none }
def pageFromRow : OpenClaim := { program := "ythbahcjkncfpdaa", sum := "796689c14464298d741a78dcf16914cd253e62ebe425be6084ae40362896e716", func := "swingbridge/swingbridgelaw11.PageFrom", spec := "pageFrom", inPlace := ["internal/bytealg.abigen_runtime_cmpstring", "slices.overlaps[swingbridge/page.entry]"], unfollowed := true, recurses := true, apart := false }
def PageFromSaid : Prop := pageFromRow.holds Try.pinned (OpenSpec.ofChange pageFromSpec)

/-- ITS FALSE NEIGHBOUR: 'it returns false'. Refute it at one input. -/
def pageFromWrong : ChangeSpec := { name := "pageFrom", fn := fun _ => fun
  | [d1, d2, d3, d4] => { results := [.lit (.bool false)], args := [d1, d2, d3, d4] }
  | _ => none }
def PageFromWrongFalsely : Prop := pageFromRow.holds Try.pinned (OpenSpec.ofChange pageFromWrong)

/-- 'swingbridgelaw11.PageCopies': WHATEVER THE INPUT: true; the input reads as it did. -/
def pageCopiesSpec : ChangeSpec := { name := "pageCopies", fn := fun _ => fun
  | [d1, d2] => { results := [.lit (.bool true)], args := [d1, d2] }
  | _ => none }
def pageCopiesRow : OpenClaim := { program := "ythbahcjkncfpdaa", sum := "796689c14464298d741a78dcf16914cd253e62ebe425be6084ae40362896e716", func := "swingbridge/swingbridgelaw11.PageCopies", spec := "pageCopies", inPlace := ["internal/bytealg.abigen_runtime_cmpstring", "slices.overlaps[swingbridge/page.entry]"], unfollowed := true, recurses := true, apart := false }
def PageCopiesSaid : Prop := pageCopiesRow.holds Try.pinned (OpenSpec.ofChange pageCopiesSpec)

/-- ITS FALSE NEIGHBOUR: 'it returns false'. Refute it at one input. -/
def pageCopiesWrong : ChangeSpec := { name := "pageCopies", fn := fun _ => fun
  | [d1, d2] => { results := [.lit (.bool false)], args := [d1, d2] }
  | _ => none }
def PageCopiesWrongFalsely : Prop := pageCopiesRow.holds Try.pinned (OpenSpec.ofChange pageCopiesWrong)

/- THE SECOND FORM. 'bulk': how many values and letters a reading holds, each counted each time it is reached (what is shared counts as often as it is met; a slice's spare places count too). A statement '..UptoSaid' is the law's where the arguments, and the package variables that the reading takes, are together of bulk at most 1048576: NARROWER than '..Said'. Prove '..Said' where nothing that the law and all that it calls make is longer than what came in: it says more and counts as full. Else prove '..UptoSaid'. A law counts once. -/
mutual
def uptoBulk {H : Type} : DataW H → Nat
  | .lit (.string bytes) => bytes.length + 1
  | .lit _ => 1
  | .nil => 1
  | .ptr d => uptoBulk d + 1
  | .slice elems spare => uptoBulkAll elems + uptoBulkAll spare + 1
  | .agg parts => uptoBulkAll parts + 1
  | .iface _ d => uptoBulk d + 1
  | .map entries => uptoBulkEntries entries + 1
  | .held _ => 1
def uptoBulkAll {H : Type} : List (DataW H) → Nat
  | [] => 0
  | d :: r => uptoBulk d + uptoBulkAll r
def uptoBulkEntries {H : Type} : List (Lit × DataW H) → Nat
  | [] => 0
  | x :: r => uptoBulkEntry x + uptoBulkEntries r
def uptoBulkEntry {H : Type} : Lit × DataW H → Nat
  | (.string bytes, d) => bytes.length + uptoBulk d + 1
  | (_, d) => uptoBulk d + 1
 end
def uptoSmall : (H : Type) → List (DataW H) → Bool := fun _ ds => decide (uptoBulkAll ds ≤ 1048576)
def OpenSpec.upto (s : _root_.Go.ChangeSpec) : _root_.Go.OpenSpec := { _root_.Go.OpenSpec.ofChange s with cond := some uptoSmall }

/-- 'swingbridgelaw11.PageHolds', WHERE WHAT IT READS IS OF BULK AT MOST 1048576: true; the input reads as it did. -/
def pageHoldsUptoRow : OpenClaim := { program := "ythbahcjkncfpdaa", sum := "796689c14464298d741a78dcf16914cd253e62ebe425be6084ae40362896e716", func := "swingbridge/swingbridgelaw11.PageHolds", spec := "pageHolds", inPlace := ["internal/bytealg.abigen_runtime_cmpstring", "slices.overlaps[swingbridge/page.entry]"], unfollowed := true, recurses := true, apart := false, narrowed := true }
def PageHoldsUptoSaid : Prop := pageHoldsUptoRow.holds Try.pinned (OpenSpec.upto pageHoldsSpec)

/-- 'swingbridgelaw11.PagePlays', WHERE WHAT IT READS IS OF BULK AT MOST 1048576: true; the input reads as it did. -/
def pagePlaysUptoRow : OpenClaim := { program := "ythbahcjkncfpdaa", sum := "796689c14464298d741a78dcf16914cd253e62ebe425be6084ae40362896e716", func := "swingbridge/swingbridgelaw11.PagePlays", spec := "pagePlays", inPlace := ["internal/bytealg.abigen_runtime_cmpstring", "slices.overlaps[swingbridge/page.entry]"], unfollowed := true, recurses := true, apart := false, narrowed := true }
def PagePlaysUptoSaid : Prop := pagePlaysUptoRow.holds Try.pinned (OpenSpec.upto pagePlaysSpec)

/-- 'swingbridgelaw11.PageFrom', WHERE WHAT IT READS IS OF BULK AT MOST 1048576: true; the input reads as it did. -/
def pageFromUptoRow : OpenClaim := { program := "ythbahcjkncfpdaa", sum := "796689c14464298d741a78dcf16914cd253e62ebe425be6084ae40362896e716", func := "swingbridge/swingbridgelaw11.PageFrom", spec := "pageFrom", inPlace := ["internal/bytealg.abigen_runtime_cmpstring", "slices.overlaps[swingbridge/page.entry]"], unfollowed := true, recurses := true, apart := false, narrowed := true }
def PageFromUptoSaid : Prop := pageFromUptoRow.holds Try.pinned (OpenSpec.upto pageFromSpec)

/-- 'swingbridgelaw11.PageCopies', WHERE WHAT IT READS IS OF BULK AT MOST 1048576: true; the input reads as it did. -/
def pageCopiesUptoRow : OpenClaim := { program := "ythbahcjkncfpdaa", sum := "796689c14464298d741a78dcf16914cd253e62ebe425be6084ae40362896e716", func := "swingbridge/swingbridgelaw11.PageCopies", spec := "pageCopies", inPlace := ["internal/bytealg.abigen_runtime_cmpstring", "slices.overlaps[swingbridge/page.entry]"], unfollowed := true, recurses := true, apart := false, narrowed := true }
def PageCopiesUptoSaid : Prop := pageCopiesUptoRow.holds Try.pinned (OpenSpec.upto pageCopiesSpec)

end Rows
end Go.Proofs.Ythbahcjkncfpdaa
