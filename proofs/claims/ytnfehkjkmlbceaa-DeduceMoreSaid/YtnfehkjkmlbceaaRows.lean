/-
  No cell of these rows narrows 'for every input' (looked for: loops, veiled, ifaces, maps, wideKeys, modest, calm, conditions, laid).
  DERIVED. THE GIVEN ROWS OF THIS SEAT. 5 by the template 'for every input the law returns true; each argument reads behind the call as it read before'; 0 by the template 'total and deterministic' (their statements: YtnfehkjkmlbceaaTotals.lean).
  GIVEN WITH THE SEED: the statements are not yours to turn. If you find one false, say at which input.
  Laid BY PROGRAM, IN A SANDBOX (cutbox-rows.mjs): the forced cells as the released guide's own fill.sh prints them over the translation 08b18450e50b8149… (all of the seat's roots in one cut). By AI agents, Wed Nov 11 2026. No macro, syntax, notation, axiom, sorry.
-/
import Derived.Test.YtnfehkjkmlbceaaChecked
import GoSem.Claim
import GoSem.ClaimJoined
import GoSem.ClaimMapViews
import Derived.JoinedTies
import Derived.KernelRfl
namespace Go.Proofs.Ytnfehkjkmlbceaa
/- THE CELL 'sum', in the pinned program and in every row, IS THE sha256 OF THE DUMP (.gsa) THAT YtnfehkjkmlbceaaProg.lean LOADS. Nothing in Lean hashes anything: it is a label: what it is worth is what the hold of that sum in a sandbox is worth. -/
noncomputable def Try.pinned : Pinned := { name := "ytnfehkjkmlbceaa", sum := "08b18450e50b814943659a02ec2bf813292ac49d454c96851c176c3f42d08b7d", checked := Try.checked }
namespace Rows
def none {H : Type} : Left H := { results := [], args := [] }

/-- 'bastillelaw14.TermPuts': WHATEVER THE INPUT: true; the input reads as it did. -/
def termPutsSpec : ChangeSpec := { name := "termPuts", fn := fun _ => fun
  | [d] => { results := [.lit (.bool true)], args := [d] }
  | _ => none }
def termPutsRow : OpenClaim := { program := "ytnfehkjkmlbceaa", sum := "08b18450e50b814943659a02ec2bf813292ac49d454c96851c176c3f42d08b7d", func := "bastille/bastillelaw14.TermPuts", spec := "termPuts", unfollowed := true, recurses := true, plainKeys := false, apart := false }
def TermPutsSaid : Prop := termPutsRow.holds Try.pinned (OpenSpec.ofChange termPutsSpec)

/-- ITS FALSE NEIGHBOUR: 'it returns false'. Refute it at one input. -/
def termPutsWrong : ChangeSpec := { name := "termPuts", fn := fun _ => fun
  | [d] => { results := [.lit (.bool false)], args := [d] }
  | _ => none }
def TermPutsWrongFalsely : Prop := termPutsRow.holds Try.pinned (OpenSpec.ofChange termPutsWrong)

/-- 'bastillelaw14.TermOnce': WHATEVER THE INPUT: true; the input reads as it did. -/
def termOnceSpec : ChangeSpec := { name := "termOnce", fn := fun _ => fun
  | [d] => { results := [.lit (.bool true)], args := [d] }
  | _ => none }
def termOnceRow : OpenClaim := { program := "ytnfehkjkmlbceaa", sum := "08b18450e50b814943659a02ec2bf813292ac49d454c96851c176c3f42d08b7d", func := "bastille/bastillelaw14.TermOnce", spec := "termOnce", unfollowed := true, recurses := true, plainKeys := false, apart := false }
def TermOnceSaid : Prop := termOnceRow.holds Try.pinned (OpenSpec.ofChange termOnceSpec)

/-- ITS FALSE NEIGHBOUR: 'it returns false'. Refute it at one input. -/
def termOnceWrong : ChangeSpec := { name := "termOnce", fn := fun _ => fun
  | [d] => { results := [.lit (.bool false)], args := [d] }
  | _ => none }
def TermOnceWrongFalsely : Prop := termOnceRow.holds Try.pinned (OpenSpec.ofChange termOnceWrong)

/-- 'bastillelaw15.DeduceFrom': WHATEVER THE INPUT: true; the input reads as it did. -/
def deduceFromSpec : ChangeSpec := { name := "deduceFrom", fn := fun _ => fun
  | [d1, d2] => { results := [.lit (.bool true)], args := [d1, d2] }
  | _ => none }
def deduceFromRow : OpenClaim := { program := "ytnfehkjkmlbceaa", sum := "08b18450e50b814943659a02ec2bf813292ac49d454c96851c176c3f42d08b7d", func := "bastille/bastillelaw15.DeduceFrom", spec := "deduceFrom", unfollowed := true, recurses := true, plainKeys := false, apart := false }
def DeduceFromSaid : Prop := deduceFromRow.holds Try.pinned (OpenSpec.ofChange deduceFromSpec)

/-- ITS FALSE NEIGHBOUR: 'it returns false'. Refute it at one input. -/
def deduceFromWrong : ChangeSpec := { name := "deduceFrom", fn := fun _ => fun
  | [d1, d2] => { results := [.lit (.bool false)], args := [d1, d2] }
  | _ => none }
def DeduceFromWrongFalsely : Prop := deduceFromRow.holds Try.pinned (OpenSpec.ofChange deduceFromWrong)

/-- 'bastillelaw15.DeduceMore': WHATEVER THE INPUT: true; the input reads as it did. -/
def deduceMoreSpec : ChangeSpec := { name := "deduceMore", fn := fun _ => fun
  | [d1, d2, d3] => { results := [.lit (.bool true)], args := [d1, d2, d3] }
  | _ => none }
def deduceMoreRow : OpenClaim := { program := "ytnfehkjkmlbceaa", sum := "08b18450e50b814943659a02ec2bf813292ac49d454c96851c176c3f42d08b7d", func := "bastille/bastillelaw15.DeduceMore", spec := "deduceMore", unfollowed := true, recurses := true, plainKeys := false, apart := false }
def DeduceMoreSaid : Prop := deduceMoreRow.holds Try.pinned (OpenSpec.ofChange deduceMoreSpec)

/-- ITS FALSE NEIGHBOUR: 'it returns false'. Refute it at one input. -/
def deduceMoreWrong : ChangeSpec := { name := "deduceMore", fn := fun _ => fun
  | [d1, d2, d3] => { results := [.lit (.bool false)], args := [d1, d2, d3] }
  | _ => none }
def DeduceMoreWrongFalsely : Prop := deduceMoreRow.holds Try.pinned (OpenSpec.ofChange deduceMoreWrong)

/-- 'bastillelaw15.DeduceOpens': WHATEVER THE INPUT: true; the input reads as it did. -/
def deduceOpensSpec : ChangeSpec := { name := "deduceOpens", fn := fun _ => fun
  | [d1, d2] => { results := [.lit (.bool true)], args := [d1, d2] }
  | _ => none }
def deduceOpensRow : OpenClaim := { program := "ytnfehkjkmlbceaa", sum := "08b18450e50b814943659a02ec2bf813292ac49d454c96851c176c3f42d08b7d", func := "bastille/bastillelaw15.DeduceOpens", spec := "deduceOpens", unfollowed := true, recurses := true, plainKeys := false, apart := false }
def DeduceOpensSaid : Prop := deduceOpensRow.holds Try.pinned (OpenSpec.ofChange deduceOpensSpec)

/-- ITS FALSE NEIGHBOUR: 'it returns false'. Refute it at one input. -/
def deduceOpensWrong : ChangeSpec := { name := "deduceOpens", fn := fun _ => fun
  | [d1, d2] => { results := [.lit (.bool false)], args := [d1, d2] }
  | _ => none }
def DeduceOpensWrongFalsely : Prop := deduceOpensRow.holds Try.pinned (OpenSpec.ofChange deduceOpensWrong)

/- THE SECOND FORM. 'bulk': how many values and letters a reading holds, each counted each time it is reached (what is shared counts as often as it is met; a slice's spare places count too). A statement '..UptoSaid' is the law's where the arguments, and the package variables that the reading takes, are together of bulk at most 1048576: NARROWER than '..Said'. Prove '..Said' where nothing that the law and all that it calls make is longer than what came in: it says more and counts as full. Else prove '..UptoSaid'. A law counts once. -/
mutual
def uptoBulk {H : Type} : DataW H → Nat
  | .lit (.string bytes) => bytes.length + 1
  | .lit _ => 1
  | .nil => 1
  | .ptr d => uptoBulk d + 1
  | .slice elems spare => uptoBulkAll elems + uptoBulkAll spare + 1
  | .agg parts => uptoBulkAll parts + 1
  | .iface _ d => uptoBulk d + 1
  | .map entries => uptoBulkEntries entries + 1
  | .held _ => 1
def uptoBulkAll {H : Type} : List (DataW H) → Nat
  | [] => 0
  | d :: r => uptoBulk d + uptoBulkAll r
def uptoBulkEntries {H : Type} : List (Lit × DataW H) → Nat
  | [] => 0
  | x :: r => uptoBulkEntry x + uptoBulkEntries r
def uptoBulkEntry {H : Type} : Lit × DataW H → Nat
  | (.string bytes, d) => bytes.length + uptoBulk d + 1
  | (_, d) => uptoBulk d + 1
 end
def uptoSmall : (H : Type) → List (DataW H) → Bool := fun _ ds => decide (uptoBulkAll ds ≤ 1048576)
def OpenSpec.upto (s : _root_.Go.ChangeSpec) : _root_.Go.OpenSpec := { _root_.Go.OpenSpec.ofChange s with cond := some uptoSmall }

/-- 'bastillelaw14.TermPuts', WHERE WHAT IT READS IS OF BULK AT MOST 1048576: true; the input reads as it did. -/
def termPutsUptoRow : OpenClaim := { program := "ytnfehkjkmlbceaa", sum := "08b18450e50b814943659a02ec2bf813292ac49d454c96851c176c3f42d08b7d", func := "bastille/bastillelaw14.TermPuts", spec := "termPuts", unfollowed := true, recurses := true, plainKeys := false, apart := false, narrowed := true }
def TermPutsUptoSaid : Prop := termPutsUptoRow.holds Try.pinned (OpenSpec.upto termPutsSpec)

/-- 'bastillelaw14.TermOnce', WHERE WHAT IT READS IS OF BULK AT MOST 1048576: true; the input reads as it did. -/
def termOnceUptoRow : OpenClaim := { program := "ytnfehkjkmlbceaa", sum := "08b18450e50b814943659a02ec2bf813292ac49d454c96851c176c3f42d08b7d", func := "bastille/bastillelaw14.TermOnce", spec := "termOnce", unfollowed := true, recurses := true, plainKeys := false, apart := false, narrowed := true }
def TermOnceUptoSaid : Prop := termOnceUptoRow.holds Try.pinned (OpenSpec.upto termOnceSpec)

/-- 'bastillelaw15.DeduceFrom', WHERE WHAT IT READS IS OF BULK AT MOST 1048576: true; the input reads as it did. -/
def deduceFromUptoRow : OpenClaim := { program := "ytnfehkjkmlbceaa", sum := "08b18450e50b814943659a02ec2bf813292ac49d454c96851c176c3f42d08b7d", func := "bastille/bastillelaw15.DeduceFrom", spec := "deduceFrom", unfollowed := true, recurses := true, plainKeys := false, apart := false, narrowed := true }
def DeduceFromUptoSaid : Prop := deduceFromUptoRow.holds Try.pinned (OpenSpec.upto deduceFromSpec)

/-- 'bastillelaw15.DeduceMore', WHERE WHAT IT READS IS OF BULK AT MOST 1048576: true; the input reads as it did. -/
def deduceMoreUptoRow : OpenClaim := { program := "ytnfehkjkmlbceaa", sum := "08b18450e50b814943659a02ec2bf813292ac49d454c96851c176c3f42d08b7d", func := "bastille/bastillelaw15.DeduceMore", spec := "deduceMore", unfollowed := true, recurses := true, plainKeys := false, apart := false, narrowed := true }
def DeduceMoreUptoSaid : Prop := deduceMoreUptoRow.holds Try.pinned (OpenSpec.upto deduceMoreSpec)

/-- 'bastillelaw15.DeduceOpens', WHERE WHAT IT READS IS OF BULK AT MOST 1048576: true; the input reads as it did. -/
def deduceOpensUptoRow : OpenClaim := { program := "ytnfehkjkmlbceaa", sum := "08b18450e50b814943659a02ec2bf813292ac49d454c96851c176c3f42d08b7d", func := "bastille/bastillelaw15.DeduceOpens", spec := "deduceOpens", unfollowed := true, recurses := true, plainKeys := false, apart := false, narrowed := true }
def DeduceOpensUptoSaid : Prop := deduceOpensUptoRow.holds Try.pinned (OpenSpec.upto deduceOpensSpec)

end Rows
end Go.Proofs.Ytnfehkjkmlbceaa
