/-
  NARROWER THAN 'FOR EVERY INPUT', by the rows' own cells (each row's printed sentence says how): LotCalls: laid · LotMay: laid.
  DERIVED. THE GIVEN ROWS OF THIS SEAT. 2 by the template 'for every input the law returns true; each argument reads behind the call as it read before'; 0 by the template 'total and deterministic' (their statements: YtjfnhdiimibmiaaDoorTotals.lean).
  GIVEN WITH THE SEED: the statements are not yours to turn. If you find one false, say at which input.
  Laid BY PROGRAM, IN A SANDBOX (cutbox-rows.mjs): the forced cells as the released guide's own fill.sh prints them over the translation d6ca8943364242ef… (all of the seat's roots in one cut). By AI agents, Wed Nov 11 2026. No macro, syntax, notation, axiom, sorry.
-/
import Derived.Test.YtjfnhdiimibmiaaDoorChecked
import GoSem.Claim
import GoSem.ClaimJoined
import GoSem.ClaimMapViews
import Derived.JoinedTies
import Derived.KernelRfl
namespace Go.Proofs.YtjfnhdiimibmiaaDoor
/- THE CELL 'sum', in the pinned program and in every row, IS THE sha256 OF THE DUMP (.gsa) THAT YtjfnhdiimibmiaaDoorProg.lean LOADS. Nothing in Lean hashes anything: it is a label: what it is worth is what the hold of that sum in a sandbox is worth. -/
noncomputable def Tryd.pinned : Pinned := { name := "ytjfnhdiimibmiaadoor", sum := "d6ca8943364242ef2b87a178a483087e3f78fe163c1e50f150699feb9b8a3ec4", checked := Tryd.checked }
namespace Rows
def none {H : Type} : Left H := { results := [], args := [] }

/- WHAT THE LISTED PACKAGE-LEVEL VARIABLES READ AS WHEN THE CALL BEGINS. Each datum BY PROGRAM (the guide's laid-datum.mjs) off the statement by which the dump's own 'gosem.cut.vars' lays the variable. In a bare row this is a premise. The card (YtjfnhdiimibmiaaDoorCards.lean) ties it to the program's text. -/
def laid_bastille_lot_kinds {H : Type} : DataW H := .agg [.lit (.int .i64 2), .lit (.int .i64 8), .lit (.int .i64 8), .lit (.int .i64 8), .lit (.int .i64 5), .lit (.int .i64 5), .lit (.int .i64 6), .lit (.int .i64 7), .lit (.int .i64 9), .lit (.int .i64 9), .lit (.int .i64 10), .lit (.int .i64 12), .lit (.int .i64 13), .lit (.int .i64 11), .lit (.int .i64 3), .lit (.int .i64 4), .lit (.int .i64 14)]
def laid_bastille_call_fields {H : Type} : DataW H := .agg [.lit (.int .i64 0), .lit (.int .i64 0), .lit (.int .i64 9), .lit (.int .i64 9), .lit (.int .i64 1), .lit (.int .i64 21), .lit (.int .i64 21), .lit (.int .i64 5), .lit (.int .i64 67), .lit (.int .i64 35), .lit (.int .i64 1), .lit (.int .i64 3), .lit (.int .i64 3), .lit (.int .i64 1), .lit (.int .i64 4), .lit (.int .i64 0), .lit (.int .i64 4)]

/-- 'bastillelaw43.LotCalls': WHATEVER THE INPUT: true; the input reads as it did. -/
def lotCallsSpec : ChangeSpec := { name := "lotCalls", fn := fun _ => fun
  | [d1, d2, d3] => { results := [.lit (.bool true)], args := [d1, d2, d3] }
  | _ => none }
def lotCallsRow : OpenClaim := { program := "ytjfnhdiimibmiaadoor", sum := "d6ca8943364242ef2b87a178a483087e3f78fe163c1e50f150699feb9b8a3ec4", func := "bastille/bastillelaw43.LotCalls", spec := "lotCalls", unfollowed := true, recurses := true, named := ["bastille/lot.kinds"], apart := false, laid := [("bastille/lot.kinds", laid_bastille_lot_kinds)] }
def LotCallsSaid : Prop := lotCallsRow.holds Tryd.pinned (OpenSpec.ofChange lotCallsSpec)

/-- ITS FALSE NEIGHBOUR: 'it returns false'. Refute it at one input. -/
def lotCallsWrong : ChangeSpec := { name := "lotCalls", fn := fun _ => fun
  | [d1, d2, d3] => { results := [.lit (.bool false)], args := [d1, d2, d3] }
  | _ => none }
def LotCallsWrongFalsely : Prop := lotCallsRow.holds Tryd.pinned (OpenSpec.ofChange lotCallsWrong)

/-- 'bastillelaw43.LotMay': WHATEVER THE INPUT: true; the input reads as it did. -/
def lotMaySpec : ChangeSpec := { name := "lotMay", fn := fun _ => fun
  | [d1, d2] => { results := [.lit (.bool true)], args := [d1, d2] }
  | _ => none }
def lotMayRow : OpenClaim := { program := "ytjfnhdiimibmiaadoor", sum := "d6ca8943364242ef2b87a178a483087e3f78fe163c1e50f150699feb9b8a3ec4", func := "bastille/bastillelaw43.LotMay", spec := "lotMay", unfollowed := true, recurses := true, named := ["bastille/lot.kinds", "bastille/call.fields"], apart := false, laid := [("bastille/lot.kinds", laid_bastille_lot_kinds), ("bastille/call.fields", laid_bastille_call_fields)] }
def LotMaySaid : Prop := lotMayRow.holds Tryd.pinned (OpenSpec.ofChange lotMaySpec)

/-- ITS FALSE NEIGHBOUR: 'it returns false'. Refute it at one input. -/
def lotMayWrong : ChangeSpec := { name := "lotMay", fn := fun _ => fun
  | [d1, d2] => { results := [.lit (.bool false)], args := [d1, d2] }
  | _ => none }
def LotMayWrongFalsely : Prop := lotMayRow.holds Tryd.pinned (OpenSpec.ofChange lotMayWrong)

/- THE SECOND FORM. 'bulk': how many values and letters a reading holds, each counted each time it is reached (what is shared counts as often as it is met; a slice's spare places count too). A statement '..UptoSaid' is the law's where the arguments, and the package variables that the reading takes, are together of bulk at most 1048576: NARROWER than '..Said'. Prove '..Said' where nothing that the law and all that it calls make is longer than what came in: it says more and counts as full. Else prove '..UptoSaid'. A law counts once. -/
mutual
def uptoBulk {H : Type} : DataW H → Nat
  | .lit (.string bytes) => bytes.length + 1
  | .lit _ => 1
  | .nil => 1
  | .ptr d => uptoBulk d + 1
  | .slice elems spare => uptoBulkAll elems + uptoBulkAll spare + 1
  | .agg parts => uptoBulkAll parts + 1
  | .iface _ d => uptoBulk d + 1
  | .map entries => uptoBulkEntries entries + 1
  | .held _ => 1
def uptoBulkAll {H : Type} : List (DataW H) → Nat
  | [] => 0
  | d :: r => uptoBulk d + uptoBulkAll r
def uptoBulkEntries {H : Type} : List (Lit × DataW H) → Nat
  | [] => 0
  | x :: r => uptoBulkEntry x + uptoBulkEntries r
def uptoBulkEntry {H : Type} : Lit × DataW H → Nat
  | (.string bytes, d) => bytes.length + uptoBulk d + 1
  | (_, d) => uptoBulk d + 1
 end
def uptoSmall : (H : Type) → List (DataW H) → Bool := fun _ ds => decide (uptoBulkAll ds ≤ 1048576)
def OpenSpec.upto (s : _root_.Go.ChangeSpec) : _root_.Go.OpenSpec := { _root_.Go.OpenSpec.ofChange s with cond := some uptoSmall }

/-- 'bastillelaw43.LotCalls', WHERE WHAT IT READS IS OF BULK AT MOST 1048576: true; the input reads as it did. -/
def lotCallsUptoRow : OpenClaim := { program := "ytjfnhdiimibmiaadoor", sum := "d6ca8943364242ef2b87a178a483087e3f78fe163c1e50f150699feb9b8a3ec4", func := "bastille/bastillelaw43.LotCalls", spec := "lotCalls", unfollowed := true, recurses := true, named := ["bastille/lot.kinds"], apart := false, laid := [("bastille/lot.kinds", laid_bastille_lot_kinds)], narrowed := true }
def LotCallsUptoSaid : Prop := lotCallsUptoRow.holds Tryd.pinned (OpenSpec.upto lotCallsSpec)

/-- 'bastillelaw43.LotMay', WHERE WHAT IT READS IS OF BULK AT MOST 1048576: true; the input reads as it did. -/
def lotMayUptoRow : OpenClaim := { program := "ytjfnhdiimibmiaadoor", sum := "d6ca8943364242ef2b87a178a483087e3f78fe163c1e50f150699feb9b8a3ec4", func := "bastille/bastillelaw43.LotMay", spec := "lotMay", unfollowed := true, recurses := true, named := ["bastille/lot.kinds", "bastille/call.fields"], apart := false, laid := [("bastille/lot.kinds", laid_bastille_lot_kinds), ("bastille/call.fields", laid_bastille_call_fields)], narrowed := true }
def LotMayUptoSaid : Prop := lotMayUptoRow.holds Tryd.pinned (OpenSpec.upto lotMaySpec)

end Rows
end Go.Proofs.YtjfnhdiimibmiaaDoor
