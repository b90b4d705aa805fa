/-
  No cell of these rows narrows 'for every input' (looked for: loops, veiled, ifaces, maps, wideKeys, modest, calm, conditions, laid).
  DERIVED. THE GIVEN ROWS OF THIS SEAT. 5 by the template 'for every input the law returns true; each argument reads behind the call as it read before'; 0 by the template 'total and deterministic' (their statements: YtljjiicjnoljbaaTotals.lean).
  GIVEN WITH THE SEED: the statements are not yours to turn. If you find one false, say at which input.
  Laid BY PROGRAM, IN A SANDBOX (cutbox-rows.mjs): the forced cells as the released guide's own fill.sh prints them over the translation ed8ea09d3cbe9199… (all of the seat's roots in one cut). By AI agents, Wed Nov 11 2026. No macro, syntax, notation, axiom, sorry.
-/
import Derived.Test.YtljjiicjnoljbaaChecked
import GoSem.Claim
import GoSem.ClaimJoined
import GoSem.ClaimMapViews
import Derived.JoinedTies
import Derived.KernelRfl
namespace Go.Proofs.Ytljjiicjnoljbaa
/- THE CELL 'sum', in the pinned program and in every row, IS THE sha256 OF THE DUMP (.gsa) THAT YtljjiicjnoljbaaProg.lean LOADS. Nothing in Lean hashes anything: it is a label: what it is worth is what the hold of that sum in a sandbox is worth. -/
noncomputable def Try.pinned : Pinned := { name := "ytljjiicjnoljbaa", sum := "ed8ea09d3cbe919968ab0bb9016d47fcfca33db0332ecc4f8c249a3383fcb2bf", checked := Try.checked }
namespace Rows
def none {H : Type} : Left H := { results := [], args := [] }

/-- 'wylaw.FindPages': WHATEVER THE INPUT: true; the input reads as it did. -/
def findPagesSpec : ChangeSpec := { name := "findPages", fn := fun _ => fun
  | [d1, d2, d3] => { results := [.lit (.bool true)], args := [d1, d2, d3] }
  | _ => none }
def findPagesRow : OpenClaim := { program := "ytljjiicjnoljbaa", sum := "ed8ea09d3cbe919968ab0bb9016d47fcfca33db0332ecc4f8c249a3383fcb2bf", func := "withy/wylaw.FindPages", spec := "findPages", apart := false }
def FindPagesSaid : Prop := findPagesRow.holds Try.pinned (OpenSpec.ofChange findPagesSpec)

/-- ITS FALSE NEIGHBOUR: 'it returns false'. Refute it at one input. -/
def findPagesWrong : ChangeSpec := { name := "findPages", fn := fun _ => fun
  | [d1, d2, d3] => { results := [.lit (.bool false)], args := [d1, d2, d3] }
  | _ => none }
def FindPagesWrongFalsely : Prop := findPagesRow.holds Try.pinned (OpenSpec.ofChange findPagesWrong)

/-- 'wylaw.LabelSays': WHATEVER THE INPUT: true; the input reads as it did. -/
def labelSaysSpec : ChangeSpec := { name := "labelSays", fn := fun _ => fun
  | [d1, d2] => { results := [.lit (.bool true)], args := [d1, d2] }
  | _ => none }
def labelSaysRow : OpenClaim := { program := "ytljjiicjnoljbaa", sum := "ed8ea09d3cbe919968ab0bb9016d47fcfca33db0332ecc4f8c249a3383fcb2bf", func := "withy/wylaw.LabelSays", spec := "labelSays", apart := false }
def LabelSaysSaid : Prop := labelSaysRow.holds Try.pinned (OpenSpec.ofChange labelSaysSpec)

/-- ITS FALSE NEIGHBOUR: 'it returns false'. Refute it at one input. -/
def labelSaysWrong : ChangeSpec := { name := "labelSays", fn := fun _ => fun
  | [d1, d2] => { results := [.lit (.bool false)], args := [d1, d2] }
  | _ => none }
def LabelSaysWrongFalsely : Prop := labelSaysRow.holds Try.pinned (OpenSpec.ofChange labelSaysWrong)

/-- 'wylaw.RuleSays': WHATEVER THE INPUT: true; the input reads as it did. -/
def ruleSaysSpec : ChangeSpec := { name := "ruleSays", fn := fun _ => fun
  | [d1, d2, d3, d4, d5] => { results := [.lit (.bool true)], args := [d1, d2, d3, d4, d5] }
  | _ => none }
def ruleSaysRow : OpenClaim := { program := "ytljjiicjnoljbaa", sum := "ed8ea09d3cbe919968ab0bb9016d47fcfca33db0332ecc4f8c249a3383fcb2bf", func := "withy/wylaw.RuleSays", spec := "ruleSays", recurses := true, apart := false }
def RuleSaysSaid : Prop := ruleSaysRow.holds Try.pinned (OpenSpec.ofChange ruleSaysSpec)

/-- ITS FALSE NEIGHBOUR: 'it returns false'. Refute it at one input. -/
def ruleSaysWrong : ChangeSpec := { name := "ruleSays", fn := fun _ => fun
  | [d1, d2, d3, d4, d5] => { results := [.lit (.bool false)], args := [d1, d2, d3, d4, d5] }
  | _ => none }
def RuleSaysWrongFalsely : Prop := ruleSaysRow.holds Try.pinned (OpenSpec.ofChange ruleSaysWrong)

/-- 'wytop.TopHides': WHATEVER THE INPUT: true; the input reads as it did. -/
def topHidesSpec : ChangeSpec := { name := "topHides", fn := fun _ => fun
  | [d1, d2, d3] => { results := [.lit (.bool true)], args := [d1, d2, d3] }
  | _ => none }
def topHidesRow : OpenClaim := { program := "ytljjiicjnoljbaa", sum := "ed8ea09d3cbe919968ab0bb9016d47fcfca33db0332ecc4f8c249a3383fcb2bf", func := "withy/wytop.TopHides", spec := "topHides", unfollowed := true, recurses := true, apart := false }
def TopHidesSaid : Prop := topHidesRow.holds Try.pinned (OpenSpec.ofChange topHidesSpec)

/-- ITS FALSE NEIGHBOUR: 'it returns false'. Refute it at one input. -/
def topHidesWrong : ChangeSpec := { name := "topHides", fn := fun _ => fun
  | [d1, d2, d3] => { results := [.lit (.bool false)], args := [d1, d2, d3] }
  | _ => none }
def TopHidesWrongFalsely : Prop := topHidesRow.holds Try.pinned (OpenSpec.ofChange topHidesWrong)

/-- 'wylaw.GroupPlays': WHATEVER THE INPUT: true; the input reads as it did. -/
def groupPlaysSpec : ChangeSpec := { name := "groupPlays", fn := fun _ => fun
  | [d1, d2, d3] => { results := [.lit (.bool true)], args := [d1, d2, d3] }
  | _ => none }
def groupPlaysRow : OpenClaim := { program := "ytljjiicjnoljbaa", sum := "ed8ea09d3cbe919968ab0bb9016d47fcfca33db0332ecc4f8c249a3383fcb2bf", func := "withy/wylaw.GroupPlays", spec := "groupPlays", unfollowed := true, recurses := true, apart := false }
def GroupPlaysSaid : Prop := groupPlaysRow.holds Try.pinned (OpenSpec.ofChange groupPlaysSpec)

/-- ITS FALSE NEIGHBOUR: 'it returns false'. Refute it at one input. -/
def groupPlaysWrong : ChangeSpec := { name := "groupPlays", fn := fun _ => fun
  | [d1, d2, d3] => { results := [.lit (.bool false)], args := [d1, d2, d3] }
  | _ => none }
def GroupPlaysWrongFalsely : Prop := groupPlaysRow.holds Try.pinned (OpenSpec.ofChange groupPlaysWrong)

/- THE SECOND FORM. 'bulk': how many values and letters a reading holds, each counted each time it is reached (what is shared counts as often as it is met; a slice's spare places count too). A statement '..UptoSaid' is the law's where the arguments, and the package variables that the reading takes, are together of bulk at most 1048576: NARROWER than '..Said'. Prove '..Said' where nothing that the law and all that it calls make is longer than what came in: it says more and counts as full. Else prove '..UptoSaid'. A law counts once. -/
mutual
def uptoBulk {H : Type} : DataW H → Nat
  | .lit (.string bytes) => bytes.length + 1
  | .lit _ => 1
  | .nil => 1
  | .ptr d => uptoBulk d + 1
  | .slice elems spare => uptoBulkAll elems + uptoBulkAll spare + 1
  | .agg parts => uptoBulkAll parts + 1
  | .iface _ d => uptoBulk d + 1
  | .map entries => uptoBulkEntries entries + 1
  | .held _ => 1
def uptoBulkAll {H : Type} : List (DataW H) → Nat
  | [] => 0
  | d :: r => uptoBulk d + uptoBulkAll r
def uptoBulkEntries {H : Type} : List (Lit × DataW H) → Nat
  | [] => 0
  | x :: r => uptoBulkEntry x + uptoBulkEntries r
def uptoBulkEntry {H : Type} : Lit × DataW H → Nat
  | (.string bytes, d) => bytes.length + uptoBulk d + 1
  | (_, d) => uptoBulk d + 1
 end
def uptoSmall : (H : Type) → List (DataW H) → Bool := fun _ ds => decide (uptoBulkAll ds ≤ 1048576)
def OpenSpec.upto (s : _root_.Go.ChangeSpec) : _root_.Go.OpenSpec := { _root_.Go.OpenSpec.ofChange s with cond := some uptoSmall }

/-- 'wylaw.FindPages', WHERE WHAT IT READS IS OF BULK AT MOST 1048576: true; the input reads as it did. -/
def findPagesUptoRow : OpenClaim := { program := "ytljjiicjnoljbaa", sum := "ed8ea09d3cbe919968ab0bb9016d47fcfca33db0332ecc4f8c249a3383fcb2bf", func := "withy/wylaw.FindPages", spec := "findPages", apart := false, narrowed := true }
def FindPagesUptoSaid : Prop := findPagesUptoRow.holds Try.pinned (OpenSpec.upto findPagesSpec)

/-- 'wylaw.LabelSays', WHERE WHAT IT READS IS OF BULK AT MOST 1048576: true; the input reads as it did. -/
def labelSaysUptoRow : OpenClaim := { program := "ytljjiicjnoljbaa", sum := "ed8ea09d3cbe919968ab0bb9016d47fcfca33db0332ecc4f8c249a3383fcb2bf", func := "withy/wylaw.LabelSays", spec := "labelSays", apart := false, narrowed := true }
def LabelSaysUptoSaid : Prop := labelSaysUptoRow.holds Try.pinned (OpenSpec.upto labelSaysSpec)

/-- 'wylaw.RuleSays', WHERE WHAT IT READS IS OF BULK AT MOST 1048576: true; the input reads as it did. -/
def ruleSaysUptoRow : OpenClaim := { program := "ytljjiicjnoljbaa", sum := "ed8ea09d3cbe919968ab0bb9016d47fcfca33db0332ecc4f8c249a3383fcb2bf", func := "withy/wylaw.RuleSays", spec := "ruleSays", recurses := true, apart := false, narrowed := true }
def RuleSaysUptoSaid : Prop := ruleSaysUptoRow.holds Try.pinned (OpenSpec.upto ruleSaysSpec)

/-- 'wytop.TopHides', WHERE WHAT IT READS IS OF BULK AT MOST 1048576: true; the input reads as it did. -/
def topHidesUptoRow : OpenClaim := { program := "ytljjiicjnoljbaa", sum := "ed8ea09d3cbe919968ab0bb9016d47fcfca33db0332ecc4f8c249a3383fcb2bf", func := "withy/wytop.TopHides", spec := "topHides", unfollowed := true, recurses := true, apart := false, narrowed := true }
def TopHidesUptoSaid : Prop := topHidesUptoRow.holds Try.pinned (OpenSpec.upto topHidesSpec)

/-- 'wylaw.GroupPlays', WHERE WHAT IT READS IS OF BULK AT MOST 1048576: true; the input reads as it did. -/
def groupPlaysUptoRow : OpenClaim := { program := "ytljjiicjnoljbaa", sum := "ed8ea09d3cbe919968ab0bb9016d47fcfca33db0332ecc4f8c249a3383fcb2bf", func := "withy/wylaw.GroupPlays", spec := "groupPlays", unfollowed := true, recurses := true, apart := false, narrowed := true }
def GroupPlaysUptoSaid : Prop := groupPlaysUptoRow.holds Try.pinned (OpenSpec.upto groupPlaysSpec)

end Rows
end Go.Proofs.Ytljjiicjnoljbaa
