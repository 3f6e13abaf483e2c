/-
  No cell of these rows narrows 'for every input' (looked for: loops, veiled, ifaces, maps, wideKeys, modest, calm, conditions, laid).
  DERIVED. THE GIVEN ROWS OF THIS SEAT. 10 by the template 'for every input the law returns true; each argument reads behind the call as it read before'; 0 by the template 'total and deterministic' (their statements: YtfboiplpfkommaaTotals.lean).
  GIVEN WITH THE SEED: the statements are not yours to turn. If you find one false, say at which input.
  Laid BY PROGRAM, IN A SANDBOX (cutbox-rows.mjs): the forced cells as the released guide's own fill.sh prints them over the translation 3b829e780066f6c7… (all of the seat's roots in one cut). By AI agents, Wed Nov 11 2026. No macro, syntax, notation, axiom, sorry.
-/
import Derived.Test.YtfboiplpfkommaaChecked
import GoSem.Claim
import GoSem.ClaimJoined
import GoSem.ClaimMapViews
import Derived.JoinedTies
import Derived.KernelRfl
namespace Go.Proofs.Ytfboiplpfkommaa
/- THE CELL 'sum', in the pinned program and in every row, IS THE sha256 OF THE DUMP (.gsa) THAT YtfboiplpfkommaaProg.lean LOADS. Nothing in Lean hashes anything: it is a label: what it is worth is what the hold of that sum in a sandbox is worth. -/
noncomputable def Try.pinned : Pinned := { name := "ytfboiplpfkommaa", sum := "3b829e780066f6c7668afd0a77adef27e9a62a79d5af49f632f402f72244ab49", checked := Try.checked }
namespace Rows
def none {H : Type} : Left H := { results := [], args := [] }

/-- 'knurllaw01.ArmsBest': WHATEVER THE INPUT: true; the input reads as it did. -/
def armsBestSpec : ChangeSpec := { name := "armsBest", fn := fun _ => fun
  | [d1, d2] => { results := [.lit (.bool true)], args := [d1, d2] }
  | _ => none }
def armsBestRow : OpenClaim := { program := "ytfboiplpfkommaa", sum := "3b829e780066f6c7668afd0a77adef27e9a62a79d5af49f632f402f72244ab49", func := "knurl/knurllaw01.ArmsBest", spec := "armsBest", unfollowed := true, recurses := true, apart := false }
def ArmsBestSaid : Prop := armsBestRow.holds Try.pinned (OpenSpec.ofChange armsBestSpec)

/-- ITS FALSE NEIGHBOUR: 'it returns false'. Refute it at one input. -/
def armsBestWrong : ChangeSpec := { name := "armsBest", fn := fun _ => fun
  | [d1, d2] => { results := [.lit (.bool false)], args := [d1, d2] }
  | _ => none }
def ArmsBestWrongFalsely : Prop := armsBestRow.holds Try.pinned (OpenSpec.ofChange armsBestWrong)

/-- 'knurllaw01.ArmsNearest': WHATEVER THE INPUT: true; the input reads as it did. -/
def armsNearestSpec : ChangeSpec := { name := "armsNearest", fn := fun _ => fun
  | [d1, d2, d3] => { results := [.lit (.bool true)], args := [d1, d2, d3] }
  | _ => none }
def armsNearestRow : OpenClaim := { program := "ytfboiplpfkommaa", sum := "3b829e780066f6c7668afd0a77adef27e9a62a79d5af49f632f402f72244ab49", func := "knurl/knurllaw01.ArmsNearest", spec := "armsNearest", unfollowed := true, recurses := true, apart := false }
def ArmsNearestSaid : Prop := armsNearestRow.holds Try.pinned (OpenSpec.ofChange armsNearestSpec)

/-- ITS FALSE NEIGHBOUR: 'it returns false'. Refute it at one input. -/
def armsNearestWrong : ChangeSpec := { name := "armsNearest", fn := fun _ => fun
  | [d1, d2, d3] => { results := [.lit (.bool false)], args := [d1, d2, d3] }
  | _ => none }
def ArmsNearestWrongFalsely : Prop := armsNearestRow.holds Try.pinned (OpenSpec.ofChange armsNearestWrong)

/-- 'knurllaw01.ArmsLaws': WHATEVER THE INPUT: true; the input reads as it did. -/
def armsLawsSpec : ChangeSpec := { name := "armsLaws", fn := fun _ => fun
  | [d] => { results := [.lit (.bool true)], args := [d] }
  | _ => none }
def armsLawsRow : OpenClaim := { program := "ytfboiplpfkommaa", sum := "3b829e780066f6c7668afd0a77adef27e9a62a79d5af49f632f402f72244ab49", func := "knurl/knurllaw01.ArmsLaws", spec := "armsLaws", unfollowed := true, recurses := true, apart := false }
def ArmsLawsSaid : Prop := armsLawsRow.holds Try.pinned (OpenSpec.ofChange armsLawsSpec)

/-- ITS FALSE NEIGHBOUR: 'it returns false'. Refute it at one input. -/
def armsLawsWrong : ChangeSpec := { name := "armsLaws", fn := fun _ => fun
  | [d] => { results := [.lit (.bool false)], args := [d] }
  | _ => none }
def ArmsLawsWrongFalsely : Prop := armsLawsRow.holds Try.pinned (OpenSpec.ofChange armsLawsWrong)

/-- 'knurllaw01.ArmsScales': WHATEVER THE INPUT: true; the input reads as it did. -/
def armsScalesSpec : ChangeSpec := { name := "armsScales", fn := fun _ => fun
  | [d1, d2, d3] => { results := [.lit (.bool true)], args := [d1, d2, d3] }
  | _ => none }
def armsScalesRow : OpenClaim := { program := "ytfboiplpfkommaa", sum := "3b829e780066f6c7668afd0a77adef27e9a62a79d5af49f632f402f72244ab49", func := "knurl/knurllaw01.ArmsScales", spec := "armsScales", unfollowed := true, recurses := true, apart := false }
def ArmsScalesSaid : Prop := armsScalesRow.holds Try.pinned (OpenSpec.ofChange armsScalesSpec)

/-- ITS FALSE NEIGHBOUR: 'it returns false'. Refute it at one input. -/
def armsScalesWrong : ChangeSpec := { name := "armsScales", fn := fun _ => fun
  | [d1, d2, d3] => { results := [.lit (.bool false)], args := [d1, d2, d3] }
  | _ => none }
def ArmsScalesWrongFalsely : Prop := armsScalesRow.holds Try.pinned (OpenSpec.ofChange armsScalesWrong)

/-- 'knurllaw01.ArmsNear': WHATEVER THE INPUT: true; the input reads as it did. -/
def armsNearSpec : ChangeSpec := { name := "armsNear", fn := fun _ => fun
  | [d1, d2, d3] => { results := [.lit (.bool true)], args := [d1, d2, d3] }
  | _ => none }
def armsNearRow : OpenClaim := { program := "ytfboiplpfkommaa", sum := "3b829e780066f6c7668afd0a77adef27e9a62a79d5af49f632f402f72244ab49", func := "knurl/knurllaw01.ArmsNear", spec := "armsNear", unfollowed := true, recurses := true, apart := false }
def ArmsNearSaid : Prop := armsNearRow.holds Try.pinned (OpenSpec.ofChange armsNearSpec)

/-- ITS FALSE NEIGHBOUR: 'it returns false'. Refute it at one input. -/
def armsNearWrong : ChangeSpec := { name := "armsNear", fn := fun _ => fun
  | [d1, d2, d3] => { results := [.lit (.bool false)], args := [d1, d2, d3] }
  | _ => none }
def ArmsNearWrongFalsely : Prop := armsNearRow.holds Try.pinned (OpenSpec.ofChange armsNearWrong)

/-- 'knurllaw01.ArmsSums': WHATEVER THE INPUT: true; the input reads as it did. -/
def armsSumsSpec : ChangeSpec := { name := "armsSums", fn := fun _ => fun
  | [d1, d2] => { results := [.lit (.bool true)], args := [d1, d2] }
  | _ => none }
def armsSumsRow : OpenClaim := { program := "ytfboiplpfkommaa", sum := "3b829e780066f6c7668afd0a77adef27e9a62a79d5af49f632f402f72244ab49", func := "knurl/knurllaw01.ArmsSums", spec := "armsSums", unfollowed := true, recurses := true, apart := false }
def ArmsSumsSaid : Prop := armsSumsRow.holds Try.pinned (OpenSpec.ofChange armsSumsSpec)

/-- ITS FALSE NEIGHBOUR: 'it returns false'. Refute it at one input. -/
def armsSumsWrong : ChangeSpec := { name := "armsSums", fn := fun _ => fun
  | [d1, d2] => { results := [.lit (.bool false)], args := [d1, d2] }
  | _ => none }
def ArmsSumsWrongFalsely : Prop := armsSumsRow.holds Try.pinned (OpenSpec.ofChange armsSumsWrong)

/-- 'knurllaw01.ArmsOrder': WHATEVER THE INPUT: true; the input reads as it did. -/
def armsOrderSpec : ChangeSpec := { name := "armsOrder", fn := fun _ => fun
  | [d] => { results := [.lit (.bool true)], args := [d] }
  | _ => none }
def armsOrderRow : OpenClaim := { program := "ytfboiplpfkommaa", sum := "3b829e780066f6c7668afd0a77adef27e9a62a79d5af49f632f402f72244ab49", func := "knurl/knurllaw01.ArmsOrder", spec := "armsOrder", unfollowed := true, recurses := true, apart := false }
def ArmsOrderSaid : Prop := armsOrderRow.holds Try.pinned (OpenSpec.ofChange armsOrderSpec)

/-- ITS FALSE NEIGHBOUR: 'it returns false'. Refute it at one input. -/
def armsOrderWrong : ChangeSpec := { name := "armsOrder", fn := fun _ => fun
  | [d] => { results := [.lit (.bool false)], args := [d] }
  | _ => none }
def ArmsOrderWrongFalsely : Prop := armsOrderRow.holds Try.pinned (OpenSpec.ofChange armsOrderWrong)

/-- 'knurllaw01.ArmsSet': WHATEVER THE INPUT: true; the input reads as it did. -/
def armsSetSpec : ChangeSpec := { name := "armsSet", fn := fun _ => fun
  | [d1, d2, d3] => { results := [.lit (.bool true)], args := [d1, d2, d3] }
  | _ => none }
def armsSetRow : OpenClaim := { program := "ytfboiplpfkommaa", sum := "3b829e780066f6c7668afd0a77adef27e9a62a79d5af49f632f402f72244ab49", func := "knurl/knurllaw01.ArmsSet", spec := "armsSet", unfollowed := true, recurses := true, apart := false }
def ArmsSetSaid : Prop := armsSetRow.holds Try.pinned (OpenSpec.ofChange armsSetSpec)

/-- ITS FALSE NEIGHBOUR: 'it returns false'. Refute it at one input. -/
def armsSetWrong : ChangeSpec := { name := "armsSet", fn := fun _ => fun
  | [d1, d2, d3] => { results := [.lit (.bool false)], args := [d1, d2, d3] }
  | _ => none }
def ArmsSetWrongFalsely : Prop := armsSetRow.holds Try.pinned (OpenSpec.ofChange armsSetWrong)

/-- 'knurllaw01.ArmsSeen': WHATEVER THE INPUT: true; the input reads as it did. -/
def armsSeenSpec : ChangeSpec := { name := "armsSeen", fn := fun _ => fun
  | [d1, d2, d3] => { results := [.lit (.bool true)], args := [d1, d2, d3] }
  | _ => none }
def armsSeenRow : OpenClaim := { program := "ytfboiplpfkommaa", sum := "3b829e780066f6c7668afd0a77adef27e9a62a79d5af49f632f402f72244ab49", func := "knurl/knurllaw01.ArmsSeen", spec := "armsSeen", unfollowed := true, recurses := true, apart := false }
def ArmsSeenSaid : Prop := armsSeenRow.holds Try.pinned (OpenSpec.ofChange armsSeenSpec)

/-- ITS FALSE NEIGHBOUR: 'it returns false'. Refute it at one input. -/
def armsSeenWrong : ChangeSpec := { name := "armsSeen", fn := fun _ => fun
  | [d1, d2, d3] => { results := [.lit (.bool false)], args := [d1, d2, d3] }
  | _ => none }
def ArmsSeenWrongFalsely : Prop := armsSeenRow.holds Try.pinned (OpenSpec.ofChange armsSeenWrong)

/-- 'knurllaw01.ArmsGlances': WHATEVER THE INPUT: true; the input reads as it did. -/
def armsGlancesSpec : ChangeSpec := { name := "armsGlances", fn := fun _ => fun
  | [d1, d2, d3] => { results := [.lit (.bool true)], args := [d1, d2, d3] }
  | _ => none }
def armsGlancesRow : OpenClaim := { program := "ytfboiplpfkommaa", sum := "3b829e780066f6c7668afd0a77adef27e9a62a79d5af49f632f402f72244ab49", func := "knurl/knurllaw01.ArmsGlances", spec := "armsGlances", unfollowed := true, recurses := true, apart := false }
def ArmsGlancesSaid : Prop := armsGlancesRow.holds Try.pinned (OpenSpec.ofChange armsGlancesSpec)

/-- ITS FALSE NEIGHBOUR: 'it returns false'. Refute it at one input. -/
def armsGlancesWrong : ChangeSpec := { name := "armsGlances", fn := fun _ => fun
  | [d1, d2, d3] => { results := [.lit (.bool false)], args := [d1, d2, d3] }
  | _ => none }
def ArmsGlancesWrongFalsely : Prop := armsGlancesRow.holds Try.pinned (OpenSpec.ofChange armsGlancesWrong)

/- THE SECOND FORM. 'bulk': how many values and letters a reading holds, each counted each time it is reached (what is shared counts as often as it is met; a slice's spare places count too). A statement '..UptoSaid' is the law's where the arguments, and the package variables that the reading takes, are together of bulk at most 1048576: NARROWER than '..Said'. Prove '..Said' where nothing that the law and all that it calls make is longer than what came in: it says more and counts as full. Else prove '..UptoSaid'. A law counts once. -/
mutual
def uptoBulk {H : Type} : DataW H → Nat
  | .lit (.string bytes) => bytes.length + 1
  | .lit _ => 1
  | .nil => 1
  | .ptr d => uptoBulk d + 1
  | .slice elems spare => uptoBulkAll elems + uptoBulkAll spare + 1
  | .agg parts => uptoBulkAll parts + 1
  | .iface _ d => uptoBulk d + 1
  | .map entries => uptoBulkEntries entries + 1
  | .held _ => 1
def uptoBulkAll {H : Type} : List (DataW H) → Nat
  | [] => 0
  | d :: r => uptoBulk d + uptoBulkAll r
def uptoBulkEntries {H : Type} : List (Lit × DataW H) → Nat
  | [] => 0
  | x :: r => uptoBulkEntry x + uptoBulkEntries r
def uptoBulkEntry {H : Type} : Lit × DataW H → Nat
  | (.string bytes, d) => bytes.length + uptoBulk d + 1
  | (_, d) => uptoBulk d + 1
 end
def uptoSmall : (H : Type) → List (DataW H) → Bool := fun _ ds => decide (uptoBulkAll ds ≤ 1048576)
def OpenSpec.upto (s : _root_.Go.ChangeSpec) : _root_.Go.OpenSpec := { _root_.Go.OpenSpec.ofChange s with cond := some uptoSmall }

/-- 'knurllaw01.ArmsBest', WHERE WHAT IT READS IS OF BULK AT MOST 1048576: true; the input reads as it did. -/
def armsBestUptoRow : OpenClaim := { program := "ytfboiplpfkommaa", sum := "3b829e780066f6c7668afd0a77adef27e9a62a79d5af49f632f402f72244ab49", func := "knurl/knurllaw01.ArmsBest", spec := "armsBest", unfollowed := true, recurses := true, apart := false, narrowed := true }
def ArmsBestUptoSaid : Prop := armsBestUptoRow.holds Try.pinned (OpenSpec.upto armsBestSpec)

/-- 'knurllaw01.ArmsNearest', WHERE WHAT IT READS IS OF BULK AT MOST 1048576: true; the input reads as it did. -/
def armsNearestUptoRow : OpenClaim := { program := "ytfboiplpfkommaa", sum := "3b829e780066f6c7668afd0a77adef27e9a62a79d5af49f632f402f72244ab49", func := "knurl/knurllaw01.ArmsNearest", spec := "armsNearest", unfollowed := true, recurses := true, apart := false, narrowed := true }
def ArmsNearestUptoSaid : Prop := armsNearestUptoRow.holds Try.pinned (OpenSpec.upto armsNearestSpec)

/-- 'knurllaw01.ArmsLaws', WHERE WHAT IT READS IS OF BULK AT MOST 1048576: true; the input reads as it did. -/
def armsLawsUptoRow : OpenClaim := { program := "ytfboiplpfkommaa", sum := "3b829e780066f6c7668afd0a77adef27e9a62a79d5af49f632f402f72244ab49", func := "knurl/knurllaw01.ArmsLaws", spec := "armsLaws", unfollowed := true, recurses := true, apart := false, narrowed := true }
def ArmsLawsUptoSaid : Prop := armsLawsUptoRow.holds Try.pinned (OpenSpec.upto armsLawsSpec)

/-- 'knurllaw01.ArmsScales', WHERE WHAT IT READS IS OF BULK AT MOST 1048576: true; the input reads as it did. -/
def armsScalesUptoRow : OpenClaim := { program := "ytfboiplpfkommaa", sum := "3b829e780066f6c7668afd0a77adef27e9a62a79d5af49f632f402f72244ab49", func := "knurl/knurllaw01.ArmsScales", spec := "armsScales", unfollowed := true, recurses := true, apart := false, narrowed := true }
def ArmsScalesUptoSaid : Prop := armsScalesUptoRow.holds Try.pinned (OpenSpec.upto armsScalesSpec)

/-- 'knurllaw01.ArmsNear', WHERE WHAT IT READS IS OF BULK AT MOST 1048576: true; the input reads as it did. -/
def armsNearUptoRow : OpenClaim := { program := "ytfboiplpfkommaa", sum := "3b829e780066f6c7668afd0a77adef27e9a62a79d5af49f632f402f72244ab49", func := "knurl/knurllaw01.ArmsNear", spec := "armsNear", unfollowed := true, recurses := true, apart := false, narrowed := true }
def ArmsNearUptoSaid : Prop := armsNearUptoRow.holds Try.pinned (OpenSpec.upto armsNearSpec)

/-- 'knurllaw01.ArmsSums', WHERE WHAT IT READS IS OF BULK AT MOST 1048576: true; the input reads as it did. -/
def armsSumsUptoRow : OpenClaim := { program := "ytfboiplpfkommaa", sum := "3b829e780066f6c7668afd0a77adef27e9a62a79d5af49f632f402f72244ab49", func := "knurl/knurllaw01.ArmsSums", spec := "armsSums", unfollowed := true, recurses := true, apart := false, narrowed := true }
def ArmsSumsUptoSaid : Prop := armsSumsUptoRow.holds Try.pinned (OpenSpec.upto armsSumsSpec)

/-- 'knurllaw01.ArmsOrder', WHERE WHAT IT READS IS OF BULK AT MOST 1048576: true; the input reads as it did. -/
def armsOrderUptoRow : OpenClaim := { program := "ytfboiplpfkommaa", sum := "3b829e780066f6c7668afd0a77adef27e9a62a79d5af49f632f402f72244ab49", func := "knurl/knurllaw01.ArmsOrder", spec := "armsOrder", unfollowed := true, recurses := true, apart := false, narrowed := true }
def ArmsOrderUptoSaid : Prop := armsOrderUptoRow.holds Try.pinned (OpenSpec.upto armsOrderSpec)

/-- 'knurllaw01.ArmsSet', WHERE WHAT IT READS IS OF BULK AT MOST 1048576: true; the input reads as it did. -/
def armsSetUptoRow : OpenClaim := { program := "ytfboiplpfkommaa", sum := "3b829e780066f6c7668afd0a77adef27e9a62a79d5af49f632f402f72244ab49", func := "knurl/knurllaw01.ArmsSet", spec := "armsSet", unfollowed := true, recurses := true, apart := false, narrowed := true }
def ArmsSetUptoSaid : Prop := armsSetUptoRow.holds Try.pinned (OpenSpec.upto armsSetSpec)

/-- 'knurllaw01.ArmsSeen', WHERE WHAT IT READS IS OF BULK AT MOST 1048576: true; the input reads as it did. -/
def armsSeenUptoRow : OpenClaim := { program := "ytfboiplpfkommaa", sum := "3b829e780066f6c7668afd0a77adef27e9a62a79d5af49f632f402f72244ab49", func := "knurl/knurllaw01.ArmsSeen", spec := "armsSeen", unfollowed := true, recurses := true, apart := false, narrowed := true }
def ArmsSeenUptoSaid : Prop := armsSeenUptoRow.holds Try.pinned (OpenSpec.upto armsSeenSpec)

/-- 'knurllaw01.ArmsGlances', WHERE WHAT IT READS IS OF BULK AT MOST 1048576: true; the input reads as it did. -/
def armsGlancesUptoRow : OpenClaim := { program := "ytfboiplpfkommaa", sum := "3b829e780066f6c7668afd0a77adef27e9a62a79d5af49f632f402f72244ab49", func := "knurl/knurllaw01.ArmsGlances", spec := "armsGlances", unfollowed := true, recurses := true, apart := false, narrowed := true }
def ArmsGlancesUptoSaid : Prop := armsGlancesUptoRow.holds Try.pinned (OpenSpec.upto armsGlancesSpec)

end Rows
end Go.Proofs.Ytfboiplpfkommaa
