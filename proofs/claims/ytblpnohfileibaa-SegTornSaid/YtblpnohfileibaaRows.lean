/-
  No cell of these rows narrows 'for every input' (looked for: loops, veiled, ifaces, maps, wideKeys, modest, calm, conditions, laid).
  DERIVED. THE GIVEN ROWS OF THIS SEAT. 7 by the template 'for every input the law returns true; each argument reads behind the call as it read before'; 0 by the template 'total and deterministic' (their statements: YtblpnohfileibaaTotals.lean).
  GIVEN WITH THE SEED: the statements are not yours to turn. If you find one false, say at which input.
  Laid BY PROGRAM, IN A SANDBOX (cutbox-rows.mjs): the forced cells as the released guide's own fill.sh prints them over the translation 430df3306a6ee8c2… (all of the seat's roots in one cut). By AI agents, Wed Nov 11 2026. No macro, syntax, notation, axiom, sorry.
-/
import Derived.Test.YtblpnohfileibaaChecked
import GoSem.Claim
import GoSem.ClaimJoined
import GoSem.ClaimMapViews
import Derived.JoinedTies
import Derived.KernelRfl
namespace Go.Proofs.Ytblpnohfileibaa
/- THE CELL 'sum', in the pinned program and in every row, IS THE sha256 OF THE DUMP (.gsa) THAT YtblpnohfileibaaProg.lean LOADS. Nothing in Lean hashes anything: it is a label: what it is worth is what the hold of that sum in a sandbox is worth. -/
noncomputable def Try.pinned : Pinned := { name := "ytblpnohfileibaa", sum := "430df3306a6ee8c27d1d9ffd36a534b2807fca8f16aaeecaa7c963bfee2cc66b", checked := Try.checked }
namespace Rows
def none {H : Type} : Left H := { results := [], args := [] }

/-- 'taximeterlaw13.SegNames': WHATEVER THE INPUT: true; the input reads as it did. -/
def segNamesSpec : ChangeSpec := { name := "segNames", fn := fun _ => fun
  | [d1, d2, d3] => { results := [.lit (.bool true)], args := [d1, d2, d3] }
  | _ => none }
def segNamesRow : OpenClaim := { program := "ytblpnohfileibaa", sum := "430df3306a6ee8c27d1d9ffd36a534b2807fca8f16aaeecaa7c963bfee2cc66b", func := "taximeter/taximeterlaw13.SegNames", spec := "segNames", apart := false }
def SegNamesSaid : Prop := segNamesRow.holds Try.pinned (OpenSpec.ofChange segNamesSpec)

/-- ITS FALSE NEIGHBOUR: 'it returns false'. Refute it at one input. -/
def segNamesWrong : ChangeSpec := { name := "segNames", fn := fun _ => fun
  | [d1, d2, d3] => { results := [.lit (.bool false)], args := [d1, d2, d3] }
  | _ => none }
def SegNamesWrongFalsely : Prop := segNamesRow.holds Try.pinned (OpenSpec.ofChange segNamesWrong)

/-- 'taximeterlaw13.SegTorn': WHATEVER THE INPUT: true; the input reads as it did. -/
def segTornSpec : ChangeSpec := { name := "segTorn", fn := fun _ => fun
  | [d1, d2, d3] => { results := [.lit (.bool true)], args := [d1, d2, d3] }
  | _ => none }
def segTornRow : OpenClaim := { program := "ytblpnohfileibaa", sum := "430df3306a6ee8c27d1d9ffd36a534b2807fca8f16aaeecaa7c963bfee2cc66b", func := "taximeter/taximeterlaw13.SegTorn", spec := "segTorn", inPlace := ["math.Float64frombits", "math.Float64bits"], unfollowed := true, recurses := true, apart := false }
def SegTornSaid : Prop := segTornRow.holds Try.pinned (OpenSpec.ofChange segTornSpec)

/-- ITS FALSE NEIGHBOUR: 'it returns false'. Refute it at one input. -/
def segTornWrong : ChangeSpec := { name := "segTorn", fn := fun _ => fun
  | [d1, d2, d3] => { results := [.lit (.bool false)], args := [d1, d2, d3] }
  | _ => none }
def SegTornWrongFalsely : Prop := segTornRow.holds Try.pinned (OpenSpec.ofChange segTornWrong)

/-- 'taximeterlaw13.SegNumbers': WHATEVER THE INPUT: true; the input reads as it did. -/
def segNumbersSpec : ChangeSpec := { name := "segNumbers", fn := fun _ => fun
  | [d] => { results := [.lit (.bool true)], args := [d] }
  | _ => none }
def segNumbersRow : OpenClaim := { program := "ytblpnohfileibaa", sum := "430df3306a6ee8c27d1d9ffd36a534b2807fca8f16aaeecaa7c963bfee2cc66b", func := "taximeter/taximeterlaw13.SegNumbers", spec := "segNumbers", recurses := true, apart := false }
def SegNumbersSaid : Prop := segNumbersRow.holds Try.pinned (OpenSpec.ofChange segNumbersSpec)

/-- ITS FALSE NEIGHBOUR: 'it returns false'. Refute it at one input. -/
def segNumbersWrong : ChangeSpec := { name := "segNumbers", fn := fun _ => fun
  | [d] => { results := [.lit (.bool false)], args := [d] }
  | _ => none }
def SegNumbersWrongFalsely : Prop := segNumbersRow.holds Try.pinned (OpenSpec.ofChange segNumbersWrong)

/-- 'taximeterlaw09.DiskKeeps': WHATEVER THE INPUT: true; the input reads as it did. -/
def diskKeepsSpec : ChangeSpec := { name := "diskKeeps", fn := fun _ => fun
  | [d1, d2, d3] => { results := [.lit (.bool true)], args := [d1, d2, d3] }
  | _ => none }
def diskKeepsRow : OpenClaim := { program := "ytblpnohfileibaa", sum := "430df3306a6ee8c27d1d9ffd36a534b2807fca8f16aaeecaa7c963bfee2cc66b", func := "taximeter/taximeterlaw09.DiskKeeps", spec := "diskKeeps", unfollowed := true, recurses := true, apart := false }
def DiskKeepsSaid : Prop := diskKeepsRow.holds Try.pinned (OpenSpec.ofChange diskKeepsSpec)

/-- ITS FALSE NEIGHBOUR: 'it returns false'. Refute it at one input. -/
def diskKeepsWrong : ChangeSpec := { name := "diskKeeps", fn := fun _ => fun
  | [d1, d2, d3] => { results := [.lit (.bool false)], args := [d1, d2, d3] }
  | _ => none }
def DiskKeepsWrongFalsely : Prop := diskKeepsRow.holds Try.pinned (OpenSpec.ofChange diskKeepsWrong)

/-- 'taximeterlaw09.DiskNobody': WHATEVER THE INPUT: true; the input reads as it did. -/
def diskNobodySpec : ChangeSpec := { name := "diskNobody", fn := fun _ => fun
  | [d] => { results := [.lit (.bool true)], args := [d] }
  | _ => none }
def diskNobodyRow : OpenClaim := { program := "ytblpnohfileibaa", sum := "430df3306a6ee8c27d1d9ffd36a534b2807fca8f16aaeecaa7c963bfee2cc66b", func := "taximeter/taximeterlaw09.DiskNobody", spec := "diskNobody", unfollowed := true, recurses := true, apart := false }
def DiskNobodySaid : Prop := diskNobodyRow.holds Try.pinned (OpenSpec.ofChange diskNobodySpec)

/-- ITS FALSE NEIGHBOUR: 'it returns false'. Refute it at one input. -/
def diskNobodyWrong : ChangeSpec := { name := "diskNobody", fn := fun _ => fun
  | [d] => { results := [.lit (.bool false)], args := [d] }
  | _ => none }
def DiskNobodyWrongFalsely : Prop := diskNobodyRow.holds Try.pinned (OpenSpec.ofChange diskNobodyWrong)

/-- 'taximeterlaw10.CrashLeaves': WHATEVER THE INPUT: true; the input reads as it did. -/
def crashLeavesSpec : ChangeSpec := { name := "crashLeaves", fn := fun _ => fun
  | [d1, d2, d3] => { results := [.lit (.bool true)], args := [d1, d2, d3] }
  | _ => none }
def crashLeavesRow : OpenClaim := { program := "ytblpnohfileibaa", sum := "430df3306a6ee8c27d1d9ffd36a534b2807fca8f16aaeecaa7c963bfee2cc66b", func := "taximeter/taximeterlaw10.CrashLeaves", spec := "crashLeaves", unfollowed := true, recurses := true, apart := false }
def CrashLeavesSaid : Prop := crashLeavesRow.holds Try.pinned (OpenSpec.ofChange crashLeavesSpec)

/-- ITS FALSE NEIGHBOUR: 'it returns false'. Refute it at one input. -/
def crashLeavesWrong : ChangeSpec := { name := "crashLeaves", fn := fun _ => fun
  | [d1, d2, d3] => { results := [.lit (.bool false)], args := [d1, d2, d3] }
  | _ => none }
def CrashLeavesWrongFalsely : Prop := crashLeavesRow.holds Try.pinned (OpenSpec.ofChange crashLeavesWrong)

/-- 'taximeterlaw10.CrashMusts': WHATEVER THE INPUT: true; the input reads as it did. -/
def crashMustsSpec : ChangeSpec := { name := "crashMusts", fn := fun _ => fun
  | [d1, d2, d3] => { results := [.lit (.bool true)], args := [d1, d2, d3] }
  | _ => none }
def crashMustsRow : OpenClaim := { program := "ytblpnohfileibaa", sum := "430df3306a6ee8c27d1d9ffd36a534b2807fca8f16aaeecaa7c963bfee2cc66b", func := "taximeter/taximeterlaw10.CrashMusts", spec := "crashMusts", unfollowed := true, recurses := true, apart := false }
def CrashMustsSaid : Prop := crashMustsRow.holds Try.pinned (OpenSpec.ofChange crashMustsSpec)

/-- ITS FALSE NEIGHBOUR: 'it returns false'. Refute it at one input. -/
def crashMustsWrong : ChangeSpec := { name := "crashMusts", fn := fun _ => fun
  | [d1, d2, d3] => { results := [.lit (.bool false)], args := [d1, d2, d3] }
  | _ => none }
def CrashMustsWrongFalsely : Prop := crashMustsRow.holds Try.pinned (OpenSpec.ofChange crashMustsWrong)

/- THE SECOND FORM. 'bulk': how many values and letters a reading holds, each counted each time it is reached (what is shared counts as often as it is met; a slice's spare places count too). A statement '..UptoSaid' is the law's where the arguments, and the package variables that the reading takes, are together of bulk at most 1048576: NARROWER than '..Said'. Prove '..Said' where nothing that the law and all that it calls make is longer than what came in: it says more and counts as full. Else prove '..UptoSaid'. A law counts once. -/
mutual
def uptoBulk {H : Type} : DataW H → Nat
  | .lit (.string bytes) => bytes.length + 1
  | .lit _ => 1
  | .nil => 1
  | .ptr d => uptoBulk d + 1
  | .slice elems spare => uptoBulkAll elems + uptoBulkAll spare + 1
  | .agg parts => uptoBulkAll parts + 1
  | .iface _ d => uptoBulk d + 1
  | .map entries => uptoBulkEntries entries + 1
  | .held _ => 1
def uptoBulkAll {H : Type} : List (DataW H) → Nat
  | [] => 0
  | d :: r => uptoBulk d + uptoBulkAll r
def uptoBulkEntries {H : Type} : List (Lit × DataW H) → Nat
  | [] => 0
  | x :: r => uptoBulkEntry x + uptoBulkEntries r
def uptoBulkEntry {H : Type} : Lit × DataW H → Nat
  | (.string bytes, d) => bytes.length + uptoBulk d + 1
  | (_, d) => uptoBulk d + 1
 end
def uptoSmall : (H : Type) → List (DataW H) → Bool := fun _ ds => decide (uptoBulkAll ds ≤ 1048576)
def OpenSpec.upto (s : _root_.Go.ChangeSpec) : _root_.Go.OpenSpec := { _root_.Go.OpenSpec.ofChange s with cond := some uptoSmall }

/-- 'taximeterlaw13.SegNames', WHERE WHAT IT READS IS OF BULK AT MOST 1048576: true; the input reads as it did. -/
def segNamesUptoRow : OpenClaim := { program := "ytblpnohfileibaa", sum := "430df3306a6ee8c27d1d9ffd36a534b2807fca8f16aaeecaa7c963bfee2cc66b", func := "taximeter/taximeterlaw13.SegNames", spec := "segNames", apart := false, narrowed := true }
def SegNamesUptoSaid : Prop := segNamesUptoRow.holds Try.pinned (OpenSpec.upto segNamesSpec)

/-- 'taximeterlaw13.SegTorn', WHERE WHAT IT READS IS OF BULK AT MOST 1048576: true; the input reads as it did. -/
def segTornUptoRow : OpenClaim := { program := "ytblpnohfileibaa", sum := "430df3306a6ee8c27d1d9ffd36a534b2807fca8f16aaeecaa7c963bfee2cc66b", func := "taximeter/taximeterlaw13.SegTorn", spec := "segTorn", inPlace := ["math.Float64frombits", "math.Float64bits"], unfollowed := true, recurses := true, apart := false, narrowed := true }
def SegTornUptoSaid : Prop := segTornUptoRow.holds Try.pinned (OpenSpec.upto segTornSpec)

/-- 'taximeterlaw13.SegNumbers', WHERE WHAT IT READS IS OF BULK AT MOST 1048576: true; the input reads as it did. -/
def segNumbersUptoRow : OpenClaim := { program := "ytblpnohfileibaa", sum := "430df3306a6ee8c27d1d9ffd36a534b2807fca8f16aaeecaa7c963bfee2cc66b", func := "taximeter/taximeterlaw13.SegNumbers", spec := "segNumbers", recurses := true, apart := false, narrowed := true }
def SegNumbersUptoSaid : Prop := segNumbersUptoRow.holds Try.pinned (OpenSpec.upto segNumbersSpec)

/-- 'taximeterlaw09.DiskKeeps', WHERE WHAT IT READS IS OF BULK AT MOST 1048576: true; the input reads as it did. -/
def diskKeepsUptoRow : OpenClaim := { program := "ytblpnohfileibaa", sum := "430df3306a6ee8c27d1d9ffd36a534b2807fca8f16aaeecaa7c963bfee2cc66b", func := "taximeter/taximeterlaw09.DiskKeeps", spec := "diskKeeps", unfollowed := true, recurses := true, apart := false, narrowed := true }
def DiskKeepsUptoSaid : Prop := diskKeepsUptoRow.holds Try.pinned (OpenSpec.upto diskKeepsSpec)

/-- 'taximeterlaw09.DiskNobody', WHERE WHAT IT READS IS OF BULK AT MOST 1048576: true; the input reads as it did. -/
def diskNobodyUptoRow : OpenClaim := { program := "ytblpnohfileibaa", sum := "430df3306a6ee8c27d1d9ffd36a534b2807fca8f16aaeecaa7c963bfee2cc66b", func := "taximeter/taximeterlaw09.DiskNobody", spec := "diskNobody", unfollowed := true, recurses := true, apart := false, narrowed := true }
def DiskNobodyUptoSaid : Prop := diskNobodyUptoRow.holds Try.pinned (OpenSpec.upto diskNobodySpec)

/-- 'taximeterlaw10.CrashLeaves', WHERE WHAT IT READS IS OF BULK AT MOST 1048576: true; the input reads as it did. -/
def crashLeavesUptoRow : OpenClaim := { program := "ytblpnohfileibaa", sum := "430df3306a6ee8c27d1d9ffd36a534b2807fca8f16aaeecaa7c963bfee2cc66b", func := "taximeter/taximeterlaw10.CrashLeaves", spec := "crashLeaves", unfollowed := true, recurses := true, apart := false, narrowed := true }
def CrashLeavesUptoSaid : Prop := crashLeavesUptoRow.holds Try.pinned (OpenSpec.upto crashLeavesSpec)

/-- 'taximeterlaw10.CrashMusts', WHERE WHAT IT READS IS OF BULK AT MOST 1048576: true; the input reads as it did. -/
def crashMustsUptoRow : OpenClaim := { program := "ytblpnohfileibaa", sum := "430df3306a6ee8c27d1d9ffd36a534b2807fca8f16aaeecaa7c963bfee2cc66b", func := "taximeter/taximeterlaw10.CrashMusts", spec := "crashMusts", unfollowed := true, recurses := true, apart := false, narrowed := true }
def CrashMustsUptoSaid : Prop := crashMustsUptoRow.holds Try.pinned (OpenSpec.upto crashMustsSpec)

end Rows
end Go.Proofs.Ytblpnohfileibaa
