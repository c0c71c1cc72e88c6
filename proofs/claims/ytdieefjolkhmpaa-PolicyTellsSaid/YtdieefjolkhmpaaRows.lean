/-
  No cell of these rows narrows 'for every input' (looked for: loops, veiled, ifaces, maps, wideKeys, modest, calm, conditions, laid).
  DERIVED. THE GIVEN ROWS OF THIS SEAT. 8 by the template 'for every input the law returns true; each argument reads behind the call as it read before'; 0 by the template 'total and deterministic' (their statements: YtdieefjolkhmpaaTotals.lean).
  GIVEN WITH THE SEED: the statements are not yours to turn. If you find one false, say at which input.
  Laid BY PROGRAM, IN A SANDBOX (cutbox-rows.mjs): the forced cells as the released guide's own fill.sh prints them over the translation 7cc984248a2c74cb… (all of the seat's roots in one cut). By AI agents, Wed Nov 11 2026. No macro, syntax, notation, axiom, sorry.
-/
import Derived.Test.YtdieefjolkhmpaaChecked
import GoSem.Claim
import GoSem.ClaimJoined
import GoSem.ClaimMapViews
import Derived.JoinedTies
import Derived.KernelRfl
namespace Go.Proofs.Ytdieefjolkhmpaa
/- THE CELL 'sum', in the pinned program and in every row, IS THE sha256 OF THE DUMP (.gsa) THAT YtdieefjolkhmpaaProg.lean LOADS. Nothing in Lean hashes anything: it is a label: what it is worth is what the hold of that sum in a sandbox is worth. -/
noncomputable def Try.pinned : Pinned := { name := "ytdieefjolkhmpaa", sum := "7cc984248a2c74cb457b925b8cec013f5da037bab03c0fac04c0a7bfc9173c8c", checked := Try.checked }
namespace Rows
def none {H : Type} : Left H := { results := [], args := [] }

/-- 'pestlelaw54.ReportReplies': WHATEVER THE INPUT: true; the input reads as it did. -/
def reportRepliesSpec : ChangeSpec := { name := "reportReplies", fn := fun _ => fun
  | [d1, d2, d3, d4] => { results := [.lit (.bool true)], args := [d1, d2, d3, d4] }
  | _ => none }
def reportRepliesRow : OpenClaim := { program := "ytdieefjolkhmpaa", sum := "7cc984248a2c74cb457b925b8cec013f5da037bab03c0fac04c0a7bfc9173c8c", func := "pestle/pestlelaw54.ReportReplies", spec := "reportReplies", recurses := true, apart := false }
def ReportRepliesSaid : Prop := reportRepliesRow.holds Try.pinned (OpenSpec.ofChange reportRepliesSpec)

/-- ITS FALSE NEIGHBOUR: 'it returns false'. Refute it at one input. -/
def reportRepliesWrong : ChangeSpec := { name := "reportReplies", fn := fun _ => fun
  | [d1, d2, d3, d4] => { results := [.lit (.bool false)], args := [d1, d2, d3, d4] }
  | _ => none }
def ReportRepliesWrongFalsely : Prop := reportRepliesRow.holds Try.pinned (OpenSpec.ofChange reportRepliesWrong)

/-- 'pestlelaw46.PolicyTells': WHATEVER THE INPUT: true; the input reads as it did. -/
def policyTellsSpec : ChangeSpec := { name := "policyTells", fn := fun _ => fun
  | [d1, d2] => { results := [.lit (.bool true)], args := [d1, d2] }
  | _ => none }
def policyTellsRow : OpenClaim := { program := "ytdieefjolkhmpaa", sum := "7cc984248a2c74cb457b925b8cec013f5da037bab03c0fac04c0a7bfc9173c8c", func := "pestle/pestlelaw46.PolicyTells", spec := "policyTells", apart := false }
def PolicyTellsSaid : Prop := policyTellsRow.holds Try.pinned (OpenSpec.ofChange policyTellsSpec)

/-- ITS FALSE NEIGHBOUR: 'it returns false'. Refute it at one input. -/
def policyTellsWrong : ChangeSpec := { name := "policyTells", fn := fun _ => fun
  | [d1, d2] => { results := [.lit (.bool false)], args := [d1, d2] }
  | _ => none }
def PolicyTellsWrongFalsely : Prop := policyTellsRow.holds Try.pinned (OpenSpec.ofChange policyTellsWrong)

/-- 'pestlelaw46.PolicyOwn': WHATEVER THE INPUT: true; the input reads as it did. -/
def policyOwnSpec : ChangeSpec := { name := "policyOwn", fn := fun _ => fun
  | [d1, d2, d3] => { results := [.lit (.bool true)], args := [d1, d2, d3] }
  | _ => none }
def policyOwnRow : OpenClaim := { program := "ytdieefjolkhmpaa", sum := "7cc984248a2c74cb457b925b8cec013f5da037bab03c0fac04c0a7bfc9173c8c", func := "pestle/pestlelaw46.PolicyOwn", spec := "policyOwn", apart := false }
def PolicyOwnSaid : Prop := policyOwnRow.holds Try.pinned (OpenSpec.ofChange policyOwnSpec)

/-- ITS FALSE NEIGHBOUR: 'it returns false'. Refute it at one input. -/
def policyOwnWrong : ChangeSpec := { name := "policyOwn", fn := fun _ => fun
  | [d1, d2, d3] => { results := [.lit (.bool false)], args := [d1, d2, d3] }
  | _ => none }
def PolicyOwnWrongFalsely : Prop := policyOwnRow.holds Try.pinned (OpenSpec.ofChange policyOwnWrong)

/-- 'pestlelaw46.PolicyRanks': WHATEVER THE INPUT: true; the input reads as it did. -/
def policyRanksSpec : ChangeSpec := { name := "policyRanks", fn := fun _ => fun
  | [d] => { results := [.lit (.bool true)], args := [d] }
  | _ => none }
def policyRanksRow : OpenClaim := { program := "ytdieefjolkhmpaa", sum := "7cc984248a2c74cb457b925b8cec013f5da037bab03c0fac04c0a7bfc9173c8c", func := "pestle/pestlelaw46.PolicyRanks", spec := "policyRanks", apart := false }
def PolicyRanksSaid : Prop := policyRanksRow.holds Try.pinned (OpenSpec.ofChange policyRanksSpec)

/-- ITS FALSE NEIGHBOUR: 'it returns false'. Refute it at one input. -/
def policyRanksWrong : ChangeSpec := { name := "policyRanks", fn := fun _ => fun
  | [d] => { results := [.lit (.bool false)], args := [d] }
  | _ => none }
def PolicyRanksWrongFalsely : Prop := policyRanksRow.holds Try.pinned (OpenSpec.ofChange policyRanksWrong)

/-- 'pestlelaw54.ReportPairs': WHATEVER THE INPUT: true; the input reads as it did. -/
def reportPairsSpec : ChangeSpec := { name := "reportPairs", fn := fun _ => fun
  | [d1, d2] => { results := [.lit (.bool true)], args := [d1, d2] }
  | _ => none }
def reportPairsRow : OpenClaim := { program := "ytdieefjolkhmpaa", sum := "7cc984248a2c74cb457b925b8cec013f5da037bab03c0fac04c0a7bfc9173c8c", func := "pestle/pestlelaw54.ReportPairs", spec := "reportPairs", recurses := true, apart := false }
def ReportPairsSaid : Prop := reportPairsRow.holds Try.pinned (OpenSpec.ofChange reportPairsSpec)

/-- ITS FALSE NEIGHBOUR: 'it returns false'. Refute it at one input. -/
def reportPairsWrong : ChangeSpec := { name := "reportPairs", fn := fun _ => fun
  | [d1, d2] => { results := [.lit (.bool false)], args := [d1, d2] }
  | _ => none }
def ReportPairsWrongFalsely : Prop := reportPairsRow.holds Try.pinned (OpenSpec.ofChange reportPairsWrong)

/-- 'pestlelaw43.ModularBack': WHATEVER THE INPUT: true; the input reads as it did. -/
def modularBackSpec : ChangeSpec := { name := "modularBack", fn := fun _ => fun
  | [d1, d2] => { results := [.lit (.bool true)], args := [d1, d2] }
  | _ => none }
def modularBackRow : OpenClaim := { program := "ytdieefjolkhmpaa", sum := "7cc984248a2c74cb457b925b8cec013f5da037bab03c0fac04c0a7bfc9173c8c", func := "pestle/pestlelaw43.ModularBack", spec := "modularBack", recurses := true, apart := false }
def ModularBackSaid : Prop := modularBackRow.holds Try.pinned (OpenSpec.ofChange modularBackSpec)

/-- ITS FALSE NEIGHBOUR: 'it returns false'. Refute it at one input. -/
def modularBackWrong : ChangeSpec := { name := "modularBack", fn := fun _ => fun
  | [d1, d2] => { results := [.lit (.bool false)], args := [d1, d2] }
  | _ => none }
def ModularBackWrongFalsely : Prop := modularBackRow.holds Try.pinned (OpenSpec.ofChange modularBackWrong)

/-- 'pestlelaw53.LineReads': WHATEVER THE INPUT: true; the input reads as it did. -/
def lineReadsSpec : ChangeSpec := { name := "lineReads", fn := fun _ => fun
  | [d1, d2] => { results := [.lit (.bool true)], args := [d1, d2] }
  | _ => none }
def lineReadsRow : OpenClaim := { program := "ytdieefjolkhmpaa", sum := "7cc984248a2c74cb457b925b8cec013f5da037bab03c0fac04c0a7bfc9173c8c", func := "pestle/pestlelaw53.LineReads", spec := "lineReads", apart := false }
def LineReadsSaid : Prop := lineReadsRow.holds Try.pinned (OpenSpec.ofChange lineReadsSpec)

/-- ITS FALSE NEIGHBOUR: 'it returns false'. Refute it at one input. -/
def lineReadsWrong : ChangeSpec := { name := "lineReads", fn := fun _ => fun
  | [d1, d2] => { results := [.lit (.bool false)], args := [d1, d2] }
  | _ => none }
def LineReadsWrongFalsely : Prop := lineReadsRow.holds Try.pinned (OpenSpec.ofChange lineReadsWrong)

/-- 'pestlelaw53.LineWrites': WHATEVER THE INPUT: true; the input reads as it did. -/
def lineWritesSpec : ChangeSpec := { name := "lineWrites", fn := fun _ => fun
  | [d1, d2] => { results := [.lit (.bool true)], args := [d1, d2] }
  | _ => none }
def lineWritesRow : OpenClaim := { program := "ytdieefjolkhmpaa", sum := "7cc984248a2c74cb457b925b8cec013f5da037bab03c0fac04c0a7bfc9173c8c", func := "pestle/pestlelaw53.LineWrites", spec := "lineWrites", apart := false }
def LineWritesSaid : Prop := lineWritesRow.holds Try.pinned (OpenSpec.ofChange lineWritesSpec)

/-- ITS FALSE NEIGHBOUR: 'it returns false'. Refute it at one input. -/
def lineWritesWrong : ChangeSpec := { name := "lineWrites", fn := fun _ => fun
  | [d1, d2] => { results := [.lit (.bool false)], args := [d1, d2] }
  | _ => none }
def LineWritesWrongFalsely : Prop := lineWritesRow.holds Try.pinned (OpenSpec.ofChange lineWritesWrong)

/- THE SECOND FORM. 'bulk': how many values and letters a reading holds, each counted each time it is reached (what is shared counts as often as it is met; a slice's spare places count too). A statement '..UptoSaid' is the law's where the arguments, and the package variables that the reading takes, are together of bulk at most 1048576: NARROWER than '..Said'. Prove '..Said' where nothing that the law and all that it calls make is longer than what came in: it says more and counts as full. Else prove '..UptoSaid'. A law counts once. -/
mutual
def uptoBulk {H : Type} : DataW H → Nat
  | .lit (.string bytes) => bytes.length + 1
  | .lit _ => 1
  | .nil => 1
  | .ptr d => uptoBulk d + 1
  | .slice elems spare => uptoBulkAll elems + uptoBulkAll spare + 1
  | .agg parts => uptoBulkAll parts + 1
  | .iface _ d => uptoBulk d + 1
  | .map entries => uptoBulkEntries entries + 1
  | .held _ => 1
def uptoBulkAll {H : Type} : List (DataW H) → Nat
  | [] => 0
  | d :: r => uptoBulk d + uptoBulkAll r
def uptoBulkEntries {H : Type} : List (Lit × DataW H) → Nat
  | [] => 0
  | x :: r => uptoBulkEntry x + uptoBulkEntries r
def uptoBulkEntry {H : Type} : Lit × DataW H → Nat
  | (.string bytes, d) => bytes.length + uptoBulk d + 1
  | (_, d) => uptoBulk d + 1
 end
def uptoSmall : (H : Type) → List (DataW H) → Bool := fun _ ds => decide (uptoBulkAll ds ≤ 1048576)
def OpenSpec.upto (s : _root_.Go.ChangeSpec) : _root_.Go.OpenSpec := { _root_.Go.OpenSpec.ofChange s with cond := some uptoSmall }

/-- 'pestlelaw54.ReportReplies', WHERE WHAT IT READS IS OF BULK AT MOST 1048576: true; the input reads as it did. -/
def reportRepliesUptoRow : OpenClaim := { program := "ytdieefjolkhmpaa", sum := "7cc984248a2c74cb457b925b8cec013f5da037bab03c0fac04c0a7bfc9173c8c", func := "pestle/pestlelaw54.ReportReplies", spec := "reportReplies", recurses := true, apart := false, narrowed := true }
def ReportRepliesUptoSaid : Prop := reportRepliesUptoRow.holds Try.pinned (OpenSpec.upto reportRepliesSpec)

/-- 'pestlelaw46.PolicyTells', WHERE WHAT IT READS IS OF BULK AT MOST 1048576: true; the input reads as it did. -/
def policyTellsUptoRow : OpenClaim := { program := "ytdieefjolkhmpaa", sum := "7cc984248a2c74cb457b925b8cec013f5da037bab03c0fac04c0a7bfc9173c8c", func := "pestle/pestlelaw46.PolicyTells", spec := "policyTells", apart := false, narrowed := true }
def PolicyTellsUptoSaid : Prop := policyTellsUptoRow.holds Try.pinned (OpenSpec.upto policyTellsSpec)

/-- 'pestlelaw46.PolicyOwn', WHERE WHAT IT READS IS OF BULK AT MOST 1048576: true; the input reads as it did. -/
def policyOwnUptoRow : OpenClaim := { program := "ytdieefjolkhmpaa", sum := "7cc984248a2c74cb457b925b8cec013f5da037bab03c0fac04c0a7bfc9173c8c", func := "pestle/pestlelaw46.PolicyOwn", spec := "policyOwn", apart := false, narrowed := true }
def PolicyOwnUptoSaid : Prop := policyOwnUptoRow.holds Try.pinned (OpenSpec.upto policyOwnSpec)

/-- 'pestlelaw46.PolicyRanks', WHERE WHAT IT READS IS OF BULK AT MOST 1048576: true; the input reads as it did. -/
def policyRanksUptoRow : OpenClaim := { program := "ytdieefjolkhmpaa", sum := "7cc984248a2c74cb457b925b8cec013f5da037bab03c0fac04c0a7bfc9173c8c", func := "pestle/pestlelaw46.PolicyRanks", spec := "policyRanks", apart := false, narrowed := true }
def PolicyRanksUptoSaid : Prop := policyRanksUptoRow.holds Try.pinned (OpenSpec.upto policyRanksSpec)

/-- 'pestlelaw54.ReportPairs', WHERE WHAT IT READS IS OF BULK AT MOST 1048576: true; the input reads as it did. -/
def reportPairsUptoRow : OpenClaim := { program := "ytdieefjolkhmpaa", sum := "7cc984248a2c74cb457b925b8cec013f5da037bab03c0fac04c0a7bfc9173c8c", func := "pestle/pestlelaw54.ReportPairs", spec := "reportPairs", recurses := true, apart := false, narrowed := true }
def ReportPairsUptoSaid : Prop := reportPairsUptoRow.holds Try.pinned (OpenSpec.upto reportPairsSpec)

/-- 'pestlelaw43.ModularBack', WHERE WHAT IT READS IS OF BULK AT MOST 1048576: true; the input reads as it did. -/
def modularBackUptoRow : OpenClaim := { program := "ytdieefjolkhmpaa", sum := "7cc984248a2c74cb457b925b8cec013f5da037bab03c0fac04c0a7bfc9173c8c", func := "pestle/pestlelaw43.ModularBack", spec := "modularBack", recurses := true, apart := false, narrowed := true }
def ModularBackUptoSaid : Prop := modularBackUptoRow.holds Try.pinned (OpenSpec.upto modularBackSpec)

/-- 'pestlelaw53.LineReads', WHERE WHAT IT READS IS OF BULK AT MOST 1048576: true; the input reads as it did. -/
def lineReadsUptoRow : OpenClaim := { program := "ytdieefjolkhmpaa", sum := "7cc984248a2c74cb457b925b8cec013f5da037bab03c0fac04c0a7bfc9173c8c", func := "pestle/pestlelaw53.LineReads", spec := "lineReads", apart := false, narrowed := true }
def LineReadsUptoSaid : Prop := lineReadsUptoRow.holds Try.pinned (OpenSpec.upto lineReadsSpec)

/-- 'pestlelaw53.LineWrites', WHERE WHAT IT READS IS OF BULK AT MOST 1048576: true; the input reads as it did. -/
def lineWritesUptoRow : OpenClaim := { program := "ytdieefjolkhmpaa", sum := "7cc984248a2c74cb457b925b8cec013f5da037bab03c0fac04c0a7bfc9173c8c", func := "pestle/pestlelaw53.LineWrites", spec := "lineWrites", apart := false, narrowed := true }
def LineWritesUptoSaid : Prop := lineWritesUptoRow.holds Try.pinned (OpenSpec.upto lineWritesSpec)

end Rows
end Go.Proofs.Ytdieefjolkhmpaa
