/-
  No cell of these rows narrows 'for every input' (looked for: loops, veiled, ifaces, maps, wideKeys, modest, calm, conditions, laid).
  DERIVED. THE GIVEN ROWS OF THIS SEAT. 4 by the template 'for every input the law returns true; each argument reads behind the call as it read before'; 0 by the template 'total and deterministic' (their statements: YtpdfhbgemmpleaaTotals.lean).
  GIVEN WITH THE SEED: the statements are not yours to turn. If you find one false, say at which input.
  Laid BY PROGRAM, IN A SANDBOX (cutbox-rows.mjs): the forced cells as the released guide's own fill.sh prints them over the translation 3c520f169c9550f2… (all of the seat's roots in one cut). By AI agents, Wed Nov 11 2026. No macro, syntax, notation, axiom, sorry.
-/
import Derived.Test.YtpdfhbgemmpleaaChecked
import GoSem.Claim
import GoSem.ClaimJoined
import GoSem.ClaimMapViews
import Derived.JoinedTies
import Derived.KernelRfl
namespace Go.Proofs.Ytpdfhbgemmpleaa
/- THE CELL 'sum', in the pinned program and in every row, IS THE sha256 OF THE DUMP (.gsa) THAT YtpdfhbgemmpleaaProg.lean LOADS. Nothing in Lean hashes anything: it is a label: what it is worth is what the hold of that sum in a sandbox is worth. -/
noncomputable def Try.pinned : Pinned := { name := "ytpdfhbgemmpleaa", sum := "3c520f169c9550f203791cd7d9ac200fd6c00c389f87e7e6780705613364bdd8", checked := Try.checked }
namespace Rows
def none {H : Type} : Left H := { results := [], args := [] }

/-- 'billhooklaw22.WaitsMore': WHATEVER THE INPUT: true; the input reads as it did. -/
def waitsMoreSpec : ChangeSpec := { name := "waitsMore", fn := fun _ => fun
  | [d1, d2, d3] => { results := [.lit (.bool true)], args := [d1, d2, d3] }
  | _ => none }
def waitsMoreRow : OpenClaim := { program := "ytpdfhbgemmpleaa", sum := "3c520f169c9550f203791cd7d9ac200fd6c00c389f87e7e6780705613364bdd8", func := "billhook/billhooklaw22.WaitsMore", spec := "waitsMore", unfollowed := true, recurses := true, apart := false }
def WaitsMoreSaid : Prop := waitsMoreRow.holds Try.pinned (OpenSpec.ofChange waitsMoreSpec)

/-- ITS FALSE NEIGHBOUR: 'it returns false'. Refute it at one input. -/
def waitsMoreWrong : ChangeSpec := { name := "waitsMore", fn := fun _ => fun
  | [d1, d2, d3] => { results := [.lit (.bool false)], args := [d1, d2, d3] }
  | _ => none }
def WaitsMoreWrongFalsely : Prop := waitsMoreRow.holds Try.pinned (OpenSpec.ofChange waitsMoreWrong)

/-- 'billhooklaw22.WaitsRounds': WHATEVER THE INPUT: true; the input reads as it did. -/
def waitsRoundsSpec : ChangeSpec := { name := "waitsRounds", fn := fun _ => fun
  | [d1, d2, d3] => { results := [.lit (.bool true)], args := [d1, d2, d3] }
  | _ => none }
def waitsRoundsRow : OpenClaim := { program := "ytpdfhbgemmpleaa", sum := "3c520f169c9550f203791cd7d9ac200fd6c00c389f87e7e6780705613364bdd8", func := "billhook/billhooklaw22.WaitsRounds", spec := "waitsRounds", unfollowed := true, recurses := true, apart := false }
def WaitsRoundsSaid : Prop := waitsRoundsRow.holds Try.pinned (OpenSpec.ofChange waitsRoundsSpec)

/-- ITS FALSE NEIGHBOUR: 'it returns false'. Refute it at one input. -/
def waitsRoundsWrong : ChangeSpec := { name := "waitsRounds", fn := fun _ => fun
  | [d1, d2, d3] => { results := [.lit (.bool false)], args := [d1, d2, d3] }
  | _ => none }
def WaitsRoundsWrongFalsely : Prop := waitsRoundsRow.holds Try.pinned (OpenSpec.ofChange waitsRoundsWrong)

/-- 'billhooklaw22.WaitsEnds': WHATEVER THE INPUT: true; the input reads as it did. -/
def waitsEndsSpec : ChangeSpec := { name := "waitsEnds", fn := fun _ => fun
  | [d1, d2] => { results := [.lit (.bool true)], args := [d1, d2] }
  | _ => none }
def waitsEndsRow : OpenClaim := { program := "ytpdfhbgemmpleaa", sum := "3c520f169c9550f203791cd7d9ac200fd6c00c389f87e7e6780705613364bdd8", func := "billhook/billhooklaw22.WaitsEnds", spec := "waitsEnds", unfollowed := true, recurses := true, apart := false }
def WaitsEndsSaid : Prop := waitsEndsRow.holds Try.pinned (OpenSpec.ofChange waitsEndsSpec)

/-- ITS FALSE NEIGHBOUR: 'it returns false'. Refute it at one input. -/
def waitsEndsWrong : ChangeSpec := { name := "waitsEnds", fn := fun _ => fun
  | [d1, d2] => { results := [.lit (.bool false)], args := [d1, d2] }
  | _ => none }
def WaitsEndsWrongFalsely : Prop := waitsEndsRow.holds Try.pinned (OpenSpec.ofChange waitsEndsWrong)

/-- 'billhooklaw22.WaitsChains': WHATEVER THE INPUT: true; the input reads as it did. -/
def waitsChainsSpec : ChangeSpec := { name := "waitsChains", fn := fun _ => fun
  | [d1, d2] => { results := [.lit (.bool true)], args := [d1, d2] }
  | _ => none }
def waitsChainsRow : OpenClaim := { program := "ytpdfhbgemmpleaa", sum := "3c520f169c9550f203791cd7d9ac200fd6c00c389f87e7e6780705613364bdd8", func := "billhook/billhooklaw22.WaitsChains", spec := "waitsChains", unfollowed := true, recurses := true, apart := false }
def WaitsChainsSaid : Prop := waitsChainsRow.holds Try.pinned (OpenSpec.ofChange waitsChainsSpec)

/-- ITS FALSE NEIGHBOUR: 'it returns false'. Refute it at one input. -/
def waitsChainsWrong : ChangeSpec := { name := "waitsChains", fn := fun _ => fun
  | [d1, d2] => { results := [.lit (.bool false)], args := [d1, d2] }
  | _ => none }
def WaitsChainsWrongFalsely : Prop := waitsChainsRow.holds Try.pinned (OpenSpec.ofChange waitsChainsWrong)

/- THE SECOND FORM. 'bulk': how many values and letters a reading holds, each counted each time it is reached (what is shared counts as often as it is met; a slice's spare places count too). A statement '..UptoSaid' is the law's where the arguments, and the package variables that the reading takes, are together of bulk at most 1048576: NARROWER than '..Said'. Prove '..Said' where nothing that the law and all that it calls make is longer than what came in: it says more and counts as full. Else prove '..UptoSaid'. A law counts once. -/
mutual
def uptoBulk {H : Type} : DataW H → Nat
  | .lit (.string bytes) => bytes.length + 1
  | .lit _ => 1
  | .nil => 1
  | .ptr d => uptoBulk d + 1
  | .slice elems spare => uptoBulkAll elems + uptoBulkAll spare + 1
  | .agg parts => uptoBulkAll parts + 1
  | .iface _ d => uptoBulk d + 1
  | .map entries => uptoBulkEntries entries + 1
  | .held _ => 1
def uptoBulkAll {H : Type} : List (DataW H) → Nat
  | [] => 0
  | d :: r => uptoBulk d + uptoBulkAll r
def uptoBulkEntries {H : Type} : List (Lit × DataW H) → Nat
  | [] => 0
  | x :: r => uptoBulkEntry x + uptoBulkEntries r
def uptoBulkEntry {H : Type} : Lit × DataW H → Nat
  | (.string bytes, d) => bytes.length + uptoBulk d + 1
  | (_, d) => uptoBulk d + 1
 end
def uptoSmall : (H : Type) → List (DataW H) → Bool := fun _ ds => decide (uptoBulkAll ds ≤ 1048576)
def OpenSpec.upto (s : _root_.Go.ChangeSpec) : _root_.Go.OpenSpec := { _root_.Go.OpenSpec.ofChange s with cond := some uptoSmall }

/-- 'billhooklaw22.WaitsMore', WHERE WHAT IT READS IS OF BULK AT MOST 1048576: true; the input reads as it did. -/
def waitsMoreUptoRow : OpenClaim := { program := "ytpdfhbgemmpleaa", sum := "3c520f169c9550f203791cd7d9ac200fd6c00c389f87e7e6780705613364bdd8", func := "billhook/billhooklaw22.WaitsMore", spec := "waitsMore", unfollowed := true, recurses := true, apart := false, narrowed := true }
def WaitsMoreUptoSaid : Prop := waitsMoreUptoRow.holds Try.pinned (OpenSpec.upto waitsMoreSpec)

/-- 'billhooklaw22.WaitsRounds', WHERE WHAT IT READS IS OF BULK AT MOST 1048576: true; the input reads as it did. -/
def waitsRoundsUptoRow : OpenClaim := { program := "ytpdfhbgemmpleaa", sum := "3c520f169c9550f203791cd7d9ac200fd6c00c389f87e7e6780705613364bdd8", func := "billhook/billhooklaw22.WaitsRounds", spec := "waitsRounds", unfollowed := true, recurses := true, apart := false, narrowed := true }
def WaitsRoundsUptoSaid : Prop := waitsRoundsUptoRow.holds Try.pinned (OpenSpec.upto waitsRoundsSpec)

/-- 'billhooklaw22.WaitsEnds', WHERE WHAT IT READS IS OF BULK AT MOST 1048576: true; the input reads as it did. -/
def waitsEndsUptoRow : OpenClaim := { program := "ytpdfhbgemmpleaa", sum := "3c520f169c9550f203791cd7d9ac200fd6c00c389f87e7e6780705613364bdd8", func := "billhook/billhooklaw22.WaitsEnds", spec := "waitsEnds", unfollowed := true, recurses := true, apart := false, narrowed := true }
def WaitsEndsUptoSaid : Prop := waitsEndsUptoRow.holds Try.pinned (OpenSpec.upto waitsEndsSpec)

/-- 'billhooklaw22.WaitsChains', WHERE WHAT IT READS IS OF BULK AT MOST 1048576: true; the input reads as it did. -/
def waitsChainsUptoRow : OpenClaim := { program := "ytpdfhbgemmpleaa", sum := "3c520f169c9550f203791cd7d9ac200fd6c00c389f87e7e6780705613364bdd8", func := "billhook/billhooklaw22.WaitsChains", spec := "waitsChains", unfollowed := true, recurses := true, apart := false, narrowed := true }
def WaitsChainsUptoSaid : Prop := waitsChainsUptoRow.holds Try.pinned (OpenSpec.upto waitsChainsSpec)

end Rows
end Go.Proofs.Ytpdfhbgemmpleaa
