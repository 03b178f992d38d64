/-
  No cell of these rows narrows 'for every input' (looked for: loops, veiled, ifaces, maps, wideKeys, modest, calm, conditions, laid).
  DERIVED. THE GIVEN ROWS OF THIS SEAT. 9 by the template 'for every input the law returns true; each argument reads behind the call as it read before'; 0 by the template 'total and deterministic' (their statements: YtmejkfhjkafmlaaTotals.lean).
  GIVEN WITH THE SEED: the statements are not yours to turn. If you find one false, say at which input.
  Laid BY PROGRAM, IN A SANDBOX (cutbox-rows.mjs): the forced cells as the released guide's own fill.sh prints them over the translation e58324c58c9ee74d… (all of the seat's roots in one cut). By AI agents, Wed Nov 11 2026. No macro, syntax, notation, axiom, sorry.
-/
import Derived.Test.YtmejkfhjkafmlaaChecked
import GoSem.Claim
import GoSem.ClaimJoined
import GoSem.ClaimMapViews
import Derived.JoinedTies
import Derived.KernelRfl
namespace Go.Proofs.Ytmejkfhjkafmlaa
/- THE CELL 'sum', in the pinned program and in every row, IS THE sha256 OF THE DUMP (.gsa) THAT YtmejkfhjkafmlaaProg.lean LOADS. Nothing in Lean hashes anything: it is a label: what it is worth is what the hold of that sum in a sandbox is worth. -/
noncomputable def Try.pinned : Pinned := { name := "ytmejkfhjkafmlaa", sum := "e58324c58c9ee74d8f172970cc9d3fdfee83441d615a5404b9c27744244cb0e3", checked := Try.checked }
namespace Rows
def none {H : Type} : Left H := { results := [], args := [] }

/-- 'billhooklaw20.ModeOrder': WHATEVER THE INPUT: true; the input reads as it did. -/
def modeOrderSpec : ChangeSpec := { name := "modeOrder", fn := fun _ => fun
  | [d1, d2, d3] => { results := [.lit (.bool true)], args := [d1, d2, d3] }
  | _ => none }
def modeOrderRow : OpenClaim := { program := "ytmejkfhjkafmlaa", sum := "e58324c58c9ee74d8f172970cc9d3fdfee83441d615a5404b9c27744244cb0e3", func := "billhook/billhooklaw20.ModeOrder", spec := "modeOrder", apart := false }
def ModeOrderSaid : Prop := modeOrderRow.holds Try.pinned (OpenSpec.ofChange modeOrderSpec)

/-- ITS FALSE NEIGHBOUR: 'it returns false'. Refute it at one input. -/
def modeOrderWrong : ChangeSpec := { name := "modeOrder", fn := fun _ => fun
  | [d1, d2, d3] => { results := [.lit (.bool false)], args := [d1, d2, d3] }
  | _ => none }
def ModeOrderWrongFalsely : Prop := modeOrderRow.holds Try.pinned (OpenSpec.ofChange modeOrderWrong)

/-- 'billhooklaw20.ModeParents': WHATEVER THE INPUT: true; the input reads as it did. -/
def modeParentsSpec : ChangeSpec := { name := "modeParents", fn := fun _ => fun
  | [d1, d2] => { results := [.lit (.bool true)], args := [d1, d2] }
  | _ => none }
def modeParentsRow : OpenClaim := { program := "ytmejkfhjkafmlaa", sum := "e58324c58c9ee74d8f172970cc9d3fdfee83441d615a5404b9c27744244cb0e3", func := "billhook/billhooklaw20.ModeParents", spec := "modeParents", apart := false }
def ModeParentsSaid : Prop := modeParentsRow.holds Try.pinned (OpenSpec.ofChange modeParentsSpec)

/-- ITS FALSE NEIGHBOUR: 'it returns false'. Refute it at one input. -/
def modeParentsWrong : ChangeSpec := { name := "modeParents", fn := fun _ => fun
  | [d1, d2] => { results := [.lit (.bool false)], args := [d1, d2] }
  | _ => none }
def ModeParentsWrongFalsely : Prop := modeParentsRow.holds Try.pinned (OpenSpec.ofChange modeParentsWrong)

/-- 'billhooklaw01.OctetsSums': WHATEVER THE INPUT: true; the input reads as it did. -/
def octetsSumsSpec : ChangeSpec := { name := "octetsSums", fn := fun _ => fun
  | [d1, d2, d3] => { results := [.lit (.bool true)], args := [d1, d2, d3] }
  | _ => none }
def octetsSumsRow : OpenClaim := { program := "ytmejkfhjkafmlaa", sum := "e58324c58c9ee74d8f172970cc9d3fdfee83441d615a5404b9c27744244cb0e3", func := "billhook/billhooklaw01.OctetsSums", spec := "octetsSums", apart := false }
def OctetsSumsSaid : Prop := octetsSumsRow.holds Try.pinned (OpenSpec.ofChange octetsSumsSpec)

/-- ITS FALSE NEIGHBOUR: 'it returns false'. Refute it at one input. -/
def octetsSumsWrong : ChangeSpec := { name := "octetsSums", fn := fun _ => fun
  | [d1, d2, d3] => { results := [.lit (.bool false)], args := [d1, d2, d3] }
  | _ => none }
def OctetsSumsWrongFalsely : Prop := octetsSumsRow.holds Try.pinned (OpenSpec.ofChange octetsSumsWrong)

/-- 'billhooklaw01.OctetsPuts': WHATEVER THE INPUT: true; the input reads as it did. -/
def octetsPutsSpec : ChangeSpec := { name := "octetsPuts", fn := fun _ => fun
  | [d1, d2, d3] => { results := [.lit (.bool true)], args := [d1, d2, d3] }
  | _ => none }
def octetsPutsRow : OpenClaim := { program := "ytmejkfhjkafmlaa", sum := "e58324c58c9ee74d8f172970cc9d3fdfee83441d615a5404b9c27744244cb0e3", func := "billhook/billhooklaw01.OctetsPuts", spec := "octetsPuts", recurses := true, apart := false }
def OctetsPutsSaid : Prop := octetsPutsRow.holds Try.pinned (OpenSpec.ofChange octetsPutsSpec)

/-- ITS FALSE NEIGHBOUR: 'it returns false'. Refute it at one input. -/
def octetsPutsWrong : ChangeSpec := { name := "octetsPuts", fn := fun _ => fun
  | [d1, d2, d3] => { results := [.lit (.bool false)], args := [d1, d2, d3] }
  | _ => none }
def OctetsPutsWrongFalsely : Prop := octetsPutsRow.holds Try.pinned (OpenSpec.ofChange octetsPutsWrong)

/-- 'billhooklaw20.ModeNames': WHATEVER THE INPUT: true; the input reads as it did. -/
def modeNamesSpec : ChangeSpec := { name := "modeNames", fn := fun _ => fun
  | [d1, d2] => { results := [.lit (.bool true)], args := [d1, d2] }
  | _ => none }
def modeNamesRow : OpenClaim := { program := "ytmejkfhjkafmlaa", sum := "e58324c58c9ee74d8f172970cc9d3fdfee83441d615a5404b9c27744244cb0e3", func := "billhook/billhooklaw20.ModeNames", spec := "modeNames", apart := false }
def ModeNamesSaid : Prop := modeNamesRow.holds Try.pinned (OpenSpec.ofChange modeNamesSpec)

/-- ITS FALSE NEIGHBOUR: 'it returns false'. Refute it at one input. -/
def modeNamesWrong : ChangeSpec := { name := "modeNames", fn := fun _ => fun
  | [d1, d2] => { results := [.lit (.bool false)], args := [d1, d2] }
  | _ => none }
def ModeNamesWrongFalsely : Prop := modeNamesRow.holds Try.pinned (OpenSpec.ofChange modeNamesWrong)

/-- 'billhooklaw01.OctetsWords': WHATEVER THE INPUT: true; the input reads as it did. -/
def octetsWordsSpec : ChangeSpec := { name := "octetsWords", fn := fun _ => fun
  | [d1, d2] => { results := [.lit (.bool true)], args := [d1, d2] }
  | _ => none }
def octetsWordsRow : OpenClaim := { program := "ytmejkfhjkafmlaa", sum := "e58324c58c9ee74d8f172970cc9d3fdfee83441d615a5404b9c27744244cb0e3", func := "billhook/billhooklaw01.OctetsWords", spec := "octetsWords", apart := false }
def OctetsWordsSaid : Prop := octetsWordsRow.holds Try.pinned (OpenSpec.ofChange octetsWordsSpec)

/-- ITS FALSE NEIGHBOUR: 'it returns false'. Refute it at one input. -/
def octetsWordsWrong : ChangeSpec := { name := "octetsWords", fn := fun _ => fun
  | [d1, d2] => { results := [.lit (.bool false)], args := [d1, d2] }
  | _ => none }
def OctetsWordsWrongFalsely : Prop := octetsWordsRow.holds Try.pinned (OpenSpec.ofChange octetsWordsWrong)

/-- 'billhooklaw01.OctetsFront': WHATEVER THE INPUT: true; the input reads as it did. -/
def octetsFrontSpec : ChangeSpec := { name := "octetsFront", fn := fun _ => fun
  | [d1, d2] => { results := [.lit (.bool true)], args := [d1, d2] }
  | _ => none }
def octetsFrontRow : OpenClaim := { program := "ytmejkfhjkafmlaa", sum := "e58324c58c9ee74d8f172970cc9d3fdfee83441d615a5404b9c27744244cb0e3", func := "billhook/billhooklaw01.OctetsFront", spec := "octetsFront", unfollowed := true, recurses := true, apart := false }
def OctetsFrontSaid : Prop := octetsFrontRow.holds Try.pinned (OpenSpec.ofChange octetsFrontSpec)

/-- ITS FALSE NEIGHBOUR: 'it returns false'. Refute it at one input. -/
def octetsFrontWrong : ChangeSpec := { name := "octetsFront", fn := fun _ => fun
  | [d1, d2] => { results := [.lit (.bool false)], args := [d1, d2] }
  | _ => none }
def OctetsFrontWrongFalsely : Prop := octetsFrontRow.holds Try.pinned (OpenSpec.ofChange octetsFrontWrong)

/-- 'billhooklaw01.OctetsGets': WHATEVER THE INPUT: true; the input reads as it did. -/
def octetsGetsSpec : ChangeSpec := { name := "octetsGets", fn := fun _ => fun
  | [d1, d2, d3] => { results := [.lit (.bool true)], args := [d1, d2, d3] }
  | _ => none }
def octetsGetsRow : OpenClaim := { program := "ytmejkfhjkafmlaa", sum := "e58324c58c9ee74d8f172970cc9d3fdfee83441d615a5404b9c27744244cb0e3", func := "billhook/billhooklaw01.OctetsGets", spec := "octetsGets", unfollowed := true, recurses := true, apart := false }
def OctetsGetsSaid : Prop := octetsGetsRow.holds Try.pinned (OpenSpec.ofChange octetsGetsSpec)

/-- ITS FALSE NEIGHBOUR: 'it returns false'. Refute it at one input. -/
def octetsGetsWrong : ChangeSpec := { name := "octetsGets", fn := fun _ => fun
  | [d1, d2, d3] => { results := [.lit (.bool false)], args := [d1, d2, d3] }
  | _ => none }
def OctetsGetsWrongFalsely : Prop := octetsGetsRow.holds Try.pinned (OpenSpec.ofChange octetsGetsWrong)

/-- 'billhooklaw01.OctetsBack': WHATEVER THE INPUT: true; the input reads as it did. -/
def octetsBackSpec : ChangeSpec := { name := "octetsBack", fn := fun _ => fun
  | [d1, d2, d3] => { results := [.lit (.bool true)], args := [d1, d2, d3] }
  | _ => none }
def octetsBackRow : OpenClaim := { program := "ytmejkfhjkafmlaa", sum := "e58324c58c9ee74d8f172970cc9d3fdfee83441d615a5404b9c27744244cb0e3", func := "billhook/billhooklaw01.OctetsBack", spec := "octetsBack", unfollowed := true, recurses := true, apart := false }
def OctetsBackSaid : Prop := octetsBackRow.holds Try.pinned (OpenSpec.ofChange octetsBackSpec)

/-- ITS FALSE NEIGHBOUR: 'it returns false'. Refute it at one input. -/
def octetsBackWrong : ChangeSpec := { name := "octetsBack", fn := fun _ => fun
  | [d1, d2, d3] => { results := [.lit (.bool false)], args := [d1, d2, d3] }
  | _ => none }
def OctetsBackWrongFalsely : Prop := octetsBackRow.holds Try.pinned (OpenSpec.ofChange octetsBackWrong)

/- THE SECOND FORM. 'bulk': how many values and letters a reading holds, each counted each time it is reached (what is shared counts as often as it is met; a slice's spare places count too). A statement '..UptoSaid' is the law's where the arguments, and the package variables that the reading takes, are together of bulk at most 1048576: NARROWER than '..Said'. Prove '..Said' where nothing that the law and all that it calls make is longer than what came in: it says more and counts as full. Else prove '..UptoSaid'. A law counts once. -/
mutual
def uptoBulk {H : Type} : DataW H → Nat
  | .lit (.string bytes) => bytes.length + 1
  | .lit _ => 1
  | .nil => 1
  | .ptr d => uptoBulk d + 1
  | .slice elems spare => uptoBulkAll elems + uptoBulkAll spare + 1
  | .agg parts => uptoBulkAll parts + 1
  | .iface _ d => uptoBulk d + 1
  | .map entries => uptoBulkEntries entries + 1
  | .held _ => 1
def uptoBulkAll {H : Type} : List (DataW H) → Nat
  | [] => 0
  | d :: r => uptoBulk d + uptoBulkAll r
def uptoBulkEntries {H : Type} : List (Lit × DataW H) → Nat
  | [] => 0
  | x :: r => uptoBulkEntry x + uptoBulkEntries r
def uptoBulkEntry {H : Type} : Lit × DataW H → Nat
  | (.string bytes, d) => bytes.length + uptoBulk d + 1
  | (_, d) => uptoBulk d + 1
 end
def uptoSmall : (H : Type) → List (DataW H) → Bool := fun _ ds => decide (uptoBulkAll ds ≤ 1048576)
def OpenSpec.upto (s : _root_.Go.ChangeSpec) : _root_.Go.OpenSpec := { _root_.Go.OpenSpec.ofChange s with cond := some uptoSmall }

/-- 'billhooklaw20.ModeOrder', WHERE WHAT IT READS IS OF BULK AT MOST 1048576: true; the input reads as it did. -/
def modeOrderUptoRow : OpenClaim := { program := "ytmejkfhjkafmlaa", sum := "e58324c58c9ee74d8f172970cc9d3fdfee83441d615a5404b9c27744244cb0e3", func := "billhook/billhooklaw20.ModeOrder", spec := "modeOrder", apart := false, narrowed := true }
def ModeOrderUptoSaid : Prop := modeOrderUptoRow.holds Try.pinned (OpenSpec.upto modeOrderSpec)

/-- 'billhooklaw20.ModeParents', WHERE WHAT IT READS IS OF BULK AT MOST 1048576: true; the input reads as it did. -/
def modeParentsUptoRow : OpenClaim := { program := "ytmejkfhjkafmlaa", sum := "e58324c58c9ee74d8f172970cc9d3fdfee83441d615a5404b9c27744244cb0e3", func := "billhook/billhooklaw20.ModeParents", spec := "modeParents", apart := false, narrowed := true }
def ModeParentsUptoSaid : Prop := modeParentsUptoRow.holds Try.pinned (OpenSpec.upto modeParentsSpec)

/-- 'billhooklaw01.OctetsSums', WHERE WHAT IT READS IS OF BULK AT MOST 1048576: true; the input reads as it did. -/
def octetsSumsUptoRow : OpenClaim := { program := "ytmejkfhjkafmlaa", sum := "e58324c58c9ee74d8f172970cc9d3fdfee83441d615a5404b9c27744244cb0e3", func := "billhook/billhooklaw01.OctetsSums", spec := "octetsSums", apart := false, narrowed := true }
def OctetsSumsUptoSaid : Prop := octetsSumsUptoRow.holds Try.pinned (OpenSpec.upto octetsSumsSpec)

/-- 'billhooklaw01.OctetsPuts', WHERE WHAT IT READS IS OF BULK AT MOST 1048576: true; the input reads as it did. -/
def octetsPutsUptoRow : OpenClaim := { program := "ytmejkfhjkafmlaa", sum := "e58324c58c9ee74d8f172970cc9d3fdfee83441d615a5404b9c27744244cb0e3", func := "billhook/billhooklaw01.OctetsPuts", spec := "octetsPuts", recurses := true, apart := false, narrowed := true }
def OctetsPutsUptoSaid : Prop := octetsPutsUptoRow.holds Try.pinned (OpenSpec.upto octetsPutsSpec)

/-- 'billhooklaw20.ModeNames', WHERE WHAT IT READS IS OF BULK AT MOST 1048576: true; the input reads as it did. -/
def modeNamesUptoRow : OpenClaim := { program := "ytmejkfhjkafmlaa", sum := "e58324c58c9ee74d8f172970cc9d3fdfee83441d615a5404b9c27744244cb0e3", func := "billhook/billhooklaw20.ModeNames", spec := "modeNames", apart := false, narrowed := true }
def ModeNamesUptoSaid : Prop := modeNamesUptoRow.holds Try.pinned (OpenSpec.upto modeNamesSpec)

/-- 'billhooklaw01.OctetsWords', WHERE WHAT IT READS IS OF BULK AT MOST 1048576: true; the input reads as it did. -/
def octetsWordsUptoRow : OpenClaim := { program := "ytmejkfhjkafmlaa", sum := "e58324c58c9ee74d8f172970cc9d3fdfee83441d615a5404b9c27744244cb0e3", func := "billhook/billhooklaw01.OctetsWords", spec := "octetsWords", apart := false, narrowed := true }
def OctetsWordsUptoSaid : Prop := octetsWordsUptoRow.holds Try.pinned (OpenSpec.upto octetsWordsSpec)

/-- 'billhooklaw01.OctetsFront', WHERE WHAT IT READS IS OF BULK AT MOST 1048576: true; the input reads as it did. -/
def octetsFrontUptoRow : OpenClaim := { program := "ytmejkfhjkafmlaa", sum := "e58324c58c9ee74d8f172970cc9d3fdfee83441d615a5404b9c27744244cb0e3", func := "billhook/billhooklaw01.OctetsFront", spec := "octetsFront", unfollowed := true, recurses := true, apart := false, narrowed := true }
def OctetsFrontUptoSaid : Prop := octetsFrontUptoRow.holds Try.pinned (OpenSpec.upto octetsFrontSpec)

/-- 'billhooklaw01.OctetsGets', WHERE WHAT IT READS IS OF BULK AT MOST 1048576: true; the input reads as it did. -/
def octetsGetsUptoRow : OpenClaim := { program := "ytmejkfhjkafmlaa", sum := "e58324c58c9ee74d8f172970cc9d3fdfee83441d615a5404b9c27744244cb0e3", func := "billhook/billhooklaw01.OctetsGets", spec := "octetsGets", unfollowed := true, recurses := true, apart := false, narrowed := true }
def OctetsGetsUptoSaid : Prop := octetsGetsUptoRow.holds Try.pinned (OpenSpec.upto octetsGetsSpec)

/-- 'billhooklaw01.OctetsBack', WHERE WHAT IT READS IS OF BULK AT MOST 1048576: true; the input reads as it did. -/
def octetsBackUptoRow : OpenClaim := { program := "ytmejkfhjkafmlaa", sum := "e58324c58c9ee74d8f172970cc9d3fdfee83441d615a5404b9c27744244cb0e3", func := "billhook/billhooklaw01.OctetsBack", spec := "octetsBack", unfollowed := true, recurses := true, apart := false, narrowed := true }
def OctetsBackUptoSaid : Prop := octetsBackUptoRow.holds Try.pinned (OpenSpec.upto octetsBackSpec)

end Rows
end Go.Proofs.Ytmejkfhjkafmlaa
