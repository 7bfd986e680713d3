/-
  No cell of these rows narrows 'for every input' (looked for: loops, veiled, ifaces, maps, wideKeys, modest, calm, conditions, laid).
  DERIVED. THE GIVEN ROWS OF THIS SEAT. 10 by the template 'for every input the law returns true; each argument reads behind the call as it read before'; 0 by the template 'total and deterministic' (their statements: YtgnpeciedefeiaaTotals.lean).
  GIVEN WITH THE SEED: the statements are not yours to turn. If you find one false, say at which input.
  Laid BY PROGRAM, IN A SANDBOX (cutbox-rows.mjs): the forced cells as the released guide's own fill.sh prints them over the translation 7ff18fa97a80d968… (all of the seat's roots in one cut). By AI agents, Wed Nov 11 2026. No macro, syntax, notation, axiom, sorry.
-/
import Derived.Test.YtgnpeciedefeiaaChecked
import GoSem.Claim
import GoSem.ClaimJoined
import GoSem.ClaimMapViews
import Derived.JoinedTies
import Derived.KernelRfl
namespace Go.Proofs.Ytgnpeciedefeiaa
/- THE CELL 'sum', in the pinned program and in every row, IS THE sha256 OF THE DUMP (.gsa) THAT YtgnpeciedefeiaaProg.lean LOADS. Nothing in Lean hashes anything: it is a label: what it is worth is what the hold of that sum in a sandbox is worth. -/
noncomputable def Try.pinned : Pinned := { name := "ytgnpeciedefeiaa", sum := "7ff18fa97a80d96895ba653ca8b0f664662484070a0ab82177e8ba53ede00634", checked := Try.checked }
namespace Rows
def none {H : Type} : Left H := { results := [], args := [] }

/-- 'morainelaw07.SegLeast': WHATEVER THE INPUT: true; the input reads as it did. -/
def segLeastSpec : ChangeSpec := { name := "segLeast", fn := fun _ => fun
  | [d1, d2] => { results := [.lit (.bool true)], args := [d1, d2] }
  | _ => none }
def segLeastRow : OpenClaim := { program := "ytgnpeciedefeiaa", sum := "7ff18fa97a80d96895ba653ca8b0f664662484070a0ab82177e8ba53ede00634", func := "moraine/morainelaw07.SegLeast", spec := "segLeast", apart := false }
def SegLeastSaid : Prop := segLeastRow.holds Try.pinned (OpenSpec.ofChange segLeastSpec)

/-- ITS FALSE NEIGHBOUR: 'it returns false'. Refute it at one input. -/
def segLeastWrong : ChangeSpec := { name := "segLeast", fn := fun _ => fun
  | [d1, d2] => { results := [.lit (.bool false)], args := [d1, d2] }
  | _ => none }
def SegLeastWrongFalsely : Prop := segLeastRow.holds Try.pinned (OpenSpec.ofChange segLeastWrong)

/-- 'morainelaw07.SegWords': WHATEVER THE INPUT: true; the input reads as it did. -/
def segWordsSpec : ChangeSpec := { name := "segWords", fn := fun _ => fun
  | [d1, d2] => { results := [.lit (.bool true)], args := [d1, d2] }
  | _ => none }
def segWordsRow : OpenClaim := { program := "ytgnpeciedefeiaa", sum := "7ff18fa97a80d96895ba653ca8b0f664662484070a0ab82177e8ba53ede00634", func := "moraine/morainelaw07.SegWords", spec := "segWords", unfollowed := true, recurses := true, apart := false }
def SegWordsSaid : Prop := segWordsRow.holds Try.pinned (OpenSpec.ofChange segWordsSpec)

/-- ITS FALSE NEIGHBOUR: 'it returns false'. Refute it at one input. -/
def segWordsWrong : ChangeSpec := { name := "segWords", fn := fun _ => fun
  | [d1, d2] => { results := [.lit (.bool false)], args := [d1, d2] }
  | _ => none }
def SegWordsWrongFalsely : Prop := segWordsRow.holds Try.pinned (OpenSpec.ofChange segWordsWrong)

/-- 'morainelaw07.SegCounts': WHATEVER THE INPUT: true; the input reads as it did. -/
def segCountsSpec : ChangeSpec := { name := "segCounts", fn := fun _ => fun
  | [d1, d2] => { results := [.lit (.bool true)], args := [d1, d2] }
  | _ => none }
def segCountsRow : OpenClaim := { program := "ytgnpeciedefeiaa", sum := "7ff18fa97a80d96895ba653ca8b0f664662484070a0ab82177e8ba53ede00634", func := "moraine/morainelaw07.SegCounts", spec := "segCounts", unfollowed := true, recurses := true, apart := false }
def SegCountsSaid : Prop := segCountsRow.holds Try.pinned (OpenSpec.ofChange segCountsSpec)

/-- ITS FALSE NEIGHBOUR: 'it returns false'. Refute it at one input. -/
def segCountsWrong : ChangeSpec := { name := "segCounts", fn := fun _ => fun
  | [d1, d2] => { results := [.lit (.bool false)], args := [d1, d2] }
  | _ => none }
def SegCountsWrongFalsely : Prop := segCountsRow.holds Try.pinned (OpenSpec.ofChange segCountsWrong)

/-- 'morainelaw07.SegPlays': WHATEVER THE INPUT: true; the input reads as it did. -/
def segPlaysSpec : ChangeSpec := { name := "segPlays", fn := fun _ => fun
  | [d1, d2] => { results := [.lit (.bool true)], args := [d1, d2] }
  | _ => none }
def segPlaysRow : OpenClaim := { program := "ytgnpeciedefeiaa", sum := "7ff18fa97a80d96895ba653ca8b0f664662484070a0ab82177e8ba53ede00634", func := "moraine/morainelaw07.SegPlays", spec := "segPlays", unfollowed := true, recurses := true, apart := false }
def SegPlaysSaid : Prop := segPlaysRow.holds Try.pinned (OpenSpec.ofChange segPlaysSpec)

/-- ITS FALSE NEIGHBOUR: 'it returns false'. Refute it at one input. -/
def segPlaysWrong : ChangeSpec := { name := "segPlays", fn := fun _ => fun
  | [d1, d2] => { results := [.lit (.bool false)], args := [d1, d2] }
  | _ => none }
def SegPlaysWrongFalsely : Prop := segPlaysRow.holds Try.pinned (OpenSpec.ofChange segPlaysWrong)

/-- 'morainelaw07.SegNobody': WHATEVER THE INPUT: true; the input reads as it did. -/
def segNobodySpec : ChangeSpec := { name := "segNobody", fn := fun _ => fun
  | [d] => { results := [.lit (.bool true)], args := [d] }
  | _ => none }
def segNobodyRow : OpenClaim := { program := "ytgnpeciedefeiaa", sum := "7ff18fa97a80d96895ba653ca8b0f664662484070a0ab82177e8ba53ede00634", func := "moraine/morainelaw07.SegNobody", spec := "segNobody", unfollowed := true, recurses := true, apart := false }
def SegNobodySaid : Prop := segNobodyRow.holds Try.pinned (OpenSpec.ofChange segNobodySpec)

/-- ITS FALSE NEIGHBOUR: 'it returns false'. Refute it at one input. -/
def segNobodyWrong : ChangeSpec := { name := "segNobody", fn := fun _ => fun
  | [d] => { results := [.lit (.bool false)], args := [d] }
  | _ => none }
def SegNobodyWrongFalsely : Prop := segNobodyRow.holds Try.pinned (OpenSpec.ofChange segNobodyWrong)

/-- 'morainelaw08.SpacePlays': WHATEVER THE INPUT: true; the input reads as it did. -/
def spacePlaysSpec : ChangeSpec := { name := "spacePlays", fn := fun _ => fun
  | [d1, d2] => { results := [.lit (.bool true)], args := [d1, d2] }
  | _ => none }
def spacePlaysRow : OpenClaim := { program := "ytgnpeciedefeiaa", sum := "7ff18fa97a80d96895ba653ca8b0f664662484070a0ab82177e8ba53ede00634", func := "moraine/morainelaw08.SpacePlays", spec := "spacePlays", unfollowed := true, recurses := true, apart := false }
def SpacePlaysSaid : Prop := spacePlaysRow.holds Try.pinned (OpenSpec.ofChange spacePlaysSpec)

/-- ITS FALSE NEIGHBOUR: 'it returns false'. Refute it at one input. -/
def spacePlaysWrong : ChangeSpec := { name := "spacePlays", fn := fun _ => fun
  | [d1, d2] => { results := [.lit (.bool false)], args := [d1, d2] }
  | _ => none }
def SpacePlaysWrongFalsely : Prop := spacePlaysRow.holds Try.pinned (OpenSpec.ofChange spacePlaysWrong)

/-- 'morainelaw09.CardVain': WHATEVER THE INPUT: true; the input reads as it did. -/
def cardVainSpec : ChangeSpec := { name := "cardVain", fn := fun _ => fun
  | [d1, d2] => { results := [.lit (.bool true)], args := [d1, d2] }
  | _ => none }
def cardVainRow : OpenClaim := { program := "ytgnpeciedefeiaa", sum := "7ff18fa97a80d96895ba653ca8b0f664662484070a0ab82177e8ba53ede00634", func := "moraine/morainelaw09.CardVain", spec := "cardVain", unfollowed := true, recurses := true, apart := false }
def CardVainSaid : Prop := cardVainRow.holds Try.pinned (OpenSpec.ofChange cardVainSpec)

/-- ITS FALSE NEIGHBOUR: 'it returns false'. Refute it at one input. -/
def cardVainWrong : ChangeSpec := { name := "cardVain", fn := fun _ => fun
  | [d1, d2] => { results := [.lit (.bool false)], args := [d1, d2] }
  | _ => none }
def CardVainWrongFalsely : Prop := cardVainRow.holds Try.pinned (OpenSpec.ofChange cardVainWrong)

/-- 'morainelaw09.CardFalls': WHATEVER THE INPUT: true; the input reads as it did. -/
def cardFallsSpec : ChangeSpec := { name := "cardFalls", fn := fun _ => fun
  | [d1, d2, d3] => { results := [.lit (.bool true)], args := [d1, d2, d3] }
  | _ => none }
def cardFallsRow : OpenClaim := { program := "ytgnpeciedefeiaa", sum := "7ff18fa97a80d96895ba653ca8b0f664662484070a0ab82177e8ba53ede00634", func := "moraine/morainelaw09.CardFalls", spec := "cardFalls", unfollowed := true, recurses := true, apart := false }
def CardFallsSaid : Prop := cardFallsRow.holds Try.pinned (OpenSpec.ofChange cardFallsSpec)

/-- ITS FALSE NEIGHBOUR: 'it returns false'. Refute it at one input. -/
def cardFallsWrong : ChangeSpec := { name := "cardFalls", fn := fun _ => fun
  | [d1, d2, d3] => { results := [.lit (.bool false)], args := [d1, d2, d3] }
  | _ => none }
def CardFallsWrongFalsely : Prop := cardFallsRow.holds Try.pinned (OpenSpec.ofChange cardFallsWrong)

/-- 'morainelaw09.CardNobody': WHATEVER THE INPUT: true; the input reads as it did. -/
def cardNobodySpec : ChangeSpec := { name := "cardNobody", fn := fun _ => fun
  | [d] => { results := [.lit (.bool true)], args := [d] }
  | _ => none }
def cardNobodyRow : OpenClaim := { program := "ytgnpeciedefeiaa", sum := "7ff18fa97a80d96895ba653ca8b0f664662484070a0ab82177e8ba53ede00634", func := "moraine/morainelaw09.CardNobody", spec := "cardNobody", unfollowed := true, recurses := true, apart := false }
def CardNobodySaid : Prop := cardNobodyRow.holds Try.pinned (OpenSpec.ofChange cardNobodySpec)

/-- ITS FALSE NEIGHBOUR: 'it returns false'. Refute it at one input. -/
def cardNobodyWrong : ChangeSpec := { name := "cardNobody", fn := fun _ => fun
  | [d] => { results := [.lit (.bool false)], args := [d] }
  | _ => none }
def CardNobodyWrongFalsely : Prop := cardNobodyRow.holds Try.pinned (OpenSpec.ofChange cardNobodyWrong)

/-- 'morainelaw09.CardPlays': WHATEVER THE INPUT: true; the input reads as it did. -/
def cardPlaysSpec : ChangeSpec := { name := "cardPlays", fn := fun _ => fun
  | [d1, d2] => { results := [.lit (.bool true)], args := [d1, d2] }
  | _ => none }
def cardPlaysRow : OpenClaim := { program := "ytgnpeciedefeiaa", sum := "7ff18fa97a80d96895ba653ca8b0f664662484070a0ab82177e8ba53ede00634", func := "moraine/morainelaw09.CardPlays", spec := "cardPlays", unfollowed := true, recurses := true, apart := false }
def CardPlaysSaid : Prop := cardPlaysRow.holds Try.pinned (OpenSpec.ofChange cardPlaysSpec)

/-- ITS FALSE NEIGHBOUR: 'it returns false'. Refute it at one input. -/
def cardPlaysWrong : ChangeSpec := { name := "cardPlays", fn := fun _ => fun
  | [d1, d2] => { results := [.lit (.bool false)], args := [d1, d2] }
  | _ => none }
def CardPlaysWrongFalsely : Prop := cardPlaysRow.holds Try.pinned (OpenSpec.ofChange cardPlaysWrong)

/- THE SECOND FORM. 'bulk': how many values and letters a reading holds, each counted each time it is reached (what is shared counts as often as it is met; a slice's spare places count too). A statement '..UptoSaid' is the law's where the arguments, and the package variables that the reading takes, are together of bulk at most 1048576: NARROWER than '..Said'. Prove '..Said' where nothing that the law and all that it calls make is longer than what came in: it says more and counts as full. Else prove '..UptoSaid'. A law counts once. -/
mutual
def uptoBulk {H : Type} : DataW H → Nat
  | .lit (.string bytes) => bytes.length + 1
  | .lit _ => 1
  | .nil => 1
  | .ptr d => uptoBulk d + 1
  | .slice elems spare => uptoBulkAll elems + uptoBulkAll spare + 1
  | .agg parts => uptoBulkAll parts + 1
  | .iface _ d => uptoBulk d + 1
  | .map entries => uptoBulkEntries entries + 1
  | .held _ => 1
def uptoBulkAll {H : Type} : List (DataW H) → Nat
  | [] => 0
  | d :: r => uptoBulk d + uptoBulkAll r
def uptoBulkEntries {H : Type} : List (Lit × DataW H) → Nat
  | [] => 0
  | x :: r => uptoBulkEntry x + uptoBulkEntries r
def uptoBulkEntry {H : Type} : Lit × DataW H → Nat
  | (.string bytes, d) => bytes.length + uptoBulk d + 1
  | (_, d) => uptoBulk d + 1
 end
def uptoSmall : (H : Type) → List (DataW H) → Bool := fun _ ds => decide (uptoBulkAll ds ≤ 1048576)
def OpenSpec.upto (s : _root_.Go.ChangeSpec) : _root_.Go.OpenSpec := { _root_.Go.OpenSpec.ofChange s with cond := some uptoSmall }

/-- 'morainelaw07.SegLeast', WHERE WHAT IT READS IS OF BULK AT MOST 1048576: true; the input reads as it did. -/
def segLeastUptoRow : OpenClaim := { program := "ytgnpeciedefeiaa", sum := "7ff18fa97a80d96895ba653ca8b0f664662484070a0ab82177e8ba53ede00634", func := "moraine/morainelaw07.SegLeast", spec := "segLeast", apart := false, narrowed := true }
def SegLeastUptoSaid : Prop := segLeastUptoRow.holds Try.pinned (OpenSpec.upto segLeastSpec)

/-- 'morainelaw07.SegWords', WHERE WHAT IT READS IS OF BULK AT MOST 1048576: true; the input reads as it did. -/
def segWordsUptoRow : OpenClaim := { program := "ytgnpeciedefeiaa", sum := "7ff18fa97a80d96895ba653ca8b0f664662484070a0ab82177e8ba53ede00634", func := "moraine/morainelaw07.SegWords", spec := "segWords", unfollowed := true, recurses := true, apart := false, narrowed := true }
def SegWordsUptoSaid : Prop := segWordsUptoRow.holds Try.pinned (OpenSpec.upto segWordsSpec)

/-- 'morainelaw07.SegCounts', WHERE WHAT IT READS IS OF BULK AT MOST 1048576: true; the input reads as it did. -/
def segCountsUptoRow : OpenClaim := { program := "ytgnpeciedefeiaa", sum := "7ff18fa97a80d96895ba653ca8b0f664662484070a0ab82177e8ba53ede00634", func := "moraine/morainelaw07.SegCounts", spec := "segCounts", unfollowed := true, recurses := true, apart := false, narrowed := true }
def SegCountsUptoSaid : Prop := segCountsUptoRow.holds Try.pinned (OpenSpec.upto segCountsSpec)

/-- 'morainelaw07.SegPlays', WHERE WHAT IT READS IS OF BULK AT MOST 1048576: true; the input reads as it did. -/
def segPlaysUptoRow : OpenClaim := { program := "ytgnpeciedefeiaa", sum := "7ff18fa97a80d96895ba653ca8b0f664662484070a0ab82177e8ba53ede00634", func := "moraine/morainelaw07.SegPlays", spec := "segPlays", unfollowed := true, recurses := true, apart := false, narrowed := true }
def SegPlaysUptoSaid : Prop := segPlaysUptoRow.holds Try.pinned (OpenSpec.upto segPlaysSpec)

/-- 'morainelaw07.SegNobody', WHERE WHAT IT READS IS OF BULK AT MOST 1048576: true; the input reads as it did. -/
def segNobodyUptoRow : OpenClaim := { program := "ytgnpeciedefeiaa", sum := "7ff18fa97a80d96895ba653ca8b0f664662484070a0ab82177e8ba53ede00634", func := "moraine/morainelaw07.SegNobody", spec := "segNobody", unfollowed := true, recurses := true, apart := false, narrowed := true }
def SegNobodyUptoSaid : Prop := segNobodyUptoRow.holds Try.pinned (OpenSpec.upto segNobodySpec)

/-- 'morainelaw08.SpacePlays', WHERE WHAT IT READS IS OF BULK AT MOST 1048576: true; the input reads as it did. -/
def spacePlaysUptoRow : OpenClaim := { program := "ytgnpeciedefeiaa", sum := "7ff18fa97a80d96895ba653ca8b0f664662484070a0ab82177e8ba53ede00634", func := "moraine/morainelaw08.SpacePlays", spec := "spacePlays", unfollowed := true, recurses := true, apart := false, narrowed := true }
def SpacePlaysUptoSaid : Prop := spacePlaysUptoRow.holds Try.pinned (OpenSpec.upto spacePlaysSpec)

/-- 'morainelaw09.CardVain', WHERE WHAT IT READS IS OF BULK AT MOST 1048576: true; the input reads as it did. -/
def cardVainUptoRow : OpenClaim := { program := "ytgnpeciedefeiaa", sum := "7ff18fa97a80d96895ba653ca8b0f664662484070a0ab82177e8ba53ede00634", func := "moraine/morainelaw09.CardVain", spec := "cardVain", unfollowed := true, recurses := true, apart := false, narrowed := true }
def CardVainUptoSaid : Prop := cardVainUptoRow.holds Try.pinned (OpenSpec.upto cardVainSpec)

/-- 'morainelaw09.CardFalls', WHERE WHAT IT READS IS OF BULK AT MOST 1048576: true; the input reads as it did. -/
def cardFallsUptoRow : OpenClaim := { program := "ytgnpeciedefeiaa", sum := "7ff18fa97a80d96895ba653ca8b0f664662484070a0ab82177e8ba53ede00634", func := "moraine/morainelaw09.CardFalls", spec := "cardFalls", unfollowed := true, recurses := true, apart := false, narrowed := true }
def CardFallsUptoSaid : Prop := cardFallsUptoRow.holds Try.pinned (OpenSpec.upto cardFallsSpec)

/-- 'morainelaw09.CardNobody', WHERE WHAT IT READS IS OF BULK AT MOST 1048576: true; the input reads as it did. -/
def cardNobodyUptoRow : OpenClaim := { program := "ytgnpeciedefeiaa", sum := "7ff18fa97a80d96895ba653ca8b0f664662484070a0ab82177e8ba53ede00634", func := "moraine/morainelaw09.CardNobody", spec := "cardNobody", unfollowed := true, recurses := true, apart := false, narrowed := true }
def CardNobodyUptoSaid : Prop := cardNobodyUptoRow.holds Try.pinned (OpenSpec.upto cardNobodySpec)

/-- 'morainelaw09.CardPlays', WHERE WHAT IT READS IS OF BULK AT MOST 1048576: true; the input reads as it did. -/
def cardPlaysUptoRow : OpenClaim := { program := "ytgnpeciedefeiaa", sum := "7ff18fa97a80d96895ba653ca8b0f664662484070a0ab82177e8ba53ede00634", func := "moraine/morainelaw09.CardPlays", spec := "cardPlays", unfollowed := true, recurses := true, apart := false, narrowed := true }
def CardPlaysUptoSaid : Prop := cardPlaysUptoRow.holds Try.pinned (OpenSpec.upto cardPlaysSpec)

end Rows
end Go.Proofs.Ytgnpeciedefeiaa
