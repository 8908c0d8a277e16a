/-
  No cell of these rows narrows 'for every input' (looked for: loops, veiled, ifaces, maps, wideKeys, modest, calm, conditions, laid).
  DERIVED. THE GIVEN ROWS OF THIS SEAT. 7 by the template 'for every input the law returns true; each argument reads behind the call as it read before'; 0 by the template 'total and deterministic' (their statements: YtaglpaoipdmboaaGreatTotals.lean).
  GIVEN WITH THE SEED: the statements are not yours to turn. If you find one false, say at which input.
  Laid BY PROGRAM, IN A SANDBOX (cutbox-rows.mjs): the forced cells as the released guide's own fill.sh prints them over the translation eed5db4ab4276998… (all of the seat's roots in one cut). By AI agents, Wed Nov 11 2026. No macro, syntax, notation, axiom, sorry.
-/
import Derived.Test.YtaglpaoipdmboaaGreatChecked
import GoSem.Claim
import GoSem.ClaimJoined
import GoSem.ClaimMapViews
import Derived.JoinedTies
import Derived.KernelRfl
namespace Go.Proofs.YtaglpaoipdmboaaGreat
/- THE CELL 'sum', in the pinned program and in every row, IS THE sha256 OF THE DUMP (.gsa) THAT YtaglpaoipdmboaaGreatProg.lean LOADS. Nothing in Lean hashes anything: it is a label: what it is worth is what the hold of that sum in a sandbox is worth. -/
noncomputable def Tryz.pinned : Pinned := { name := "ytaglpaoipdmboaagreat", sum := "eed5db4ab42769987d71c178bf1369ddcadadc25470f9f2553afaefe0ee7b11c", checked := Tryz.checked }
namespace Rows
def none {H : Type} : Left H := { results := [], args := [] }

/-- 'entrepotlaw19.EventChecks': WHATEVER THE INPUT: true; the input reads as it did. -/
def eventChecksSpec : ChangeSpec := { name := "eventChecks", fn := fun _ => fun
  | [d1, d2, d3, d4] => { results := [.lit (.bool true)], args := [d1, d2, d3, d4] }
  | _ => none }
def eventChecksRow : OpenClaim := { program := "ytaglpaoipdmboaagreat", sum := "eed5db4ab42769987d71c178bf1369ddcadadc25470f9f2553afaefe0ee7b11c", func := "entrepot/entrepotlaw19.EventChecks", spec := "eventChecks", inPlace := ["internal/bytealg.Compare"], unfollowed := true, recurses := true, apart := false }
def EventChecksSaid : Prop := eventChecksRow.holds Tryz.pinned (OpenSpec.ofChange eventChecksSpec)

/-- ITS FALSE NEIGHBOUR: 'it returns false'. Refute it at one input. -/
def eventChecksWrong : ChangeSpec := { name := "eventChecks", fn := fun _ => fun
  | [d1, d2, d3, d4] => { results := [.lit (.bool false)], args := [d1, d2, d3, d4] }
  | _ => none }
def EventChecksWrongFalsely : Prop := eventChecksRow.holds Tryz.pinned (OpenSpec.ofChange eventChecksWrong)

/-- 'entrepotlaw19.EventDecodes': WHATEVER THE INPUT: true; the input reads as it did. -/
def eventDecodesSpec : ChangeSpec := { name := "eventDecodes", fn := fun _ => fun
  | [d] => { results := [.lit (.bool true)], args := [d] }
  | _ => none }
def eventDecodesRow : OpenClaim := { program := "ytaglpaoipdmboaagreat", sum := "eed5db4ab42769987d71c178bf1369ddcadadc25470f9f2553afaefe0ee7b11c", func := "entrepot/entrepotlaw19.EventDecodes", spec := "eventDecodes", inPlace := ["internal/bytealg.Compare"], unfollowed := true, recurses := true, apart := false }
def EventDecodesSaid : Prop := eventDecodesRow.holds Tryz.pinned (OpenSpec.ofChange eventDecodesSpec)

/-- ITS FALSE NEIGHBOUR: 'it returns false'. Refute it at one input. -/
def eventDecodesWrong : ChangeSpec := { name := "eventDecodes", fn := fun _ => fun
  | [d] => { results := [.lit (.bool false)], args := [d] }
  | _ => none }
def EventDecodesWrongFalsely : Prop := eventDecodesRow.holds Tryz.pinned (OpenSpec.ofChange eventDecodesWrong)

/-- 'entrepotlaw19.EventKnown': WHATEVER THE INPUT: true; the input reads as it did. -/
def eventKnownSpec : ChangeSpec := { name := "eventKnown", fn := fun _ => fun
  | [] => { results := [.lit (.bool true)], args := [] }
  | _ => none }
def eventKnownRow : OpenClaim := { program := "ytaglpaoipdmboaagreat", sum := "eed5db4ab42769987d71c178bf1369ddcadadc25470f9f2553afaefe0ee7b11c", func := "entrepot/entrepotlaw19.EventKnown", spec := "eventKnown", inPlace := ["internal/bytealg.Compare"], unfollowed := true, recurses := true, apart := false }
def EventKnownSaid : Prop := eventKnownRow.holds Tryz.pinned (OpenSpec.ofChange eventKnownSpec)

/-- ITS FALSE NEIGHBOUR: 'it returns false'. Refute it at one input. -/
def eventKnownWrong : ChangeSpec := { name := "eventKnown", fn := fun _ => fun
  | [] => { results := [.lit (.bool false)], args := [] }
  | _ => none }
def EventKnownWrongFalsely : Prop := eventKnownRow.holds Tryz.pinned (OpenSpec.ofChange eventKnownWrong)

/-- 'entrepotlaw19.EventBack': WHATEVER THE INPUT: true; the input reads as it did. -/
def eventBackSpec : ChangeSpec := { name := "eventBack", fn := fun _ => fun
  | [d1, d2, d3, d4] => { results := [.lit (.bool true)], args := [d1, d2, d3, d4] }
  | _ => none }
def eventBackRow : OpenClaim := { program := "ytaglpaoipdmboaagreat", sum := "eed5db4ab42769987d71c178bf1369ddcadadc25470f9f2553afaefe0ee7b11c", func := "entrepot/entrepotlaw19.EventBack", spec := "eventBack", inPlace := ["internal/bytealg.Compare"], unfollowed := true, recurses := true, apart := false }
def EventBackSaid : Prop := eventBackRow.holds Tryz.pinned (OpenSpec.ofChange eventBackSpec)

/-- ITS FALSE NEIGHBOUR: 'it returns false'. Refute it at one input. -/
def eventBackWrong : ChangeSpec := { name := "eventBack", fn := fun _ => fun
  | [d1, d2, d3, d4] => { results := [.lit (.bool false)], args := [d1, d2, d3, d4] }
  | _ => none }
def EventBackWrongFalsely : Prop := eventBackRow.holds Tryz.pinned (OpenSpec.ofChange eventBackWrong)

/-- 'entrepotlaw19.EventOne': WHATEVER THE INPUT: true; the input reads as it did. -/
def eventOneSpec : ChangeSpec := { name := "eventOne", fn := fun _ => fun
  | [d1, d2, d3] => { results := [.lit (.bool true)], args := [d1, d2, d3] }
  | _ => none }
def eventOneRow : OpenClaim := { program := "ytaglpaoipdmboaagreat", sum := "eed5db4ab42769987d71c178bf1369ddcadadc25470f9f2553afaefe0ee7b11c", func := "entrepot/entrepotlaw19.EventOne", spec := "eventOne", inPlace := ["internal/bytealg.Compare"], unfollowed := true, recurses := true, apart := false }
def EventOneSaid : Prop := eventOneRow.holds Tryz.pinned (OpenSpec.ofChange eventOneSpec)

/-- ITS FALSE NEIGHBOUR: 'it returns false'. Refute it at one input. -/
def eventOneWrong : ChangeSpec := { name := "eventOne", fn := fun _ => fun
  | [d1, d2, d3] => { results := [.lit (.bool false)], args := [d1, d2, d3] }
  | _ => none }
def EventOneWrongFalsely : Prop := eventOneRow.holds Tryz.pinned (OpenSpec.ofChange eventOneWrong)

/-- 'entrepotlaw19.EventSorts': WHATEVER THE INPUT: true; the input reads as it did. -/
def eventSortsSpec : ChangeSpec := { name := "eventSorts", fn := fun _ => fun
  | [d] => { results := [.lit (.bool true)], args := [d] }
  | _ => none }
def eventSortsRow : OpenClaim := { program := "ytaglpaoipdmboaagreat", sum := "eed5db4ab42769987d71c178bf1369ddcadadc25470f9f2553afaefe0ee7b11c", func := "entrepot/entrepotlaw19.EventSorts", spec := "eventSorts", inPlace := ["internal/bytealg.Compare"], unfollowed := true, recurses := true, apart := false }
def EventSortsSaid : Prop := eventSortsRow.holds Tryz.pinned (OpenSpec.ofChange eventSortsSpec)

/-- ITS FALSE NEIGHBOUR: 'it returns false'. Refute it at one input. -/
def eventSortsWrong : ChangeSpec := { name := "eventSorts", fn := fun _ => fun
  | [d] => { results := [.lit (.bool false)], args := [d] }
  | _ => none }
def EventSortsWrongFalsely : Prop := eventSortsRow.holds Tryz.pinned (OpenSpec.ofChange eventSortsWrong)

/-- 'entrepotlaw19.EventOrder': WHATEVER THE INPUT: true; the input reads as it did. -/
def eventOrderSpec : ChangeSpec := { name := "eventOrder", fn := fun _ => fun
  | [d1, d2, d3] => { results := [.lit (.bool true)], args := [d1, d2, d3] }
  | _ => none }
def eventOrderRow : OpenClaim := { program := "ytaglpaoipdmboaagreat", sum := "eed5db4ab42769987d71c178bf1369ddcadadc25470f9f2553afaefe0ee7b11c", func := "entrepot/entrepotlaw19.EventOrder", spec := "eventOrder", inPlace := ["internal/bytealg.Compare"], unfollowed := true, recurses := true, apart := false }
def EventOrderSaid : Prop := eventOrderRow.holds Tryz.pinned (OpenSpec.ofChange eventOrderSpec)

/-- ITS FALSE NEIGHBOUR: 'it returns false'. Refute it at one input. -/
def eventOrderWrong : ChangeSpec := { name := "eventOrder", fn := fun _ => fun
  | [d1, d2, d3] => { results := [.lit (.bool false)], args := [d1, d2, d3] }
  | _ => none }
def EventOrderWrongFalsely : Prop := eventOrderRow.holds Tryz.pinned (OpenSpec.ofChange eventOrderWrong)

/- THE SECOND FORM. 'bulk': how many values and letters a reading holds, each counted each time it is reached (what is shared counts as often as it is met; a slice's spare places count too). A statement '..UptoSaid' is the law's where the arguments, and the package variables that the reading takes, are together of bulk at most 1048576: NARROWER than '..Said'. Prove '..Said' where nothing that the law and all that it calls make is longer than what came in: it says more and counts as full. Else prove '..UptoSaid'. A law counts once. -/
mutual
def uptoBulk {H : Type} : DataW H → Nat
  | .lit (.string bytes) => bytes.length + 1
  | .lit _ => 1
  | .nil => 1
  | .ptr d => uptoBulk d + 1
  | .slice elems spare => uptoBulkAll elems + uptoBulkAll spare + 1
  | .agg parts => uptoBulkAll parts + 1
  | .iface _ d => uptoBulk d + 1
  | .map entries => uptoBulkEntries entries + 1
  | .held _ => 1
def uptoBulkAll {H : Type} : List (DataW H) → Nat
  | [] => 0
  | d :: r => uptoBulk d + uptoBulkAll r
def uptoBulkEntries {H : Type} : List (Lit × DataW H) → Nat
  | [] => 0
  | x :: r => uptoBulkEntry x + uptoBulkEntries r
def uptoBulkEntry {H : Type} : Lit × DataW H → Nat
  | (.string bytes, d) => bytes.length + uptoBulk d + 1
  | (_, d) => uptoBulk d + 1
 end
def uptoSmall : (H : Type) → List (DataW H) → Bool := fun _ ds => decide (uptoBulkAll ds ≤ 1048576)
def OpenSpec.upto (s : _root_.Go.ChangeSpec) : _root_.Go.OpenSpec := { _root_.Go.OpenSpec.ofChange s with cond := some uptoSmall }

/-- 'entrepotlaw19.EventChecks', WHERE WHAT IT READS IS OF BULK AT MOST 1048576: true; the input reads as it did. -/
def eventChecksUptoRow : OpenClaim := { program := "ytaglpaoipdmboaagreat", sum := "eed5db4ab42769987d71c178bf1369ddcadadc25470f9f2553afaefe0ee7b11c", func := "entrepot/entrepotlaw19.EventChecks", spec := "eventChecks", inPlace := ["internal/bytealg.Compare"], unfollowed := true, recurses := true, apart := false, narrowed := true }
def EventChecksUptoSaid : Prop := eventChecksUptoRow.holds Tryz.pinned (OpenSpec.upto eventChecksSpec)

/-- 'entrepotlaw19.EventDecodes', WHERE WHAT IT READS IS OF BULK AT MOST 1048576: true; the input reads as it did. -/
def eventDecodesUptoRow : OpenClaim := { program := "ytaglpaoipdmboaagreat", sum := "eed5db4ab42769987d71c178bf1369ddcadadc25470f9f2553afaefe0ee7b11c", func := "entrepot/entrepotlaw19.EventDecodes", spec := "eventDecodes", inPlace := ["internal/bytealg.Compare"], unfollowed := true, recurses := true, apart := false, narrowed := true }
def EventDecodesUptoSaid : Prop := eventDecodesUptoRow.holds Tryz.pinned (OpenSpec.upto eventDecodesSpec)

/-- 'entrepotlaw19.EventKnown', WHERE WHAT IT READS IS OF BULK AT MOST 1048576: true; the input reads as it did. -/
def eventKnownUptoRow : OpenClaim := { program := "ytaglpaoipdmboaagreat", sum := "eed5db4ab42769987d71c178bf1369ddcadadc25470f9f2553afaefe0ee7b11c", func := "entrepot/entrepotlaw19.EventKnown", spec := "eventKnown", inPlace := ["internal/bytealg.Compare"], unfollowed := true, recurses := true, apart := false, narrowed := true }
def EventKnownUptoSaid : Prop := eventKnownUptoRow.holds Tryz.pinned (OpenSpec.upto eventKnownSpec)

/-- 'entrepotlaw19.EventBack', WHERE WHAT IT READS IS OF BULK AT MOST 1048576: true; the input reads as it did. -/
def eventBackUptoRow : OpenClaim := { program := "ytaglpaoipdmboaagreat", sum := "eed5db4ab42769987d71c178bf1369ddcadadc25470f9f2553afaefe0ee7b11c", func := "entrepot/entrepotlaw19.EventBack", spec := "eventBack", inPlace := ["internal/bytealg.Compare"], unfollowed := true, recurses := true, apart := false, narrowed := true }
def EventBackUptoSaid : Prop := eventBackUptoRow.holds Tryz.pinned (OpenSpec.upto eventBackSpec)

/-- 'entrepotlaw19.EventOne', WHERE WHAT IT READS IS OF BULK AT MOST 1048576: true; the input reads as it did. -/
def eventOneUptoRow : OpenClaim := { program := "ytaglpaoipdmboaagreat", sum := "eed5db4ab42769987d71c178bf1369ddcadadc25470f9f2553afaefe0ee7b11c", func := "entrepot/entrepotlaw19.EventOne", spec := "eventOne", inPlace := ["internal/bytealg.Compare"], unfollowed := true, recurses := true, apart := false, narrowed := true }
def EventOneUptoSaid : Prop := eventOneUptoRow.holds Tryz.pinned (OpenSpec.upto eventOneSpec)

/-- 'entrepotlaw19.EventSorts', WHERE WHAT IT READS IS OF BULK AT MOST 1048576: true; the input reads as it did. -/
def eventSortsUptoRow : OpenClaim := { program := "ytaglpaoipdmboaagreat", sum := "eed5db4ab42769987d71c178bf1369ddcadadc25470f9f2553afaefe0ee7b11c", func := "entrepot/entrepotlaw19.EventSorts", spec := "eventSorts", inPlace := ["internal/bytealg.Compare"], unfollowed := true, recurses := true, apart := false, narrowed := true }
def EventSortsUptoSaid : Prop := eventSortsUptoRow.holds Tryz.pinned (OpenSpec.upto eventSortsSpec)

/-- 'entrepotlaw19.EventOrder', WHERE WHAT IT READS IS OF BULK AT MOST 1048576: true; the input reads as it did. -/
def eventOrderUptoRow : OpenClaim := { program := "ytaglpaoipdmboaagreat", sum := "eed5db4ab42769987d71c178bf1369ddcadadc25470f9f2553afaefe0ee7b11c", func := "entrepot/entrepotlaw19.EventOrder", spec := "eventOrder", inPlace := ["internal/bytealg.Compare"], unfollowed := true, recurses := true, apart := false, narrowed := true }
def EventOrderUptoSaid : Prop := eventOrderUptoRow.holds Tryz.pinned (OpenSpec.upto eventOrderSpec)

end Rows
end Go.Proofs.YtaglpaoipdmboaaGreat
