/-
  No cell of these rows narrows 'for every input' (looked for: loops, veiled, ifaces, maps, wideKeys, modest, calm, conditions, laid).
  DERIVED. THE GIVEN ROWS OF THIS SEAT. 5 by the template 'for every input the law returns true; each argument reads behind the call as it read before'; 0 by the template 'total and deterministic' (their statements: YtdmfcnjgdicncaaGreatTotals.lean).
  GIVEN WITH THE SEED: the statements are not yours to turn. If you find one false, say at which input.
  Laid BY PROGRAM, IN A SANDBOX (cutbox-rows.mjs): the forced cells as the released guide's own fill.sh prints them over the translation 9cc951b0549f3d3a… (all of the seat's roots in one cut). By AI agents, Wed Nov 11 2026. No macro, syntax, notation, axiom, sorry.
-/
import Derived.Test.YtdmfcnjgdicncaaGreatChecked
import GoSem.Claim
import GoSem.ClaimJoined
import GoSem.ClaimMapViews
import Derived.JoinedTies
import Derived.KernelRfl
namespace Go.Proofs.YtdmfcnjgdicncaaGreat
/- THE CELL 'sum', in the pinned program and in every row, IS THE sha256 OF THE DUMP (.gsa) THAT YtdmfcnjgdicncaaGreatProg.lean LOADS. Nothing in Lean hashes anything: it is a label: what it is worth is what the hold of that sum in a sandbox is worth. -/
noncomputable def Tryz.pinned : Pinned := { name := "ytdmfcnjgdicncaagreat", sum := "9cc951b0549f3d3a96ce21caf660a35552568b996e815de13936dc7cfe702184", checked := Tryz.checked }
namespace Rows
def none {H : Type} : Left H := { results := [], args := [] }

/-- 'entrepotlaw22.GateNone': WHATEVER THE INPUT: true; the input reads as it did. -/
def gateNoneSpec : ChangeSpec := { name := "gateNone", fn := fun _ => fun
  | [d1, d2, d3, d4, d5] => { results := [.lit (.bool true)], args := [d1, d2, d3, d4, d5] }
  | _ => none }
def gateNoneRow : OpenClaim := { program := "ytdmfcnjgdicncaagreat", sum := "9cc951b0549f3d3a96ce21caf660a35552568b996e815de13936dc7cfe702184", func := "entrepot/entrepotlaw22.GateNone", spec := "gateNone", inPlace := ["internal/bytealg.Compare", "slices.overlaps[entrepot/api.ID]"], unfollowed := true, recurses := true, plainKeys := false, apart := false }
def GateNoneSaid : Prop := gateNoneRow.holds Tryz.pinned (OpenSpec.ofChange gateNoneSpec)

/-- ITS FALSE NEIGHBOUR: 'it returns false'. Refute it at one input. -/
def gateNoneWrong : ChangeSpec := { name := "gateNone", fn := fun _ => fun
  | [d1, d2, d3, d4, d5] => { results := [.lit (.bool false)], args := [d1, d2, d3, d4, d5] }
  | _ => none }
def GateNoneWrongFalsely : Prop := gateNoneRow.holds Tryz.pinned (OpenSpec.ofChange gateNoneWrong)

/-- 'entrepotlaw22.GateKnown': WHATEVER THE INPUT: true; the input reads as it did. -/
def gateKnownSpec : ChangeSpec := { name := "gateKnown", fn := fun _ => fun
  | [] => { results := [.lit (.bool true)], args := [] }
  | _ => none }
def gateKnownRow : OpenClaim := { program := "ytdmfcnjgdicncaagreat", sum := "9cc951b0549f3d3a96ce21caf660a35552568b996e815de13936dc7cfe702184", func := "entrepot/entrepotlaw22.GateKnown", spec := "gateKnown", inPlace := ["internal/bytealg.Compare", "slices.overlaps[entrepot/api.ID]"], unfollowed := true, recurses := true, plainKeys := false, apart := false }
def GateKnownSaid : Prop := gateKnownRow.holds Tryz.pinned (OpenSpec.ofChange gateKnownSpec)

/-- ITS FALSE NEIGHBOUR: 'it returns false'. Refute it at one input. -/
def gateKnownWrong : ChangeSpec := { name := "gateKnown", fn := fun _ => fun
  | [] => { results := [.lit (.bool false)], args := [] }
  | _ => none }
def GateKnownWrongFalsely : Prop := gateKnownRow.holds Tryz.pinned (OpenSpec.ofChange gateKnownWrong)

/-- 'entrepotlaw22.GateWhole': WHATEVER THE INPUT: true; the input reads as it did. -/
def gateWholeSpec : ChangeSpec := { name := "gateWhole", fn := fun _ => fun
  | [d1, d2] => { results := [.lit (.bool true)], args := [d1, d2] }
  | _ => none }
def gateWholeRow : OpenClaim := { program := "ytdmfcnjgdicncaagreat", sum := "9cc951b0549f3d3a96ce21caf660a35552568b996e815de13936dc7cfe702184", func := "entrepot/entrepotlaw22.GateWhole", spec := "gateWhole", inPlace := ["internal/bytealg.Compare", "slices.overlaps[entrepot/api.ID]"], unfollowed := true, recurses := true, plainKeys := false, apart := false }
def GateWholeSaid : Prop := gateWholeRow.holds Tryz.pinned (OpenSpec.ofChange gateWholeSpec)

/-- ITS FALSE NEIGHBOUR: 'it returns false'. Refute it at one input. -/
def gateWholeWrong : ChangeSpec := { name := "gateWhole", fn := fun _ => fun
  | [d1, d2] => { results := [.lit (.bool false)], args := [d1, d2] }
  | _ => none }
def GateWholeWrongFalsely : Prop := gateWholeRow.holds Tryz.pinned (OpenSpec.ofChange gateWholeWrong)

/-- 'entrepotlaw22.GateBlind': WHATEVER THE INPUT: true; the input reads as it did. -/
def gateBlindSpec : ChangeSpec := { name := "gateBlind", fn := fun _ => fun
  | [d1, d2, d3] => { results := [.lit (.bool true)], args := [d1, d2, d3] }
  | _ => none }
def gateBlindRow : OpenClaim := { program := "ytdmfcnjgdicncaagreat", sum := "9cc951b0549f3d3a96ce21caf660a35552568b996e815de13936dc7cfe702184", func := "entrepot/entrepotlaw22.GateBlind", spec := "gateBlind", inPlace := ["internal/bytealg.Compare", "slices.overlaps[entrepot/api.ID]"], unfollowed := true, recurses := true, plainKeys := false, apart := false }
def GateBlindSaid : Prop := gateBlindRow.holds Tryz.pinned (OpenSpec.ofChange gateBlindSpec)

/-- ITS FALSE NEIGHBOUR: 'it returns false'. Refute it at one input. -/
def gateBlindWrong : ChangeSpec := { name := "gateBlind", fn := fun _ => fun
  | [d1, d2, d3] => { results := [.lit (.bool false)], args := [d1, d2, d3] }
  | _ => none }
def GateBlindWrongFalsely : Prop := gateBlindRow.holds Tryz.pinned (OpenSpec.ofChange gateBlindWrong)

/-- 'entrepotlaw22.GateActs': WHATEVER THE INPUT: true; the input reads as it did. -/
def gateActsSpec : ChangeSpec := { name := "gateActs", fn := fun _ => fun
  | [d1, d2, d3, d4] => { results := [.lit (.bool true)], args := [d1, d2, d3, d4] }
  | _ => none }
def gateActsRow : OpenClaim := { program := "ytdmfcnjgdicncaagreat", sum := "9cc951b0549f3d3a96ce21caf660a35552568b996e815de13936dc7cfe702184", func := "entrepot/entrepotlaw22.GateActs", spec := "gateActs", inPlace := ["internal/bytealg.Compare", "slices.overlaps[entrepot/api.ID]"], unfollowed := true, recurses := true, plainKeys := false, apart := false }
def GateActsSaid : Prop := gateActsRow.holds Tryz.pinned (OpenSpec.ofChange gateActsSpec)

/-- ITS FALSE NEIGHBOUR: 'it returns false'. Refute it at one input. -/
def gateActsWrong : ChangeSpec := { name := "gateActs", fn := fun _ => fun
  | [d1, d2, d3, d4] => { results := [.lit (.bool false)], args := [d1, d2, d3, d4] }
  | _ => none }
def GateActsWrongFalsely : Prop := gateActsRow.holds Tryz.pinned (OpenSpec.ofChange gateActsWrong)

/- THE SECOND FORM. 'bulk': how many values and letters a reading holds, each counted each time it is reached (what is shared counts as often as it is met; a slice's spare places count too). A statement '..UptoSaid' is the law's where the arguments, and the package variables that the reading takes, are together of bulk at most 1048576: NARROWER than '..Said'. Prove '..Said' where nothing that the law and all that it calls make is longer than what came in: it says more and counts as full. Else prove '..UptoSaid'. A law counts once. -/
mutual
def uptoBulk {H : Type} : DataW H → Nat
  | .lit (.string bytes) => bytes.length + 1
  | .lit _ => 1
  | .nil => 1
  | .ptr d => uptoBulk d + 1
  | .slice elems spare => uptoBulkAll elems + uptoBulkAll spare + 1
  | .agg parts => uptoBulkAll parts + 1
  | .iface _ d => uptoBulk d + 1
  | .map entries => uptoBulkEntries entries + 1
  | .held _ => 1
def uptoBulkAll {H : Type} : List (DataW H) → Nat
  | [] => 0
  | d :: r => uptoBulk d + uptoBulkAll r
def uptoBulkEntries {H : Type} : List (Lit × DataW H) → Nat
  | [] => 0
  | x :: r => uptoBulkEntry x + uptoBulkEntries r
def uptoBulkEntry {H : Type} : Lit × DataW H → Nat
  | (.string bytes, d) => bytes.length + uptoBulk d + 1
  | (_, d) => uptoBulk d + 1
 end
def uptoSmall : (H : Type) → List (DataW H) → Bool := fun _ ds => decide (uptoBulkAll ds ≤ 1048576)
def OpenSpec.upto (s : _root_.Go.ChangeSpec) : _root_.Go.OpenSpec := { _root_.Go.OpenSpec.ofChange s with cond := some uptoSmall }

/-- 'entrepotlaw22.GateNone', WHERE WHAT IT READS IS OF BULK AT MOST 1048576: true; the input reads as it did. -/
def gateNoneUptoRow : OpenClaim := { program := "ytdmfcnjgdicncaagreat", sum := "9cc951b0549f3d3a96ce21caf660a35552568b996e815de13936dc7cfe702184", func := "entrepot/entrepotlaw22.GateNone", spec := "gateNone", inPlace := ["internal/bytealg.Compare", "slices.overlaps[entrepot/api.ID]"], unfollowed := true, recurses := true, plainKeys := false, apart := false, narrowed := true }
def GateNoneUptoSaid : Prop := gateNoneUptoRow.holds Tryz.pinned (OpenSpec.upto gateNoneSpec)

/-- 'entrepotlaw22.GateKnown', WHERE WHAT IT READS IS OF BULK AT MOST 1048576: true; the input reads as it did. -/
def gateKnownUptoRow : OpenClaim := { program := "ytdmfcnjgdicncaagreat", sum := "9cc951b0549f3d3a96ce21caf660a35552568b996e815de13936dc7cfe702184", func := "entrepot/entrepotlaw22.GateKnown", spec := "gateKnown", inPlace := ["internal/bytealg.Compare", "slices.overlaps[entrepot/api.ID]"], unfollowed := true, recurses := true, plainKeys := false, apart := false, narrowed := true }
def GateKnownUptoSaid : Prop := gateKnownUptoRow.holds Tryz.pinned (OpenSpec.upto gateKnownSpec)

/-- 'entrepotlaw22.GateWhole', WHERE WHAT IT READS IS OF BULK AT MOST 1048576: true; the input reads as it did. -/
def gateWholeUptoRow : OpenClaim := { program := "ytdmfcnjgdicncaagreat", sum := "9cc951b0549f3d3a96ce21caf660a35552568b996e815de13936dc7cfe702184", func := "entrepot/entrepotlaw22.GateWhole", spec := "gateWhole", inPlace := ["internal/bytealg.Compare", "slices.overlaps[entrepot/api.ID]"], unfollowed := true, recurses := true, plainKeys := false, apart := false, narrowed := true }
def GateWholeUptoSaid : Prop := gateWholeUptoRow.holds Tryz.pinned (OpenSpec.upto gateWholeSpec)

/-- 'entrepotlaw22.GateBlind', WHERE WHAT IT READS IS OF BULK AT MOST 1048576: true; the input reads as it did. -/
def gateBlindUptoRow : OpenClaim := { program := "ytdmfcnjgdicncaagreat", sum := "9cc951b0549f3d3a96ce21caf660a35552568b996e815de13936dc7cfe702184", func := "entrepot/entrepotlaw22.GateBlind", spec := "gateBlind", inPlace := ["internal/bytealg.Compare", "slices.overlaps[entrepot/api.ID]"], unfollowed := true, recurses := true, plainKeys := false, apart := false, narrowed := true }
def GateBlindUptoSaid : Prop := gateBlindUptoRow.holds Tryz.pinned (OpenSpec.upto gateBlindSpec)

/-- 'entrepotlaw22.GateActs', WHERE WHAT IT READS IS OF BULK AT MOST 1048576: true; the input reads as it did. -/
def gateActsUptoRow : OpenClaim := { program := "ytdmfcnjgdicncaagreat", sum := "9cc951b0549f3d3a96ce21caf660a35552568b996e815de13936dc7cfe702184", func := "entrepot/entrepotlaw22.GateActs", spec := "gateActs", inPlace := ["internal/bytealg.Compare", "slices.overlaps[entrepot/api.ID]"], unfollowed := true, recurses := true, plainKeys := false, apart := false, narrowed := true }
def GateActsUptoSaid : Prop := gateActsUptoRow.holds Tryz.pinned (OpenSpec.upto gateActsSpec)

end Rows
end Go.Proofs.YtdmfcnjgdicncaaGreat
