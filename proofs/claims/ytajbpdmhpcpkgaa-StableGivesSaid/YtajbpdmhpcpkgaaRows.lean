/-
  No cell of these rows narrows 'for every input' (looked for: loops, veiled, ifaces, maps, wideKeys, modest, calm, conditions, laid).
  DERIVED. THE GIVEN ROWS OF THIS SEAT. 6 by the template 'for every input the law returns true; each argument reads behind the call as it read before'; 0 by the template 'total and deterministic' (their statements: YtajbpdmhpcpkgaaTotals.lean).
  GIVEN WITH THE SEED: the statements are not yours to turn. If you find one false, say at which input.
  Laid BY PROGRAM, IN A SANDBOX (cutbox-rows.mjs): the forced cells as the released guide's own fill.sh prints them over the translation 7a15afd5ede49413… (all of the seat's roots in one cut). By AI agents, Wed Nov 11 2026. No macro, syntax, notation, axiom, sorry.
-/
import Derived.Test.YtajbpdmhpcpkgaaChecked
import GoSem.Claim
import GoSem.ClaimJoined
import GoSem.ClaimMapViews
import Derived.JoinedTies
import Derived.KernelRfl
namespace Go.Proofs.Ytajbpdmhpcpkgaa
/- THE CELL 'sum', in the pinned program and in every row, IS THE sha256 OF THE DUMP (.gsa) THAT YtajbpdmhpcpkgaaProg.lean LOADS. Nothing in Lean hashes anything: it is a label: what it is worth is what the hold of that sum in a sandbox is worth. -/
noncomputable def Try.pinned : Pinned := { name := "ytajbpdmhpcpkgaa", sum := "7a15afd5ede49413499d3e9bd9ef407b038bbae3657b692247437950ab1281b3", checked := Try.checked }
namespace Rows
def none {H : Type} : Left H := { results := [], args := [] }

/-- 'entrepotlaw24.StableKnown': WHATEVER THE INPUT: true; the input reads as it did. -/
def stableKnownSpec : ChangeSpec := { name := "stableKnown", fn := fun _ => fun
  | [] => { results := [.lit (.bool true)], args := [] }
  | _ => none }
def stableKnownRow : OpenClaim := { program := "ytajbpdmhpcpkgaa", sum := "7a15afd5ede49413499d3e9bd9ef407b038bbae3657b692247437950ab1281b3", func := "entrepot/entrepotlaw24.StableKnown", spec := "stableKnown", unfollowed := true, recurses := true, plainKeys := false, apart := false }
def StableKnownSaid : Prop := stableKnownRow.holds Try.pinned (OpenSpec.ofChange stableKnownSpec)

/-- ITS FALSE NEIGHBOUR: 'it returns false'. Refute it at one input. -/
def stableKnownWrong : ChangeSpec := { name := "stableKnown", fn := fun _ => fun
  | [] => { results := [.lit (.bool false)], args := [] }
  | _ => none }
def StableKnownWrongFalsely : Prop := stableKnownRow.holds Try.pinned (OpenSpec.ofChange stableKnownWrong)

/-- 'entrepotlaw24.StableGives': WHATEVER THE INPUT: true; the input reads as it did. -/
def stableGivesSpec : ChangeSpec := { name := "stableGives", fn := fun _ => fun
  | [d1, d2, d3, d4, d5, d6] => { results := [.lit (.bool true)], args := [d1, d2, d3, d4, d5, d6] }
  | _ => none }
def stableGivesRow : OpenClaim := { program := "ytajbpdmhpcpkgaa", sum := "7a15afd5ede49413499d3e9bd9ef407b038bbae3657b692247437950ab1281b3", func := "entrepot/entrepotlaw24.StableGives", spec := "stableGives", unfollowed := true, recurses := true, plainKeys := false, apart := false }
def StableGivesSaid : Prop := stableGivesRow.holds Try.pinned (OpenSpec.ofChange stableGivesSpec)

/-- ITS FALSE NEIGHBOUR: 'it returns false'. Refute it at one input. -/
def stableGivesWrong : ChangeSpec := { name := "stableGives", fn := fun _ => fun
  | [d1, d2, d3, d4, d5, d6] => { results := [.lit (.bool false)], args := [d1, d2, d3, d4, d5, d6] }
  | _ => none }
def StableGivesWrongFalsely : Prop := stableGivesRow.holds Try.pinned (OpenSpec.ofChange stableGivesWrong)

/-- 'entrepotlaw24.StableGoes': WHATEVER THE INPUT: true; the input reads as it did. -/
def stableGoesSpec : ChangeSpec := { name := "stableGoes", fn := fun _ => fun
  | [d1, d2, d3, d4] => { results := [.lit (.bool true)], args := [d1, d2, d3, d4] }
  | _ => none }
def stableGoesRow : OpenClaim := { program := "ytajbpdmhpcpkgaa", sum := "7a15afd5ede49413499d3e9bd9ef407b038bbae3657b692247437950ab1281b3", func := "entrepot/entrepotlaw24.StableGoes", spec := "stableGoes", unfollowed := true, recurses := true, plainKeys := false, apart := false }
def StableGoesSaid : Prop := stableGoesRow.holds Try.pinned (OpenSpec.ofChange stableGoesSpec)

/-- ITS FALSE NEIGHBOUR: 'it returns false'. Refute it at one input. -/
def stableGoesWrong : ChangeSpec := { name := "stableGoes", fn := fun _ => fun
  | [d1, d2, d3, d4] => { results := [.lit (.bool false)], args := [d1, d2, d3, d4] }
  | _ => none }
def StableGoesWrongFalsely : Prop := stableGoesRow.holds Try.pinned (OpenSpec.ofChange stableGoesWrong)

/-- 'entrepotlaw24.StableActs': WHATEVER THE INPUT: true; the input reads as it did. -/
def stableActsSpec : ChangeSpec := { name := "stableActs", fn := fun _ => fun
  | [d1, d2, d3] => { results := [.lit (.bool true)], args := [d1, d2, d3] }
  | _ => none }
def stableActsRow : OpenClaim := { program := "ytajbpdmhpcpkgaa", sum := "7a15afd5ede49413499d3e9bd9ef407b038bbae3657b692247437950ab1281b3", func := "entrepot/entrepotlaw24.StableActs", spec := "stableActs", unfollowed := true, recurses := true, plainKeys := false, apart := false }
def StableActsSaid : Prop := stableActsRow.holds Try.pinned (OpenSpec.ofChange stableActsSpec)

/-- ITS FALSE NEIGHBOUR: 'it returns false'. Refute it at one input. -/
def stableActsWrong : ChangeSpec := { name := "stableActs", fn := fun _ => fun
  | [d1, d2, d3] => { results := [.lit (.bool false)], args := [d1, d2, d3] }
  | _ => none }
def StableActsWrongFalsely : Prop := stableActsRow.holds Try.pinned (OpenSpec.ofChange stableActsWrong)

/-- 'entrepotlaw24.StableNone': WHATEVER THE INPUT: true; the input reads as it did. -/
def stableNoneSpec : ChangeSpec := { name := "stableNone", fn := fun _ => fun
  | [d1, d2, d3] => { results := [.lit (.bool true)], args := [d1, d2, d3] }
  | _ => none }
def stableNoneRow : OpenClaim := { program := "ytajbpdmhpcpkgaa", sum := "7a15afd5ede49413499d3e9bd9ef407b038bbae3657b692247437950ab1281b3", func := "entrepot/entrepotlaw24.StableNone", spec := "stableNone", unfollowed := true, recurses := true, plainKeys := false, apart := false }
def StableNoneSaid : Prop := stableNoneRow.holds Try.pinned (OpenSpec.ofChange stableNoneSpec)

/-- ITS FALSE NEIGHBOUR: 'it returns false'. Refute it at one input. -/
def stableNoneWrong : ChangeSpec := { name := "stableNone", fn := fun _ => fun
  | [d1, d2, d3] => { results := [.lit (.bool false)], args := [d1, d2, d3] }
  | _ => none }
def StableNoneWrongFalsely : Prop := stableNoneRow.holds Try.pinned (OpenSpec.ofChange stableNoneWrong)

/-- 'entrepotlaw24.StableLoads': WHATEVER THE INPUT: true; the input reads as it did. -/
def stableLoadsSpec : ChangeSpec := { name := "stableLoads", fn := fun _ => fun
  | [d1, d2, d3, d4] => { results := [.lit (.bool true)], args := [d1, d2, d3, d4] }
  | _ => none }
def stableLoadsRow : OpenClaim := { program := "ytajbpdmhpcpkgaa", sum := "7a15afd5ede49413499d3e9bd9ef407b038bbae3657b692247437950ab1281b3", func := "entrepot/entrepotlaw24.StableLoads", spec := "stableLoads", unfollowed := true, recurses := true, plainKeys := false, apart := false }
def StableLoadsSaid : Prop := stableLoadsRow.holds Try.pinned (OpenSpec.ofChange stableLoadsSpec)

/-- ITS FALSE NEIGHBOUR: 'it returns false'. Refute it at one input. -/
def stableLoadsWrong : ChangeSpec := { name := "stableLoads", fn := fun _ => fun
  | [d1, d2, d3, d4] => { results := [.lit (.bool false)], args := [d1, d2, d3, d4] }
  | _ => none }
def StableLoadsWrongFalsely : Prop := stableLoadsRow.holds Try.pinned (OpenSpec.ofChange stableLoadsWrong)

/- THE SECOND FORM. 'bulk': how many values and letters a reading holds, each counted each time it is reached (what is shared counts as often as it is met; a slice's spare places count too). A statement '..UptoSaid' is the law's where the arguments, and the package variables that the reading takes, are together of bulk at most 1048576: NARROWER than '..Said'. Prove '..Said' where nothing that the law and all that it calls make is longer than what came in: it says more and counts as full. Else prove '..UptoSaid'. A law counts once. -/
mutual
def uptoBulk {H : Type} : DataW H → Nat
  | .lit (.string bytes) => bytes.length + 1
  | .lit _ => 1
  | .nil => 1
  | .ptr d => uptoBulk d + 1
  | .slice elems spare => uptoBulkAll elems + uptoBulkAll spare + 1
  | .agg parts => uptoBulkAll parts + 1
  | .iface _ d => uptoBulk d + 1
  | .map entries => uptoBulkEntries entries + 1
  | .held _ => 1
def uptoBulkAll {H : Type} : List (DataW H) → Nat
  | [] => 0
  | d :: r => uptoBulk d + uptoBulkAll r
def uptoBulkEntries {H : Type} : List (Lit × DataW H) → Nat
  | [] => 0
  | x :: r => uptoBulkEntry x + uptoBulkEntries r
def uptoBulkEntry {H : Type} : Lit × DataW H → Nat
  | (.string bytes, d) => bytes.length + uptoBulk d + 1
  | (_, d) => uptoBulk d + 1
 end
def uptoSmall : (H : Type) → List (DataW H) → Bool := fun _ ds => decide (uptoBulkAll ds ≤ 1048576)
def OpenSpec.upto (s : _root_.Go.ChangeSpec) : _root_.Go.OpenSpec := { _root_.Go.OpenSpec.ofChange s with cond := some uptoSmall }

/-- 'entrepotlaw24.StableKnown', WHERE WHAT IT READS IS OF BULK AT MOST 1048576: true; the input reads as it did. -/
def stableKnownUptoRow : OpenClaim := { program := "ytajbpdmhpcpkgaa", sum := "7a15afd5ede49413499d3e9bd9ef407b038bbae3657b692247437950ab1281b3", func := "entrepot/entrepotlaw24.StableKnown", spec := "stableKnown", unfollowed := true, recurses := true, plainKeys := false, apart := false, narrowed := true }
def StableKnownUptoSaid : Prop := stableKnownUptoRow.holds Try.pinned (OpenSpec.upto stableKnownSpec)

/-- 'entrepotlaw24.StableGives', WHERE WHAT IT READS IS OF BULK AT MOST 1048576: true; the input reads as it did. -/
def stableGivesUptoRow : OpenClaim := { program := "ytajbpdmhpcpkgaa", sum := "7a15afd5ede49413499d3e9bd9ef407b038bbae3657b692247437950ab1281b3", func := "entrepot/entrepotlaw24.StableGives", spec := "stableGives", unfollowed := true, recurses := true, plainKeys := false, apart := false, narrowed := true }
def StableGivesUptoSaid : Prop := stableGivesUptoRow.holds Try.pinned (OpenSpec.upto stableGivesSpec)

/-- 'entrepotlaw24.StableGoes', WHERE WHAT IT READS IS OF BULK AT MOST 1048576: true; the input reads as it did. -/
def stableGoesUptoRow : OpenClaim := { program := "ytajbpdmhpcpkgaa", sum := "7a15afd5ede49413499d3e9bd9ef407b038bbae3657b692247437950ab1281b3", func := "entrepot/entrepotlaw24.StableGoes", spec := "stableGoes", unfollowed := true, recurses := true, plainKeys := false, apart := false, narrowed := true }
def StableGoesUptoSaid : Prop := stableGoesUptoRow.holds Try.pinned (OpenSpec.upto stableGoesSpec)

/-- 'entrepotlaw24.StableActs', WHERE WHAT IT READS IS OF BULK AT MOST 1048576: true; the input reads as it did. -/
def stableActsUptoRow : OpenClaim := { program := "ytajbpdmhpcpkgaa", sum := "7a15afd5ede49413499d3e9bd9ef407b038bbae3657b692247437950ab1281b3", func := "entrepot/entrepotlaw24.StableActs", spec := "stableActs", unfollowed := true, recurses := true, plainKeys := false, apart := false, narrowed := true }
def StableActsUptoSaid : Prop := stableActsUptoRow.holds Try.pinned (OpenSpec.upto stableActsSpec)

/-- 'entrepotlaw24.StableNone', WHERE WHAT IT READS IS OF BULK AT MOST 1048576: true; the input reads as it did. -/
def stableNoneUptoRow : OpenClaim := { program := "ytajbpdmhpcpkgaa", sum := "7a15afd5ede49413499d3e9bd9ef407b038bbae3657b692247437950ab1281b3", func := "entrepot/entrepotlaw24.StableNone", spec := "stableNone", unfollowed := true, recurses := true, plainKeys := false, apart := false, narrowed := true }
def StableNoneUptoSaid : Prop := stableNoneUptoRow.holds Try.pinned (OpenSpec.upto stableNoneSpec)

/-- 'entrepotlaw24.StableLoads', WHERE WHAT IT READS IS OF BULK AT MOST 1048576: true; the input reads as it did. -/
def stableLoadsUptoRow : OpenClaim := { program := "ytajbpdmhpcpkgaa", sum := "7a15afd5ede49413499d3e9bd9ef407b038bbae3657b692247437950ab1281b3", func := "entrepot/entrepotlaw24.StableLoads", spec := "stableLoads", unfollowed := true, recurses := true, plainKeys := false, apart := false, narrowed := true }
def StableLoadsUptoSaid : Prop := stableLoadsUptoRow.holds Try.pinned (OpenSpec.upto stableLoadsSpec)

end Rows
end Go.Proofs.Ytajbpdmhpcpkgaa
