/-
  No cell of these rows narrows 'for every input' (looked for: loops, veiled, ifaces, maps, wideKeys, modest, calm, conditions, laid).
  DERIVED. THE GIVEN ROWS OF THIS SEAT. 5 by the template 'for every input the law returns true; each argument reads behind the call as it read before'; 0 by the template 'total and deterministic' (their statements: YtgkhflcpbjlmiaaTotals.lean).
  GIVEN WITH THE SEED: the statements are not yours to turn. If you find one false, say at which input.
  Laid BY PROGRAM, IN A SANDBOX (cutbox-rows.mjs): the forced cells as the released guide's own fill.sh prints them over the translation 14c9064d0ee43f1e… (all of the seat's roots in one cut). By AI agents, Wed Nov 11 2026. No macro, syntax, notation, axiom, sorry.
-/
import Derived.Test.YtgkhflcpbjlmiaaChecked
import GoSem.Claim
import GoSem.ClaimJoined
import GoSem.ClaimMapViews
import Derived.JoinedTies
import Derived.KernelRfl
namespace Go.Proofs.Ytgkhflcpbjlmiaa
/- THE CELL 'sum', in the pinned program and in every row, IS THE sha256 OF THE DUMP (.gsa) THAT YtgkhflcpbjlmiaaProg.lean LOADS. Nothing in Lean hashes anything: it is a label: what it is worth is what the hold of that sum in a sandbox is worth. -/
noncomputable def Try.pinned : Pinned := { name := "ytgkhflcpbjlmiaa", sum := "14c9064d0ee43f1e8b6b0111e5939f5653c7c02bd17d5bc09cd3a3031bd362ee", checked := Try.checked }
namespace Rows
def none {H : Type} : Left H := { results := [], args := [] }

/-- 'entrepotlaw21.HoldScript': WHATEVER THE INPUT: true; the input reads as it did. -/
def holdScriptSpec : ChangeSpec := { name := "holdScript", fn := fun _ => fun
  | [d1, d2] => { results := [.lit (.bool true)], args := [d1, d2] }
  | _ => none }
def holdScriptRow : OpenClaim := { program := "ytgkhflcpbjlmiaa", sum := "14c9064d0ee43f1e8b6b0111e5939f5653c7c02bd17d5bc09cd3a3031bd362ee", func := "entrepot/entrepotlaw21.HoldScript", spec := "holdScript", unfollowed := true, recurses := true, plainKeys := false, apart := false }
def HoldScriptSaid : Prop := holdScriptRow.holds Try.pinned (OpenSpec.ofChange holdScriptSpec)

/-- ITS FALSE NEIGHBOUR: 'it returns false'. Refute it at one input. -/
def holdScriptWrong : ChangeSpec := { name := "holdScript", fn := fun _ => fun
  | [d1, d2] => { results := [.lit (.bool false)], args := [d1, d2] }
  | _ => none }
def HoldScriptWrongFalsely : Prop := holdScriptRow.holds Try.pinned (OpenSpec.ofChange holdScriptWrong)

/-- 'entrepotlaw21.HoldNone': WHATEVER THE INPUT: true; the input reads as it did. -/
def holdNoneSpec : ChangeSpec := { name := "holdNone", fn := fun _ => fun
  | [d1, d2] => { results := [.lit (.bool true)], args := [d1, d2] }
  | _ => none }
def holdNoneRow : OpenClaim := { program := "ytgkhflcpbjlmiaa", sum := "14c9064d0ee43f1e8b6b0111e5939f5653c7c02bd17d5bc09cd3a3031bd362ee", func := "entrepot/entrepotlaw21.HoldNone", spec := "holdNone", unfollowed := true, recurses := true, plainKeys := false, apart := false }
def HoldNoneSaid : Prop := holdNoneRow.holds Try.pinned (OpenSpec.ofChange holdNoneSpec)

/-- ITS FALSE NEIGHBOUR: 'it returns false'. Refute it at one input. -/
def holdNoneWrong : ChangeSpec := { name := "holdNone", fn := fun _ => fun
  | [d1, d2] => { results := [.lit (.bool false)], args := [d1, d2] }
  | _ => none }
def HoldNoneWrongFalsely : Prop := holdNoneRow.holds Try.pinned (OpenSpec.ofChange holdNoneWrong)

/-- 'entrepotlaw21.HoldKnown': WHATEVER THE INPUT: true; the input reads as it did. -/
def holdKnownSpec : ChangeSpec := { name := "holdKnown", fn := fun _ => fun
  | [] => { results := [.lit (.bool true)], args := [] }
  | _ => none }
def holdKnownRow : OpenClaim := { program := "ytgkhflcpbjlmiaa", sum := "14c9064d0ee43f1e8b6b0111e5939f5653c7c02bd17d5bc09cd3a3031bd362ee", func := "entrepot/entrepotlaw21.HoldKnown", spec := "holdKnown", unfollowed := true, recurses := true, plainKeys := false, apart := false }
def HoldKnownSaid : Prop := holdKnownRow.holds Try.pinned (OpenSpec.ofChange holdKnownSpec)

/-- ITS FALSE NEIGHBOUR: 'it returns false'. Refute it at one input. -/
def holdKnownWrong : ChangeSpec := { name := "holdKnown", fn := fun _ => fun
  | [] => { results := [.lit (.bool false)], args := [] }
  | _ => none }
def HoldKnownWrongFalsely : Prop := holdKnownRow.holds Try.pinned (OpenSpec.ofChange holdKnownWrong)

/-- 'entrepotlaw21.HoldCausal': WHATEVER THE INPUT: true; the input reads as it did. -/
def holdCausalSpec : ChangeSpec := { name := "holdCausal", fn := fun _ => fun
  | [d1, d2, d3, d4] => { results := [.lit (.bool true)], args := [d1, d2, d3, d4] }
  | _ => none }
def holdCausalRow : OpenClaim := { program := "ytgkhflcpbjlmiaa", sum := "14c9064d0ee43f1e8b6b0111e5939f5653c7c02bd17d5bc09cd3a3031bd362ee", func := "entrepot/entrepotlaw21.HoldCausal", spec := "holdCausal", unfollowed := true, recurses := true, plainKeys := false, apart := false }
def HoldCausalSaid : Prop := holdCausalRow.holds Try.pinned (OpenSpec.ofChange holdCausalSpec)

/-- ITS FALSE NEIGHBOUR: 'it returns false'. Refute it at one input. -/
def holdCausalWrong : ChangeSpec := { name := "holdCausal", fn := fun _ => fun
  | [d1, d2, d3, d4] => { results := [.lit (.bool false)], args := [d1, d2, d3, d4] }
  | _ => none }
def HoldCausalWrongFalsely : Prop := holdCausalRow.holds Try.pinned (OpenSpec.ofChange holdCausalWrong)

/-- 'entrepotlaw21.HoldLoads': WHATEVER THE INPUT: true; the input reads as it did. -/
def holdLoadsSpec : ChangeSpec := { name := "holdLoads", fn := fun _ => fun
  | [d1, d2, d3, d4] => { results := [.lit (.bool true)], args := [d1, d2, d3, d4] }
  | _ => none }
def holdLoadsRow : OpenClaim := { program := "ytgkhflcpbjlmiaa", sum := "14c9064d0ee43f1e8b6b0111e5939f5653c7c02bd17d5bc09cd3a3031bd362ee", func := "entrepot/entrepotlaw21.HoldLoads", spec := "holdLoads", unfollowed := true, recurses := true, plainKeys := false, apart := false }
def HoldLoadsSaid : Prop := holdLoadsRow.holds Try.pinned (OpenSpec.ofChange holdLoadsSpec)

/-- ITS FALSE NEIGHBOUR: 'it returns false'. Refute it at one input. -/
def holdLoadsWrong : ChangeSpec := { name := "holdLoads", fn := fun _ => fun
  | [d1, d2, d3, d4] => { results := [.lit (.bool false)], args := [d1, d2, d3, d4] }
  | _ => none }
def HoldLoadsWrongFalsely : Prop := holdLoadsRow.holds Try.pinned (OpenSpec.ofChange holdLoadsWrong)

/- THE SECOND FORM. 'bulk': how many values and letters a reading holds, each counted each time it is reached (what is shared counts as often as it is met; a slice's spare places count too). A statement '..UptoSaid' is the law's where the arguments, and the package variables that the reading takes, are together of bulk at most 1048576: NARROWER than '..Said'. Prove '..Said' where nothing that the law and all that it calls make is longer than what came in: it says more and counts as full. Else prove '..UptoSaid'. A law counts once. -/
mutual
def uptoBulk {H : Type} : DataW H → Nat
  | .lit (.string bytes) => bytes.length + 1
  | .lit _ => 1
  | .nil => 1
  | .ptr d => uptoBulk d + 1
  | .slice elems spare => uptoBulkAll elems + uptoBulkAll spare + 1
  | .agg parts => uptoBulkAll parts + 1
  | .iface _ d => uptoBulk d + 1
  | .map entries => uptoBulkEntries entries + 1
  | .held _ => 1
def uptoBulkAll {H : Type} : List (DataW H) → Nat
  | [] => 0
  | d :: r => uptoBulk d + uptoBulkAll r
def uptoBulkEntries {H : Type} : List (Lit × DataW H) → Nat
  | [] => 0
  | x :: r => uptoBulkEntry x + uptoBulkEntries r
def uptoBulkEntry {H : Type} : Lit × DataW H → Nat
  | (.string bytes, d) => bytes.length + uptoBulk d + 1
  | (_, d) => uptoBulk d + 1
 end
def uptoSmall : (H : Type) → List (DataW H) → Bool := fun _ ds => decide (uptoBulkAll ds ≤ 1048576)
def OpenSpec.upto (s : _root_.Go.ChangeSpec) : _root_.Go.OpenSpec := { _root_.Go.OpenSpec.ofChange s with cond := some uptoSmall }

/-- 'entrepotlaw21.HoldScript', WHERE WHAT IT READS IS OF BULK AT MOST 1048576: true; the input reads as it did. -/
def holdScriptUptoRow : OpenClaim := { program := "ytgkhflcpbjlmiaa", sum := "14c9064d0ee43f1e8b6b0111e5939f5653c7c02bd17d5bc09cd3a3031bd362ee", func := "entrepot/entrepotlaw21.HoldScript", spec := "holdScript", unfollowed := true, recurses := true, plainKeys := false, apart := false, narrowed := true }
def HoldScriptUptoSaid : Prop := holdScriptUptoRow.holds Try.pinned (OpenSpec.upto holdScriptSpec)

/-- 'entrepotlaw21.HoldNone', WHERE WHAT IT READS IS OF BULK AT MOST 1048576: true; the input reads as it did. -/
def holdNoneUptoRow : OpenClaim := { program := "ytgkhflcpbjlmiaa", sum := "14c9064d0ee43f1e8b6b0111e5939f5653c7c02bd17d5bc09cd3a3031bd362ee", func := "entrepot/entrepotlaw21.HoldNone", spec := "holdNone", unfollowed := true, recurses := true, plainKeys := false, apart := false, narrowed := true }
def HoldNoneUptoSaid : Prop := holdNoneUptoRow.holds Try.pinned (OpenSpec.upto holdNoneSpec)

/-- 'entrepotlaw21.HoldKnown', WHERE WHAT IT READS IS OF BULK AT MOST 1048576: true; the input reads as it did. -/
def holdKnownUptoRow : OpenClaim := { program := "ytgkhflcpbjlmiaa", sum := "14c9064d0ee43f1e8b6b0111e5939f5653c7c02bd17d5bc09cd3a3031bd362ee", func := "entrepot/entrepotlaw21.HoldKnown", spec := "holdKnown", unfollowed := true, recurses := true, plainKeys := false, apart := false, narrowed := true }
def HoldKnownUptoSaid : Prop := holdKnownUptoRow.holds Try.pinned (OpenSpec.upto holdKnownSpec)

/-- 'entrepotlaw21.HoldCausal', WHERE WHAT IT READS IS OF BULK AT MOST 1048576: true; the input reads as it did. -/
def holdCausalUptoRow : OpenClaim := { program := "ytgkhflcpbjlmiaa", sum := "14c9064d0ee43f1e8b6b0111e5939f5653c7c02bd17d5bc09cd3a3031bd362ee", func := "entrepot/entrepotlaw21.HoldCausal", spec := "holdCausal", unfollowed := true, recurses := true, plainKeys := false, apart := false, narrowed := true }
def HoldCausalUptoSaid : Prop := holdCausalUptoRow.holds Try.pinned (OpenSpec.upto holdCausalSpec)

/-- 'entrepotlaw21.HoldLoads', WHERE WHAT IT READS IS OF BULK AT MOST 1048576: true; the input reads as it did. -/
def holdLoadsUptoRow : OpenClaim := { program := "ytgkhflcpbjlmiaa", sum := "14c9064d0ee43f1e8b6b0111e5939f5653c7c02bd17d5bc09cd3a3031bd362ee", func := "entrepot/entrepotlaw21.HoldLoads", spec := "holdLoads", unfollowed := true, recurses := true, plainKeys := false, apart := false, narrowed := true }
def HoldLoadsUptoSaid : Prop := holdLoadsUptoRow.holds Try.pinned (OpenSpec.upto holdLoadsSpec)

end Rows
end Go.Proofs.Ytgkhflcpbjlmiaa
