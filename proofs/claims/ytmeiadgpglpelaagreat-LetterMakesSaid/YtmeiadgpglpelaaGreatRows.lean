/-
  No cell of these rows narrows 'for every input' (looked for: loops, veiled, ifaces, maps, wideKeys, modest, calm, conditions, laid).
  DERIVED. THE GIVEN ROWS OF THIS SEAT. 7 by the template 'for every input the law returns true; each argument reads behind the call as it read before'; 0 by the template 'total and deterministic' (their statements: YtmeiadgpglpelaaGreatTotals.lean).
  GIVEN WITH THE SEED: the statements are not yours to turn. If you find one false, say at which input.
  Laid BY PROGRAM, IN A SANDBOX (cutbox-rows.mjs): the forced cells as the released guide's own fill.sh prints them over the translation 0d567145e1040875… (all of the seat's roots in one cut). By AI agents, Wed Nov 11 2026. No macro, syntax, notation, axiom, sorry.
-/
import Derived.Test.YtmeiadgpglpelaaGreatChecked
import GoSem.Claim
import GoSem.ClaimJoined
import GoSem.ClaimMapViews
import Derived.JoinedTies
import Derived.KernelRfl
namespace Go.Proofs.YtmeiadgpglpelaaGreat
/- THE CELL 'sum', in the pinned program and in every row, IS THE sha256 OF THE DUMP (.gsa) THAT YtmeiadgpglpelaaGreatProg.lean LOADS. Nothing in Lean hashes anything: it is a label: what it is worth is what the hold of that sum in a sandbox is worth. -/
noncomputable def Tryz.pinned : Pinned := { name := "ytmeiadgpglpelaagreat", sum := "0d567145e10408757116484b53c17d162ae2904391193b59eccf779532c987c2", checked := Tryz.checked }
namespace Rows
def none {H : Type} : Left H := { results := [], args := [] }

/-- 'entrepotlaw25.LetterChecks': WHATEVER THE INPUT: true; the input reads as it did. -/
def letterChecksSpec : ChangeSpec := { name := "letterChecks", fn := fun _ => fun
  | [d1, d2, d3] => { results := [.lit (.bool true)], args := [d1, d2, d3] }
  | _ => none }
def letterChecksRow : OpenClaim := { program := "ytmeiadgpglpelaagreat", sum := "0d567145e10408757116484b53c17d162ae2904391193b59eccf779532c987c2", func := "entrepot/entrepotlaw25.LetterChecks", spec := "letterChecks", inPlace := ["internal/bytealg.Compare"], unfollowed := true, recurses := true, apart := false }
def LetterChecksSaid : Prop := letterChecksRow.holds Tryz.pinned (OpenSpec.ofChange letterChecksSpec)

/-- ITS FALSE NEIGHBOUR: 'it returns false'. Refute it at one input. -/
def letterChecksWrong : ChangeSpec := { name := "letterChecks", fn := fun _ => fun
  | [d1, d2, d3] => { results := [.lit (.bool false)], args := [d1, d2, d3] }
  | _ => none }
def LetterChecksWrongFalsely : Prop := letterChecksRow.holds Tryz.pinned (OpenSpec.ofChange letterChecksWrong)

/-- 'entrepotlaw25.LetterDecodes': WHATEVER THE INPUT: true; the input reads as it did. -/
def letterDecodesSpec : ChangeSpec := { name := "letterDecodes", fn := fun _ => fun
  | [d] => { results := [.lit (.bool true)], args := [d] }
  | _ => none }
def letterDecodesRow : OpenClaim := { program := "ytmeiadgpglpelaagreat", sum := "0d567145e10408757116484b53c17d162ae2904391193b59eccf779532c987c2", func := "entrepot/entrepotlaw25.LetterDecodes", spec := "letterDecodes", inPlace := ["internal/bytealg.Compare"], unfollowed := true, recurses := true, apart := false }
def LetterDecodesSaid : Prop := letterDecodesRow.holds Tryz.pinned (OpenSpec.ofChange letterDecodesSpec)

/-- ITS FALSE NEIGHBOUR: 'it returns false'. Refute it at one input. -/
def letterDecodesWrong : ChangeSpec := { name := "letterDecodes", fn := fun _ => fun
  | [d] => { results := [.lit (.bool false)], args := [d] }
  | _ => none }
def LetterDecodesWrongFalsely : Prop := letterDecodesRow.holds Tryz.pinned (OpenSpec.ofChange letterDecodesWrong)

/-- 'entrepotlaw25.LetterMakes': WHATEVER THE INPUT: true; the input reads as it did. -/
def letterMakesSpec : ChangeSpec := { name := "letterMakes", fn := fun _ => fun
  | [d1, d2, d3, d4, d5] => { results := [.lit (.bool true)], args := [d1, d2, d3, d4, d5] }
  | _ => none }
def letterMakesRow : OpenClaim := { program := "ytmeiadgpglpelaagreat", sum := "0d567145e10408757116484b53c17d162ae2904391193b59eccf779532c987c2", func := "entrepot/entrepotlaw25.LetterMakes", spec := "letterMakes", inPlace := ["internal/bytealg.Compare"], unfollowed := true, recurses := true, apart := false }
def LetterMakesSaid : Prop := letterMakesRow.holds Tryz.pinned (OpenSpec.ofChange letterMakesSpec)

/-- ITS FALSE NEIGHBOUR: 'it returns false'. Refute it at one input. -/
def letterMakesWrong : ChangeSpec := { name := "letterMakes", fn := fun _ => fun
  | [d1, d2, d3, d4, d5] => { results := [.lit (.bool false)], args := [d1, d2, d3, d4, d5] }
  | _ => none }
def LetterMakesWrongFalsely : Prop := letterMakesRow.holds Tryz.pinned (OpenSpec.ofChange letterMakesWrong)

/-- 'entrepotlaw25.LetterKnown': WHATEVER THE INPUT: true; the input reads as it did. -/
def letterKnownSpec : ChangeSpec := { name := "letterKnown", fn := fun _ => fun
  | [] => { results := [.lit (.bool true)], args := [] }
  | _ => none }
def letterKnownRow : OpenClaim := { program := "ytmeiadgpglpelaagreat", sum := "0d567145e10408757116484b53c17d162ae2904391193b59eccf779532c987c2", func := "entrepot/entrepotlaw25.LetterKnown", spec := "letterKnown", inPlace := ["internal/bytealg.Compare"], unfollowed := true, recurses := true, apart := false }
def LetterKnownSaid : Prop := letterKnownRow.holds Tryz.pinned (OpenSpec.ofChange letterKnownSpec)

/-- ITS FALSE NEIGHBOUR: 'it returns false'. Refute it at one input. -/
def letterKnownWrong : ChangeSpec := { name := "letterKnown", fn := fun _ => fun
  | [] => { results := [.lit (.bool false)], args := [] }
  | _ => none }
def LetterKnownWrongFalsely : Prop := letterKnownRow.holds Tryz.pinned (OpenSpec.ofChange letterKnownWrong)

/-- 'entrepotlaw25.LetterBack': WHATEVER THE INPUT: true; the input reads as it did. -/
def letterBackSpec : ChangeSpec := { name := "letterBack", fn := fun _ => fun
  | [d1, d2, d3, d4] => { results := [.lit (.bool true)], args := [d1, d2, d3, d4] }
  | _ => none }
def letterBackRow : OpenClaim := { program := "ytmeiadgpglpelaagreat", sum := "0d567145e10408757116484b53c17d162ae2904391193b59eccf779532c987c2", func := "entrepot/entrepotlaw25.LetterBack", spec := "letterBack", inPlace := ["internal/bytealg.Compare"], unfollowed := true, recurses := true, apart := false }
def LetterBackSaid : Prop := letterBackRow.holds Tryz.pinned (OpenSpec.ofChange letterBackSpec)

/-- ITS FALSE NEIGHBOUR: 'it returns false'. Refute it at one input. -/
def letterBackWrong : ChangeSpec := { name := "letterBack", fn := fun _ => fun
  | [d1, d2, d3, d4] => { results := [.lit (.bool false)], args := [d1, d2, d3, d4] }
  | _ => none }
def LetterBackWrongFalsely : Prop := letterBackRow.holds Tryz.pinned (OpenSpec.ofChange letterBackWrong)

/-- 'entrepotlaw25.LetterOne': WHATEVER THE INPUT: true; the input reads as it did. -/
def letterOneSpec : ChangeSpec := { name := "letterOne", fn := fun _ => fun
  | [d1, d2, d3] => { results := [.lit (.bool true)], args := [d1, d2, d3] }
  | _ => none }
def letterOneRow : OpenClaim := { program := "ytmeiadgpglpelaagreat", sum := "0d567145e10408757116484b53c17d162ae2904391193b59eccf779532c987c2", func := "entrepot/entrepotlaw25.LetterOne", spec := "letterOne", inPlace := ["internal/bytealg.Compare"], unfollowed := true, recurses := true, apart := false }
def LetterOneSaid : Prop := letterOneRow.holds Tryz.pinned (OpenSpec.ofChange letterOneSpec)

/-- ITS FALSE NEIGHBOUR: 'it returns false'. Refute it at one input. -/
def letterOneWrong : ChangeSpec := { name := "letterOne", fn := fun _ => fun
  | [d1, d2, d3] => { results := [.lit (.bool false)], args := [d1, d2, d3] }
  | _ => none }
def LetterOneWrongFalsely : Prop := letterOneRow.holds Tryz.pinned (OpenSpec.ofChange letterOneWrong)

/-- 'entrepotlaw25.LetterFits': WHATEVER THE INPUT: true; the input reads as it did. -/
def letterFitsSpec : ChangeSpec := { name := "letterFits", fn := fun _ => fun
  | [d1, d2, d3, d4, d5] => { results := [.lit (.bool true)], args := [d1, d2, d3, d4, d5] }
  | _ => none }
def letterFitsRow : OpenClaim := { program := "ytmeiadgpglpelaagreat", sum := "0d567145e10408757116484b53c17d162ae2904391193b59eccf779532c987c2", func := "entrepot/entrepotlaw25.LetterFits", spec := "letterFits", inPlace := ["internal/bytealg.Compare"], unfollowed := true, recurses := true, apart := false }
def LetterFitsSaid : Prop := letterFitsRow.holds Tryz.pinned (OpenSpec.ofChange letterFitsSpec)

/-- ITS FALSE NEIGHBOUR: 'it returns false'. Refute it at one input. -/
def letterFitsWrong : ChangeSpec := { name := "letterFits", fn := fun _ => fun
  | [d1, d2, d3, d4, d5] => { results := [.lit (.bool false)], args := [d1, d2, d3, d4, d5] }
  | _ => none }
def LetterFitsWrongFalsely : Prop := letterFitsRow.holds Tryz.pinned (OpenSpec.ofChange letterFitsWrong)

/- THE SECOND FORM. 'bulk': how many values and letters a reading holds, each counted each time it is reached (what is shared counts as often as it is met; a slice's spare places count too). A statement '..UptoSaid' is the law's where the arguments, and the package variables that the reading takes, are together of bulk at most 1048576: NARROWER than '..Said'. Prove '..Said' where nothing that the law and all that it calls make is longer than what came in: it says more and counts as full. Else prove '..UptoSaid'. A law counts once. -/
mutual
def uptoBulk {H : Type} : DataW H → Nat
  | .lit (.string bytes) => bytes.length + 1
  | .lit _ => 1
  | .nil => 1
  | .ptr d => uptoBulk d + 1
  | .slice elems spare => uptoBulkAll elems + uptoBulkAll spare + 1
  | .agg parts => uptoBulkAll parts + 1
  | .iface _ d => uptoBulk d + 1
  | .map entries => uptoBulkEntries entries + 1
  | .held _ => 1
def uptoBulkAll {H : Type} : List (DataW H) → Nat
  | [] => 0
  | d :: r => uptoBulk d + uptoBulkAll r
def uptoBulkEntries {H : Type} : List (Lit × DataW H) → Nat
  | [] => 0
  | x :: r => uptoBulkEntry x + uptoBulkEntries r
def uptoBulkEntry {H : Type} : Lit × DataW H → Nat
  | (.string bytes, d) => bytes.length + uptoBulk d + 1
  | (_, d) => uptoBulk d + 1
 end
def uptoSmall : (H : Type) → List (DataW H) → Bool := fun _ ds => decide (uptoBulkAll ds ≤ 1048576)
def OpenSpec.upto (s : _root_.Go.ChangeSpec) : _root_.Go.OpenSpec := { _root_.Go.OpenSpec.ofChange s with cond := some uptoSmall }

/-- 'entrepotlaw25.LetterChecks', WHERE WHAT IT READS IS OF BULK AT MOST 1048576: true; the input reads as it did. -/
def letterChecksUptoRow : OpenClaim := { program := "ytmeiadgpglpelaagreat", sum := "0d567145e10408757116484b53c17d162ae2904391193b59eccf779532c987c2", func := "entrepot/entrepotlaw25.LetterChecks", spec := "letterChecks", inPlace := ["internal/bytealg.Compare"], unfollowed := true, recurses := true, apart := false, narrowed := true }
def LetterChecksUptoSaid : Prop := letterChecksUptoRow.holds Tryz.pinned (OpenSpec.upto letterChecksSpec)

/-- 'entrepotlaw25.LetterDecodes', WHERE WHAT IT READS IS OF BULK AT MOST 1048576: true; the input reads as it did. -/
def letterDecodesUptoRow : OpenClaim := { program := "ytmeiadgpglpelaagreat", sum := "0d567145e10408757116484b53c17d162ae2904391193b59eccf779532c987c2", func := "entrepot/entrepotlaw25.LetterDecodes", spec := "letterDecodes", inPlace := ["internal/bytealg.Compare"], unfollowed := true, recurses := true, apart := false, narrowed := true }
def LetterDecodesUptoSaid : Prop := letterDecodesUptoRow.holds Tryz.pinned (OpenSpec.upto letterDecodesSpec)

/-- 'entrepotlaw25.LetterMakes', WHERE WHAT IT READS IS OF BULK AT MOST 1048576: true; the input reads as it did. -/
def letterMakesUptoRow : OpenClaim := { program := "ytmeiadgpglpelaagreat", sum := "0d567145e10408757116484b53c17d162ae2904391193b59eccf779532c987c2", func := "entrepot/entrepotlaw25.LetterMakes", spec := "letterMakes", inPlace := ["internal/bytealg.Compare"], unfollowed := true, recurses := true, apart := false, narrowed := true }
def LetterMakesUptoSaid : Prop := letterMakesUptoRow.holds Tryz.pinned (OpenSpec.upto letterMakesSpec)

/-- 'entrepotlaw25.LetterKnown', WHERE WHAT IT READS IS OF BULK AT MOST 1048576: true; the input reads as it did. -/
def letterKnownUptoRow : OpenClaim := { program := "ytmeiadgpglpelaagreat", sum := "0d567145e10408757116484b53c17d162ae2904391193b59eccf779532c987c2", func := "entrepot/entrepotlaw25.LetterKnown", spec := "letterKnown", inPlace := ["internal/bytealg.Compare"], unfollowed := true, recurses := true, apart := false, narrowed := true }
def LetterKnownUptoSaid : Prop := letterKnownUptoRow.holds Tryz.pinned (OpenSpec.upto letterKnownSpec)

/-- 'entrepotlaw25.LetterBack', WHERE WHAT IT READS IS OF BULK AT MOST 1048576: true; the input reads as it did. -/
def letterBackUptoRow : OpenClaim := { program := "ytmeiadgpglpelaagreat", sum := "0d567145e10408757116484b53c17d162ae2904391193b59eccf779532c987c2", func := "entrepot/entrepotlaw25.LetterBack", spec := "letterBack", inPlace := ["internal/bytealg.Compare"], unfollowed := true, recurses := true, apart := false, narrowed := true }
def LetterBackUptoSaid : Prop := letterBackUptoRow.holds Tryz.pinned (OpenSpec.upto letterBackSpec)

/-- 'entrepotlaw25.LetterOne', WHERE WHAT IT READS IS OF BULK AT MOST 1048576: true; the input reads as it did. -/
def letterOneUptoRow : OpenClaim := { program := "ytmeiadgpglpelaagreat", sum := "0d567145e10408757116484b53c17d162ae2904391193b59eccf779532c987c2", func := "entrepot/entrepotlaw25.LetterOne", spec := "letterOne", inPlace := ["internal/bytealg.Compare"], unfollowed := true, recurses := true, apart := false, narrowed := true }
def LetterOneUptoSaid : Prop := letterOneUptoRow.holds Tryz.pinned (OpenSpec.upto letterOneSpec)

/-- 'entrepotlaw25.LetterFits', WHERE WHAT IT READS IS OF BULK AT MOST 1048576: true; the input reads as it did. -/
def letterFitsUptoRow : OpenClaim := { program := "ytmeiadgpglpelaagreat", sum := "0d567145e10408757116484b53c17d162ae2904391193b59eccf779532c987c2", func := "entrepot/entrepotlaw25.LetterFits", spec := "letterFits", inPlace := ["internal/bytealg.Compare"], unfollowed := true, recurses := true, apart := false, narrowed := true }
def LetterFitsUptoSaid : Prop := letterFitsUptoRow.holds Tryz.pinned (OpenSpec.upto letterFitsSpec)

end Rows
end Go.Proofs.YtmeiadgpglpelaaGreat
