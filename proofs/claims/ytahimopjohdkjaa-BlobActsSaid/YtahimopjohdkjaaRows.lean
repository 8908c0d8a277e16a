/-
  No cell of these rows narrows 'for every input' (looked for: loops, veiled, ifaces, maps, wideKeys, modest, calm, conditions, laid).
  DERIVED. THE GIVEN ROWS OF THIS SEAT. 5 by the template 'for every input the law returns true; each argument reads behind the call as it read before'; 0 by the template 'total and deterministic' (their statements: YtahimopjohdkjaaTotals.lean).
  GIVEN WITH THE SEED: the statements are not yours to turn. If you find one false, say at which input.
  Laid BY PROGRAM, IN A SANDBOX (cutbox-rows.mjs): the forced cells as the released guide's own fill.sh prints them over the translation 40d8a93743e9badc… (all of the seat's roots in one cut). By AI agents, Wed Nov 11 2026. No macro, syntax, notation, axiom, sorry.
-/
import Derived.Test.YtahimopjohdkjaaChecked
import GoSem.Claim
import GoSem.ClaimJoined
import GoSem.ClaimMapViews
import Derived.JoinedTies
import Derived.KernelRfl
namespace Go.Proofs.Ytahimopjohdkjaa
/- THE CELL 'sum', in the pinned program and in every row, IS THE sha256 OF THE DUMP (.gsa) THAT YtahimopjohdkjaaProg.lean LOADS. Nothing in Lean hashes anything: it is a label: what it is worth is what the hold of that sum in a sandbox is worth. -/
noncomputable def Try.pinned : Pinned := { name := "ytahimopjohdkjaa", sum := "40d8a93743e9badcb1b1778c2b6cb01aa14563fa747581567c392788360ad2bd", checked := Try.checked }
namespace Rows
def none {H : Type} : Left H := { results := [], args := [] }

/-- 'entrepotlaw08.BlobActs': WHATEVER THE INPUT: true; the input reads as it did. -/
def blobActsSpec : ChangeSpec := { name := "blobActs", fn := fun _ => fun
  | [d1, d2, d3] => { results := [.lit (.bool true)], args := [d1, d2, d3] }
  | _ => none }
def blobActsRow : OpenClaim := { program := "ytahimopjohdkjaa", sum := "40d8a93743e9badcb1b1778c2b6cb01aa14563fa747581567c392788360ad2bd", func := "entrepot/entrepotlaw08.BlobActs", spec := "blobActs", unfollowed := true, recurses := true, plainKeys := false, apart := false }
def BlobActsSaid : Prop := blobActsRow.holds Try.pinned (OpenSpec.ofChange blobActsSpec)

/-- ITS FALSE NEIGHBOUR: 'it returns false'. Refute it at one input. -/
def blobActsWrong : ChangeSpec := { name := "blobActs", fn := fun _ => fun
  | [d1, d2, d3] => { results := [.lit (.bool false)], args := [d1, d2, d3] }
  | _ => none }
def BlobActsWrongFalsely : Prop := blobActsRow.holds Try.pinned (OpenSpec.ofChange blobActsWrong)

/-- 'entrepotlaw08.BlobNone': WHATEVER THE INPUT: true; the input reads as it did. -/
def blobNoneSpec : ChangeSpec := { name := "blobNone", fn := fun _ => fun
  | [d1, d2] => { results := [.lit (.bool true)], args := [d1, d2] }
  | _ => none }
def blobNoneRow : OpenClaim := { program := "ytahimopjohdkjaa", sum := "40d8a93743e9badcb1b1778c2b6cb01aa14563fa747581567c392788360ad2bd", func := "entrepot/entrepotlaw08.BlobNone", spec := "blobNone", unfollowed := true, recurses := true, plainKeys := false, apart := false }
def BlobNoneSaid : Prop := blobNoneRow.holds Try.pinned (OpenSpec.ofChange blobNoneSpec)

/-- ITS FALSE NEIGHBOUR: 'it returns false'. Refute it at one input. -/
def blobNoneWrong : ChangeSpec := { name := "blobNone", fn := fun _ => fun
  | [d1, d2] => { results := [.lit (.bool false)], args := [d1, d2] }
  | _ => none }
def BlobNoneWrongFalsely : Prop := blobNoneRow.holds Try.pinned (OpenSpec.ofChange blobNoneWrong)

/-- 'entrepotlaw08.BlobKnown': WHATEVER THE INPUT: true; the input reads as it did. -/
def blobKnownSpec : ChangeSpec := { name := "blobKnown", fn := fun _ => fun
  | [] => { results := [.lit (.bool true)], args := [] }
  | _ => none }
def blobKnownRow : OpenClaim := { program := "ytahimopjohdkjaa", sum := "40d8a93743e9badcb1b1778c2b6cb01aa14563fa747581567c392788360ad2bd", func := "entrepot/entrepotlaw08.BlobKnown", spec := "blobKnown", unfollowed := true, recurses := true, plainKeys := false, apart := false }
def BlobKnownSaid : Prop := blobKnownRow.holds Try.pinned (OpenSpec.ofChange blobKnownSpec)

/-- ITS FALSE NEIGHBOUR: 'it returns false'. Refute it at one input. -/
def blobKnownWrong : ChangeSpec := { name := "blobKnown", fn := fun _ => fun
  | [] => { results := [.lit (.bool false)], args := [] }
  | _ => none }
def BlobKnownWrongFalsely : Prop := blobKnownRow.holds Try.pinned (OpenSpec.ofChange blobKnownWrong)

/-- 'entrepotlaw08.BlobHolds': WHATEVER THE INPUT: true; the input reads as it did. -/
def blobHoldsSpec : ChangeSpec := { name := "blobHolds", fn := fun _ => fun
  | [d1, d2, d3, d4] => { results := [.lit (.bool true)], args := [d1, d2, d3, d4] }
  | _ => none }
def blobHoldsRow : OpenClaim := { program := "ytahimopjohdkjaa", sum := "40d8a93743e9badcb1b1778c2b6cb01aa14563fa747581567c392788360ad2bd", func := "entrepot/entrepotlaw08.BlobHolds", spec := "blobHolds", inPlace := ["internal/bytealg.Compare"], unfollowed := true, recurses := true, plainKeys := false, apart := false }
def BlobHoldsSaid : Prop := blobHoldsRow.holds Try.pinned (OpenSpec.ofChange blobHoldsSpec)

/-- ITS FALSE NEIGHBOUR: 'it returns false'. Refute it at one input. -/
def blobHoldsWrong : ChangeSpec := { name := "blobHolds", fn := fun _ => fun
  | [d1, d2, d3, d4] => { results := [.lit (.bool false)], args := [d1, d2, d3, d4] }
  | _ => none }
def BlobHoldsWrongFalsely : Prop := blobHoldsRow.holds Try.pinned (OpenSpec.ofChange blobHoldsWrong)

/-- 'entrepotlaw08.BlobConflict': WHATEVER THE INPUT: true; the input reads as it did. -/
def blobConflictSpec : ChangeSpec := { name := "blobConflict", fn := fun _ => fun
  | [d] => { results := [.lit (.bool true)], args := [d] }
  | _ => none }
def blobConflictRow : OpenClaim := { program := "ytahimopjohdkjaa", sum := "40d8a93743e9badcb1b1778c2b6cb01aa14563fa747581567c392788360ad2bd", func := "entrepot/entrepotlaw08.BlobConflict", spec := "blobConflict", unfollowed := true, recurses := true, plainKeys := false, apart := false }
def BlobConflictSaid : Prop := blobConflictRow.holds Try.pinned (OpenSpec.ofChange blobConflictSpec)

/-- ITS FALSE NEIGHBOUR: 'it returns false'. Refute it at one input. -/
def blobConflictWrong : ChangeSpec := { name := "blobConflict", fn := fun _ => fun
  | [d] => { results := [.lit (.bool false)], args := [d] }
  | _ => none }
def BlobConflictWrongFalsely : Prop := blobConflictRow.holds Try.pinned (OpenSpec.ofChange blobConflictWrong)

/- THE SECOND FORM. 'bulk': how many values and letters a reading holds, each counted each time it is reached (what is shared counts as often as it is met; a slice's spare places count too). A statement '..UptoSaid' is the law's where the arguments, and the package variables that the reading takes, are together of bulk at most 1048576: NARROWER than '..Said'. Prove '..Said' where nothing that the law and all that it calls make is longer than what came in: it says more and counts as full. Else prove '..UptoSaid'. A law counts once. -/
mutual
def uptoBulk {H : Type} : DataW H → Nat
  | .lit (.string bytes) => bytes.length + 1
  | .lit _ => 1
  | .nil => 1
  | .ptr d => uptoBulk d + 1
  | .slice elems spare => uptoBulkAll elems + uptoBulkAll spare + 1
  | .agg parts => uptoBulkAll parts + 1
  | .iface _ d => uptoBulk d + 1
  | .map entries => uptoBulkEntries entries + 1
  | .held _ => 1
def uptoBulkAll {H : Type} : List (DataW H) → Nat
  | [] => 0
  | d :: r => uptoBulk d + uptoBulkAll r
def uptoBulkEntries {H : Type} : List (Lit × DataW H) → Nat
  | [] => 0
  | x :: r => uptoBulkEntry x + uptoBulkEntries r
def uptoBulkEntry {H : Type} : Lit × DataW H → Nat
  | (.string bytes, d) => bytes.length + uptoBulk d + 1
  | (_, d) => uptoBulk d + 1
 end
def uptoSmall : (H : Type) → List (DataW H) → Bool := fun _ ds => decide (uptoBulkAll ds ≤ 1048576)
def OpenSpec.upto (s : _root_.Go.ChangeSpec) : _root_.Go.OpenSpec := { _root_.Go.OpenSpec.ofChange s with cond := some uptoSmall }

/-- 'entrepotlaw08.BlobActs', WHERE WHAT IT READS IS OF BULK AT MOST 1048576: true; the input reads as it did. -/
def blobActsUptoRow : OpenClaim := { program := "ytahimopjohdkjaa", sum := "40d8a93743e9badcb1b1778c2b6cb01aa14563fa747581567c392788360ad2bd", func := "entrepot/entrepotlaw08.BlobActs", spec := "blobActs", unfollowed := true, recurses := true, plainKeys := false, apart := false, narrowed := true }
def BlobActsUptoSaid : Prop := blobActsUptoRow.holds Try.pinned (OpenSpec.upto blobActsSpec)

/-- 'entrepotlaw08.BlobNone', WHERE WHAT IT READS IS OF BULK AT MOST 1048576: true; the input reads as it did. -/
def blobNoneUptoRow : OpenClaim := { program := "ytahimopjohdkjaa", sum := "40d8a93743e9badcb1b1778c2b6cb01aa14563fa747581567c392788360ad2bd", func := "entrepot/entrepotlaw08.BlobNone", spec := "blobNone", unfollowed := true, recurses := true, plainKeys := false, apart := false, narrowed := true }
def BlobNoneUptoSaid : Prop := blobNoneUptoRow.holds Try.pinned (OpenSpec.upto blobNoneSpec)

/-- 'entrepotlaw08.BlobKnown', WHERE WHAT IT READS IS OF BULK AT MOST 1048576: true; the input reads as it did. -/
def blobKnownUptoRow : OpenClaim := { program := "ytahimopjohdkjaa", sum := "40d8a93743e9badcb1b1778c2b6cb01aa14563fa747581567c392788360ad2bd", func := "entrepot/entrepotlaw08.BlobKnown", spec := "blobKnown", unfollowed := true, recurses := true, plainKeys := false, apart := false, narrowed := true }
def BlobKnownUptoSaid : Prop := blobKnownUptoRow.holds Try.pinned (OpenSpec.upto blobKnownSpec)

/-- 'entrepotlaw08.BlobHolds', WHERE WHAT IT READS IS OF BULK AT MOST 1048576: true; the input reads as it did. -/
def blobHoldsUptoRow : OpenClaim := { program := "ytahimopjohdkjaa", sum := "40d8a93743e9badcb1b1778c2b6cb01aa14563fa747581567c392788360ad2bd", func := "entrepot/entrepotlaw08.BlobHolds", spec := "blobHolds", inPlace := ["internal/bytealg.Compare"], unfollowed := true, recurses := true, plainKeys := false, apart := false, narrowed := true }
def BlobHoldsUptoSaid : Prop := blobHoldsUptoRow.holds Try.pinned (OpenSpec.upto blobHoldsSpec)

/-- 'entrepotlaw08.BlobConflict', WHERE WHAT IT READS IS OF BULK AT MOST 1048576: true; the input reads as it did. -/
def blobConflictUptoRow : OpenClaim := { program := "ytahimopjohdkjaa", sum := "40d8a93743e9badcb1b1778c2b6cb01aa14563fa747581567c392788360ad2bd", func := "entrepot/entrepotlaw08.BlobConflict", spec := "blobConflict", unfollowed := true, recurses := true, plainKeys := false, apart := false, narrowed := true }
def BlobConflictUptoSaid : Prop := blobConflictUptoRow.holds Try.pinned (OpenSpec.upto blobConflictSpec)

end Rows
end Go.Proofs.Ytahimopjohdkjaa
