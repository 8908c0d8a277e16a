/-
  No cell of these rows narrows 'for every input' (looked for: loops, veiled, ifaces, maps, wideKeys, modest, calm, conditions, laid).
  DERIVED. THE GIVEN ROWS OF THIS SEAT. 6 by the template 'for every input the law returns true; each argument reads behind the call as it read before'; 0 by the template 'total and deterministic' (their statements: YtjfileaidgknjaaTotals.lean).
  GIVEN WITH THE SEED: the statements are not yours to turn. If you find one false, say at which input.
  Laid BY PROGRAM, IN A SANDBOX (cutbox-rows.mjs): the forced cells as the released guide's own fill.sh prints them over the translation 5e903f4be424380e… (all of the seat's roots in one cut). By AI agents, Wed Nov 11 2026. No macro, syntax, notation, axiom, sorry.
-/
import Derived.Test.YtjfileaidgknjaaChecked
import GoSem.Claim
import GoSem.ClaimJoined
import GoSem.ClaimMapViews
import Derived.JoinedTies
import Derived.KernelRfl
namespace Go.Proofs.Ytjfileaidgknjaa
/- THE CELL 'sum', in the pinned program and in every row, IS THE sha256 OF THE DUMP (.gsa) THAT YtjfileaidgknjaaProg.lean LOADS. Nothing in Lean hashes anything: it is a label: what it is worth is what the hold of that sum in a sandbox is worth. -/
noncomputable def Try.pinned : Pinned := { name := "ytjfileaidgknjaa", sum := "5e903f4be424380ef23fafb4dbff76a6ae308ecfd97f29b8ba67f8a76a2e62b1", checked := Try.checked }
namespace Rows
def none {H : Type} : Left H := { results := [], args := [] }

/-- 'entrepotlaw09.UploadScript': WHATEVER THE INPUT: true; the input reads as it did. -/
def uploadScriptSpec : ChangeSpec := { name := "uploadScript", fn := fun _ => fun
  | [d1, d2] => { results := [.lit (.bool true)], args := [d1, d2] }
  | _ => none }
def uploadScriptRow : OpenClaim := { program := "ytjfileaidgknjaa", sum := "5e903f4be424380ef23fafb4dbff76a6ae308ecfd97f29b8ba67f8a76a2e62b1", func := "entrepot/entrepotlaw09.UploadScript", spec := "uploadScript", unfollowed := true, recurses := true, apart := false }
def UploadScriptSaid : Prop := uploadScriptRow.holds Try.pinned (OpenSpec.ofChange uploadScriptSpec)

/-- ITS FALSE NEIGHBOUR: 'it returns false'. Refute it at one input. -/
def uploadScriptWrong : ChangeSpec := { name := "uploadScript", fn := fun _ => fun
  | [d1, d2] => { results := [.lit (.bool false)], args := [d1, d2] }
  | _ => none }
def UploadScriptWrongFalsely : Prop := uploadScriptRow.holds Try.pinned (OpenSpec.ofChange uploadScriptWrong)

/-- 'entrepotlaw09.UploadLoads': WHATEVER THE INPUT: true; the input reads as it did. -/
def uploadLoadsSpec : ChangeSpec := { name := "uploadLoads", fn := fun _ => fun
  | [d1, d2, d3, d4] => { results := [.lit (.bool true)], args := [d1, d2, d3, d4] }
  | _ => none }
def uploadLoadsRow : OpenClaim := { program := "ytjfileaidgknjaa", sum := "5e903f4be424380ef23fafb4dbff76a6ae308ecfd97f29b8ba67f8a76a2e62b1", func := "entrepot/entrepotlaw09.UploadLoads", spec := "uploadLoads", unfollowed := true, recurses := true, apart := false }
def UploadLoadsSaid : Prop := uploadLoadsRow.holds Try.pinned (OpenSpec.ofChange uploadLoadsSpec)

/-- ITS FALSE NEIGHBOUR: 'it returns false'. Refute it at one input. -/
def uploadLoadsWrong : ChangeSpec := { name := "uploadLoads", fn := fun _ => fun
  | [d1, d2, d3, d4] => { results := [.lit (.bool false)], args := [d1, d2, d3, d4] }
  | _ => none }
def UploadLoadsWrongFalsely : Prop := uploadLoadsRow.holds Try.pinned (OpenSpec.ofChange uploadLoadsWrong)

/-- 'entrepotlaw09.UploadNone': WHATEVER THE INPUT: true; the input reads as it did. -/
def uploadNoneSpec : ChangeSpec := { name := "uploadNone", fn := fun _ => fun
  | [d1, d2, d3, d4] => { results := [.lit (.bool true)], args := [d1, d2, d3, d4] }
  | _ => none }
def uploadNoneRow : OpenClaim := { program := "ytjfileaidgknjaa", sum := "5e903f4be424380ef23fafb4dbff76a6ae308ecfd97f29b8ba67f8a76a2e62b1", func := "entrepot/entrepotlaw09.UploadNone", spec := "uploadNone", unfollowed := true, recurses := true, apart := false }
def UploadNoneSaid : Prop := uploadNoneRow.holds Try.pinned (OpenSpec.ofChange uploadNoneSpec)

/-- ITS FALSE NEIGHBOUR: 'it returns false'. Refute it at one input. -/
def uploadNoneWrong : ChangeSpec := { name := "uploadNone", fn := fun _ => fun
  | [d1, d2, d3, d4] => { results := [.lit (.bool false)], args := [d1, d2, d3, d4] }
  | _ => none }
def UploadNoneWrongFalsely : Prop := uploadNoneRow.holds Try.pinned (OpenSpec.ofChange uploadNoneWrong)

/-- 'entrepotlaw09.UploadKnown': WHATEVER THE INPUT: true; the input reads as it did. -/
def uploadKnownSpec : ChangeSpec := { name := "uploadKnown", fn := fun _ => fun
  | [] => { results := [.lit (.bool true)], args := [] }
  | _ => none }
def uploadKnownRow : OpenClaim := { program := "ytjfileaidgknjaa", sum := "5e903f4be424380ef23fafb4dbff76a6ae308ecfd97f29b8ba67f8a76a2e62b1", func := "entrepot/entrepotlaw09.UploadKnown", spec := "uploadKnown", unfollowed := true, recurses := true, apart := false }
def UploadKnownSaid : Prop := uploadKnownRow.holds Try.pinned (OpenSpec.ofChange uploadKnownSpec)

/-- ITS FALSE NEIGHBOUR: 'it returns false'. Refute it at one input. -/
def uploadKnownWrong : ChangeSpec := { name := "uploadKnown", fn := fun _ => fun
  | [] => { results := [.lit (.bool false)], args := [] }
  | _ => none }
def UploadKnownWrongFalsely : Prop := uploadKnownRow.holds Try.pinned (OpenSpec.ofChange uploadKnownWrong)

/-- 'entrepotlaw09.UploadPieces': WHATEVER THE INPUT: true; the input reads as it did. -/
def uploadPiecesSpec : ChangeSpec := { name := "uploadPieces", fn := fun _ => fun
  | [d1, d2, d3] => { results := [.lit (.bool true)], args := [d1, d2, d3] }
  | _ => none }
def uploadPiecesRow : OpenClaim := { program := "ytjfileaidgknjaa", sum := "5e903f4be424380ef23fafb4dbff76a6ae308ecfd97f29b8ba67f8a76a2e62b1", func := "entrepot/entrepotlaw09.UploadPieces", spec := "uploadPieces", unfollowed := true, recurses := true, apart := false }
def UploadPiecesSaid : Prop := uploadPiecesRow.holds Try.pinned (OpenSpec.ofChange uploadPiecesSpec)

/-- ITS FALSE NEIGHBOUR: 'it returns false'. Refute it at one input. -/
def uploadPiecesWrong : ChangeSpec := { name := "uploadPieces", fn := fun _ => fun
  | [d1, d2, d3] => { results := [.lit (.bool false)], args := [d1, d2, d3] }
  | _ => none }
def UploadPiecesWrongFalsely : Prop := uploadPiecesRow.holds Try.pinned (OpenSpec.ofChange uploadPiecesWrong)

/-- 'entrepotlaw09.UploadResumes': WHATEVER THE INPUT: true; the input reads as it did. -/
def uploadResumesSpec : ChangeSpec := { name := "uploadResumes", fn := fun _ => fun
  | [d1, d2, d3] => { results := [.lit (.bool true)], args := [d1, d2, d3] }
  | _ => none }
def uploadResumesRow : OpenClaim := { program := "ytjfileaidgknjaa", sum := "5e903f4be424380ef23fafb4dbff76a6ae308ecfd97f29b8ba67f8a76a2e62b1", func := "entrepot/entrepotlaw09.UploadResumes", spec := "uploadResumes", unfollowed := true, recurses := true, apart := false }
def UploadResumesSaid : Prop := uploadResumesRow.holds Try.pinned (OpenSpec.ofChange uploadResumesSpec)

/-- ITS FALSE NEIGHBOUR: 'it returns false'. Refute it at one input. -/
def uploadResumesWrong : ChangeSpec := { name := "uploadResumes", fn := fun _ => fun
  | [d1, d2, d3] => { results := [.lit (.bool false)], args := [d1, d2, d3] }
  | _ => none }
def UploadResumesWrongFalsely : Prop := uploadResumesRow.holds Try.pinned (OpenSpec.ofChange uploadResumesWrong)

/- THE SECOND FORM. 'bulk': how many values and letters a reading holds, each counted each time it is reached (what is shared counts as often as it is met; a slice's spare places count too). A statement '..UptoSaid' is the law's where the arguments, and the package variables that the reading takes, are together of bulk at most 1048576: NARROWER than '..Said'. Prove '..Said' where nothing that the law and all that it calls make is longer than what came in: it says more and counts as full. Else prove '..UptoSaid'. A law counts once. -/
mutual
def uptoBulk {H : Type} : DataW H → Nat
  | .lit (.string bytes) => bytes.length + 1
  | .lit _ => 1
  | .nil => 1
  | .ptr d => uptoBulk d + 1
  | .slice elems spare => uptoBulkAll elems + uptoBulkAll spare + 1
  | .agg parts => uptoBulkAll parts + 1
  | .iface _ d => uptoBulk d + 1
  | .map entries => uptoBulkEntries entries + 1
  | .held _ => 1
def uptoBulkAll {H : Type} : List (DataW H) → Nat
  | [] => 0
  | d :: r => uptoBulk d + uptoBulkAll r
def uptoBulkEntries {H : Type} : List (Lit × DataW H) → Nat
  | [] => 0
  | x :: r => uptoBulkEntry x + uptoBulkEntries r
def uptoBulkEntry {H : Type} : Lit × DataW H → Nat
  | (.string bytes, d) => bytes.length + uptoBulk d + 1
  | (_, d) => uptoBulk d + 1
 end
def uptoSmall : (H : Type) → List (DataW H) → Bool := fun _ ds => decide (uptoBulkAll ds ≤ 1048576)
def OpenSpec.upto (s : _root_.Go.ChangeSpec) : _root_.Go.OpenSpec := { _root_.Go.OpenSpec.ofChange s with cond := some uptoSmall }

/-- 'entrepotlaw09.UploadScript', WHERE WHAT IT READS IS OF BULK AT MOST 1048576: true; the input reads as it did. -/
def uploadScriptUptoRow : OpenClaim := { program := "ytjfileaidgknjaa", sum := "5e903f4be424380ef23fafb4dbff76a6ae308ecfd97f29b8ba67f8a76a2e62b1", func := "entrepot/entrepotlaw09.UploadScript", spec := "uploadScript", unfollowed := true, recurses := true, apart := false, narrowed := true }
def UploadScriptUptoSaid : Prop := uploadScriptUptoRow.holds Try.pinned (OpenSpec.upto uploadScriptSpec)

/-- 'entrepotlaw09.UploadLoads', WHERE WHAT IT READS IS OF BULK AT MOST 1048576: true; the input reads as it did. -/
def uploadLoadsUptoRow : OpenClaim := { program := "ytjfileaidgknjaa", sum := "5e903f4be424380ef23fafb4dbff76a6ae308ecfd97f29b8ba67f8a76a2e62b1", func := "entrepot/entrepotlaw09.UploadLoads", spec := "uploadLoads", unfollowed := true, recurses := true, apart := false, narrowed := true }
def UploadLoadsUptoSaid : Prop := uploadLoadsUptoRow.holds Try.pinned (OpenSpec.upto uploadLoadsSpec)

/-- 'entrepotlaw09.UploadNone', WHERE WHAT IT READS IS OF BULK AT MOST 1048576: true; the input reads as it did. -/
def uploadNoneUptoRow : OpenClaim := { program := "ytjfileaidgknjaa", sum := "5e903f4be424380ef23fafb4dbff76a6ae308ecfd97f29b8ba67f8a76a2e62b1", func := "entrepot/entrepotlaw09.UploadNone", spec := "uploadNone", unfollowed := true, recurses := true, apart := false, narrowed := true }
def UploadNoneUptoSaid : Prop := uploadNoneUptoRow.holds Try.pinned (OpenSpec.upto uploadNoneSpec)

/-- 'entrepotlaw09.UploadKnown', WHERE WHAT IT READS IS OF BULK AT MOST 1048576: true; the input reads as it did. -/
def uploadKnownUptoRow : OpenClaim := { program := "ytjfileaidgknjaa", sum := "5e903f4be424380ef23fafb4dbff76a6ae308ecfd97f29b8ba67f8a76a2e62b1", func := "entrepot/entrepotlaw09.UploadKnown", spec := "uploadKnown", unfollowed := true, recurses := true, apart := false, narrowed := true }
def UploadKnownUptoSaid : Prop := uploadKnownUptoRow.holds Try.pinned (OpenSpec.upto uploadKnownSpec)

/-- 'entrepotlaw09.UploadPieces', WHERE WHAT IT READS IS OF BULK AT MOST 1048576: true; the input reads as it did. -/
def uploadPiecesUptoRow : OpenClaim := { program := "ytjfileaidgknjaa", sum := "5e903f4be424380ef23fafb4dbff76a6ae308ecfd97f29b8ba67f8a76a2e62b1", func := "entrepot/entrepotlaw09.UploadPieces", spec := "uploadPieces", unfollowed := true, recurses := true, apart := false, narrowed := true }
def UploadPiecesUptoSaid : Prop := uploadPiecesUptoRow.holds Try.pinned (OpenSpec.upto uploadPiecesSpec)

/-- 'entrepotlaw09.UploadResumes', WHERE WHAT IT READS IS OF BULK AT MOST 1048576: true; the input reads as it did. -/
def uploadResumesUptoRow : OpenClaim := { program := "ytjfileaidgknjaa", sum := "5e903f4be424380ef23fafb4dbff76a6ae308ecfd97f29b8ba67f8a76a2e62b1", func := "entrepot/entrepotlaw09.UploadResumes", spec := "uploadResumes", unfollowed := true, recurses := true, apart := false, narrowed := true }
def UploadResumesUptoSaid : Prop := uploadResumesUptoRow.holds Try.pinned (OpenSpec.upto uploadResumesSpec)

end Rows
end Go.Proofs.Ytjfileaidgknjaa
