/-
  No cell of these rows narrows 'for every input' (looked for: loops, veiled, ifaces, maps, wideKeys, modest, calm, conditions, laid).
  DERIVED. THE GIVEN ROWS OF THIS SEAT. 12 by the template 'for every input the law returns true; each argument reads behind the call as it read before'; 0 by the template 'total and deterministic' (their statements: YtklhfhnplldgjaaTotals.lean).
  GIVEN WITH THE SEED: the statements are not yours to turn. If you find one false, say at which input.
  Laid BY PROGRAM, IN A SANDBOX (cutbox-rows.mjs): the forced cells as the released guide's own fill.sh prints them over the translation 77133ed5d786aa2b… (all of the seat's roots in one cut). By AI agents, Wed Nov 11 2026. No macro, syntax, notation, axiom, sorry.
-/
import Derived.Test.YtklhfhnplldgjaaChecked
import GoSem.Claim
import GoSem.ClaimJoined
import GoSem.ClaimMapViews
import Derived.JoinedTies
import Derived.KernelRfl
namespace Go.Proofs.Ytklhfhnplldgjaa
/- THE CELL 'sum', in the pinned program and in every row, IS THE sha256 OF THE DUMP (.gsa) THAT YtklhfhnplldgjaaProg.lean LOADS. Nothing in Lean hashes anything: it is a label: what it is worth is what the hold of that sum in a sandbox is worth. -/
noncomputable def Try.pinned : Pinned := { name := "ytklhfhnplldgjaa", sum := "77133ed5d786aa2b614364b93f8ffc3dcbb2b9086e65e7ce9f01c7c09f8e0a87", checked := Try.checked }
namespace Rows
def none {H : Type} : Left H := { results := [], args := [] }

/-- 'laws.FnExactStartStack': WHATEVER THE INPUT: true; the input reads as it did. -/
def fnExactStartStackSpec : ChangeSpec := { name := "fnExactStartStack", fn := fun _ => fun
  | [d] => { results := [.lit (.bool true)], args := [d] }
  | _ => none }
def fnExactStartStackRow : OpenClaim := { program := "ytklhfhnplldgjaa", sum := "77133ed5d786aa2b614364b93f8ffc3dcbb2b9086e65e7ce9f01c7c09f8e0a87", func := "loop.example/g00251/laws.FnExactStartStack", spec := "fnExactStartStack", apart := false }
def FnExactStartStackSaid : Prop := fnExactStartStackRow.holds Try.pinned (OpenSpec.ofChange fnExactStartStackSpec)

/-- ITS FALSE NEIGHBOUR: 'it returns false'. Refute it at one input. -/
def fnExactStartStackWrong : ChangeSpec := { name := "fnExactStartStack", fn := fun _ => fun
  | [d] => { results := [.lit (.bool false)], args := [d] }
  | _ => none }
def FnExactStartStackWrongFalsely : Prop := fnExactStartStackRow.holds Try.pinned (OpenSpec.ofChange fnExactStartStackWrong)

/-- 'laws.FnExactBadBlock': WHATEVER THE INPUT: true; the input reads as it did. -/
def fnExactBadBlockSpec : ChangeSpec := { name := "fnExactBadBlock", fn := fun _ => fun
  | [d1, d2] => { results := [.lit (.bool true)], args := [d1, d2] }
  | _ => none }
def fnExactBadBlockRow : OpenClaim := { program := "ytklhfhnplldgjaa", sum := "77133ed5d786aa2b614364b93f8ffc3dcbb2b9086e65e7ce9f01c7c09f8e0a87", func := "loop.example/g00251/laws.FnExactBadBlock", spec := "fnExactBadBlock", apart := false }
def FnExactBadBlockSaid : Prop := fnExactBadBlockRow.holds Try.pinned (OpenSpec.ofChange fnExactBadBlockSpec)

/-- ITS FALSE NEIGHBOUR: 'it returns false'. Refute it at one input. -/
def fnExactBadBlockWrong : ChangeSpec := { name := "fnExactBadBlock", fn := fun _ => fun
  | [d1, d2] => { results := [.lit (.bool false)], args := [d1, d2] }
  | _ => none }
def FnExactBadBlockWrongFalsely : Prop := fnExactBadBlockRow.holds Try.pinned (OpenSpec.ofChange fnExactBadBlockWrong)

/-- 'laws.FnExactBlockSums': WHATEVER THE INPUT: true; the input reads as it did. -/
def fnExactBlockSumsSpec : ChangeSpec := { name := "fnExactBlockSums", fn := fun _ => fun
  | [d] => { results := [.lit (.bool true)], args := [d] }
  | _ => none }
def fnExactBlockSumsRow : OpenClaim := { program := "ytklhfhnplldgjaa", sum := "77133ed5d786aa2b614364b93f8ffc3dcbb2b9086e65e7ce9f01c7c09f8e0a87", func := "loop.example/g00251/laws.FnExactBlockSums", spec := "fnExactBlockSums", apart := false }
def FnExactBlockSumsSaid : Prop := fnExactBlockSumsRow.holds Try.pinned (OpenSpec.ofChange fnExactBlockSumsSpec)

/-- ITS FALSE NEIGHBOUR: 'it returns false'. Refute it at one input. -/
def fnExactBlockSumsWrong : ChangeSpec := { name := "fnExactBlockSums", fn := fun _ => fun
  | [d] => { results := [.lit (.bool false)], args := [d] }
  | _ => none }
def FnExactBlockSumsWrongFalsely : Prop := fnExactBlockSumsRow.holds Try.pinned (OpenSpec.ofChange fnExactBlockSumsWrong)

/-- 'laws.FnTurns': WHATEVER THE INPUT: true; the input reads as it did. -/
def fnTurnsSpec : ChangeSpec := { name := "fnTurns", fn := fun _ => fun
  | [d] => { results := [.lit (.bool true)], args := [d] }
  | _ => none }
def fnTurnsRow : OpenClaim := { program := "ytklhfhnplldgjaa", sum := "77133ed5d786aa2b614364b93f8ffc3dcbb2b9086e65e7ce9f01c7c09f8e0a87", func := "loop.example/g00251/laws.FnTurns", spec := "fnTurns", apart := false }
def FnTurnsSaid : Prop := fnTurnsRow.holds Try.pinned (OpenSpec.ofChange fnTurnsSpec)

/-- ITS FALSE NEIGHBOUR: 'it returns false'. Refute it at one input. -/
def fnTurnsWrong : ChangeSpec := { name := "fnTurns", fn := fun _ => fun
  | [d] => { results := [.lit (.bool false)], args := [d] }
  | _ => none }
def FnTurnsWrongFalsely : Prop := fnTurnsRow.holds Try.pinned (OpenSpec.ofChange fnTurnsWrong)

/-- 'laws.FnExactBlockStep': WHATEVER THE INPUT: true; the input reads as it did. -/
def fnExactBlockStepSpec : ChangeSpec := { name := "fnExactBlockStep", fn := fun _ => fun
  | [d1, d2, d3] => { results := [.lit (.bool true)], args := [d1, d2, d3] }
  | _ => none }
def fnExactBlockStepRow : OpenClaim := { program := "ytklhfhnplldgjaa", sum := "77133ed5d786aa2b614364b93f8ffc3dcbb2b9086e65e7ce9f01c7c09f8e0a87", func := "loop.example/g00251/laws.FnExactBlockStep", spec := "fnExactBlockStep", apart := false }
def FnExactBlockStepSaid : Prop := fnExactBlockStepRow.holds Try.pinned (OpenSpec.ofChange fnExactBlockStepSpec)

/-- ITS FALSE NEIGHBOUR: 'it returns false'. Refute it at one input. -/
def fnExactBlockStepWrong : ChangeSpec := { name := "fnExactBlockStep", fn := fun _ => fun
  | [d1, d2, d3] => { results := [.lit (.bool false)], args := [d1, d2, d3] }
  | _ => none }
def FnExactBlockStepWrongFalsely : Prop := fnExactBlockStepRow.holds Try.pinned (OpenSpec.ofChange fnExactBlockStepWrong)

/-- 'laws.FnExactStartRegs': WHATEVER THE INPUT: true; the input reads as it did. -/
def fnExactStartRegsSpec : ChangeSpec := { name := "fnExactStartRegs", fn := fun _ => fun
  | [d] => { results := [.lit (.bool true)], args := [d] }
  | _ => none }
def fnExactStartRegsRow : OpenClaim := { program := "ytklhfhnplldgjaa", sum := "77133ed5d786aa2b614364b93f8ffc3dcbb2b9086e65e7ce9f01c7c09f8e0a87", func := "loop.example/g00251/laws.FnExactStartRegs", spec := "fnExactStartRegs", apart := false }
def FnExactStartRegsSaid : Prop := fnExactStartRegsRow.holds Try.pinned (OpenSpec.ofChange fnExactStartRegsSpec)

/-- ITS FALSE NEIGHBOUR: 'it returns false'. Refute it at one input. -/
def fnExactStartRegsWrong : ChangeSpec := { name := "fnExactStartRegs", fn := fun _ => fun
  | [d] => { results := [.lit (.bool false)], args := [d] }
  | _ => none }
def FnExactStartRegsWrongFalsely : Prop := fnExactStartRegsRow.holds Try.pinned (OpenSpec.ofChange fnExactStartRegsWrong)

/-- 'laws.FnBlocksteps': WHATEVER THE INPUT: true; the input reads as it did. -/
def fnBlockstepsSpec : ChangeSpec := { name := "fnBlocksteps", fn := fun _ => fun
  | [d] => { results := [.lit (.bool true)], args := [d] }
  | _ => none }
def fnBlockstepsRow : OpenClaim := { program := "ytklhfhnplldgjaa", sum := "77133ed5d786aa2b614364b93f8ffc3dcbb2b9086e65e7ce9f01c7c09f8e0a87", func := "loop.example/g00251/laws.FnBlocksteps", spec := "fnBlocksteps", apart := false }
def FnBlockstepsSaid : Prop := fnBlockstepsRow.holds Try.pinned (OpenSpec.ofChange fnBlockstepsSpec)

/-- ITS FALSE NEIGHBOUR: 'it returns false'. Refute it at one input. -/
def fnBlockstepsWrong : ChangeSpec := { name := "fnBlocksteps", fn := fun _ => fun
  | [d] => { results := [.lit (.bool false)], args := [d] }
  | _ => none }
def FnBlockstepsWrongFalsely : Prop := fnBlockstepsRow.holds Try.pinned (OpenSpec.ofChange fnBlockstepsWrong)

/-- 'laws.FnExactHasCalls': WHATEVER THE INPUT: true; the input reads as it did. -/
def fnExactHasCallsSpec : ChangeSpec := { name := "fnExactHasCalls", fn := fun _ => fun
  | [d] => { results := [.lit (.bool true)], args := [d] }
  | _ => none }
def fnExactHasCallsRow : OpenClaim := { program := "ytklhfhnplldgjaa", sum := "77133ed5d786aa2b614364b93f8ffc3dcbb2b9086e65e7ce9f01c7c09f8e0a87", func := "loop.example/g00251/laws.FnExactHasCalls", spec := "fnExactHasCalls", unfollowed := true, recurses := true, apart := false }
def FnExactHasCallsSaid : Prop := fnExactHasCallsRow.holds Try.pinned (OpenSpec.ofChange fnExactHasCallsSpec)

/-- ITS FALSE NEIGHBOUR: 'it returns false'. Refute it at one input. -/
def fnExactHasCallsWrong : ChangeSpec := { name := "fnExactHasCalls", fn := fun _ => fun
  | [d] => { results := [.lit (.bool false)], args := [d] }
  | _ => none }
def FnExactHasCallsWrongFalsely : Prop := fnExactHasCallsRow.holds Try.pinned (OpenSpec.ofChange fnExactHasCallsWrong)

/-- 'laws.FnExactDepthOf': WHATEVER THE INPUT: true; the input reads as it did. -/
def fnExactDepthOfSpec : ChangeSpec := { name := "fnExactDepthOf", fn := fun _ => fun
  | [d1, d2] => { results := [.lit (.bool true)], args := [d1, d2] }
  | _ => none }
def fnExactDepthOfRow : OpenClaim := { program := "ytklhfhnplldgjaa", sum := "77133ed5d786aa2b614364b93f8ffc3dcbb2b9086e65e7ce9f01c7c09f8e0a87", func := "loop.example/g00251/laws.FnExactDepthOf", spec := "fnExactDepthOf", apart := false }
def FnExactDepthOfSaid : Prop := fnExactDepthOfRow.holds Try.pinned (OpenSpec.ofChange fnExactDepthOfSpec)

/-- ITS FALSE NEIGHBOUR: 'it returns false'. Refute it at one input. -/
def fnExactDepthOfWrong : ChangeSpec := { name := "fnExactDepthOf", fn := fun _ => fun
  | [d1, d2] => { results := [.lit (.bool false)], args := [d1, d2] }
  | _ => none }
def FnExactDepthOfWrongFalsely : Prop := fnExactDepthOfRow.holds Try.pinned (OpenSpec.ofChange fnExactDepthOfWrong)

/-- 'laws.FnExactTreeFault': WHATEVER THE INPUT: true; the input reads as it did. -/
def fnExactTreeFaultSpec : ChangeSpec := { name := "fnExactTreeFault", fn := fun _ => fun
  | [d] => { results := [.lit (.bool true)], args := [d] }
  | _ => none }
def fnExactTreeFaultRow : OpenClaim := { program := "ytklhfhnplldgjaa", sum := "77133ed5d786aa2b614364b93f8ffc3dcbb2b9086e65e7ce9f01c7c09f8e0a87", func := "loop.example/g00251/laws.FnExactTreeFault", spec := "fnExactTreeFault", unfollowed := true, recurses := true, apart := false }
def FnExactTreeFaultSaid : Prop := fnExactTreeFaultRow.holds Try.pinned (OpenSpec.ofChange fnExactTreeFaultSpec)

/-- ITS FALSE NEIGHBOUR: 'it returns false'. Refute it at one input. -/
def fnExactTreeFaultWrong : ChangeSpec := { name := "fnExactTreeFault", fn := fun _ => fun
  | [d] => { results := [.lit (.bool false)], args := [d] }
  | _ => none }
def FnExactTreeFaultWrongFalsely : Prop := fnExactTreeFaultRow.holds Try.pinned (OpenSpec.ofChange fnExactTreeFaultWrong)

/-- 'laws.FnExactVarAt': WHATEVER THE INPUT: true; the input reads as it did. -/
def fnExactVarAtSpec : ChangeSpec := { name := "fnExactVarAt", fn := fun _ => fun
  | [d1, d2] => { results := [.lit (.bool true)], args := [d1, d2] }
  | _ => none }
def fnExactVarAtRow : OpenClaim := { program := "ytklhfhnplldgjaa", sum := "77133ed5d786aa2b614364b93f8ffc3dcbb2b9086e65e7ce9f01c7c09f8e0a87", func := "loop.example/g00251/laws.FnExactVarAt", spec := "fnExactVarAt", unfollowed := true, recurses := true, apart := false }
def FnExactVarAtSaid : Prop := fnExactVarAtRow.holds Try.pinned (OpenSpec.ofChange fnExactVarAtSpec)

/-- ITS FALSE NEIGHBOUR: 'it returns false'. Refute it at one input. -/
def fnExactVarAtWrong : ChangeSpec := { name := "fnExactVarAt", fn := fun _ => fun
  | [d1, d2] => { results := [.lit (.bool false)], args := [d1, d2] }
  | _ => none }
def FnExactVarAtWrongFalsely : Prop := fnExactVarAtRow.holds Try.pinned (OpenSpec.ofChange fnExactVarAtWrong)

/-- 'laws.FnExactStepStack': WHATEVER THE INPUT: true; the input reads as it did. -/
def fnExactStepStackSpec : ChangeSpec := { name := "fnExactStepStack", fn := fun _ => fun
  | [d1, d2] => { results := [.lit (.bool true)], args := [d1, d2] }
  | _ => none }
def fnExactStepStackRow : OpenClaim := { program := "ytklhfhnplldgjaa", sum := "77133ed5d786aa2b614364b93f8ffc3dcbb2b9086e65e7ce9f01c7c09f8e0a87", func := "loop.example/g00251/laws.FnExactStepStack", spec := "fnExactStepStack", unfollowed := true, recurses := true, apart := false }
def FnExactStepStackSaid : Prop := fnExactStepStackRow.holds Try.pinned (OpenSpec.ofChange fnExactStepStackSpec)

/-- ITS FALSE NEIGHBOUR: 'it returns false'. Refute it at one input. -/
def fnExactStepStackWrong : ChangeSpec := { name := "fnExactStepStack", fn := fun _ => fun
  | [d1, d2] => { results := [.lit (.bool false)], args := [d1, d2] }
  | _ => none }
def FnExactStepStackWrongFalsely : Prop := fnExactStepStackRow.holds Try.pinned (OpenSpec.ofChange fnExactStepStackWrong)

/- THE SECOND FORM. 'bulk': how many values and letters a reading holds, each counted each time it is reached (what is shared counts as often as it is met; a slice's spare places count too). A statement '..UptoSaid' is the law's where the arguments, and the package variables that the reading takes, are together of bulk at most 1048576: NARROWER than '..Said'. Prove '..Said' where nothing that the law and all that it calls make is longer than what came in: it says more and counts as full. Else prove '..UptoSaid'. A law counts once. -/
mutual
def uptoBulk {H : Type} : DataW H → Nat
  | .lit (.string bytes) => bytes.length + 1
  | .lit _ => 1
  | .nil => 1
  | .ptr d => uptoBulk d + 1
  | .slice elems spare => uptoBulkAll elems + uptoBulkAll spare + 1
  | .agg parts => uptoBulkAll parts + 1
  | .iface _ d => uptoBulk d + 1
  | .map entries => uptoBulkEntries entries + 1
  | .held _ => 1
def uptoBulkAll {H : Type} : List (DataW H) → Nat
  | [] => 0
  | d :: r => uptoBulk d + uptoBulkAll r
def uptoBulkEntries {H : Type} : List (Lit × DataW H) → Nat
  | [] => 0
  | x :: r => uptoBulkEntry x + uptoBulkEntries r
def uptoBulkEntry {H : Type} : Lit × DataW H → Nat
  | (.string bytes, d) => bytes.length + uptoBulk d + 1
  | (_, d) => uptoBulk d + 1
 end
def uptoSmall : (H : Type) → List (DataW H) → Bool := fun _ ds => decide (uptoBulkAll ds ≤ 1048576)
def OpenSpec.upto (s : _root_.Go.ChangeSpec) : _root_.Go.OpenSpec := { _root_.Go.OpenSpec.ofChange s with cond := some uptoSmall }

/-- 'laws.FnExactStartStack', WHERE WHAT IT READS IS OF BULK AT MOST 1048576: true; the input reads as it did. -/
def fnExactStartStackUptoRow : OpenClaim := { program := "ytklhfhnplldgjaa", sum := "77133ed5d786aa2b614364b93f8ffc3dcbb2b9086e65e7ce9f01c7c09f8e0a87", func := "loop.example/g00251/laws.FnExactStartStack", spec := "fnExactStartStack", apart := false, narrowed := true }
def FnExactStartStackUptoSaid : Prop := fnExactStartStackUptoRow.holds Try.pinned (OpenSpec.upto fnExactStartStackSpec)

/-- 'laws.FnExactBadBlock', WHERE WHAT IT READS IS OF BULK AT MOST 1048576: true; the input reads as it did. -/
def fnExactBadBlockUptoRow : OpenClaim := { program := "ytklhfhnplldgjaa", sum := "77133ed5d786aa2b614364b93f8ffc3dcbb2b9086e65e7ce9f01c7c09f8e0a87", func := "loop.example/g00251/laws.FnExactBadBlock", spec := "fnExactBadBlock", apart := false, narrowed := true }
def FnExactBadBlockUptoSaid : Prop := fnExactBadBlockUptoRow.holds Try.pinned (OpenSpec.upto fnExactBadBlockSpec)

/-- 'laws.FnExactBlockSums', WHERE WHAT IT READS IS OF BULK AT MOST 1048576: true; the input reads as it did. -/
def fnExactBlockSumsUptoRow : OpenClaim := { program := "ytklhfhnplldgjaa", sum := "77133ed5d786aa2b614364b93f8ffc3dcbb2b9086e65e7ce9f01c7c09f8e0a87", func := "loop.example/g00251/laws.FnExactBlockSums", spec := "fnExactBlockSums", apart := false, narrowed := true }
def FnExactBlockSumsUptoSaid : Prop := fnExactBlockSumsUptoRow.holds Try.pinned (OpenSpec.upto fnExactBlockSumsSpec)

/-- 'laws.FnTurns', WHERE WHAT IT READS IS OF BULK AT MOST 1048576: true; the input reads as it did. -/
def fnTurnsUptoRow : OpenClaim := { program := "ytklhfhnplldgjaa", sum := "77133ed5d786aa2b614364b93f8ffc3dcbb2b9086e65e7ce9f01c7c09f8e0a87", func := "loop.example/g00251/laws.FnTurns", spec := "fnTurns", apart := false, narrowed := true }
def FnTurnsUptoSaid : Prop := fnTurnsUptoRow.holds Try.pinned (OpenSpec.upto fnTurnsSpec)

/-- 'laws.FnExactBlockStep', WHERE WHAT IT READS IS OF BULK AT MOST 1048576: true; the input reads as it did. -/
def fnExactBlockStepUptoRow : OpenClaim := { program := "ytklhfhnplldgjaa", sum := "77133ed5d786aa2b614364b93f8ffc3dcbb2b9086e65e7ce9f01c7c09f8e0a87", func := "loop.example/g00251/laws.FnExactBlockStep", spec := "fnExactBlockStep", apart := false, narrowed := true }
def FnExactBlockStepUptoSaid : Prop := fnExactBlockStepUptoRow.holds Try.pinned (OpenSpec.upto fnExactBlockStepSpec)

/-- 'laws.FnExactStartRegs', WHERE WHAT IT READS IS OF BULK AT MOST 1048576: true; the input reads as it did. -/
def fnExactStartRegsUptoRow : OpenClaim := { program := "ytklhfhnplldgjaa", sum := "77133ed5d786aa2b614364b93f8ffc3dcbb2b9086e65e7ce9f01c7c09f8e0a87", func := "loop.example/g00251/laws.FnExactStartRegs", spec := "fnExactStartRegs", apart := false, narrowed := true }
def FnExactStartRegsUptoSaid : Prop := fnExactStartRegsUptoRow.holds Try.pinned (OpenSpec.upto fnExactStartRegsSpec)

/-- 'laws.FnBlocksteps', WHERE WHAT IT READS IS OF BULK AT MOST 1048576: true; the input reads as it did. -/
def fnBlockstepsUptoRow : OpenClaim := { program := "ytklhfhnplldgjaa", sum := "77133ed5d786aa2b614364b93f8ffc3dcbb2b9086e65e7ce9f01c7c09f8e0a87", func := "loop.example/g00251/laws.FnBlocksteps", spec := "fnBlocksteps", apart := false, narrowed := true }
def FnBlockstepsUptoSaid : Prop := fnBlockstepsUptoRow.holds Try.pinned (OpenSpec.upto fnBlockstepsSpec)

/-- 'laws.FnExactHasCalls', WHERE WHAT IT READS IS OF BULK AT MOST 1048576: true; the input reads as it did. -/
def fnExactHasCallsUptoRow : OpenClaim := { program := "ytklhfhnplldgjaa", sum := "77133ed5d786aa2b614364b93f8ffc3dcbb2b9086e65e7ce9f01c7c09f8e0a87", func := "loop.example/g00251/laws.FnExactHasCalls", spec := "fnExactHasCalls", unfollowed := true, recurses := true, apart := false, narrowed := true }
def FnExactHasCallsUptoSaid : Prop := fnExactHasCallsUptoRow.holds Try.pinned (OpenSpec.upto fnExactHasCallsSpec)

/-- 'laws.FnExactDepthOf', WHERE WHAT IT READS IS OF BULK AT MOST 1048576: true; the input reads as it did. -/
def fnExactDepthOfUptoRow : OpenClaim := { program := "ytklhfhnplldgjaa", sum := "77133ed5d786aa2b614364b93f8ffc3dcbb2b9086e65e7ce9f01c7c09f8e0a87", func := "loop.example/g00251/laws.FnExactDepthOf", spec := "fnExactDepthOf", apart := false, narrowed := true }
def FnExactDepthOfUptoSaid : Prop := fnExactDepthOfUptoRow.holds Try.pinned (OpenSpec.upto fnExactDepthOfSpec)

/-- 'laws.FnExactTreeFault', WHERE WHAT IT READS IS OF BULK AT MOST 1048576: true; the input reads as it did. -/
def fnExactTreeFaultUptoRow : OpenClaim := { program := "ytklhfhnplldgjaa", sum := "77133ed5d786aa2b614364b93f8ffc3dcbb2b9086e65e7ce9f01c7c09f8e0a87", func := "loop.example/g00251/laws.FnExactTreeFault", spec := "fnExactTreeFault", unfollowed := true, recurses := true, apart := false, narrowed := true }
def FnExactTreeFaultUptoSaid : Prop := fnExactTreeFaultUptoRow.holds Try.pinned (OpenSpec.upto fnExactTreeFaultSpec)

/-- 'laws.FnExactVarAt', WHERE WHAT IT READS IS OF BULK AT MOST 1048576: true; the input reads as it did. -/
def fnExactVarAtUptoRow : OpenClaim := { program := "ytklhfhnplldgjaa", sum := "77133ed5d786aa2b614364b93f8ffc3dcbb2b9086e65e7ce9f01c7c09f8e0a87", func := "loop.example/g00251/laws.FnExactVarAt", spec := "fnExactVarAt", unfollowed := true, recurses := true, apart := false, narrowed := true }
def FnExactVarAtUptoSaid : Prop := fnExactVarAtUptoRow.holds Try.pinned (OpenSpec.upto fnExactVarAtSpec)

/-- 'laws.FnExactStepStack', WHERE WHAT IT READS IS OF BULK AT MOST 1048576: true; the input reads as it did. -/
def fnExactStepStackUptoRow : OpenClaim := { program := "ytklhfhnplldgjaa", sum := "77133ed5d786aa2b614364b93f8ffc3dcbb2b9086e65e7ce9f01c7c09f8e0a87", func := "loop.example/g00251/laws.FnExactStepStack", spec := "fnExactStepStack", unfollowed := true, recurses := true, apart := false, narrowed := true }
def FnExactStepStackUptoSaid : Prop := fnExactStepStackUptoRow.holds Try.pinned (OpenSpec.upto fnExactStepStackSpec)

end Rows
end Go.Proofs.Ytklhfhnplldgjaa
