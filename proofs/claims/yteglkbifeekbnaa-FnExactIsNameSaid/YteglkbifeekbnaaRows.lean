/-
  No cell of these rows narrows 'for every input' (looked for: loops, veiled, ifaces, maps, wideKeys, modest, calm, conditions, laid).
  DERIVED. THE GIVEN ROWS OF THIS SEAT. 12 by the template 'for every input the law returns true; each argument reads behind the call as it read before'; 0 by the template 'total and deterministic' (their statements: YteglkbifeekbnaaTotals.lean).
  GIVEN WITH THE SEED: the statements are not yours to turn. If you find one false, say at which input.
  Laid BY PROGRAM, IN A SANDBOX (cutbox-rows.mjs): the forced cells as the released guide's own fill.sh prints them over the translation 7e1cfe773493bb4d… (all of the seat's roots in one cut). By AI agents, Wed Nov 11 2026. No macro, syntax, notation, axiom, sorry.
-/
import Derived.Test.YteglkbifeekbnaaChecked
import GoSem.Claim
import GoSem.ClaimJoined
import GoSem.ClaimMapViews
import Derived.JoinedTies
import Derived.KernelRfl
namespace Go.Proofs.Yteglkbifeekbnaa
/- THE CELL 'sum', in the pinned program and in every row, IS THE sha256 OF THE DUMP (.gsa) THAT YteglkbifeekbnaaProg.lean LOADS. Nothing in Lean hashes anything: it is a label: what it is worth is what the hold of that sum in a sandbox is worth. -/
noncomputable def Try.pinned : Pinned := { name := "yteglkbifeekbnaa", sum := "7e1cfe773493bb4d663da839ef5b138161eac3bdaa160726003bfd87b7d57a6c", checked := Try.checked }
namespace Rows
def none {H : Type} : Left H := { results := [], args := [] }

/-- 'laws.FnExactConstants': WHATEVER THE INPUT: true; the input reads as it did. -/
def fnExactConstantsSpec : ChangeSpec := { name := "fnExactConstants", fn := fun _ => fun
  | [] => { results := [.lit (.bool true)], args := [] }
  | _ => none }
def fnExactConstantsRow : OpenClaim := { program := "yteglkbifeekbnaa", sum := "7e1cfe773493bb4d663da839ef5b138161eac3bdaa160726003bfd87b7d57a6c", func := "loop.example/g00251/laws.FnExactConstants", spec := "fnExactConstants", apart := false }
def FnExactConstantsSaid : Prop := fnExactConstantsRow.holds Try.pinned (OpenSpec.ofChange fnExactConstantsSpec)

/-- ITS FALSE NEIGHBOUR: 'it returns false'. Refute it at one input. -/
def fnExactConstantsWrong : ChangeSpec := { name := "fnExactConstants", fn := fun _ => fun
  | [] => { results := [.lit (.bool false)], args := [] }
  | _ => none }
def FnExactConstantsWrongFalsely : Prop := fnExactConstantsRow.holds Try.pinned (OpenSpec.ofChange fnExactConstantsWrong)

/-- 'laws.FnExactWordOf': WHATEVER THE INPUT: true; the input reads as it did. -/
def fnExactWordOfSpec : ChangeSpec := { name := "fnExactWordOf", fn := fun _ => fun
  | [d] => { results := [.lit (.bool true)], args := [d] }
  | _ => none }
def fnExactWordOfRow : OpenClaim := { program := "yteglkbifeekbnaa", sum := "7e1cfe773493bb4d663da839ef5b138161eac3bdaa160726003bfd87b7d57a6c", func := "loop.example/g00251/laws.FnExactWordOf", spec := "fnExactWordOf", apart := false }
def FnExactWordOfSaid : Prop := fnExactWordOfRow.holds Try.pinned (OpenSpec.ofChange fnExactWordOfSpec)

/-- ITS FALSE NEIGHBOUR: 'it returns false'. Refute it at one input. -/
def fnExactWordOfWrong : ChangeSpec := { name := "fnExactWordOf", fn := fun _ => fun
  | [d] => { results := [.lit (.bool false)], args := [d] }
  | _ => none }
def FnExactWordOfWrongFalsely : Prop := fnExactWordOfRow.holds Try.pinned (OpenSpec.ofChange fnExactWordOfWrong)

/-- 'laws.FnExactComplement': WHATEVER THE INPUT: true; the input reads as it did. -/
def fnExactComplementSpec : ChangeSpec := { name := "fnExactComplement", fn := fun _ => fun
  | [d] => { results := [.lit (.bool true)], args := [d] }
  | _ => none }
def fnExactComplementRow : OpenClaim := { program := "yteglkbifeekbnaa", sum := "7e1cfe773493bb4d663da839ef5b138161eac3bdaa160726003bfd87b7d57a6c", func := "loop.example/g00251/laws.FnExactComplement", spec := "fnExactComplement", apart := false }
def FnExactComplementSaid : Prop := fnExactComplementRow.holds Try.pinned (OpenSpec.ofChange fnExactComplementSpec)

/-- ITS FALSE NEIGHBOUR: 'it returns false'. Refute it at one input. -/
def fnExactComplementWrong : ChangeSpec := { name := "fnExactComplement", fn := fun _ => fun
  | [d] => { results := [.lit (.bool false)], args := [d] }
  | _ => none }
def FnExactComplementWrongFalsely : Prop := fnExactComplementRow.holds Try.pinned (OpenSpec.ofChange fnExactComplementWrong)

/-- 'laws.FnExactSignOf': WHATEVER THE INPUT: true; the input reads as it did. -/
def fnExactSignOfSpec : ChangeSpec := { name := "fnExactSignOf", fn := fun _ => fun
  | [d1, d2] => { results := [.lit (.bool true)], args := [d1, d2] }
  | _ => none }
def fnExactSignOfRow : OpenClaim := { program := "yteglkbifeekbnaa", sum := "7e1cfe773493bb4d663da839ef5b138161eac3bdaa160726003bfd87b7d57a6c", func := "loop.example/g00251/laws.FnExactSignOf", spec := "fnExactSignOf", apart := false }
def FnExactSignOfSaid : Prop := fnExactSignOfRow.holds Try.pinned (OpenSpec.ofChange fnExactSignOfSpec)

/-- ITS FALSE NEIGHBOUR: 'it returns false'. Refute it at one input. -/
def fnExactSignOfWrong : ChangeSpec := { name := "fnExactSignOf", fn := fun _ => fun
  | [d1, d2] => { results := [.lit (.bool false)], args := [d1, d2] }
  | _ => none }
def FnExactSignOfWrongFalsely : Prop := fnExactSignOfRow.holds Try.pinned (OpenSpec.ofChange fnExactSignOfWrong)

/-- 'laws.FnExactNegOf': WHATEVER THE INPUT: true; the input reads as it did. -/
def fnExactNegOfSpec : ChangeSpec := { name := "fnExactNegOf", fn := fun _ => fun
  | [d] => { results := [.lit (.bool true)], args := [d] }
  | _ => none }
def fnExactNegOfRow : OpenClaim := { program := "yteglkbifeekbnaa", sum := "7e1cfe773493bb4d663da839ef5b138161eac3bdaa160726003bfd87b7d57a6c", func := "loop.example/g00251/laws.FnExactNegOf", spec := "fnExactNegOf", apart := false }
def FnExactNegOfSaid : Prop := fnExactNegOfRow.holds Try.pinned (OpenSpec.ofChange fnExactNegOfSpec)

/-- ITS FALSE NEIGHBOUR: 'it returns false'. Refute it at one input. -/
def fnExactNegOfWrong : ChangeSpec := { name := "fnExactNegOf", fn := fun _ => fun
  | [d] => { results := [.lit (.bool false)], args := [d] }
  | _ => none }
def FnExactNegOfWrongFalsely : Prop := fnExactNegOfRow.holds Try.pinned (OpenSpec.ofChange fnExactNegOfWrong)

/-- 'laws.FnExactSignedOf': WHATEVER THE INPUT: true; the input reads as it did. -/
def fnExactSignedOfSpec : ChangeSpec := { name := "fnExactSignedOf", fn := fun _ => fun
  | [d] => { results := [.lit (.bool true)], args := [d] }
  | _ => none }
def fnExactSignedOfRow : OpenClaim := { program := "yteglkbifeekbnaa", sum := "7e1cfe773493bb4d663da839ef5b138161eac3bdaa160726003bfd87b7d57a6c", func := "loop.example/g00251/laws.FnExactSignedOf", spec := "fnExactSignedOf", apart := false }
def FnExactSignedOfSaid : Prop := fnExactSignedOfRow.holds Try.pinned (OpenSpec.ofChange fnExactSignedOfSpec)

/-- ITS FALSE NEIGHBOUR: 'it returns false'. Refute it at one input. -/
def fnExactSignedOfWrong : ChangeSpec := { name := "fnExactSignedOf", fn := fun _ => fun
  | [d] => { results := [.lit (.bool false)], args := [d] }
  | _ => none }
def FnExactSignedOfWrongFalsely : Prop := fnExactSignedOfRow.holds Try.pinned (OpenSpec.ofChange fnExactSignedOfWrong)

/-- 'laws.FnExactNotOf': WHATEVER THE INPUT: true; the input reads as it did. -/
def fnExactNotOfSpec : ChangeSpec := { name := "fnExactNotOf", fn := fun _ => fun
  | [d] => { results := [.lit (.bool true)], args := [d] }
  | _ => none }
def fnExactNotOfRow : OpenClaim := { program := "yteglkbifeekbnaa", sum := "7e1cfe773493bb4d663da839ef5b138161eac3bdaa160726003bfd87b7d57a6c", func := "loop.example/g00251/laws.FnExactNotOf", spec := "fnExactNotOf", apart := false }
def FnExactNotOfSaid : Prop := fnExactNotOfRow.holds Try.pinned (OpenSpec.ofChange fnExactNotOfSpec)

/-- ITS FALSE NEIGHBOUR: 'it returns false'. Refute it at one input. -/
def fnExactNotOfWrong : ChangeSpec := { name := "fnExactNotOf", fn := fun _ => fun
  | [d] => { results := [.lit (.bool false)], args := [d] }
  | _ => none }
def FnExactNotOfWrongFalsely : Prop := fnExactNotOfRow.holds Try.pinned (OpenSpec.ofChange fnExactNotOfWrong)

/-- 'laws.FnExactIsWord': WHATEVER THE INPUT: true; the input reads as it did. -/
def fnExactIsWordSpec : ChangeSpec := { name := "fnExactIsWord", fn := fun _ => fun
  | [d] => { results := [.lit (.bool true)], args := [d] }
  | _ => none }
def fnExactIsWordRow : OpenClaim := { program := "yteglkbifeekbnaa", sum := "7e1cfe773493bb4d663da839ef5b138161eac3bdaa160726003bfd87b7d57a6c", func := "loop.example/g00251/laws.FnExactIsWord", spec := "fnExactIsWord", apart := false }
def FnExactIsWordSaid : Prop := fnExactIsWordRow.holds Try.pinned (OpenSpec.ofChange fnExactIsWordSpec)

/-- ITS FALSE NEIGHBOUR: 'it returns false'. Refute it at one input. -/
def fnExactIsWordWrong : ChangeSpec := { name := "fnExactIsWord", fn := fun _ => fun
  | [d] => { results := [.lit (.bool false)], args := [d] }
  | _ => none }
def FnExactIsWordWrongFalsely : Prop := fnExactIsWordRow.holds Try.pinned (OpenSpec.ofChange fnExactIsWordWrong)

/-- 'laws.FnExactArgsOfStack': WHATEVER THE INPUT: true; the input reads as it did. -/
def fnExactArgsOfStackSpec : ChangeSpec := { name := "fnExactArgsOfStack", fn := fun _ => fun
  | [d] => { results := [.lit (.bool true)], args := [d] }
  | _ => none }
def fnExactArgsOfStackRow : OpenClaim := { program := "yteglkbifeekbnaa", sum := "7e1cfe773493bb4d663da839ef5b138161eac3bdaa160726003bfd87b7d57a6c", func := "loop.example/g00251/laws.FnExactArgsOfStack", spec := "fnExactArgsOfStack", apart := false }
def FnExactArgsOfStackSaid : Prop := fnExactArgsOfStackRow.holds Try.pinned (OpenSpec.ofChange fnExactArgsOfStackSpec)

/-- ITS FALSE NEIGHBOUR: 'it returns false'. Refute it at one input. -/
def fnExactArgsOfStackWrong : ChangeSpec := { name := "fnExactArgsOfStack", fn := fun _ => fun
  | [d] => { results := [.lit (.bool false)], args := [d] }
  | _ => none }
def FnExactArgsOfStackWrongFalsely : Prop := fnExactArgsOfStackRow.holds Try.pinned (OpenSpec.ofChange fnExactArgsOfStackWrong)

/-- 'laws.FnExactArgsOfRegs': WHATEVER THE INPUT: true; the input reads as it did. -/
def fnExactArgsOfRegsSpec : ChangeSpec := { name := "fnExactArgsOfRegs", fn := fun _ => fun
  | [d] => { results := [.lit (.bool true)], args := [d] }
  | _ => none }
def fnExactArgsOfRegsRow : OpenClaim := { program := "yteglkbifeekbnaa", sum := "7e1cfe773493bb4d663da839ef5b138161eac3bdaa160726003bfd87b7d57a6c", func := "loop.example/g00251/laws.FnExactArgsOfRegs", spec := "fnExactArgsOfRegs", apart := false }
def FnExactArgsOfRegsSaid : Prop := fnExactArgsOfRegsRow.holds Try.pinned (OpenSpec.ofChange fnExactArgsOfRegsSpec)

/-- ITS FALSE NEIGHBOUR: 'it returns false'. Refute it at one input. -/
def fnExactArgsOfRegsWrong : ChangeSpec := { name := "fnExactArgsOfRegs", fn := fun _ => fun
  | [d] => { results := [.lit (.bool false)], args := [d] }
  | _ => none }
def FnExactArgsOfRegsWrongFalsely : Prop := fnExactArgsOfRegsRow.holds Try.pinned (OpenSpec.ofChange fnExactArgsOfRegsWrong)

/-- 'laws.FnExactIsName': WHATEVER THE INPUT: true; the input reads as it did. -/
def fnExactIsNameSpec : ChangeSpec := { name := "fnExactIsName", fn := fun _ => fun
  | [d] => { results := [.lit (.bool true)], args := [d] }
  | _ => none }
def fnExactIsNameRow : OpenClaim := { program := "yteglkbifeekbnaa", sum := "7e1cfe773493bb4d663da839ef5b138161eac3bdaa160726003bfd87b7d57a6c", func := "loop.example/g00251/laws.FnExactIsName", spec := "fnExactIsName", apart := false }
def FnExactIsNameSaid : Prop := fnExactIsNameRow.holds Try.pinned (OpenSpec.ofChange fnExactIsNameSpec)

/-- ITS FALSE NEIGHBOUR: 'it returns false'. Refute it at one input. -/
def fnExactIsNameWrong : ChangeSpec := { name := "fnExactIsName", fn := fun _ => fun
  | [d] => { results := [.lit (.bool false)], args := [d] }
  | _ => none }
def FnExactIsNameWrongFalsely : Prop := fnExactIsNameRow.holds Try.pinned (OpenSpec.ofChange fnExactIsNameWrong)

/-- 'laws.FnExactCrcByte': WHATEVER THE INPUT: true; the input reads as it did. -/
def fnExactCrcByteSpec : ChangeSpec := { name := "fnExactCrcByte", fn := fun _ => fun
  | [d1, d2] => { results := [.lit (.bool true)], args := [d1, d2] }
  | _ => none }
def fnExactCrcByteRow : OpenClaim := { program := "yteglkbifeekbnaa", sum := "7e1cfe773493bb4d663da839ef5b138161eac3bdaa160726003bfd87b7d57a6c", func := "loop.example/g00251/laws.FnExactCrcByte", spec := "fnExactCrcByte", apart := false }
def FnExactCrcByteSaid : Prop := fnExactCrcByteRow.holds Try.pinned (OpenSpec.ofChange fnExactCrcByteSpec)

/-- ITS FALSE NEIGHBOUR: 'it returns false'. Refute it at one input. -/
def fnExactCrcByteWrong : ChangeSpec := { name := "fnExactCrcByte", fn := fun _ => fun
  | [d1, d2] => { results := [.lit (.bool false)], args := [d1, d2] }
  | _ => none }
def FnExactCrcByteWrongFalsely : Prop := fnExactCrcByteRow.holds Try.pinned (OpenSpec.ofChange fnExactCrcByteWrong)

/- THE SECOND FORM. 'bulk': how many values and letters a reading holds, each counted each time it is reached (what is shared counts as often as it is met; a slice's spare places count too). A statement '..UptoSaid' is the law's where the arguments, and the package variables that the reading takes, are together of bulk at most 1048576: NARROWER than '..Said'. Prove '..Said' where nothing that the law and all that it calls make is longer than what came in: it says more and counts as full. Else prove '..UptoSaid'. A law counts once. -/
mutual
def uptoBulk {H : Type} : DataW H → Nat
  | .lit (.string bytes) => bytes.length + 1
  | .lit _ => 1
  | .nil => 1
  | .ptr d => uptoBulk d + 1
  | .slice elems spare => uptoBulkAll elems + uptoBulkAll spare + 1
  | .agg parts => uptoBulkAll parts + 1
  | .iface _ d => uptoBulk d + 1
  | .map entries => uptoBulkEntries entries + 1
  | .held _ => 1
def uptoBulkAll {H : Type} : List (DataW H) → Nat
  | [] => 0
  | d :: r => uptoBulk d + uptoBulkAll r
def uptoBulkEntries {H : Type} : List (Lit × DataW H) → Nat
  | [] => 0
  | x :: r => uptoBulkEntry x + uptoBulkEntries r
def uptoBulkEntry {H : Type} : Lit × DataW H → Nat
  | (.string bytes, d) => bytes.length + uptoBulk d + 1
  | (_, d) => uptoBulk d + 1
 end
def uptoSmall : (H : Type) → List (DataW H) → Bool := fun _ ds => decide (uptoBulkAll ds ≤ 1048576)
def OpenSpec.upto (s : _root_.Go.ChangeSpec) : _root_.Go.OpenSpec := { _root_.Go.OpenSpec.ofChange s with cond := some uptoSmall }

/-- 'laws.FnExactConstants', WHERE WHAT IT READS IS OF BULK AT MOST 1048576: true; the input reads as it did. -/
def fnExactConstantsUptoRow : OpenClaim := { program := "yteglkbifeekbnaa", sum := "7e1cfe773493bb4d663da839ef5b138161eac3bdaa160726003bfd87b7d57a6c", func := "loop.example/g00251/laws.FnExactConstants", spec := "fnExactConstants", apart := false, narrowed := true }
def FnExactConstantsUptoSaid : Prop := fnExactConstantsUptoRow.holds Try.pinned (OpenSpec.upto fnExactConstantsSpec)

/-- 'laws.FnExactWordOf', WHERE WHAT IT READS IS OF BULK AT MOST 1048576: true; the input reads as it did. -/
def fnExactWordOfUptoRow : OpenClaim := { program := "yteglkbifeekbnaa", sum := "7e1cfe773493bb4d663da839ef5b138161eac3bdaa160726003bfd87b7d57a6c", func := "loop.example/g00251/laws.FnExactWordOf", spec := "fnExactWordOf", apart := false, narrowed := true }
def FnExactWordOfUptoSaid : Prop := fnExactWordOfUptoRow.holds Try.pinned (OpenSpec.upto fnExactWordOfSpec)

/-- 'laws.FnExactComplement', WHERE WHAT IT READS IS OF BULK AT MOST 1048576: true; the input reads as it did. -/
def fnExactComplementUptoRow : OpenClaim := { program := "yteglkbifeekbnaa", sum := "7e1cfe773493bb4d663da839ef5b138161eac3bdaa160726003bfd87b7d57a6c", func := "loop.example/g00251/laws.FnExactComplement", spec := "fnExactComplement", apart := false, narrowed := true }
def FnExactComplementUptoSaid : Prop := fnExactComplementUptoRow.holds Try.pinned (OpenSpec.upto fnExactComplementSpec)

/-- 'laws.FnExactSignOf', WHERE WHAT IT READS IS OF BULK AT MOST 1048576: true; the input reads as it did. -/
def fnExactSignOfUptoRow : OpenClaim := { program := "yteglkbifeekbnaa", sum := "7e1cfe773493bb4d663da839ef5b138161eac3bdaa160726003bfd87b7d57a6c", func := "loop.example/g00251/laws.FnExactSignOf", spec := "fnExactSignOf", apart := false, narrowed := true }
def FnExactSignOfUptoSaid : Prop := fnExactSignOfUptoRow.holds Try.pinned (OpenSpec.upto fnExactSignOfSpec)

/-- 'laws.FnExactNegOf', WHERE WHAT IT READS IS OF BULK AT MOST 1048576: true; the input reads as it did. -/
def fnExactNegOfUptoRow : OpenClaim := { program := "yteglkbifeekbnaa", sum := "7e1cfe773493bb4d663da839ef5b138161eac3bdaa160726003bfd87b7d57a6c", func := "loop.example/g00251/laws.FnExactNegOf", spec := "fnExactNegOf", apart := false, narrowed := true }
def FnExactNegOfUptoSaid : Prop := fnExactNegOfUptoRow.holds Try.pinned (OpenSpec.upto fnExactNegOfSpec)

/-- 'laws.FnExactSignedOf', WHERE WHAT IT READS IS OF BULK AT MOST 1048576: true; the input reads as it did. -/
def fnExactSignedOfUptoRow : OpenClaim := { program := "yteglkbifeekbnaa", sum := "7e1cfe773493bb4d663da839ef5b138161eac3bdaa160726003bfd87b7d57a6c", func := "loop.example/g00251/laws.FnExactSignedOf", spec := "fnExactSignedOf", apart := false, narrowed := true }
def FnExactSignedOfUptoSaid : Prop := fnExactSignedOfUptoRow.holds Try.pinned (OpenSpec.upto fnExactSignedOfSpec)

/-- 'laws.FnExactNotOf', WHERE WHAT IT READS IS OF BULK AT MOST 1048576: true; the input reads as it did. -/
def fnExactNotOfUptoRow : OpenClaim := { program := "yteglkbifeekbnaa", sum := "7e1cfe773493bb4d663da839ef5b138161eac3bdaa160726003bfd87b7d57a6c", func := "loop.example/g00251/laws.FnExactNotOf", spec := "fnExactNotOf", apart := false, narrowed := true }
def FnExactNotOfUptoSaid : Prop := fnExactNotOfUptoRow.holds Try.pinned (OpenSpec.upto fnExactNotOfSpec)

/-- 'laws.FnExactIsWord', WHERE WHAT IT READS IS OF BULK AT MOST 1048576: true; the input reads as it did. -/
def fnExactIsWordUptoRow : OpenClaim := { program := "yteglkbifeekbnaa", sum := "7e1cfe773493bb4d663da839ef5b138161eac3bdaa160726003bfd87b7d57a6c", func := "loop.example/g00251/laws.FnExactIsWord", spec := "fnExactIsWord", apart := false, narrowed := true }
def FnExactIsWordUptoSaid : Prop := fnExactIsWordUptoRow.holds Try.pinned (OpenSpec.upto fnExactIsWordSpec)

/-- 'laws.FnExactArgsOfStack', WHERE WHAT IT READS IS OF BULK AT MOST 1048576: true; the input reads as it did. -/
def fnExactArgsOfStackUptoRow : OpenClaim := { program := "yteglkbifeekbnaa", sum := "7e1cfe773493bb4d663da839ef5b138161eac3bdaa160726003bfd87b7d57a6c", func := "loop.example/g00251/laws.FnExactArgsOfStack", spec := "fnExactArgsOfStack", apart := false, narrowed := true }
def FnExactArgsOfStackUptoSaid : Prop := fnExactArgsOfStackUptoRow.holds Try.pinned (OpenSpec.upto fnExactArgsOfStackSpec)

/-- 'laws.FnExactArgsOfRegs', WHERE WHAT IT READS IS OF BULK AT MOST 1048576: true; the input reads as it did. -/
def fnExactArgsOfRegsUptoRow : OpenClaim := { program := "yteglkbifeekbnaa", sum := "7e1cfe773493bb4d663da839ef5b138161eac3bdaa160726003bfd87b7d57a6c", func := "loop.example/g00251/laws.FnExactArgsOfRegs", spec := "fnExactArgsOfRegs", apart := false, narrowed := true }
def FnExactArgsOfRegsUptoSaid : Prop := fnExactArgsOfRegsUptoRow.holds Try.pinned (OpenSpec.upto fnExactArgsOfRegsSpec)

/-- 'laws.FnExactIsName', WHERE WHAT IT READS IS OF BULK AT MOST 1048576: true; the input reads as it did. -/
def fnExactIsNameUptoRow : OpenClaim := { program := "yteglkbifeekbnaa", sum := "7e1cfe773493bb4d663da839ef5b138161eac3bdaa160726003bfd87b7d57a6c", func := "loop.example/g00251/laws.FnExactIsName", spec := "fnExactIsName", apart := false, narrowed := true }
def FnExactIsNameUptoSaid : Prop := fnExactIsNameUptoRow.holds Try.pinned (OpenSpec.upto fnExactIsNameSpec)

/-- 'laws.FnExactCrcByte', WHERE WHAT IT READS IS OF BULK AT MOST 1048576: true; the input reads as it did. -/
def fnExactCrcByteUptoRow : OpenClaim := { program := "yteglkbifeekbnaa", sum := "7e1cfe773493bb4d663da839ef5b138161eac3bdaa160726003bfd87b7d57a6c", func := "loop.example/g00251/laws.FnExactCrcByte", spec := "fnExactCrcByte", apart := false, narrowed := true }
def FnExactCrcByteUptoSaid : Prop := fnExactCrcByteUptoRow.holds Try.pinned (OpenSpec.upto fnExactCrcByteSpec)

end Rows
end Go.Proofs.Yteglkbifeekbnaa
