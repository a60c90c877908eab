/-
  No cell of these rows narrows 'for every input' (looked for: loops, veiled, ifaces, maps, wideKeys, modest, calm, conditions, laid).
  DERIVED. THE GIVEN ROWS OF THIS SEAT. 12 by the template 'for every input the law returns true; each argument reads behind the call as it read before'; 0 by the template 'total and deterministic' (their statements: YtaolajbojoeahaaTotals.lean).
  GIVEN WITH THE SEED: the statements are not yours to turn. If you find one false, say at which input.
  Laid BY PROGRAM, IN A SANDBOX (cutbox-rows.mjs): the forced cells as the released guide's own fill.sh prints them over the translation 031abae015f8c021… (all of the seat's roots in one cut). By AI agents, Wed Nov 11 2026. No macro, syntax, notation, axiom, sorry.
-/
import Derived.Test.YtaolajbojoeahaaChecked
import GoSem.Claim
import GoSem.ClaimJoined
import GoSem.ClaimMapViews
import Derived.JoinedTies
import Derived.KernelRfl
namespace Go.Proofs.Ytaolajbojoeahaa
/- THE CELL 'sum', in the pinned program and in every row, IS THE sha256 OF THE DUMP (.gsa) THAT YtaolajbojoeahaaProg.lean LOADS. Nothing in Lean hashes anything: it is a label: what it is worth is what the hold of that sum in a sandbox is worth. -/
noncomputable def Try.pinned : Pinned := { name := "ytaolajbojoeahaa", sum := "031abae015f8c02111fd2fb597171742652ac4f3294109ab37f6282b1fbbf711", checked := Try.checked }
namespace Rows
def none {H : Type} : Left H := { results := [], args := [] }

/-- 'laws.FnExactCrcTable': WHATEVER THE INPUT: true; the input reads as it did. -/
def fnExactCrcTableSpec : ChangeSpec := { name := "fnExactCrcTable", fn := fun _ => fun
  | [d] => { results := [.lit (.bool true)], args := [d] }
  | _ => none }
def fnExactCrcTableRow : OpenClaim := { program := "ytaolajbojoeahaa", sum := "031abae015f8c02111fd2fb597171742652ac4f3294109ab37f6282b1fbbf711", func := "loop.example/g00251/laws.FnExactCrcTable", spec := "fnExactCrcTable", apart := false }
def FnExactCrcTableSaid : Prop := fnExactCrcTableRow.holds Try.pinned (OpenSpec.ofChange fnExactCrcTableSpec)

/-- ITS FALSE NEIGHBOUR: 'it returns false'. Refute it at one input. -/
def fnExactCrcTableWrong : ChangeSpec := { name := "fnExactCrcTable", fn := fun _ => fun
  | [d] => { results := [.lit (.bool false)], args := [d] }
  | _ => none }
def FnExactCrcTableWrongFalsely : Prop := fnExactCrcTableRow.holds Try.pinned (OpenSpec.ofChange fnExactCrcTableWrong)

/-- 'laws.FnExactWordsFault': WHATEVER THE INPUT: true; the input reads as it did. -/
def fnExactWordsFaultSpec : ChangeSpec := { name := "fnExactWordsFault", fn := fun _ => fun
  | [d] => { results := [.lit (.bool true)], args := [d] }
  | _ => none }
def fnExactWordsFaultRow : OpenClaim := { program := "ytaolajbojoeahaa", sum := "031abae015f8c02111fd2fb597171742652ac4f3294109ab37f6282b1fbbf711", func := "loop.example/g00251/laws.FnExactWordsFault", spec := "fnExactWordsFault", apart := false }
def FnExactWordsFaultSaid : Prop := fnExactWordsFaultRow.holds Try.pinned (OpenSpec.ofChange fnExactWordsFaultSpec)

/-- ITS FALSE NEIGHBOUR: 'it returns false'. Refute it at one input. -/
def fnExactWordsFaultWrong : ChangeSpec := { name := "fnExactWordsFault", fn := fun _ => fun
  | [d] => { results := [.lit (.bool false)], args := [d] }
  | _ => none }
def FnExactWordsFaultWrongFalsely : Prop := fnExactWordsFaultRow.holds Try.pinned (OpenSpec.ofChange fnExactWordsFaultWrong)

/-- 'laws.FnDivides': WHATEVER THE INPUT: true; the input reads as it did. -/
def fnDividesSpec : ChangeSpec := { name := "fnDivides", fn := fun _ => fun
  | [d] => { results := [.lit (.bool true)], args := [d] }
  | _ => none }
def fnDividesRow : OpenClaim := { program := "ytaolajbojoeahaa", sum := "031abae015f8c02111fd2fb597171742652ac4f3294109ab37f6282b1fbbf711", func := "loop.example/g00251/laws.FnDivides", spec := "fnDivides", apart := false }
def FnDividesSaid : Prop := fnDividesRow.holds Try.pinned (OpenSpec.ofChange fnDividesSpec)

/-- ITS FALSE NEIGHBOUR: 'it returns false'. Refute it at one input. -/
def fnDividesWrong : ChangeSpec := { name := "fnDivides", fn := fun _ => fun
  | [d] => { results := [.lit (.bool false)], args := [d] }
  | _ => none }
def FnDividesWrongFalsely : Prop := fnDividesRow.holds Try.pinned (OpenSpec.ofChange fnDividesWrong)

/-- 'laws.FnExactBinaryOf': WHATEVER THE INPUT: true; the input reads as it did. -/
def fnExactBinaryOfSpec : ChangeSpec := { name := "fnExactBinaryOf", fn := fun _ => fun
  | [d1, d2, d3] => { results := [.lit (.bool true)], args := [d1, d2, d3] }
  | _ => none }
def fnExactBinaryOfRow : OpenClaim := { program := "ytaolajbojoeahaa", sum := "031abae015f8c02111fd2fb597171742652ac4f3294109ab37f6282b1fbbf711", func := "loop.example/g00251/laws.FnExactBinaryOf", spec := "fnExactBinaryOf", apart := false }
def FnExactBinaryOfSaid : Prop := fnExactBinaryOfRow.holds Try.pinned (OpenSpec.ofChange fnExactBinaryOfSpec)

/-- ITS FALSE NEIGHBOUR: 'it returns false'. Refute it at one input. -/
def fnExactBinaryOfWrong : ChangeSpec := { name := "fnExactBinaryOf", fn := fun _ => fun
  | [d1, d2, d3] => { results := [.lit (.bool false)], args := [d1, d2, d3] }
  | _ => none }
def FnExactBinaryOfWrongFalsely : Prop := fnExactBinaryOfRow.holds Try.pinned (OpenSpec.ofChange fnExactBinaryOfWrong)

/-- 'laws.FnExactCrcWords': WHATEVER THE INPUT: true; the input reads as it did. -/
def fnExactCrcWordsSpec : ChangeSpec := { name := "fnExactCrcWords", fn := fun _ => fun
  | [d] => { results := [.lit (.bool true)], args := [d] }
  | _ => none }
def fnExactCrcWordsRow : OpenClaim := { program := "ytaolajbojoeahaa", sum := "031abae015f8c02111fd2fb597171742652ac4f3294109ab37f6282b1fbbf711", func := "loop.example/g00251/laws.FnExactCrcWords", spec := "fnExactCrcWords", apart := false }
def FnExactCrcWordsSaid : Prop := fnExactCrcWordsRow.holds Try.pinned (OpenSpec.ofChange fnExactCrcWordsSpec)

/-- ITS FALSE NEIGHBOUR: 'it returns false'. Refute it at one input. -/
def fnExactCrcWordsWrong : ChangeSpec := { name := "fnExactCrcWords", fn := fun _ => fun
  | [d] => { results := [.lit (.bool false)], args := [d] }
  | _ => none }
def FnExactCrcWordsWrongFalsely : Prop := fnExactCrcWordsRow.holds Try.pinned (OpenSpec.ofChange fnExactCrcWordsWrong)

/-- 'laws.FnExactBinaryInv': WHATEVER THE INPUT: true; the input reads as it did. -/
def fnExactBinaryInvSpec : ChangeSpec := { name := "fnExactBinaryInv", fn := fun _ => fun
  | [d1, d2, d3] => { results := [.lit (.bool true)], args := [d1, d2, d3] }
  | _ => none }
def fnExactBinaryInvRow : OpenClaim := { program := "ytaolajbojoeahaa", sum := "031abae015f8c02111fd2fb597171742652ac4f3294109ab37f6282b1fbbf711", func := "loop.example/g00251/laws.FnExactBinaryInv", spec := "fnExactBinaryInv", apart := false }
def FnExactBinaryInvSaid : Prop := fnExactBinaryInvRow.holds Try.pinned (OpenSpec.ofChange fnExactBinaryInvSpec)

/-- ITS FALSE NEIGHBOUR: 'it returns false'. Refute it at one input. -/
def fnExactBinaryInvWrong : ChangeSpec := { name := "fnExactBinaryInv", fn := fun _ => fun
  | [d1, d2, d3] => { results := [.lit (.bool false)], args := [d1, d2, d3] }
  | _ => none }
def FnExactBinaryInvWrongFalsely : Prop := fnExactBinaryInvRow.holds Try.pinned (OpenSpec.ofChange fnExactBinaryInvWrong)

/-- 'laws.FnExactStackFault': WHATEVER THE INPUT: true; the input reads as it did. -/
def fnExactStackFaultSpec : ChangeSpec := { name := "fnExactStackFault", fn := fun _ => fun
  | [d] => { results := [.lit (.bool true)], args := [d] }
  | _ => none }
def fnExactStackFaultRow : OpenClaim := { program := "ytaolajbojoeahaa", sum := "031abae015f8c02111fd2fb597171742652ac4f3294109ab37f6282b1fbbf711", func := "loop.example/g00251/laws.FnExactStackFault", spec := "fnExactStackFault", apart := false }
def FnExactStackFaultSaid : Prop := fnExactStackFaultRow.holds Try.pinned (OpenSpec.ofChange fnExactStackFaultSpec)

/-- ITS FALSE NEIGHBOUR: 'it returns false'. Refute it at one input. -/
def fnExactStackFaultWrong : ChangeSpec := { name := "fnExactStackFault", fn := fun _ => fun
  | [d] => { results := [.lit (.bool false)], args := [d] }
  | _ => none }
def FnExactStackFaultWrongFalsely : Prop := fnExactStackFaultRow.holds Try.pinned (OpenSpec.ofChange fnExactStackFaultWrong)

/-- 'laws.FnExactCrcFast': WHATEVER THE INPUT: true; the input reads as it did. -/
def fnExactCrcFastSpec : ChangeSpec := { name := "fnExactCrcFast", fn := fun _ => fun
  | [d] => { results := [.lit (.bool true)], args := [d] }
  | _ => none }
def fnExactCrcFastRow : OpenClaim := { program := "ytaolajbojoeahaa", sum := "031abae015f8c02111fd2fb597171742652ac4f3294109ab37f6282b1fbbf711", func := "loop.example/g00251/laws.FnExactCrcFast", spec := "fnExactCrcFast", apart := false }
def FnExactCrcFastSaid : Prop := fnExactCrcFastRow.holds Try.pinned (OpenSpec.ofChange fnExactCrcFastSpec)

/-- ITS FALSE NEIGHBOUR: 'it returns false'. Refute it at one input. -/
def fnExactCrcFastWrong : ChangeSpec := { name := "fnExactCrcFast", fn := fun _ => fun
  | [d] => { results := [.lit (.bool false)], args := [d] }
  | _ => none }
def FnExactCrcFastWrongFalsely : Prop := fnExactCrcFastRow.holds Try.pinned (OpenSpec.ofChange fnExactCrcFastWrong)

/-- 'laws.FnExactRegFault': WHATEVER THE INPUT: true; the input reads as it did. -/
def fnExactRegFaultSpec : ChangeSpec := { name := "fnExactRegFault", fn := fun _ => fun
  | [d] => { results := [.lit (.bool true)], args := [d] }
  | _ => none }
def fnExactRegFaultRow : OpenClaim := { program := "ytaolajbojoeahaa", sum := "031abae015f8c02111fd2fb597171742652ac4f3294109ab37f6282b1fbbf711", func := "loop.example/g00251/laws.FnExactRegFault", spec := "fnExactRegFault", apart := false }
def FnExactRegFaultSaid : Prop := fnExactRegFaultRow.holds Try.pinned (OpenSpec.ofChange fnExactRegFaultSpec)

/-- ITS FALSE NEIGHBOUR: 'it returns false'. Refute it at one input. -/
def fnExactRegFaultWrong : ChangeSpec := { name := "fnExactRegFault", fn := fun _ => fun
  | [d] => { results := [.lit (.bool false)], args := [d] }
  | _ => none }
def FnExactRegFaultWrongFalsely : Prop := fnExactRegFaultRow.holds Try.pinned (OpenSpec.ofChange fnExactRegFaultWrong)

/-- 'laws.FnExactInvertAll': WHATEVER THE INPUT: true; the input reads as it did. -/
def fnExactInvertAllSpec : ChangeSpec := { name := "fnExactInvertAll", fn := fun _ => fun
  | [d] => { results := [.lit (.bool true)], args := [d] }
  | _ => none }
def fnExactInvertAllRow : OpenClaim := { program := "ytaolajbojoeahaa", sum := "031abae015f8c02111fd2fb597171742652ac4f3294109ab37f6282b1fbbf711", func := "loop.example/g00251/laws.FnExactInvertAll", spec := "fnExactInvertAll", apart := false }
def FnExactInvertAllSaid : Prop := fnExactInvertAllRow.holds Try.pinned (OpenSpec.ofChange fnExactInvertAllSpec)

/-- ITS FALSE NEIGHBOUR: 'it returns false'. Refute it at one input. -/
def fnExactInvertAllWrong : ChangeSpec := { name := "fnExactInvertAll", fn := fun _ => fun
  | [d] => { results := [.lit (.bool false)], args := [d] }
  | _ => none }
def FnExactInvertAllWrongFalsely : Prop := fnExactInvertAllRow.holds Try.pinned (OpenSpec.ofChange fnExactInvertAllWrong)

/-- 'laws.FnUpside': WHATEVER THE INPUT: true; the input reads as it did. -/
def fnUpsideSpec : ChangeSpec := { name := "fnUpside", fn := fun _ => fun
  | [d] => { results := [.lit (.bool true)], args := [d] }
  | _ => none }
def fnUpsideRow : OpenClaim := { program := "ytaolajbojoeahaa", sum := "031abae015f8c02111fd2fb597171742652ac4f3294109ab37f6282b1fbbf711", func := "loop.example/g00251/laws.FnUpside", spec := "fnUpside", apart := false }
def FnUpsideSaid : Prop := fnUpsideRow.holds Try.pinned (OpenSpec.ofChange fnUpsideSpec)

/-- ITS FALSE NEIGHBOUR: 'it returns false'. Refute it at one input. -/
def fnUpsideWrong : ChangeSpec := { name := "fnUpside", fn := fun _ => fun
  | [d] => { results := [.lit (.bool false)], args := [d] }
  | _ => none }
def FnUpsideWrongFalsely : Prop := fnUpsideRow.holds Try.pinned (OpenSpec.ofChange fnUpsideWrong)

/-- 'laws.FnSums': WHATEVER THE INPUT: true; the input reads as it did. -/
def fnSumsSpec : ChangeSpec := { name := "fnSums", fn := fun _ => fun
  | [d] => { results := [.lit (.bool true)], args := [d] }
  | _ => none }
def fnSumsRow : OpenClaim := { program := "ytaolajbojoeahaa", sum := "031abae015f8c02111fd2fb597171742652ac4f3294109ab37f6282b1fbbf711", func := "loop.example/g00251/laws.FnSums", spec := "fnSums", apart := false }
def FnSumsSaid : Prop := fnSumsRow.holds Try.pinned (OpenSpec.ofChange fnSumsSpec)

/-- ITS FALSE NEIGHBOUR: 'it returns false'. Refute it at one input. -/
def fnSumsWrong : ChangeSpec := { name := "fnSums", fn := fun _ => fun
  | [d] => { results := [.lit (.bool false)], args := [d] }
  | _ => none }
def FnSumsWrongFalsely : Prop := fnSumsRow.holds Try.pinned (OpenSpec.ofChange fnSumsWrong)

/- THE SECOND FORM. 'bulk': how many values and letters a reading holds, each counted each time it is reached (what is shared counts as often as it is met; a slice's spare places count too). A statement '..UptoSaid' is the law's where the arguments, and the package variables that the reading takes, are together of bulk at most 1048576: NARROWER than '..Said'. Prove '..Said' where nothing that the law and all that it calls make is longer than what came in: it says more and counts as full. Else prove '..UptoSaid'. A law counts once. -/
mutual
def uptoBulk {H : Type} : DataW H → Nat
  | .lit (.string bytes) => bytes.length + 1
  | .lit _ => 1
  | .nil => 1
  | .ptr d => uptoBulk d + 1
  | .slice elems spare => uptoBulkAll elems + uptoBulkAll spare + 1
  | .agg parts => uptoBulkAll parts + 1
  | .iface _ d => uptoBulk d + 1
  | .map entries => uptoBulkEntries entries + 1
  | .held _ => 1
def uptoBulkAll {H : Type} : List (DataW H) → Nat
  | [] => 0
  | d :: r => uptoBulk d + uptoBulkAll r
def uptoBulkEntries {H : Type} : List (Lit × DataW H) → Nat
  | [] => 0
  | x :: r => uptoBulkEntry x + uptoBulkEntries r
def uptoBulkEntry {H : Type} : Lit × DataW H → Nat
  | (.string bytes, d) => bytes.length + uptoBulk d + 1
  | (_, d) => uptoBulk d + 1
 end
def uptoSmall : (H : Type) → List (DataW H) → Bool := fun _ ds => decide (uptoBulkAll ds ≤ 1048576)
def OpenSpec.upto (s : _root_.Go.ChangeSpec) : _root_.Go.OpenSpec := { _root_.Go.OpenSpec.ofChange s with cond := some uptoSmall }

/-- 'laws.FnExactCrcTable', WHERE WHAT IT READS IS OF BULK AT MOST 1048576: true; the input reads as it did. -/
def fnExactCrcTableUptoRow : OpenClaim := { program := "ytaolajbojoeahaa", sum := "031abae015f8c02111fd2fb597171742652ac4f3294109ab37f6282b1fbbf711", func := "loop.example/g00251/laws.FnExactCrcTable", spec := "fnExactCrcTable", apart := false, narrowed := true }
def FnExactCrcTableUptoSaid : Prop := fnExactCrcTableUptoRow.holds Try.pinned (OpenSpec.upto fnExactCrcTableSpec)

/-- 'laws.FnExactWordsFault', WHERE WHAT IT READS IS OF BULK AT MOST 1048576: true; the input reads as it did. -/
def fnExactWordsFaultUptoRow : OpenClaim := { program := "ytaolajbojoeahaa", sum := "031abae015f8c02111fd2fb597171742652ac4f3294109ab37f6282b1fbbf711", func := "loop.example/g00251/laws.FnExactWordsFault", spec := "fnExactWordsFault", apart := false, narrowed := true }
def FnExactWordsFaultUptoSaid : Prop := fnExactWordsFaultUptoRow.holds Try.pinned (OpenSpec.upto fnExactWordsFaultSpec)

/-- 'laws.FnDivides', WHERE WHAT IT READS IS OF BULK AT MOST 1048576: true; the input reads as it did. -/
def fnDividesUptoRow : OpenClaim := { program := "ytaolajbojoeahaa", sum := "031abae015f8c02111fd2fb597171742652ac4f3294109ab37f6282b1fbbf711", func := "loop.example/g00251/laws.FnDivides", spec := "fnDivides", apart := false, narrowed := true }
def FnDividesUptoSaid : Prop := fnDividesUptoRow.holds Try.pinned (OpenSpec.upto fnDividesSpec)

/-- 'laws.FnExactBinaryOf', WHERE WHAT IT READS IS OF BULK AT MOST 1048576: true; the input reads as it did. -/
def fnExactBinaryOfUptoRow : OpenClaim := { program := "ytaolajbojoeahaa", sum := "031abae015f8c02111fd2fb597171742652ac4f3294109ab37f6282b1fbbf711", func := "loop.example/g00251/laws.FnExactBinaryOf", spec := "fnExactBinaryOf", apart := false, narrowed := true }
def FnExactBinaryOfUptoSaid : Prop := fnExactBinaryOfUptoRow.holds Try.pinned (OpenSpec.upto fnExactBinaryOfSpec)

/-- 'laws.FnExactCrcWords', WHERE WHAT IT READS IS OF BULK AT MOST 1048576: true; the input reads as it did. -/
def fnExactCrcWordsUptoRow : OpenClaim := { program := "ytaolajbojoeahaa", sum := "031abae015f8c02111fd2fb597171742652ac4f3294109ab37f6282b1fbbf711", func := "loop.example/g00251/laws.FnExactCrcWords", spec := "fnExactCrcWords", apart := false, narrowed := true }
def FnExactCrcWordsUptoSaid : Prop := fnExactCrcWordsUptoRow.holds Try.pinned (OpenSpec.upto fnExactCrcWordsSpec)

/-- 'laws.FnExactBinaryInv', WHERE WHAT IT READS IS OF BULK AT MOST 1048576: true; the input reads as it did. -/
def fnExactBinaryInvUptoRow : OpenClaim := { program := "ytaolajbojoeahaa", sum := "031abae015f8c02111fd2fb597171742652ac4f3294109ab37f6282b1fbbf711", func := "loop.example/g00251/laws.FnExactBinaryInv", spec := "fnExactBinaryInv", apart := false, narrowed := true }
def FnExactBinaryInvUptoSaid : Prop := fnExactBinaryInvUptoRow.holds Try.pinned (OpenSpec.upto fnExactBinaryInvSpec)

/-- 'laws.FnExactStackFault', WHERE WHAT IT READS IS OF BULK AT MOST 1048576: true; the input reads as it did. -/
def fnExactStackFaultUptoRow : OpenClaim := { program := "ytaolajbojoeahaa", sum := "031abae015f8c02111fd2fb597171742652ac4f3294109ab37f6282b1fbbf711", func := "loop.example/g00251/laws.FnExactStackFault", spec := "fnExactStackFault", apart := false, narrowed := true }
def FnExactStackFaultUptoSaid : Prop := fnExactStackFaultUptoRow.holds Try.pinned (OpenSpec.upto fnExactStackFaultSpec)

/-- 'laws.FnExactCrcFast', WHERE WHAT IT READS IS OF BULK AT MOST 1048576: true; the input reads as it did. -/
def fnExactCrcFastUptoRow : OpenClaim := { program := "ytaolajbojoeahaa", sum := "031abae015f8c02111fd2fb597171742652ac4f3294109ab37f6282b1fbbf711", func := "loop.example/g00251/laws.FnExactCrcFast", spec := "fnExactCrcFast", apart := false, narrowed := true }
def FnExactCrcFastUptoSaid : Prop := fnExactCrcFastUptoRow.holds Try.pinned (OpenSpec.upto fnExactCrcFastSpec)

/-- 'laws.FnExactRegFault', WHERE WHAT IT READS IS OF BULK AT MOST 1048576: true; the input reads as it did. -/
def fnExactRegFaultUptoRow : OpenClaim := { program := "ytaolajbojoeahaa", sum := "031abae015f8c02111fd2fb597171742652ac4f3294109ab37f6282b1fbbf711", func := "loop.example/g00251/laws.FnExactRegFault", spec := "fnExactRegFault", apart := false, narrowed := true }
def FnExactRegFaultUptoSaid : Prop := fnExactRegFaultUptoRow.holds Try.pinned (OpenSpec.upto fnExactRegFaultSpec)

/-- 'laws.FnExactInvertAll', WHERE WHAT IT READS IS OF BULK AT MOST 1048576: true; the input reads as it did. -/
def fnExactInvertAllUptoRow : OpenClaim := { program := "ytaolajbojoeahaa", sum := "031abae015f8c02111fd2fb597171742652ac4f3294109ab37f6282b1fbbf711", func := "loop.example/g00251/laws.FnExactInvertAll", spec := "fnExactInvertAll", apart := false, narrowed := true }
def FnExactInvertAllUptoSaid : Prop := fnExactInvertAllUptoRow.holds Try.pinned (OpenSpec.upto fnExactInvertAllSpec)

/-- 'laws.FnUpside', WHERE WHAT IT READS IS OF BULK AT MOST 1048576: true; the input reads as it did. -/
def fnUpsideUptoRow : OpenClaim := { program := "ytaolajbojoeahaa", sum := "031abae015f8c02111fd2fb597171742652ac4f3294109ab37f6282b1fbbf711", func := "loop.example/g00251/laws.FnUpside", spec := "fnUpside", apart := false, narrowed := true }
def FnUpsideUptoSaid : Prop := fnUpsideUptoRow.holds Try.pinned (OpenSpec.upto fnUpsideSpec)

/-- 'laws.FnSums', WHERE WHAT IT READS IS OF BULK AT MOST 1048576: true; the input reads as it did. -/
def fnSumsUptoRow : OpenClaim := { program := "ytaolajbojoeahaa", sum := "031abae015f8c02111fd2fb597171742652ac4f3294109ab37f6282b1fbbf711", func := "loop.example/g00251/laws.FnSums", spec := "fnSums", apart := false, narrowed := true }
def FnSumsUptoSaid : Prop := fnSumsUptoRow.holds Try.pinned (OpenSpec.upto fnSumsSpec)

end Rows
end Go.Proofs.Ytaolajbojoeahaa
