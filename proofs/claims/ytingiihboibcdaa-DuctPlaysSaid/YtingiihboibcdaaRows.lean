/-
  No cell of these rows narrows 'for every input' (looked for: loops, veiled, ifaces, maps, wideKeys, modest, calm, conditions, laid).
  DERIVED. THE GIVEN ROWS OF THIS SEAT. 3 by the template 'for every input the law returns true; each argument reads behind the call as it read before'; 0 by the template 'total and deterministic' (their statements: YtingiihboibcdaaTotals.lean).
  GIVEN WITH THE SEED: the statements are not yours to turn. If you find one false, say at which input.
  Laid BY PROGRAM, IN A SANDBOX (cutbox-rows.mjs): the forced cells as the released guide's own fill.sh prints them over the translation 11de65f536a87e98… (all of the seat's roots in one cut). By AI agents, Wed Nov 11 2026. No macro, syntax, notation, axiom, sorry.
-/
import Derived.Test.YtingiihboibcdaaChecked
import GoSem.Claim
import GoSem.ClaimJoined
import GoSem.ClaimMapViews
import Derived.JoinedTies
import Derived.KernelRfl
namespace Go.Proofs.Ytingiihboibcdaa
/- THE CELL 'sum', in the pinned program and in every row, IS THE sha256 OF THE DUMP (.gsa) THAT YtingiihboibcdaaProg.lean LOADS. Nothing in Lean hashes anything: it is a label: what it is worth is what the hold of that sum in a sandbox is worth. -/
noncomputable def Try.pinned : Pinned := { name := "ytingiihboibcdaa", sum := "11de65f536a87e986ba24fed4711872022ca4683f265273345912e0949eda9ca", checked := Try.checked }
namespace Rows
def none {H : Type} : Left H := { results := [], args := [] }

/-- 'treadlelaw09.DuctOrder': WHATEVER THE INPUT: true; the input reads as it did. -/
def ductOrderSpec : ChangeSpec := { name := "ductOrder", fn := fun _ => fun
  | [d1, d2] => { results := [.lit (.bool true)], args := [d1, d2] }
  | _ => none }
def ductOrderRow : OpenClaim := { program := "ytingiihboibcdaa", sum := "11de65f536a87e986ba24fed4711872022ca4683f265273345912e0949eda9ca", func := "treadle/treadlelaw09.DuctOrder", spec := "ductOrder", inPlace := ["internal/bytealg.MakeNoZero"], apart := false }
def DuctOrderSaid : Prop := ductOrderRow.holds Try.pinned (OpenSpec.ofChange ductOrderSpec)

/-- ITS FALSE NEIGHBOUR: 'it returns false'. Refute it at one input. -/
def ductOrderWrong : ChangeSpec := { name := "ductOrder", fn := fun _ => fun
  | [d1, d2] => { results := [.lit (.bool false)], args := [d1, d2] }
  | _ => none }
def DuctOrderWrongFalsely : Prop := ductOrderRow.holds Try.pinned (OpenSpec.ofChange ductOrderWrong)

/-- 'treadlelaw09.DuctPlays': WHATEVER THE INPUT: true; the input reads as it did. -/
def ductPlaysSpec : ChangeSpec := { name := "ductPlays", fn := fun _ => fun
  | [d1, d2] => { results := [.lit (.bool true)], args := [d1, d2] }
  | _ => none }
def ductPlaysRow : OpenClaim := { program := "ytingiihboibcdaa", sum := "11de65f536a87e986ba24fed4711872022ca4683f265273345912e0949eda9ca", func := "treadle/treadlelaw09.DuctPlays", spec := "ductPlays", apart := false }
def DuctPlaysSaid : Prop := ductPlaysRow.holds Try.pinned (OpenSpec.ofChange ductPlaysSpec)

/-- ITS FALSE NEIGHBOUR: 'it returns false'. Refute it at one input. -/
def ductPlaysWrong : ChangeSpec := { name := "ductPlays", fn := fun _ => fun
  | [d1, d2] => { results := [.lit (.bool false)], args := [d1, d2] }
  | _ => none }
def DuctPlaysWrongFalsely : Prop := ductPlaysRow.holds Try.pinned (OpenSpec.ofChange ductPlaysWrong)

/-- 'treadlelaw09.DuctNil': WHATEVER THE INPUT: true; the input reads as it did. -/
def ductNilSpec : ChangeSpec := { name := "ductNil", fn := fun _ => fun
  | [d] => { results := [.lit (.bool true)], args := [d] }
  | _ => none }
def ductNilRow : OpenClaim := { program := "ytingiihboibcdaa", sum := "11de65f536a87e986ba24fed4711872022ca4683f265273345912e0949eda9ca", func := "treadle/treadlelaw09.DuctNil", spec := "ductNil", apart := false }
def DuctNilSaid : Prop := ductNilRow.holds Try.pinned (OpenSpec.ofChange ductNilSpec)

/-- ITS FALSE NEIGHBOUR: 'it returns false'. Refute it at one input. -/
def ductNilWrong : ChangeSpec := { name := "ductNil", fn := fun _ => fun
  | [d] => { results := [.lit (.bool false)], args := [d] }
  | _ => none }
def DuctNilWrongFalsely : Prop := ductNilRow.holds Try.pinned (OpenSpec.ofChange ductNilWrong)

/- THE SECOND FORM. 'bulk': how many values and letters a reading holds, each counted each time it is reached (what is shared counts as often as it is met; a slice's spare places count too). A statement '..UptoSaid' is the law's where the arguments, and the package variables that the reading takes, are together of bulk at most 1048576: NARROWER than '..Said'. Prove '..Said' where nothing that the law and all that it calls make is longer than what came in: it says more and counts as full. Else prove '..UptoSaid'. A law counts once. -/
mutual
def uptoBulk {H : Type} : DataW H → Nat
  | .lit (.string bytes) => bytes.length + 1
  | .lit _ => 1
  | .nil => 1
  | .ptr d => uptoBulk d + 1
  | .slice elems spare => uptoBulkAll elems + uptoBulkAll spare + 1
  | .agg parts => uptoBulkAll parts + 1
  | .iface _ d => uptoBulk d + 1
  | .map entries => uptoBulkEntries entries + 1
  | .held _ => 1
def uptoBulkAll {H : Type} : List (DataW H) → Nat
  | [] => 0
  | d :: r => uptoBulk d + uptoBulkAll r
def uptoBulkEntries {H : Type} : List (Lit × DataW H) → Nat
  | [] => 0
  | x :: r => uptoBulkEntry x + uptoBulkEntries r
def uptoBulkEntry {H : Type} : Lit × DataW H → Nat
  | (.string bytes, d) => bytes.length + uptoBulk d + 1
  | (_, d) => uptoBulk d + 1
 end
def uptoSmall : (H : Type) → List (DataW H) → Bool := fun _ ds => decide (uptoBulkAll ds ≤ 1048576)
def OpenSpec.upto (s : _root_.Go.ChangeSpec) : _root_.Go.OpenSpec := { _root_.Go.OpenSpec.ofChange s with cond := some uptoSmall }

/-- 'treadlelaw09.DuctOrder', WHERE WHAT IT READS IS OF BULK AT MOST 1048576: true; the input reads as it did. -/
def ductOrderUptoRow : OpenClaim := { program := "ytingiihboibcdaa", sum := "11de65f536a87e986ba24fed4711872022ca4683f265273345912e0949eda9ca", func := "treadle/treadlelaw09.DuctOrder", spec := "ductOrder", inPlace := ["internal/bytealg.MakeNoZero"], apart := false, narrowed := true }
def DuctOrderUptoSaid : Prop := ductOrderUptoRow.holds Try.pinned (OpenSpec.upto ductOrderSpec)

/-- 'treadlelaw09.DuctPlays', WHERE WHAT IT READS IS OF BULK AT MOST 1048576: true; the input reads as it did. -/
def ductPlaysUptoRow : OpenClaim := { program := "ytingiihboibcdaa", sum := "11de65f536a87e986ba24fed4711872022ca4683f265273345912e0949eda9ca", func := "treadle/treadlelaw09.DuctPlays", spec := "ductPlays", apart := false, narrowed := true }
def DuctPlaysUptoSaid : Prop := ductPlaysUptoRow.holds Try.pinned (OpenSpec.upto ductPlaysSpec)

/-- 'treadlelaw09.DuctNil', WHERE WHAT IT READS IS OF BULK AT MOST 1048576: true; the input reads as it did. -/
def ductNilUptoRow : OpenClaim := { program := "ytingiihboibcdaa", sum := "11de65f536a87e986ba24fed4711872022ca4683f265273345912e0949eda9ca", func := "treadle/treadlelaw09.DuctNil", spec := "ductNil", apart := false, narrowed := true }
def DuctNilUptoSaid : Prop := ductNilUptoRow.holds Try.pinned (OpenSpec.upto ductNilSpec)

end Rows
end Go.Proofs.Ytingiihboibcdaa
