/-
  No cell of these rows narrows 'for every input' (looked for: loops, veiled, ifaces, maps, wideKeys, modest, calm, conditions, laid).
  DERIVED. THE GIVEN ROWS OF THIS SEAT. 7 by the template 'for every input the law returns true; each argument reads behind the call as it read before'; 0 by the template 'total and deterministic' (their statements: YtnjgkcafmlmpcaaTotals.lean).
  GIVEN WITH THE SEED: the statements are not yours to turn. If you find one false, say at which input.
  Laid BY PROGRAM, IN A SANDBOX (cutbox-rows.mjs): the forced cells as the released guide's own fill.sh prints them over the translation 655c268da6a1cc17… (all of the seat's roots in one cut). By AI agents, Wed Nov 11 2026. No macro, syntax, notation, axiom, sorry.
-/
import Derived.Test.YtnjgkcafmlmpcaaChecked
import GoSem.Claim
import GoSem.ClaimJoined
import GoSem.ClaimMapViews
import Derived.JoinedTies
import Derived.KernelRfl
namespace Go.Proofs.Ytnjgkcafmlmpcaa
/- THE CELL 'sum', in the pinned program and in every row, IS THE sha256 OF THE DUMP (.gsa) THAT YtnjgkcafmlmpcaaProg.lean LOADS. Nothing in Lean hashes anything: it is a label: what it is worth is what the hold of that sum in a sandbox is worth. -/
noncomputable def Try.pinned : Pinned := { name := "ytnjgkcafmlmpcaa", sum := "655c268da6a1cc17d4939915716de38386381551e60d1b9b5610dbceccd00109", checked := Try.checked }
namespace Rows
def none {H : Type} : Left H := { results := [], args := [] }

/-- 'scriptinglaw18.RegistryReuses': WHATEVER THE INPUT: true; the input reads as it did. -/
def registryReusesSpec : ChangeSpec := { name := "registryReuses", fn := fun _ => fun
  | [d1, d2] => { results := [.lit (.bool true)], args := [d1, d2] }
  | _ => none }
def registryReusesRow : OpenClaim := { program := "ytnjgkcafmlmpcaa", sum := "655c268da6a1cc17d4939915716de38386381551e60d1b9b5610dbceccd00109", func := "scripting/scriptinglaw18.RegistryReuses", spec := "registryReuses", apart := false }
def RegistryReusesSaid : Prop := registryReusesRow.holds Try.pinned (OpenSpec.ofChange registryReusesSpec)

/-- ITS FALSE NEIGHBOUR: 'it returns false'. Refute it at one input. -/
def registryReusesWrong : ChangeSpec := { name := "registryReuses", fn := fun _ => fun
  | [d1, d2] => { results := [.lit (.bool false)], args := [d1, d2] }
  | _ => none }
def RegistryReusesWrongFalsely : Prop := registryReusesRow.holds Try.pinned (OpenSpec.ofChange registryReusesWrong)

/-- 'scriptinglaw18.RegistryKeeps': WHATEVER THE INPUT: true; the input reads as it did. -/
def registryKeepsSpec : ChangeSpec := { name := "registryKeeps", fn := fun _ => fun
  | [d1, d2, d3] => { results := [.lit (.bool true)], args := [d1, d2, d3] }
  | _ => none }
def registryKeepsRow : OpenClaim := { program := "ytnjgkcafmlmpcaa", sum := "655c268da6a1cc17d4939915716de38386381551e60d1b9b5610dbceccd00109", func := "scripting/scriptinglaw18.RegistryKeeps", spec := "registryKeeps", apart := false }
def RegistryKeepsSaid : Prop := registryKeepsRow.holds Try.pinned (OpenSpec.ofChange registryKeepsSpec)

/-- ITS FALSE NEIGHBOUR: 'it returns false'. Refute it at one input. -/
def registryKeepsWrong : ChangeSpec := { name := "registryKeeps", fn := fun _ => fun
  | [d1, d2, d3] => { results := [.lit (.bool false)], args := [d1, d2, d3] }
  | _ => none }
def RegistryKeepsWrongFalsely : Prop := registryKeepsRow.holds Try.pinned (OpenSpec.ofChange registryKeepsWrong)

/-- 'scriptinglaw18.RegistryNames': WHATEVER THE INPUT: true; the input reads as it did. -/
def registryNamesSpec : ChangeSpec := { name := "registryNames", fn := fun _ => fun
  | [d1, d2, d3, d4] => { results := [.lit (.bool true)], args := [d1, d2, d3, d4] }
  | _ => none }
def registryNamesRow : OpenClaim := { program := "ytnjgkcafmlmpcaa", sum := "655c268da6a1cc17d4939915716de38386381551e60d1b9b5610dbceccd00109", func := "scripting/scriptinglaw18.RegistryNames", spec := "registryNames", apart := false }
def RegistryNamesSaid : Prop := registryNamesRow.holds Try.pinned (OpenSpec.ofChange registryNamesSpec)

/-- ITS FALSE NEIGHBOUR: 'it returns false'. Refute it at one input. -/
def registryNamesWrong : ChangeSpec := { name := "registryNames", fn := fun _ => fun
  | [d1, d2, d3, d4] => { results := [.lit (.bool false)], args := [d1, d2, d3, d4] }
  | _ => none }
def RegistryNamesWrongFalsely : Prop := registryNamesRow.holds Try.pinned (OpenSpec.ofChange registryNamesWrong)

/-- 'scriptinglaw18.RegistryFull': WHATEVER THE INPUT: true; the input reads as it did. -/
def registryFullSpec : ChangeSpec := { name := "registryFull", fn := fun _ => fun
  | [d1, d2] => { results := [.lit (.bool true)], args := [d1, d2] }
  | _ => none }
def registryFullRow : OpenClaim := { program := "ytnjgkcafmlmpcaa", sum := "655c268da6a1cc17d4939915716de38386381551e60d1b9b5610dbceccd00109", func := "scripting/scriptinglaw18.RegistryFull", spec := "registryFull", inPlace := ["internal/abi.NoEscape", "internal/bytealg.MakeNoZero"], apart := false }
def RegistryFullSaid : Prop := registryFullRow.holds Try.pinned (OpenSpec.ofChange registryFullSpec)

/-- ITS FALSE NEIGHBOUR: 'it returns false'. Refute it at one input. -/
def registryFullWrong : ChangeSpec := { name := "registryFull", fn := fun _ => fun
  | [d1, d2] => { results := [.lit (.bool false)], args := [d1, d2] }
  | _ => none }
def RegistryFullWrongFalsely : Prop := registryFullRow.holds Try.pinned (OpenSpec.ofChange registryFullWrong)

/-- 'scriptinglaw18.RegistryPlays': WHATEVER THE INPUT: true; the input reads as it did. -/
def registryPlaysSpec : ChangeSpec := { name := "registryPlays", fn := fun _ => fun
  | [d] => { results := [.lit (.bool true)], args := [d] }
  | _ => none }
def registryPlaysRow : OpenClaim := { program := "ytnjgkcafmlmpcaa", sum := "655c268da6a1cc17d4939915716de38386381551e60d1b9b5610dbceccd00109", func := "scripting/scriptinglaw18.RegistryPlays", spec := "registryPlays", recurses := true, apart := false }
def RegistryPlaysSaid : Prop := registryPlaysRow.holds Try.pinned (OpenSpec.ofChange registryPlaysSpec)

/-- ITS FALSE NEIGHBOUR: 'it returns false'. Refute it at one input. -/
def registryPlaysWrong : ChangeSpec := { name := "registryPlays", fn := fun _ => fun
  | [d] => { results := [.lit (.bool false)], args := [d] }
  | _ => none }
def RegistryPlaysWrongFalsely : Prop := registryPlaysRow.holds Try.pinned (OpenSpec.ofChange registryPlaysWrong)

/-- 'scriptinglaw18.RegistryRoots': WHATEVER THE INPUT: true; the input reads as it did. -/
def registryRootsSpec : ChangeSpec := { name := "registryRoots", fn := fun _ => fun
  | [d] => { results := [.lit (.bool true)], args := [d] }
  | _ => none }
def registryRootsRow : OpenClaim := { program := "ytnjgkcafmlmpcaa", sum := "655c268da6a1cc17d4939915716de38386381551e60d1b9b5610dbceccd00109", func := "scripting/scriptinglaw18.RegistryRoots", spec := "registryRoots", recurses := true, apart := false }
def RegistryRootsSaid : Prop := registryRootsRow.holds Try.pinned (OpenSpec.ofChange registryRootsSpec)

/-- ITS FALSE NEIGHBOUR: 'it returns false'. Refute it at one input. -/
def registryRootsWrong : ChangeSpec := { name := "registryRoots", fn := fun _ => fun
  | [d] => { results := [.lit (.bool false)], args := [d] }
  | _ => none }
def RegistryRootsWrongFalsely : Prop := registryRootsRow.holds Try.pinned (OpenSpec.ofChange registryRootsWrong)

/-- 'scriptinglaw18.RegistryNil': WHATEVER THE INPUT: true; the input reads as it did. -/
def registryNilSpec : ChangeSpec := { name := "registryNil", fn := fun _ => fun
  | [d] => { results := [.lit (.bool true)], args := [d] }
  | _ => none }
def registryNilRow : OpenClaim := { program := "ytnjgkcafmlmpcaa", sum := "655c268da6a1cc17d4939915716de38386381551e60d1b9b5610dbceccd00109", func := "scripting/scriptinglaw18.RegistryNil", spec := "registryNil", recurses := true, apart := false }
def RegistryNilSaid : Prop := registryNilRow.holds Try.pinned (OpenSpec.ofChange registryNilSpec)

/-- ITS FALSE NEIGHBOUR: 'it returns false'. Refute it at one input. -/
def registryNilWrong : ChangeSpec := { name := "registryNil", fn := fun _ => fun
  | [d] => { results := [.lit (.bool false)], args := [d] }
  | _ => none }
def RegistryNilWrongFalsely : Prop := registryNilRow.holds Try.pinned (OpenSpec.ofChange registryNilWrong)

/- THE SECOND FORM. 'bulk': how many values and letters a reading holds, each counted each time it is reached (what is shared counts as often as it is met; a slice's spare places count too). A statement '..UptoSaid' is the law's where the arguments, and the package variables that the reading takes, are together of bulk at most 1048576: NARROWER than '..Said'. Prove '..Said' where nothing that the law and all that it calls make is longer than what came in: it says more and counts as full. Else prove '..UptoSaid'. A law counts once. -/
mutual
def uptoBulk {H : Type} : DataW H → Nat
  | .lit (.string bytes) => bytes.length + 1
  | .lit _ => 1
  | .nil => 1
  | .ptr d => uptoBulk d + 1
  | .slice elems spare => uptoBulkAll elems + uptoBulkAll spare + 1
  | .agg parts => uptoBulkAll parts + 1
  | .iface _ d => uptoBulk d + 1
  | .map entries => uptoBulkEntries entries + 1
  | .held _ => 1
def uptoBulkAll {H : Type} : List (DataW H) → Nat
  | [] => 0
  | d :: r => uptoBulk d + uptoBulkAll r
def uptoBulkEntries {H : Type} : List (Lit × DataW H) → Nat
  | [] => 0
  | x :: r => uptoBulkEntry x + uptoBulkEntries r
def uptoBulkEntry {H : Type} : Lit × DataW H → Nat
  | (.string bytes, d) => bytes.length + uptoBulk d + 1
  | (_, d) => uptoBulk d + 1
 end
def uptoSmall : (H : Type) → List (DataW H) → Bool := fun _ ds => decide (uptoBulkAll ds ≤ 1048576)
def OpenSpec.upto (s : _root_.Go.ChangeSpec) : _root_.Go.OpenSpec := { _root_.Go.OpenSpec.ofChange s with cond := some uptoSmall }

/-- 'scriptinglaw18.RegistryReuses', WHERE WHAT IT READS IS OF BULK AT MOST 1048576: true; the input reads as it did. -/
def registryReusesUptoRow : OpenClaim := { program := "ytnjgkcafmlmpcaa", sum := "655c268da6a1cc17d4939915716de38386381551e60d1b9b5610dbceccd00109", func := "scripting/scriptinglaw18.RegistryReuses", spec := "registryReuses", apart := false, narrowed := true }
def RegistryReusesUptoSaid : Prop := registryReusesUptoRow.holds Try.pinned (OpenSpec.upto registryReusesSpec)

/-- 'scriptinglaw18.RegistryKeeps', WHERE WHAT IT READS IS OF BULK AT MOST 1048576: true; the input reads as it did. -/
def registryKeepsUptoRow : OpenClaim := { program := "ytnjgkcafmlmpcaa", sum := "655c268da6a1cc17d4939915716de38386381551e60d1b9b5610dbceccd00109", func := "scripting/scriptinglaw18.RegistryKeeps", spec := "registryKeeps", apart := false, narrowed := true }
def RegistryKeepsUptoSaid : Prop := registryKeepsUptoRow.holds Try.pinned (OpenSpec.upto registryKeepsSpec)

/-- 'scriptinglaw18.RegistryNames', WHERE WHAT IT READS IS OF BULK AT MOST 1048576: true; the input reads as it did. -/
def registryNamesUptoRow : OpenClaim := { program := "ytnjgkcafmlmpcaa", sum := "655c268da6a1cc17d4939915716de38386381551e60d1b9b5610dbceccd00109", func := "scripting/scriptinglaw18.RegistryNames", spec := "registryNames", apart := false, narrowed := true }
def RegistryNamesUptoSaid : Prop := registryNamesUptoRow.holds Try.pinned (OpenSpec.upto registryNamesSpec)

/-- 'scriptinglaw18.RegistryFull', WHERE WHAT IT READS IS OF BULK AT MOST 1048576: true; the input reads as it did. -/
def registryFullUptoRow : OpenClaim := { program := "ytnjgkcafmlmpcaa", sum := "655c268da6a1cc17d4939915716de38386381551e60d1b9b5610dbceccd00109", func := "scripting/scriptinglaw18.RegistryFull", spec := "registryFull", inPlace := ["internal/abi.NoEscape", "internal/bytealg.MakeNoZero"], apart := false, narrowed := true }
def RegistryFullUptoSaid : Prop := registryFullUptoRow.holds Try.pinned (OpenSpec.upto registryFullSpec)

/-- 'scriptinglaw18.RegistryPlays', WHERE WHAT IT READS IS OF BULK AT MOST 1048576: true; the input reads as it did. -/
def registryPlaysUptoRow : OpenClaim := { program := "ytnjgkcafmlmpcaa", sum := "655c268da6a1cc17d4939915716de38386381551e60d1b9b5610dbceccd00109", func := "scripting/scriptinglaw18.RegistryPlays", spec := "registryPlays", recurses := true, apart := false, narrowed := true }
def RegistryPlaysUptoSaid : Prop := registryPlaysUptoRow.holds Try.pinned (OpenSpec.upto registryPlaysSpec)

/-- 'scriptinglaw18.RegistryRoots', WHERE WHAT IT READS IS OF BULK AT MOST 1048576: true; the input reads as it did. -/
def registryRootsUptoRow : OpenClaim := { program := "ytnjgkcafmlmpcaa", sum := "655c268da6a1cc17d4939915716de38386381551e60d1b9b5610dbceccd00109", func := "scripting/scriptinglaw18.RegistryRoots", spec := "registryRoots", recurses := true, apart := false, narrowed := true }
def RegistryRootsUptoSaid : Prop := registryRootsUptoRow.holds Try.pinned (OpenSpec.upto registryRootsSpec)

/-- 'scriptinglaw18.RegistryNil', WHERE WHAT IT READS IS OF BULK AT MOST 1048576: true; the input reads as it did. -/
def registryNilUptoRow : OpenClaim := { program := "ytnjgkcafmlmpcaa", sum := "655c268da6a1cc17d4939915716de38386381551e60d1b9b5610dbceccd00109", func := "scripting/scriptinglaw18.RegistryNil", spec := "registryNil", recurses := true, apart := false, narrowed := true }
def RegistryNilUptoSaid : Prop := registryNilUptoRow.holds Try.pinned (OpenSpec.upto registryNilSpec)

end Rows
end Go.Proofs.Ytnjgkcafmlmpcaa
