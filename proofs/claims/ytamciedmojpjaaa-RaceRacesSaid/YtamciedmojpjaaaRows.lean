/-
  No cell of these rows narrows 'for every input' (looked for: loops, veiled, ifaces, maps, wideKeys, modest, calm, conditions, laid).
  DERIVED. THE GIVEN ROWS OF THIS SEAT. 10 by the template 'for every input the law returns true; each argument reads behind the call as it read before'; 0 by the template 'total and deterministic' (their statements: YtamciedmojpjaaaTotals.lean).
  GIVEN WITH THE SEED: the statements are not yours to turn. If you find one false, say at which input.
  Laid BY PROGRAM, IN A SANDBOX (cutbox-rows.mjs): the forced cells as the released guide's own fill.sh prints them over the translation 136451f697c4e1e2… (all of the seat's roots in one cut). By AI agents, Wed Nov 11 2026. No macro, syntax, notation, axiom, sorry.
-/
import Derived.Test.YtamciedmojpjaaaChecked
import GoSem.Claim
import GoSem.ClaimJoined
import GoSem.ClaimMapViews
import Derived.JoinedTies
import Derived.KernelRfl
namespace Go.Proofs.Ytamciedmojpjaaa
/- THE CELL 'sum', in the pinned program and in every row, IS THE sha256 OF THE DUMP (.gsa) THAT YtamciedmojpjaaaProg.lean LOADS. Nothing in Lean hashes anything: it is a label: what it is worth is what the hold of that sum in a sandbox is worth. -/
noncomputable def Try.pinned : Pinned := { name := "ytamciedmojpjaaa", sum := "136451f697c4e1e2bdb822256c62f5ad956755e6251e099e5fd79f175b66c19a", checked := Try.checked }
namespace Rows
def none {H : Type} : Left H := { results := [], args := [] }

/-- 'candlinglaw30.RaceDetector': WHATEVER THE INPUT: true; the input reads as it did. -/
def raceDetectorSpec : ChangeSpec := { name := "raceDetector", fn := fun _ => fun
  | [d] => { results := [.lit (.bool true)], args := [d] }
  | _ => none }
def raceDetectorRow : OpenClaim := { program := "ytamciedmojpjaaa", sum := "136451f697c4e1e2bdb822256c62f5ad956755e6251e099e5fd79f175b66c19a", func := "candling/candlinglaw30.RaceDetector", spec := "raceDetector", unfollowed := true, recurses := true, plainKeys := false, apart := false }
def RaceDetectorSaid : Prop := raceDetectorRow.holds Try.pinned (OpenSpec.ofChange raceDetectorSpec)

/-- ITS FALSE NEIGHBOUR: 'it returns false'. Refute it at one input. -/
def raceDetectorWrong : ChangeSpec := { name := "raceDetector", fn := fun _ => fun
  | [d] => { results := [.lit (.bool false)], args := [d] }
  | _ => none }
def RaceDetectorWrongFalsely : Prop := raceDetectorRow.holds Try.pinned (OpenSpec.ofChange raceDetectorWrong)

/-- 'candlinglaw30.RaceQuiet': WHATEVER THE INPUT: true; the input reads as it did. -/
def raceQuietSpec : ChangeSpec := { name := "raceQuiet", fn := fun _ => fun
  | [d1, d2] => { results := [.lit (.bool true)], args := [d1, d2] }
  | _ => none }
def raceQuietRow : OpenClaim := { program := "ytamciedmojpjaaa", sum := "136451f697c4e1e2bdb822256c62f5ad956755e6251e099e5fd79f175b66c19a", func := "candling/candlinglaw30.RaceQuiet", spec := "raceQuiet", unfollowed := true, recurses := true, plainKeys := false, apart := false }
def RaceQuietSaid : Prop := raceQuietRow.holds Try.pinned (OpenSpec.ofChange raceQuietSpec)

/-- ITS FALSE NEIGHBOUR: 'it returns false'. Refute it at one input. -/
def raceQuietWrong : ChangeSpec := { name := "raceQuiet", fn := fun _ => fun
  | [d1, d2] => { results := [.lit (.bool false)], args := [d1, d2] }
  | _ => none }
def RaceQuietWrongFalsely : Prop := raceQuietRow.holds Try.pinned (OpenSpec.ofChange raceQuietWrong)

/-- 'candlinglaw30.RaceNames': WHATEVER THE INPUT: true; the input reads as it did. -/
def raceNamesSpec : ChangeSpec := { name := "raceNames", fn := fun _ => fun
  | [d1, d2, d3, d4] => { results := [.lit (.bool true)], args := [d1, d2, d3, d4] }
  | _ => none }
def raceNamesRow : OpenClaim := { program := "ytamciedmojpjaaa", sum := "136451f697c4e1e2bdb822256c62f5ad956755e6251e099e5fd79f175b66c19a", func := "candling/candlinglaw30.RaceNames", spec := "raceNames", unfollowed := true, recurses := true, plainKeys := false, apart := false }
def RaceNamesSaid : Prop := raceNamesRow.holds Try.pinned (OpenSpec.ofChange raceNamesSpec)

/-- ITS FALSE NEIGHBOUR: 'it returns false'. Refute it at one input. -/
def raceNamesWrong : ChangeSpec := { name := "raceNames", fn := fun _ => fun
  | [d1, d2, d3, d4] => { results := [.lit (.bool false)], args := [d1, d2, d3, d4] }
  | _ => none }
def RaceNamesWrongFalsely : Prop := raceNamesRow.holds Try.pinned (OpenSpec.ofChange raceNamesWrong)

/-- 'candlinglaw30.RaceMutexed': WHATEVER THE INPUT: true; the input reads as it did. -/
def raceMutexedSpec : ChangeSpec := { name := "raceMutexed", fn := fun _ => fun
  | [d1, d2] => { results := [.lit (.bool true)], args := [d1, d2] }
  | _ => none }
def raceMutexedRow : OpenClaim := { program := "ytamciedmojpjaaa", sum := "136451f697c4e1e2bdb822256c62f5ad956755e6251e099e5fd79f175b66c19a", func := "candling/candlinglaw30.RaceMutexed", spec := "raceMutexed", unfollowed := true, recurses := true, plainKeys := false, apart := false }
def RaceMutexedSaid : Prop := raceMutexedRow.holds Try.pinned (OpenSpec.ofChange raceMutexedSpec)

/-- ITS FALSE NEIGHBOUR: 'it returns false'. Refute it at one input. -/
def raceMutexedWrong : ChangeSpec := { name := "raceMutexed", fn := fun _ => fun
  | [d1, d2] => { results := [.lit (.bool false)], args := [d1, d2] }
  | _ => none }
def RaceMutexedWrongFalsely : Prop := raceMutexedRow.holds Try.pinned (OpenSpec.ofChange raceMutexedWrong)

/-- 'candlinglaw30.RaceOrder': WHATEVER THE INPUT: true; the input reads as it did. -/
def raceOrderSpec : ChangeSpec := { name := "raceOrder", fn := fun _ => fun
  | [d] => { results := [.lit (.bool true)], args := [d] }
  | _ => none }
def raceOrderRow : OpenClaim := { program := "ytamciedmojpjaaa", sum := "136451f697c4e1e2bdb822256c62f5ad956755e6251e099e5fd79f175b66c19a", func := "candling/candlinglaw30.RaceOrder", spec := "raceOrder", unfollowed := true, recurses := true, plainKeys := false, apart := false }
def RaceOrderSaid : Prop := raceOrderRow.holds Try.pinned (OpenSpec.ofChange raceOrderSpec)

/-- ITS FALSE NEIGHBOUR: 'it returns false'. Refute it at one input. -/
def raceOrderWrong : ChangeSpec := { name := "raceOrder", fn := fun _ => fun
  | [d] => { results := [.lit (.bool false)], args := [d] }
  | _ => none }
def RaceOrderWrongFalsely : Prop := raceOrderRow.holds Try.pinned (OpenSpec.ofChange raceOrderWrong)

/-- 'candlinglaw30.RaceRaces': WHATEVER THE INPUT: true; the input reads as it did. -/
def raceRacesSpec : ChangeSpec := { name := "raceRaces", fn := fun _ => fun
  | [d1, d2] => { results := [.lit (.bool true)], args := [d1, d2] }
  | _ => none }
def raceRacesRow : OpenClaim := { program := "ytamciedmojpjaaa", sum := "136451f697c4e1e2bdb822256c62f5ad956755e6251e099e5fd79f175b66c19a", func := "candling/candlinglaw30.RaceRaces", spec := "raceRaces", unfollowed := true, recurses := true, plainKeys := false, apart := false }
def RaceRacesSaid : Prop := raceRacesRow.holds Try.pinned (OpenSpec.ofChange raceRacesSpec)

/-- ITS FALSE NEIGHBOUR: 'it returns false'. Refute it at one input. -/
def raceRacesWrong : ChangeSpec := { name := "raceRaces", fn := fun _ => fun
  | [d1, d2] => { results := [.lit (.bool false)], args := [d1, d2] }
  | _ => none }
def RaceRacesWrongFalsely : Prop := raceRacesRow.holds Try.pinned (OpenSpec.ofChange raceRacesWrong)

/-- 'candlinglaw30.RaceLocks': WHATEVER THE INPUT: true; the input reads as it did. -/
def raceLocksSpec : ChangeSpec := { name := "raceLocks", fn := fun _ => fun
  | [d1, d2, d3] => { results := [.lit (.bool true)], args := [d1, d2, d3] }
  | _ => none }
def raceLocksRow : OpenClaim := { program := "ytamciedmojpjaaa", sum := "136451f697c4e1e2bdb822256c62f5ad956755e6251e099e5fd79f175b66c19a", func := "candling/candlinglaw30.RaceLocks", spec := "raceLocks", unfollowed := true, recurses := true, plainKeys := false, apart := false }
def RaceLocksSaid : Prop := raceLocksRow.holds Try.pinned (OpenSpec.ofChange raceLocksSpec)

/-- ITS FALSE NEIGHBOUR: 'it returns false'. Refute it at one input. -/
def raceLocksWrong : ChangeSpec := { name := "raceLocks", fn := fun _ => fun
  | [d1, d2, d3] => { results := [.lit (.bool false)], args := [d1, d2, d3] }
  | _ => none }
def RaceLocksWrongFalsely : Prop := raceLocksRow.holds Try.pinned (OpenSpec.ofChange raceLocksWrong)

/-- 'candlinglaw30.RaceExactly': WHATEVER THE INPUT: true; the input reads as it did. -/
def raceExactlySpec : ChangeSpec := { name := "raceExactly", fn := fun _ => fun
  | [d1, d2] => { results := [.lit (.bool true)], args := [d1, d2] }
  | _ => none }
def raceExactlyRow : OpenClaim := { program := "ytamciedmojpjaaa", sum := "136451f697c4e1e2bdb822256c62f5ad956755e6251e099e5fd79f175b66c19a", func := "candling/candlinglaw30.RaceExactly", spec := "raceExactly", unfollowed := true, recurses := true, plainKeys := false, apart := false }
def RaceExactlySaid : Prop := raceExactlyRow.holds Try.pinned (OpenSpec.ofChange raceExactlySpec)

/-- ITS FALSE NEIGHBOUR: 'it returns false'. Refute it at one input. -/
def raceExactlyWrong : ChangeSpec := { name := "raceExactly", fn := fun _ => fun
  | [d1, d2] => { results := [.lit (.bool false)], args := [d1, d2] }
  | _ => none }
def RaceExactlyWrongFalsely : Prop := raceExactlyRow.holds Try.pinned (OpenSpec.ofChange raceExactlyWrong)

/-- 'candlinglaw30.RaceBeginnings': WHATEVER THE INPUT: true; the input reads as it did. -/
def raceBeginningsSpec : ChangeSpec := { name := "raceBeginnings", fn := fun _ => fun
  | [d1, d2, d3] => { results := [.lit (.bool true)], args := [d1, d2, d3] }
  | _ => none }
def raceBeginningsRow : OpenClaim := { program := "ytamciedmojpjaaa", sum := "136451f697c4e1e2bdb822256c62f5ad956755e6251e099e5fd79f175b66c19a", func := "candling/candlinglaw30.RaceBeginnings", spec := "raceBeginnings", unfollowed := true, recurses := true, plainKeys := false, apart := false }
def RaceBeginningsSaid : Prop := raceBeginningsRow.holds Try.pinned (OpenSpec.ofChange raceBeginningsSpec)

/-- ITS FALSE NEIGHBOUR: 'it returns false'. Refute it at one input. -/
def raceBeginningsWrong : ChangeSpec := { name := "raceBeginnings", fn := fun _ => fun
  | [d1, d2, d3] => { results := [.lit (.bool false)], args := [d1, d2, d3] }
  | _ => none }
def RaceBeginningsWrongFalsely : Prop := raceBeginningsRow.holds Try.pinned (OpenSpec.ofChange raceBeginningsWrong)

/-- 'candlinglaw30.RaceClones': WHATEVER THE INPUT: true; the input reads as it did. -/
def raceClonesSpec : ChangeSpec := { name := "raceClones", fn := fun _ => fun
  | [d1, d2, d3] => { results := [.lit (.bool true)], args := [d1, d2, d3] }
  | _ => none }
def raceClonesRow : OpenClaim := { program := "ytamciedmojpjaaa", sum := "136451f697c4e1e2bdb822256c62f5ad956755e6251e099e5fd79f175b66c19a", func := "candling/candlinglaw30.RaceClones", spec := "raceClones", inPlace := ["maps.clone"], unfollowed := true, recurses := true, plainKeys := false, apart := false }
def RaceClonesSaid : Prop := raceClonesRow.holds Try.pinned (OpenSpec.ofChange raceClonesSpec)

/-- ITS FALSE NEIGHBOUR: 'it returns false'. Refute it at one input. -/
def raceClonesWrong : ChangeSpec := { name := "raceClones", fn := fun _ => fun
  | [d1, d2, d3] => { results := [.lit (.bool false)], args := [d1, d2, d3] }
  | _ => none }
def RaceClonesWrongFalsely : Prop := raceClonesRow.holds Try.pinned (OpenSpec.ofChange raceClonesWrong)

/- THE SECOND FORM. 'bulk': how many values and letters a reading holds, each counted each time it is reached (what is shared counts as often as it is met; a slice's spare places count too). A statement '..UptoSaid' is the law's where the arguments, and the package variables that the reading takes, are together of bulk at most 1048576: NARROWER than '..Said'. Prove '..Said' where nothing that the law and all that it calls make is longer than what came in: it says more and counts as full. Else prove '..UptoSaid'. A law counts once. -/
mutual
def uptoBulk {H : Type} : DataW H → Nat
  | .lit (.string bytes) => bytes.length + 1
  | .lit _ => 1
  | .nil => 1
  | .ptr d => uptoBulk d + 1
  | .slice elems spare => uptoBulkAll elems + uptoBulkAll spare + 1
  | .agg parts => uptoBulkAll parts + 1
  | .iface _ d => uptoBulk d + 1
  | .map entries => uptoBulkEntries entries + 1
  | .held _ => 1
def uptoBulkAll {H : Type} : List (DataW H) → Nat
  | [] => 0
  | d :: r => uptoBulk d + uptoBulkAll r
def uptoBulkEntries {H : Type} : List (Lit × DataW H) → Nat
  | [] => 0
  | x :: r => uptoBulkEntry x + uptoBulkEntries r
def uptoBulkEntry {H : Type} : Lit × DataW H → Nat
  | (.string bytes, d) => bytes.length + uptoBulk d + 1
  | (_, d) => uptoBulk d + 1
 end
def uptoSmall : (H : Type) → List (DataW H) → Bool := fun _ ds => decide (uptoBulkAll ds ≤ 1048576)
def OpenSpec.upto (s : _root_.Go.ChangeSpec) : _root_.Go.OpenSpec := { _root_.Go.OpenSpec.ofChange s with cond := some uptoSmall }

/-- 'candlinglaw30.RaceDetector', WHERE WHAT IT READS IS OF BULK AT MOST 1048576: true; the input reads as it did. -/
def raceDetectorUptoRow : OpenClaim := { program := "ytamciedmojpjaaa", sum := "136451f697c4e1e2bdb822256c62f5ad956755e6251e099e5fd79f175b66c19a", func := "candling/candlinglaw30.RaceDetector", spec := "raceDetector", unfollowed := true, recurses := true, plainKeys := false, apart := false, narrowed := true }
def RaceDetectorUptoSaid : Prop := raceDetectorUptoRow.holds Try.pinned (OpenSpec.upto raceDetectorSpec)

/-- 'candlinglaw30.RaceQuiet', WHERE WHAT IT READS IS OF BULK AT MOST 1048576: true; the input reads as it did. -/
def raceQuietUptoRow : OpenClaim := { program := "ytamciedmojpjaaa", sum := "136451f697c4e1e2bdb822256c62f5ad956755e6251e099e5fd79f175b66c19a", func := "candling/candlinglaw30.RaceQuiet", spec := "raceQuiet", unfollowed := true, recurses := true, plainKeys := false, apart := false, narrowed := true }
def RaceQuietUptoSaid : Prop := raceQuietUptoRow.holds Try.pinned (OpenSpec.upto raceQuietSpec)

/-- 'candlinglaw30.RaceNames', WHERE WHAT IT READS IS OF BULK AT MOST 1048576: true; the input reads as it did. -/
def raceNamesUptoRow : OpenClaim := { program := "ytamciedmojpjaaa", sum := "136451f697c4e1e2bdb822256c62f5ad956755e6251e099e5fd79f175b66c19a", func := "candling/candlinglaw30.RaceNames", spec := "raceNames", unfollowed := true, recurses := true, plainKeys := false, apart := false, narrowed := true }
def RaceNamesUptoSaid : Prop := raceNamesUptoRow.holds Try.pinned (OpenSpec.upto raceNamesSpec)

/-- 'candlinglaw30.RaceMutexed', WHERE WHAT IT READS IS OF BULK AT MOST 1048576: true; the input reads as it did. -/
def raceMutexedUptoRow : OpenClaim := { program := "ytamciedmojpjaaa", sum := "136451f697c4e1e2bdb822256c62f5ad956755e6251e099e5fd79f175b66c19a", func := "candling/candlinglaw30.RaceMutexed", spec := "raceMutexed", unfollowed := true, recurses := true, plainKeys := false, apart := false, narrowed := true }
def RaceMutexedUptoSaid : Prop := raceMutexedUptoRow.holds Try.pinned (OpenSpec.upto raceMutexedSpec)

/-- 'candlinglaw30.RaceOrder', WHERE WHAT IT READS IS OF BULK AT MOST 1048576: true; the input reads as it did. -/
def raceOrderUptoRow : OpenClaim := { program := "ytamciedmojpjaaa", sum := "136451f697c4e1e2bdb822256c62f5ad956755e6251e099e5fd79f175b66c19a", func := "candling/candlinglaw30.RaceOrder", spec := "raceOrder", unfollowed := true, recurses := true, plainKeys := false, apart := false, narrowed := true }
def RaceOrderUptoSaid : Prop := raceOrderUptoRow.holds Try.pinned (OpenSpec.upto raceOrderSpec)

/-- 'candlinglaw30.RaceRaces', WHERE WHAT IT READS IS OF BULK AT MOST 1048576: true; the input reads as it did. -/
def raceRacesUptoRow : OpenClaim := { program := "ytamciedmojpjaaa", sum := "136451f697c4e1e2bdb822256c62f5ad956755e6251e099e5fd79f175b66c19a", func := "candling/candlinglaw30.RaceRaces", spec := "raceRaces", unfollowed := true, recurses := true, plainKeys := false, apart := false, narrowed := true }
def RaceRacesUptoSaid : Prop := raceRacesUptoRow.holds Try.pinned (OpenSpec.upto raceRacesSpec)

/-- 'candlinglaw30.RaceLocks', WHERE WHAT IT READS IS OF BULK AT MOST 1048576: true; the input reads as it did. -/
def raceLocksUptoRow : OpenClaim := { program := "ytamciedmojpjaaa", sum := "136451f697c4e1e2bdb822256c62f5ad956755e6251e099e5fd79f175b66c19a", func := "candling/candlinglaw30.RaceLocks", spec := "raceLocks", unfollowed := true, recurses := true, plainKeys := false, apart := false, narrowed := true }
def RaceLocksUptoSaid : Prop := raceLocksUptoRow.holds Try.pinned (OpenSpec.upto raceLocksSpec)

/-- 'candlinglaw30.RaceExactly', WHERE WHAT IT READS IS OF BULK AT MOST 1048576: true; the input reads as it did. -/
def raceExactlyUptoRow : OpenClaim := { program := "ytamciedmojpjaaa", sum := "136451f697c4e1e2bdb822256c62f5ad956755e6251e099e5fd79f175b66c19a", func := "candling/candlinglaw30.RaceExactly", spec := "raceExactly", unfollowed := true, recurses := true, plainKeys := false, apart := false, narrowed := true }
def RaceExactlyUptoSaid : Prop := raceExactlyUptoRow.holds Try.pinned (OpenSpec.upto raceExactlySpec)

/-- 'candlinglaw30.RaceBeginnings', WHERE WHAT IT READS IS OF BULK AT MOST 1048576: true; the input reads as it did. -/
def raceBeginningsUptoRow : OpenClaim := { program := "ytamciedmojpjaaa", sum := "136451f697c4e1e2bdb822256c62f5ad956755e6251e099e5fd79f175b66c19a", func := "candling/candlinglaw30.RaceBeginnings", spec := "raceBeginnings", unfollowed := true, recurses := true, plainKeys := false, apart := false, narrowed := true }
def RaceBeginningsUptoSaid : Prop := raceBeginningsUptoRow.holds Try.pinned (OpenSpec.upto raceBeginningsSpec)

/-- 'candlinglaw30.RaceClones', WHERE WHAT IT READS IS OF BULK AT MOST 1048576: true; the input reads as it did. -/
def raceClonesUptoRow : OpenClaim := { program := "ytamciedmojpjaaa", sum := "136451f697c4e1e2bdb822256c62f5ad956755e6251e099e5fd79f175b66c19a", func := "candling/candlinglaw30.RaceClones", spec := "raceClones", inPlace := ["maps.clone"], unfollowed := true, recurses := true, plainKeys := false, apart := false, narrowed := true }
def RaceClonesUptoSaid : Prop := raceClonesUptoRow.holds Try.pinned (OpenSpec.upto raceClonesSpec)

end Rows
end Go.Proofs.Ytamciedmojpjaaa
