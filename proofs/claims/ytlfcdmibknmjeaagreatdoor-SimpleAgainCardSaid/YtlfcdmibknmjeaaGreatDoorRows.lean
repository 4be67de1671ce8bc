/-
  NARROWER THAN 'FOR EVERY INPUT', by the rows' own cells (each row's printed sentence says how): SimpleTells: laid · SimpleOnce: laid · SimpleAgain: laid · SimpleLits: laid · SimpleSame: laid.
  DERIVED. THE GIVEN ROWS OF THIS SEAT. 5 by the template 'for every input the law returns true; each argument reads behind the call as it read before'; 0 by the template 'total and deterministic' (their statements: YtlfcdmibknmjeaaGreatDoorTotals.lean).
  GIVEN WITH THE SEED: the statements are not yours to turn. If you find one false, say at which input.
  Laid BY PROGRAM, IN A SANDBOX (cutbox-rows.mjs): the forced cells as the released guide's own fill.sh prints them over the translation f450302edae2d020… (all of the seat's roots in one cut). By AI agents, Wed Nov 11 2026. No macro, syntax, notation, axiom, sorry.
-/
import Derived.Test.YtlfcdmibknmjeaaGreatDoorChecked
import GoSem.Claim
import GoSem.ClaimJoined
import GoSem.ClaimMapViews
import Derived.JoinedTies
import Derived.KernelRfl
namespace Go.Proofs.YtlfcdmibknmjeaaGreatDoor
/- THE CELL 'sum', in the pinned program and in every row, IS THE sha256 OF THE DUMP (.gsa) THAT YtlfcdmibknmjeaaGreatDoorProg.lean LOADS. Nothing in Lean hashes anything: it is a label: what it is worth is what the hold of that sum in a sandbox is worth. -/
noncomputable def Tryz.pinned : Pinned := { name := "ytlfcdmibknmjeaagreatdoor", sum := "f450302edae2d02021393cb1944eca514a8216b693b7172b33cd42ce836b6a0c", checked := Tryz.checked }
namespace Rows
def none {H : Type} : Left H := { results := [], args := [] }

/- WHAT THE LISTED PACKAGE-LEVEL VARIABLES READ AS WHEN THE CALL BEGINS. Each datum BY PROGRAM (the guide's laid-datum.mjs) off the statement by which the dump's own 'gosem.cut.vars' lays the variable. In a bare row this is a premise. The card (YtlfcdmibknmjeaaGreatDoorCards.lean) ties it to the program's text. -/
def laid_steelyard_digits_tens {H : Type} : DataW H := .agg [.lit (.int .u32 1), .lit (.int .u32 10), .lit (.int .u32 100), .lit (.int .u32 1000), .lit (.int .u32 10000), .lit (.int .u32 100000), .lit (.int .u32 1000000), .lit (.int .u32 10000000), .lit (.int .u32 100000000), .lit (.int .u32 1000000000)]

/-- 'steelyardlaw22.SimpleTells': WHATEVER THE INPUT: true; the input reads as it did. -/
def simpleTellsSpec : ChangeSpec := { name := "simpleTells", fn := fun _ => fun
  | [d1, d2] => { results := [.lit (.bool true)], args := [d1, d2] }
  | _ => none }
def simpleTellsRow : OpenClaim := { program := "ytlfcdmibknmjeaagreatdoor", sum := "f450302edae2d02021393cb1944eca514a8216b693b7172b33cd42ce836b6a0c", func := "steelyard/steelyardlaw22.SimpleTells", spec := "simpleTells", unfollowed := true, recurses := true, named := ["steelyard/digits.tens", "math/bits.overflowError"], plainKeys := false, apart := false, laid := [("steelyard/digits.tens", laid_steelyard_digits_tens)] }
def SimpleTellsSaid : Prop := simpleTellsRow.holds Tryz.pinned (OpenSpec.ofChange simpleTellsSpec)

/-- ITS FALSE NEIGHBOUR: 'it returns false'. Refute it at one input. -/
def simpleTellsWrong : ChangeSpec := { name := "simpleTells", fn := fun _ => fun
  | [d1, d2] => { results := [.lit (.bool false)], args := [d1, d2] }
  | _ => none }
def SimpleTellsWrongFalsely : Prop := simpleTellsRow.holds Tryz.pinned (OpenSpec.ofChange simpleTellsWrong)

/-- 'steelyardlaw22.SimpleOnce': WHATEVER THE INPUT: true; the input reads as it did. -/
def simpleOnceSpec : ChangeSpec := { name := "simpleOnce", fn := fun _ => fun
  | [d1, d2] => { results := [.lit (.bool true)], args := [d1, d2] }
  | _ => none }
def simpleOnceRow : OpenClaim := { program := "ytlfcdmibknmjeaagreatdoor", sum := "f450302edae2d02021393cb1944eca514a8216b693b7172b33cd42ce836b6a0c", func := "steelyard/steelyardlaw22.SimpleOnce", spec := "simpleOnce", unfollowed := true, recurses := true, named := ["steelyard/digits.tens", "math/bits.overflowError"], plainKeys := false, apart := false, laid := [("steelyard/digits.tens", laid_steelyard_digits_tens)] }
def SimpleOnceSaid : Prop := simpleOnceRow.holds Tryz.pinned (OpenSpec.ofChange simpleOnceSpec)

/-- ITS FALSE NEIGHBOUR: 'it returns false'. Refute it at one input. -/
def simpleOnceWrong : ChangeSpec := { name := "simpleOnce", fn := fun _ => fun
  | [d1, d2] => { results := [.lit (.bool false)], args := [d1, d2] }
  | _ => none }
def SimpleOnceWrongFalsely : Prop := simpleOnceRow.holds Tryz.pinned (OpenSpec.ofChange simpleOnceWrong)

/-- 'steelyardlaw22.SimpleAgain': WHATEVER THE INPUT: true; the input reads as it did. -/
def simpleAgainSpec : ChangeSpec := { name := "simpleAgain", fn := fun _ => fun
  | [d1, d2] => { results := [.lit (.bool true)], args := [d1, d2] }
  | _ => none }
def simpleAgainRow : OpenClaim := { program := "ytlfcdmibknmjeaagreatdoor", sum := "f450302edae2d02021393cb1944eca514a8216b693b7172b33cd42ce836b6a0c", func := "steelyard/steelyardlaw22.SimpleAgain", spec := "simpleAgain", unfollowed := true, recurses := true, named := ["steelyard/digits.tens", "math/bits.overflowError"], plainKeys := false, apart := false, laid := [("steelyard/digits.tens", laid_steelyard_digits_tens)] }
def SimpleAgainSaid : Prop := simpleAgainRow.holds Tryz.pinned (OpenSpec.ofChange simpleAgainSpec)

/-- ITS FALSE NEIGHBOUR: 'it returns false'. Refute it at one input. -/
def simpleAgainWrong : ChangeSpec := { name := "simpleAgain", fn := fun _ => fun
  | [d1, d2] => { results := [.lit (.bool false)], args := [d1, d2] }
  | _ => none }
def SimpleAgainWrongFalsely : Prop := simpleAgainRow.holds Tryz.pinned (OpenSpec.ofChange simpleAgainWrong)

/-- 'steelyardlaw22.SimpleLits': WHATEVER THE INPUT: true; the input reads as it did. -/
def simpleLitsSpec : ChangeSpec := { name := "simpleLits", fn := fun _ => fun
  | [d1, d2] => { results := [.lit (.bool true)], args := [d1, d2] }
  | _ => none }
def simpleLitsRow : OpenClaim := { program := "ytlfcdmibknmjeaagreatdoor", sum := "f450302edae2d02021393cb1944eca514a8216b693b7172b33cd42ce836b6a0c", func := "steelyard/steelyardlaw22.SimpleLits", spec := "simpleLits", inPlace := ["sync/atomic.AddInt64", "sync/atomic.LoadInt64"], unfollowed := true, recurses := true, named := ["steelyard/digits.tens", "math/bits.overflowError"], plainKeys := false, apart := false, laid := [("steelyard/digits.tens", laid_steelyard_digits_tens)] }
def SimpleLitsSaid : Prop := simpleLitsRow.holds Tryz.pinned (OpenSpec.ofChange simpleLitsSpec)

/-- ITS FALSE NEIGHBOUR: 'it returns false'. Refute it at one input. -/
def simpleLitsWrong : ChangeSpec := { name := "simpleLits", fn := fun _ => fun
  | [d1, d2] => { results := [.lit (.bool false)], args := [d1, d2] }
  | _ => none }
def SimpleLitsWrongFalsely : Prop := simpleLitsRow.holds Tryz.pinned (OpenSpec.ofChange simpleLitsWrong)

/-- 'steelyardlaw22.SimpleSame': WHATEVER THE INPUT: true; the input reads as it did. -/
def simpleSameSpec : ChangeSpec := { name := "simpleSame", fn := fun _ => fun
  | [d1, d2, d3] => { results := [.lit (.bool true)], args := [d1, d2, d3] }
  | _ => none }
def simpleSameRow : OpenClaim := { program := "ytlfcdmibknmjeaagreatdoor", sum := "f450302edae2d02021393cb1944eca514a8216b693b7172b33cd42ce836b6a0c", func := "steelyard/steelyardlaw22.SimpleSame", spec := "simpleSame", inPlace := ["sync/atomic.AddInt64", "sync/atomic.LoadInt64", "sync/atomic.LoadUint32", "(*internal/sync.Mutex).Lock", "internal/race.Disable", "sync/atomic.CompareAndSwapInt32", "internal/race.Enable", "internal/race.Acquire", "(*internal/sync.Mutex).lockSlow", "internal/sync.runtime_canSpin", "internal/sync.runtime_doSpin", "internal/sync.throw", "internal/sync.runtime_nanotime", "internal/sync.runtime_SemacquireMutex", "sync/atomic.AddInt32", "(*internal/sync.Mutex).Unlock", "internal/race.ReleaseMerge", "(*internal/sync.Mutex).unlockSlow", "internal/sync.fatal", "internal/sync.runtime_Semrelease", "sync/atomic.StoreUint32"], unfollowed := true, recurses := true, named := ["steelyard/digits.tens", "math/bits.overflowError"], plainKeys := false, apart := false, laid := [("steelyard/digits.tens", laid_steelyard_digits_tens)] }
def SimpleSameSaid : Prop := simpleSameRow.holds Tryz.pinned (OpenSpec.ofChange simpleSameSpec)

/-- ITS FALSE NEIGHBOUR: 'it returns false'. Refute it at one input. -/
def simpleSameWrong : ChangeSpec := { name := "simpleSame", fn := fun _ => fun
  | [d1, d2, d3] => { results := [.lit (.bool false)], args := [d1, d2, d3] }
  | _ => none }
def SimpleSameWrongFalsely : Prop := simpleSameRow.holds Tryz.pinned (OpenSpec.ofChange simpleSameWrong)

/- THE SECOND FORM. 'bulk': how many values and letters a reading holds, each counted each time it is reached (what is shared counts as often as it is met; a slice's spare places count too). A statement '..UptoSaid' is the law's where the arguments, and the package variables that the reading takes, are together of bulk at most 1048576: NARROWER than '..Said'. Prove '..Said' where nothing that the law and all that it calls make is longer than what came in: it says more and counts as full. Else prove '..UptoSaid'. A law counts once. -/
mutual
def uptoBulk {H : Type} : DataW H → Nat
  | .lit (.string bytes) => bytes.length + 1
  | .lit _ => 1
  | .nil => 1
  | .ptr d => uptoBulk d + 1
  | .slice elems spare => uptoBulkAll elems + uptoBulkAll spare + 1
  | .agg parts => uptoBulkAll parts + 1
  | .iface _ d => uptoBulk d + 1
  | .map entries => uptoBulkEntries entries + 1
  | .held _ => 1
def uptoBulkAll {H : Type} : List (DataW H) → Nat
  | [] => 0
  | d :: r => uptoBulk d + uptoBulkAll r
def uptoBulkEntries {H : Type} : List (Lit × DataW H) → Nat
  | [] => 0
  | x :: r => uptoBulkEntry x + uptoBulkEntries r
def uptoBulkEntry {H : Type} : Lit × DataW H → Nat
  | (.string bytes, d) => bytes.length + uptoBulk d + 1
  | (_, d) => uptoBulk d + 1
 end
def uptoSmall : (H : Type) → List (DataW H) → Bool := fun _ ds => decide (uptoBulkAll ds ≤ 1048576)
def OpenSpec.upto (s : _root_.Go.ChangeSpec) : _root_.Go.OpenSpec := { _root_.Go.OpenSpec.ofChange s with cond := some uptoSmall }

/-- 'steelyardlaw22.SimpleTells', WHERE WHAT IT READS IS OF BULK AT MOST 1048576: true; the input reads as it did. -/
def simpleTellsUptoRow : OpenClaim := { program := "ytlfcdmibknmjeaagreatdoor", sum := "f450302edae2d02021393cb1944eca514a8216b693b7172b33cd42ce836b6a0c", func := "steelyard/steelyardlaw22.SimpleTells", spec := "simpleTells", unfollowed := true, recurses := true, named := ["steelyard/digits.tens", "math/bits.overflowError"], plainKeys := false, apart := false, laid := [("steelyard/digits.tens", laid_steelyard_digits_tens)], narrowed := true }
def SimpleTellsUptoSaid : Prop := simpleTellsUptoRow.holds Tryz.pinned (OpenSpec.upto simpleTellsSpec)

/-- 'steelyardlaw22.SimpleOnce', WHERE WHAT IT READS IS OF BULK AT MOST 1048576: true; the input reads as it did. -/
def simpleOnceUptoRow : OpenClaim := { program := "ytlfcdmibknmjeaagreatdoor", sum := "f450302edae2d02021393cb1944eca514a8216b693b7172b33cd42ce836b6a0c", func := "steelyard/steelyardlaw22.SimpleOnce", spec := "simpleOnce", unfollowed := true, recurses := true, named := ["steelyard/digits.tens", "math/bits.overflowError"], plainKeys := false, apart := false, laid := [("steelyard/digits.tens", laid_steelyard_digits_tens)], narrowed := true }
def SimpleOnceUptoSaid : Prop := simpleOnceUptoRow.holds Tryz.pinned (OpenSpec.upto simpleOnceSpec)

/-- 'steelyardlaw22.SimpleAgain', WHERE WHAT IT READS IS OF BULK AT MOST 1048576: true; the input reads as it did. -/
def simpleAgainUptoRow : OpenClaim := { program := "ytlfcdmibknmjeaagreatdoor", sum := "f450302edae2d02021393cb1944eca514a8216b693b7172b33cd42ce836b6a0c", func := "steelyard/steelyardlaw22.SimpleAgain", spec := "simpleAgain", unfollowed := true, recurses := true, named := ["steelyard/digits.tens", "math/bits.overflowError"], plainKeys := false, apart := false, laid := [("steelyard/digits.tens", laid_steelyard_digits_tens)], narrowed := true }
def SimpleAgainUptoSaid : Prop := simpleAgainUptoRow.holds Tryz.pinned (OpenSpec.upto simpleAgainSpec)

/-- 'steelyardlaw22.SimpleLits', WHERE WHAT IT READS IS OF BULK AT MOST 1048576: true; the input reads as it did. -/
def simpleLitsUptoRow : OpenClaim := { program := "ytlfcdmibknmjeaagreatdoor", sum := "f450302edae2d02021393cb1944eca514a8216b693b7172b33cd42ce836b6a0c", func := "steelyard/steelyardlaw22.SimpleLits", spec := "simpleLits", inPlace := ["sync/atomic.AddInt64", "sync/atomic.LoadInt64"], unfollowed := true, recurses := true, named := ["steelyard/digits.tens", "math/bits.overflowError"], plainKeys := false, apart := false, laid := [("steelyard/digits.tens", laid_steelyard_digits_tens)], narrowed := true }
def SimpleLitsUptoSaid : Prop := simpleLitsUptoRow.holds Tryz.pinned (OpenSpec.upto simpleLitsSpec)

/-- 'steelyardlaw22.SimpleSame', WHERE WHAT IT READS IS OF BULK AT MOST 1048576: true; the input reads as it did. -/
def simpleSameUptoRow : OpenClaim := { program := "ytlfcdmibknmjeaagreatdoor", sum := "f450302edae2d02021393cb1944eca514a8216b693b7172b33cd42ce836b6a0c", func := "steelyard/steelyardlaw22.SimpleSame", spec := "simpleSame", inPlace := ["sync/atomic.AddInt64", "sync/atomic.LoadInt64", "sync/atomic.LoadUint32", "(*internal/sync.Mutex).Lock", "internal/race.Disable", "sync/atomic.CompareAndSwapInt32", "internal/race.Enable", "internal/race.Acquire", "(*internal/sync.Mutex).lockSlow", "internal/sync.runtime_canSpin", "internal/sync.runtime_doSpin", "internal/sync.throw", "internal/sync.runtime_nanotime", "internal/sync.runtime_SemacquireMutex", "sync/atomic.AddInt32", "(*internal/sync.Mutex).Unlock", "internal/race.ReleaseMerge", "(*internal/sync.Mutex).unlockSlow", "internal/sync.fatal", "internal/sync.runtime_Semrelease", "sync/atomic.StoreUint32"], unfollowed := true, recurses := true, named := ["steelyard/digits.tens", "math/bits.overflowError"], plainKeys := false, apart := false, laid := [("steelyard/digits.tens", laid_steelyard_digits_tens)], narrowed := true }
def SimpleSameUptoSaid : Prop := simpleSameUptoRow.holds Tryz.pinned (OpenSpec.upto simpleSameSpec)

end Rows
end Go.Proofs.YtlfcdmibknmjeaaGreatDoor
