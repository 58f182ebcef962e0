/-
  NARROWER THAN 'FOR EVERY INPUT', by the rows' own cells (each row's printed sentence says how): ScribeChecks: laid · ScribeLays: laid · ScribeBits: laid · ScribeReads: laid · ScribeBack: laid · ScribeKnown: laid · FrameLays: laid · FrameSigned: laid · FrameReads: laid · FrameKnown: laid · FrameBack: laid.
  DERIVED. THE GIVEN ROWS OF THIS SEAT. 11 by the template 'for every input the law returns true; each argument reads behind the call as it read before'; 0 by the template 'total and deterministic' (their statements: YtieipnnpkngegaaDoorTotals.lean).
  GIVEN WITH THE SEED: the statements are not yours to turn. If you find one false, say at which input.
  Laid BY PROGRAM, IN A SANDBOX (cutbox-rows.mjs): the forced cells as the released guide's own fill.sh prints them over the translation 88cee5ca44be06a6… (all of the seat's roots in one cut). By AI agents, Wed Nov 11 2026. No macro, syntax, notation, axiom, sorry.
-/
import Derived.Test.YtieipnnpkngegaaDoorChecked
import GoSem.Claim
import GoSem.ClaimJoined
import GoSem.ClaimMapViews
import Derived.JoinedTies
import Derived.KernelRfl
namespace Go.Proofs.YtieipnnpkngegaaDoor
/- THE CELL 'sum', in the pinned program and in every row, IS THE sha256 OF THE DUMP (.gsa) THAT YtieipnnpkngegaaDoorProg.lean LOADS. Nothing in Lean hashes anything: it is a label: what it is worth is what the hold of that sum in a sandbox is worth. -/
noncomputable def Tryd.pinned : Pinned := { name := "ytieipnnpkngegaadoor", sum := "88cee5ca44be06a6fab2b6c01b83edc721842f09d6cb74a6c0466a8c190bef98", checked := Tryd.checked }
namespace Rows
def none {H : Type} : Left H := { results := [], args := [] }

/- WHAT THE LISTED PACKAGE-LEVEL VARIABLES READ AS WHEN THE CALL BEGINS. Each datum BY PROGRAM (the guide's laid-datum.mjs) off the statement by which the dump's own 'gosem.cut.vars' lays the variable. In a bare row this is a premise. The card (YtieipnnpkngegaaDoorCards.lean) ties it to the program's text. -/
def laid_longwire_scribe_table {H : Type} : DataW H := .agg [.lit (.int .u32 0), .lit (.int .u32 498536548), .lit (.int .u32 997073096), .lit (.int .u32 651767980), .lit (.int .u32 1994146192), .lit (.int .u32 1802195444), .lit (.int .u32 1303535960), .lit (.int .u32 1342533948), .lit (.int .u32 3988292384), .lit (.int .u32 4027552580), .lit (.int .u32 3604390888), .lit (.int .u32 3412177804), .lit (.int .u32 2607071920), .lit (.int .u32 2262029012), .lit (.int .u32 2685067896), .lit (.int .u32 3183342108)]
def laid_longwire_frame_may {H : Type} : DataW H := .iface "func table" (.agg [.nil, .iface "func" (.lit (.string [108, 111, 110, 103, 119, 105, 114, 101, 47, 102, 114, 97, 109, 101, 46, 98, 97, 114, 101])), .iface "func" (.lit (.string [108, 111, 110, 103, 119, 105, 114, 101, 47, 102, 114, 97, 109, 101, 46, 98, 97, 114, 101])), .iface "func" (.lit (.string [108, 111, 110, 103, 119, 105, 114, 101, 47, 102, 114, 97, 109, 101, 46, 109, 97, 121, 36, 49])), .iface "func" (.lit (.string [108, 111, 110, 103, 119, 105, 114, 101, 47, 102, 114, 97, 109, 101, 46, 109, 97, 121, 36, 50])), .iface "func" (.lit (.string [108, 111, 110, 103, 119, 105, 114, 101, 47, 102, 114, 97, 109, 101, 46, 98, 97, 114, 101]))])

/-- 'longwirelaw01.ScribeChecks': WHATEVER THE INPUT: true; the input reads as it did. -/
def scribeChecksSpec : ChangeSpec := { name := "scribeChecks", fn := fun _ => fun
  | [d] => { results := [.lit (.bool true)], args := [d] }
  | _ => none }
def scribeChecksRow : OpenClaim := { program := "ytieipnnpkngegaadoor", sum := "88cee5ca44be06a6fab2b6c01b83edc721842f09d6cb74a6c0466a8c190bef98", func := "longwire/longwirelaw01.ScribeChecks", spec := "scribeChecks", named := ["longwire/scribe.table"], apart := false, laid := [("longwire/scribe.table", laid_longwire_scribe_table)] }
def ScribeChecksSaid : Prop := scribeChecksRow.holds Tryd.pinned (OpenSpec.ofChange scribeChecksSpec)

/-- ITS FALSE NEIGHBOUR: 'it returns false'. Refute it at one input. -/
def scribeChecksWrong : ChangeSpec := { name := "scribeChecks", fn := fun _ => fun
  | [d] => { results := [.lit (.bool false)], args := [d] }
  | _ => none }
def ScribeChecksWrongFalsely : Prop := scribeChecksRow.holds Tryd.pinned (OpenSpec.ofChange scribeChecksWrong)

/-- 'longwirelaw01.ScribeLays': WHATEVER THE INPUT: true; the input reads as it did. -/
def scribeLaysSpec : ChangeSpec := { name := "scribeLays", fn := fun _ => fun
  | [d] => { results := [.lit (.bool true)], args := [d] }
  | _ => none }
def scribeLaysRow : OpenClaim := { program := "ytieipnnpkngegaadoor", sum := "88cee5ca44be06a6fab2b6c01b83edc721842f09d6cb74a6c0466a8c190bef98", func := "longwire/longwirelaw01.ScribeLays", spec := "scribeLays", named := ["longwire/scribe.table"], apart := false, laid := [("longwire/scribe.table", laid_longwire_scribe_table)] }
def ScribeLaysSaid : Prop := scribeLaysRow.holds Tryd.pinned (OpenSpec.ofChange scribeLaysSpec)

/-- ITS FALSE NEIGHBOUR: 'it returns false'. Refute it at one input. -/
def scribeLaysWrong : ChangeSpec := { name := "scribeLays", fn := fun _ => fun
  | [d] => { results := [.lit (.bool false)], args := [d] }
  | _ => none }
def ScribeLaysWrongFalsely : Prop := scribeLaysRow.holds Tryd.pinned (OpenSpec.ofChange scribeLaysWrong)

/-- 'longwirelaw01.ScribeBits': WHATEVER THE INPUT: true; the input reads as it did. -/
def scribeBitsSpec : ChangeSpec := { name := "scribeBits", fn := fun _ => fun
  | [d1, d2, d3] => { results := [.lit (.bool true)], args := [d1, d2, d3] }
  | _ => none }
def scribeBitsRow : OpenClaim := { program := "ytieipnnpkngegaadoor", sum := "88cee5ca44be06a6fab2b6c01b83edc721842f09d6cb74a6c0466a8c190bef98", func := "longwire/longwirelaw01.ScribeBits", spec := "scribeBits", named := ["longwire/scribe.table"], apart := false, laid := [("longwire/scribe.table", laid_longwire_scribe_table)] }
def ScribeBitsSaid : Prop := scribeBitsRow.holds Tryd.pinned (OpenSpec.ofChange scribeBitsSpec)

/-- ITS FALSE NEIGHBOUR: 'it returns false'. Refute it at one input. -/
def scribeBitsWrong : ChangeSpec := { name := "scribeBits", fn := fun _ => fun
  | [d1, d2, d3] => { results := [.lit (.bool false)], args := [d1, d2, d3] }
  | _ => none }
def ScribeBitsWrongFalsely : Prop := scribeBitsRow.holds Tryd.pinned (OpenSpec.ofChange scribeBitsWrong)

/-- 'longwirelaw01.ScribeReads': WHATEVER THE INPUT: true; the input reads as it did. -/
def scribeReadsSpec : ChangeSpec := { name := "scribeReads", fn := fun _ => fun
  | [d1, d2] => { results := [.lit (.bool true)], args := [d1, d2] }
  | _ => none }
def scribeReadsRow : OpenClaim := { program := "ytieipnnpkngegaadoor", sum := "88cee5ca44be06a6fab2b6c01b83edc721842f09d6cb74a6c0466a8c190bef98", func := "longwire/longwirelaw01.ScribeReads", spec := "scribeReads", named := ["longwire/scribe.table"], apart := false, laid := [("longwire/scribe.table", laid_longwire_scribe_table)] }
def ScribeReadsSaid : Prop := scribeReadsRow.holds Tryd.pinned (OpenSpec.ofChange scribeReadsSpec)

/-- ITS FALSE NEIGHBOUR: 'it returns false'. Refute it at one input. -/
def scribeReadsWrong : ChangeSpec := { name := "scribeReads", fn := fun _ => fun
  | [d1, d2] => { results := [.lit (.bool false)], args := [d1, d2] }
  | _ => none }
def ScribeReadsWrongFalsely : Prop := scribeReadsRow.holds Tryd.pinned (OpenSpec.ofChange scribeReadsWrong)

/-- 'longwirelaw01.ScribeBack': WHATEVER THE INPUT: true; the input reads as it did. -/
def scribeBackSpec : ChangeSpec := { name := "scribeBack", fn := fun _ => fun
  | [d1, d2] => { results := [.lit (.bool true)], args := [d1, d2] }
  | _ => none }
def scribeBackRow : OpenClaim := { program := "ytieipnnpkngegaadoor", sum := "88cee5ca44be06a6fab2b6c01b83edc721842f09d6cb74a6c0466a8c190bef98", func := "longwire/longwirelaw01.ScribeBack", spec := "scribeBack", named := ["longwire/scribe.table"], apart := false, laid := [("longwire/scribe.table", laid_longwire_scribe_table)] }
def ScribeBackSaid : Prop := scribeBackRow.holds Tryd.pinned (OpenSpec.ofChange scribeBackSpec)

/-- ITS FALSE NEIGHBOUR: 'it returns false'. Refute it at one input. -/
def scribeBackWrong : ChangeSpec := { name := "scribeBack", fn := fun _ => fun
  | [d1, d2] => { results := [.lit (.bool false)], args := [d1, d2] }
  | _ => none }
def ScribeBackWrongFalsely : Prop := scribeBackRow.holds Tryd.pinned (OpenSpec.ofChange scribeBackWrong)

/-- 'longwirelaw01.ScribeKnown': WHATEVER THE INPUT: true; the input reads as it did. -/
def scribeKnownSpec : ChangeSpec := { name := "scribeKnown", fn := fun _ => fun
  | [] => { results := [.lit (.bool true)], args := [] }
  | _ => none }
def scribeKnownRow : OpenClaim := { program := "ytieipnnpkngegaadoor", sum := "88cee5ca44be06a6fab2b6c01b83edc721842f09d6cb74a6c0466a8c190bef98", func := "longwire/longwirelaw01.ScribeKnown", spec := "scribeKnown", inPlace := ["internal/abi.NoEscape", "internal/bytealg.MakeNoZero"], named := ["longwire/scribe.table"], apart := false, laid := [("longwire/scribe.table", laid_longwire_scribe_table)] }
def ScribeKnownSaid : Prop := scribeKnownRow.holds Tryd.pinned (OpenSpec.ofChange scribeKnownSpec)

/-- ITS FALSE NEIGHBOUR: 'it returns false'. Refute it at one input. -/
def scribeKnownWrong : ChangeSpec := { name := "scribeKnown", fn := fun _ => fun
  | [] => { results := [.lit (.bool false)], args := [] }
  | _ => none }
def ScribeKnownWrongFalsely : Prop := scribeKnownRow.holds Tryd.pinned (OpenSpec.ofChange scribeKnownWrong)

/-- 'longwirelaw04.FrameLays': WHATEVER THE INPUT: true; the input reads as it did. -/
def frameLaysSpec : ChangeSpec := { name := "frameLays", fn := fun _ => fun
  | [d1, d2] => { results := [.lit (.bool true)], args := [d1, d2] }
  | _ => none }
def frameLaysRow : OpenClaim := { program := "ytieipnnpkngegaadoor", sum := "88cee5ca44be06a6fab2b6c01b83edc721842f09d6cb74a6c0466a8c190bef98", func := "longwire/longwirelaw04.FrameLays", spec := "frameLays", unfollowed := true, recurses := true, named := ["longwire/frame.may", "longwire/scribe.table"], apart := false, laid := [("longwire/scribe.table", laid_longwire_scribe_table), ("longwire/frame.may", laid_longwire_frame_may)] }
def FrameLaysSaid : Prop := frameLaysRow.holds Tryd.pinned (OpenSpec.ofChange frameLaysSpec)

/-- ITS FALSE NEIGHBOUR: 'it returns false'. Refute it at one input. -/
def frameLaysWrong : ChangeSpec := { name := "frameLays", fn := fun _ => fun
  | [d1, d2] => { results := [.lit (.bool false)], args := [d1, d2] }
  | _ => none }
def FrameLaysWrongFalsely : Prop := frameLaysRow.holds Tryd.pinned (OpenSpec.ofChange frameLaysWrong)

/-- 'longwirelaw04.FrameSigned': WHATEVER THE INPUT: true; the input reads as it did. -/
def frameSignedSpec : ChangeSpec := { name := "frameSigned", fn := fun _ => fun
  | [d1, d2, d3, d4] => { results := [.lit (.bool true)], args := [d1, d2, d3, d4] }
  | _ => none }
def frameSignedRow : OpenClaim := { program := "ytieipnnpkngegaadoor", sum := "88cee5ca44be06a6fab2b6c01b83edc721842f09d6cb74a6c0466a8c190bef98", func := "longwire/longwirelaw04.FrameSigned", spec := "frameSigned", unfollowed := true, recurses := true, named := ["longwire/frame.may", "longwire/scribe.table"], apart := false, laid := [("longwire/scribe.table", laid_longwire_scribe_table), ("longwire/frame.may", laid_longwire_frame_may)] }
def FrameSignedSaid : Prop := frameSignedRow.holds Tryd.pinned (OpenSpec.ofChange frameSignedSpec)

/-- ITS FALSE NEIGHBOUR: 'it returns false'. Refute it at one input. -/
def frameSignedWrong : ChangeSpec := { name := "frameSigned", fn := fun _ => fun
  | [d1, d2, d3, d4] => { results := [.lit (.bool false)], args := [d1, d2, d3, d4] }
  | _ => none }
def FrameSignedWrongFalsely : Prop := frameSignedRow.holds Tryd.pinned (OpenSpec.ofChange frameSignedWrong)

/-- 'longwirelaw04.FrameReads': WHATEVER THE INPUT: true; the input reads as it did. -/
def frameReadsSpec : ChangeSpec := { name := "frameReads", fn := fun _ => fun
  | [d] => { results := [.lit (.bool true)], args := [d] }
  | _ => none }
def frameReadsRow : OpenClaim := { program := "ytieipnnpkngegaadoor", sum := "88cee5ca44be06a6fab2b6c01b83edc721842f09d6cb74a6c0466a8c190bef98", func := "longwire/longwirelaw04.FrameReads", spec := "frameReads", unfollowed := true, recurses := true, named := ["longwire/scribe.table", "longwire/frame.may"], apart := false, laid := [("longwire/scribe.table", laid_longwire_scribe_table), ("longwire/frame.may", laid_longwire_frame_may)] }
def FrameReadsSaid : Prop := frameReadsRow.holds Tryd.pinned (OpenSpec.ofChange frameReadsSpec)

/-- ITS FALSE NEIGHBOUR: 'it returns false'. Refute it at one input. -/
def frameReadsWrong : ChangeSpec := { name := "frameReads", fn := fun _ => fun
  | [d] => { results := [.lit (.bool false)], args := [d] }
  | _ => none }
def FrameReadsWrongFalsely : Prop := frameReadsRow.holds Tryd.pinned (OpenSpec.ofChange frameReadsWrong)

/-- 'longwirelaw04.FrameKnown': WHATEVER THE INPUT: true; the input reads as it did. -/
def frameKnownSpec : ChangeSpec := { name := "frameKnown", fn := fun _ => fun
  | [] => { results := [.lit (.bool true)], args := [] }
  | _ => none }
def frameKnownRow : OpenClaim := { program := "ytieipnnpkngegaadoor", sum := "88cee5ca44be06a6fab2b6c01b83edc721842f09d6cb74a6c0466a8c190bef98", func := "longwire/longwirelaw04.FrameKnown", spec := "frameKnown", unfollowed := true, recurses := true, named := ["longwire/frame.may", "longwire/scribe.table"], apart := false, laid := [("longwire/scribe.table", laid_longwire_scribe_table), ("longwire/frame.may", laid_longwire_frame_may)] }
def FrameKnownSaid : Prop := frameKnownRow.holds Tryd.pinned (OpenSpec.ofChange frameKnownSpec)

/-- ITS FALSE NEIGHBOUR: 'it returns false'. Refute it at one input. -/
def frameKnownWrong : ChangeSpec := { name := "frameKnown", fn := fun _ => fun
  | [] => { results := [.lit (.bool false)], args := [] }
  | _ => none }
def FrameKnownWrongFalsely : Prop := frameKnownRow.holds Tryd.pinned (OpenSpec.ofChange frameKnownWrong)

/-- 'longwirelaw04.FrameBack': WHATEVER THE INPUT: true; the input reads as it did. -/
def frameBackSpec : ChangeSpec := { name := "frameBack", fn := fun _ => fun
  | [d1, d2, d3, d4] => { results := [.lit (.bool true)], args := [d1, d2, d3, d4] }
  | _ => none }
def frameBackRow : OpenClaim := { program := "ytieipnnpkngegaadoor", sum := "88cee5ca44be06a6fab2b6c01b83edc721842f09d6cb74a6c0466a8c190bef98", func := "longwire/longwirelaw04.FrameBack", spec := "frameBack", unfollowed := true, recurses := true, named := ["longwire/frame.may", "longwire/scribe.table"], apart := false, laid := [("longwire/scribe.table", laid_longwire_scribe_table), ("longwire/frame.may", laid_longwire_frame_may)] }
def FrameBackSaid : Prop := frameBackRow.holds Tryd.pinned (OpenSpec.ofChange frameBackSpec)

/-- ITS FALSE NEIGHBOUR: 'it returns false'. Refute it at one input. -/
def frameBackWrong : ChangeSpec := { name := "frameBack", fn := fun _ => fun
  | [d1, d2, d3, d4] => { results := [.lit (.bool false)], args := [d1, d2, d3, d4] }
  | _ => none }
def FrameBackWrongFalsely : Prop := frameBackRow.holds Tryd.pinned (OpenSpec.ofChange frameBackWrong)

/- THE SECOND FORM. 'bulk': how many values and letters a reading holds, each counted each time it is reached (what is shared counts as often as it is met; a slice's spare places count too). A statement '..UptoSaid' is the law's where the arguments, and the package variables that the reading takes, are together of bulk at most 1048576: NARROWER than '..Said'. Prove '..Said' where nothing that the law and all that it calls make is longer than what came in: it says more and counts as full. Else prove '..UptoSaid'. A law counts once. -/
mutual
def uptoBulk {H : Type} : DataW H → Nat
  | .lit (.string bytes) => bytes.length + 1
  | .lit _ => 1
  | .nil => 1
  | .ptr d => uptoBulk d + 1
  | .slice elems spare => uptoBulkAll elems + uptoBulkAll spare + 1
  | .agg parts => uptoBulkAll parts + 1
  | .iface _ d => uptoBulk d + 1
  | .map entries => uptoBulkEntries entries + 1
  | .held _ => 1
def uptoBulkAll {H : Type} : List (DataW H) → Nat
  | [] => 0
  | d :: r => uptoBulk d + uptoBulkAll r
def uptoBulkEntries {H : Type} : List (Lit × DataW H) → Nat
  | [] => 0
  | x :: r => uptoBulkEntry x + uptoBulkEntries r
def uptoBulkEntry {H : Type} : Lit × DataW H → Nat
  | (.string bytes, d) => bytes.length + uptoBulk d + 1
  | (_, d) => uptoBulk d + 1
 end
def uptoSmall : (H : Type) → List (DataW H) → Bool := fun _ ds => decide (uptoBulkAll ds ≤ 1048576)
def OpenSpec.upto (s : _root_.Go.ChangeSpec) : _root_.Go.OpenSpec := { _root_.Go.OpenSpec.ofChange s with cond := some uptoSmall }

/-- 'longwirelaw01.ScribeChecks', WHERE WHAT IT READS IS OF BULK AT MOST 1048576: true; the input reads as it did. -/
def scribeChecksUptoRow : OpenClaim := { program := "ytieipnnpkngegaadoor", sum := "88cee5ca44be06a6fab2b6c01b83edc721842f09d6cb74a6c0466a8c190bef98", func := "longwire/longwirelaw01.ScribeChecks", spec := "scribeChecks", named := ["longwire/scribe.table"], apart := false, laid := [("longwire/scribe.table", laid_longwire_scribe_table)], narrowed := true }
def ScribeChecksUptoSaid : Prop := scribeChecksUptoRow.holds Tryd.pinned (OpenSpec.upto scribeChecksSpec)

/-- 'longwirelaw01.ScribeLays', WHERE WHAT IT READS IS OF BULK AT MOST 1048576: true; the input reads as it did. -/
def scribeLaysUptoRow : OpenClaim := { program := "ytieipnnpkngegaadoor", sum := "88cee5ca44be06a6fab2b6c01b83edc721842f09d6cb74a6c0466a8c190bef98", func := "longwire/longwirelaw01.ScribeLays", spec := "scribeLays", named := ["longwire/scribe.table"], apart := false, laid := [("longwire/scribe.table", laid_longwire_scribe_table)], narrowed := true }
def ScribeLaysUptoSaid : Prop := scribeLaysUptoRow.holds Tryd.pinned (OpenSpec.upto scribeLaysSpec)

/-- 'longwirelaw01.ScribeBits', WHERE WHAT IT READS IS OF BULK AT MOST 1048576: true; the input reads as it did. -/
def scribeBitsUptoRow : OpenClaim := { program := "ytieipnnpkngegaadoor", sum := "88cee5ca44be06a6fab2b6c01b83edc721842f09d6cb74a6c0466a8c190bef98", func := "longwire/longwirelaw01.ScribeBits", spec := "scribeBits", named := ["longwire/scribe.table"], apart := false, laid := [("longwire/scribe.table", laid_longwire_scribe_table)], narrowed := true }
def ScribeBitsUptoSaid : Prop := scribeBitsUptoRow.holds Tryd.pinned (OpenSpec.upto scribeBitsSpec)

/-- 'longwirelaw01.ScribeReads', WHERE WHAT IT READS IS OF BULK AT MOST 1048576: true; the input reads as it did. -/
def scribeReadsUptoRow : OpenClaim := { program := "ytieipnnpkngegaadoor", sum := "88cee5ca44be06a6fab2b6c01b83edc721842f09d6cb74a6c0466a8c190bef98", func := "longwire/longwirelaw01.ScribeReads", spec := "scribeReads", named := ["longwire/scribe.table"], apart := false, laid := [("longwire/scribe.table", laid_longwire_scribe_table)], narrowed := true }
def ScribeReadsUptoSaid : Prop := scribeReadsUptoRow.holds Tryd.pinned (OpenSpec.upto scribeReadsSpec)

/-- 'longwirelaw01.ScribeBack', WHERE WHAT IT READS IS OF BULK AT MOST 1048576: true; the input reads as it did. -/
def scribeBackUptoRow : OpenClaim := { program := "ytieipnnpkngegaadoor", sum := "88cee5ca44be06a6fab2b6c01b83edc721842f09d6cb74a6c0466a8c190bef98", func := "longwire/longwirelaw01.ScribeBack", spec := "scribeBack", named := ["longwire/scribe.table"], apart := false, laid := [("longwire/scribe.table", laid_longwire_scribe_table)], narrowed := true }
def ScribeBackUptoSaid : Prop := scribeBackUptoRow.holds Tryd.pinned (OpenSpec.upto scribeBackSpec)

/-- 'longwirelaw01.ScribeKnown', WHERE WHAT IT READS IS OF BULK AT MOST 1048576: true; the input reads as it did. -/
def scribeKnownUptoRow : OpenClaim := { program := "ytieipnnpkngegaadoor", sum := "88cee5ca44be06a6fab2b6c01b83edc721842f09d6cb74a6c0466a8c190bef98", func := "longwire/longwirelaw01.ScribeKnown", spec := "scribeKnown", inPlace := ["internal/abi.NoEscape", "internal/bytealg.MakeNoZero"], named := ["longwire/scribe.table"], apart := false, laid := [("longwire/scribe.table", laid_longwire_scribe_table)], narrowed := true }
def ScribeKnownUptoSaid : Prop := scribeKnownUptoRow.holds Tryd.pinned (OpenSpec.upto scribeKnownSpec)

/-- 'longwirelaw04.FrameLays', WHERE WHAT IT READS IS OF BULK AT MOST 1048576: true; the input reads as it did. -/
def frameLaysUptoRow : OpenClaim := { program := "ytieipnnpkngegaadoor", sum := "88cee5ca44be06a6fab2b6c01b83edc721842f09d6cb74a6c0466a8c190bef98", func := "longwire/longwirelaw04.FrameLays", spec := "frameLays", unfollowed := true, recurses := true, named := ["longwire/frame.may", "longwire/scribe.table"], apart := false, laid := [("longwire/scribe.table", laid_longwire_scribe_table), ("longwire/frame.may", laid_longwire_frame_may)], narrowed := true }
def FrameLaysUptoSaid : Prop := frameLaysUptoRow.holds Tryd.pinned (OpenSpec.upto frameLaysSpec)

/-- 'longwirelaw04.FrameSigned', WHERE WHAT IT READS IS OF BULK AT MOST 1048576: true; the input reads as it did. -/
def frameSignedUptoRow : OpenClaim := { program := "ytieipnnpkngegaadoor", sum := "88cee5ca44be06a6fab2b6c01b83edc721842f09d6cb74a6c0466a8c190bef98", func := "longwire/longwirelaw04.FrameSigned", spec := "frameSigned", unfollowed := true, recurses := true, named := ["longwire/frame.may", "longwire/scribe.table"], apart := false, laid := [("longwire/scribe.table", laid_longwire_scribe_table), ("longwire/frame.may", laid_longwire_frame_may)], narrowed := true }
def FrameSignedUptoSaid : Prop := frameSignedUptoRow.holds Tryd.pinned (OpenSpec.upto frameSignedSpec)

/-- 'longwirelaw04.FrameReads', WHERE WHAT IT READS IS OF BULK AT MOST 1048576: true; the input reads as it did. -/
def frameReadsUptoRow : OpenClaim := { program := "ytieipnnpkngegaadoor", sum := "88cee5ca44be06a6fab2b6c01b83edc721842f09d6cb74a6c0466a8c190bef98", func := "longwire/longwirelaw04.FrameReads", spec := "frameReads", unfollowed := true, recurses := true, named := ["longwire/scribe.table", "longwire/frame.may"], apart := false, laid := [("longwire/scribe.table", laid_longwire_scribe_table), ("longwire/frame.may", laid_longwire_frame_may)], narrowed := true }
def FrameReadsUptoSaid : Prop := frameReadsUptoRow.holds Tryd.pinned (OpenSpec.upto frameReadsSpec)

/-- 'longwirelaw04.FrameKnown', WHERE WHAT IT READS IS OF BULK AT MOST 1048576: true; the input reads as it did. -/
def frameKnownUptoRow : OpenClaim := { program := "ytieipnnpkngegaadoor", sum := "88cee5ca44be06a6fab2b6c01b83edc721842f09d6cb74a6c0466a8c190bef98", func := "longwire/longwirelaw04.FrameKnown", spec := "frameKnown", unfollowed := true, recurses := true, named := ["longwire/frame.may", "longwire/scribe.table"], apart := false, laid := [("longwire/scribe.table", laid_longwire_scribe_table), ("longwire/frame.may", laid_longwire_frame_may)], narrowed := true }
def FrameKnownUptoSaid : Prop := frameKnownUptoRow.holds Tryd.pinned (OpenSpec.upto frameKnownSpec)

/-- 'longwirelaw04.FrameBack', WHERE WHAT IT READS IS OF BULK AT MOST 1048576: true; the input reads as it did. -/
def frameBackUptoRow : OpenClaim := { program := "ytieipnnpkngegaadoor", sum := "88cee5ca44be06a6fab2b6c01b83edc721842f09d6cb74a6c0466a8c190bef98", func := "longwire/longwirelaw04.FrameBack", spec := "frameBack", unfollowed := true, recurses := true, named := ["longwire/frame.may", "longwire/scribe.table"], apart := false, laid := [("longwire/scribe.table", laid_longwire_scribe_table), ("longwire/frame.may", laid_longwire_frame_may)], narrowed := true }
def FrameBackUptoSaid : Prop := frameBackUptoRow.holds Tryd.pinned (OpenSpec.upto frameBackSpec)

end Rows
end Go.Proofs.YtieipnnpkngegaaDoor
