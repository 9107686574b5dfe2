/-
  No cell of these rows narrows 'for every input' (looked for: loops, veiled, ifaces, maps, wideKeys, modest, calm, conditions, laid).
  DERIVED. THE GIVEN ROWS OF THIS SEAT. 11 by the template 'for every input the law returns true; each argument reads behind the call as it read before'; 0 by the template 'total and deterministic' (their statements: YtefohnbmifblkaaTotals.lean).
  GIVEN WITH THE SEED: the statements are not yours to turn. If you find one false, say at which input.
  Laid BY PROGRAM, IN A SANDBOX (cutbox-rows.mjs): the forced cells as the released guide's own fill.sh prints them over the translation 81ab30dcb12edf97… (all of the seat's roots in one cut). By AI agents, Wed Nov 11 2026. No macro, syntax, notation, axiom, sorry.
-/
import Derived.Test.YtefohnbmifblkaaChecked
import GoSem.Claim
import GoSem.ClaimJoined
import GoSem.ClaimMapViews
import Derived.JoinedTies
import Derived.KernelRfl
namespace Go.Proofs.Ytefohnbmifblkaa
/- THE CELL 'sum', in the pinned program and in every row, IS THE sha256 OF THE DUMP (.gsa) THAT YtefohnbmifblkaaProg.lean LOADS. Nothing in Lean hashes anything: it is a label: what it is worth is what the hold of that sum in a sandbox is worth. -/
noncomputable def Try.pinned : Pinned := { name := "ytefohnbmifblkaa", sum := "81ab30dcb12edf97259843473dd6f8e949be32045352d4b06ee7ca9307313a82", checked := Try.checked }
namespace Rows
def none {H : Type} : Left H := { results := [], args := [] }

/-- 'plumblinelaw.Names': WHATEVER THE INPUT: true; the input reads as it did. -/
def namesSpec : ChangeSpec := { name := "names", fn := fun _ => fun
  | [] => { results := [.lit (.bool true)], args := [] }
  | _ => none }
def namesRow : OpenClaim := { program := "ytefohnbmifblkaa", sum := "81ab30dcb12edf97259843473dd6f8e949be32045352d4b06ee7ca9307313a82", func := "plumbline/plumblinelaw.Names", spec := "names", apart := false }
def NamesSaid : Prop := namesRow.holds Try.pinned (OpenSpec.ofChange namesSpec)

/-- ITS FALSE NEIGHBOUR: 'it returns false'. Refute it at one input. -/
def namesWrong : ChangeSpec := { name := "names", fn := fun _ => fun
  | [] => { results := [.lit (.bool false)], args := [] }
  | _ => none }
def NamesWrongFalsely : Prop := namesRow.holds Try.pinned (OpenSpec.ofChange namesWrong)

/-- 'plumblinekeep.AutoNever': WHATEVER THE INPUT: true; the input reads as it did. -/
def autoNeverSpec : ChangeSpec := { name := "autoNever", fn := fun _ => fun
  | [d1, d2, d3] => { results := [.lit (.bool true)], args := [d1, d2, d3] }
  | _ => none }
def autoNeverRow : OpenClaim := { program := "ytefohnbmifblkaa", sum := "81ab30dcb12edf97259843473dd6f8e949be32045352d4b06ee7ca9307313a82", func := "plumbline/plumblinekeep.AutoNever", spec := "autoNever", apart := false }
def AutoNeverSaid : Prop := autoNeverRow.holds Try.pinned (OpenSpec.ofChange autoNeverSpec)

/-- ITS FALSE NEIGHBOUR: 'it returns false'. Refute it at one input. -/
def autoNeverWrong : ChangeSpec := { name := "autoNever", fn := fun _ => fun
  | [d1, d2, d3] => { results := [.lit (.bool false)], args := [d1, d2, d3] }
  | _ => none }
def AutoNeverWrongFalsely : Prop := autoNeverRow.holds Try.pinned (OpenSpec.ofChange autoNeverWrong)

/-- 'plumblinelaw.AutoAccepts': WHATEVER THE INPUT: true; the input reads as it did. -/
def autoAcceptsSpec : ChangeSpec := { name := "autoAccepts", fn := fun _ => fun
  | [d1, d2] => { results := [.lit (.bool true)], args := [d1, d2] }
  | _ => none }
def autoAcceptsRow : OpenClaim := { program := "ytefohnbmifblkaa", sum := "81ab30dcb12edf97259843473dd6f8e949be32045352d4b06ee7ca9307313a82", func := "plumbline/plumblinelaw.AutoAccepts", spec := "autoAccepts", inPlace := ["internal/bytealg.IndexByteString"], unfollowed := true, recurses := true, apart := false }
def AutoAcceptsSaid : Prop := autoAcceptsRow.holds Try.pinned (OpenSpec.ofChange autoAcceptsSpec)

/-- ITS FALSE NEIGHBOUR: 'it returns false'. Refute it at one input. -/
def autoAcceptsWrong : ChangeSpec := { name := "autoAccepts", fn := fun _ => fun
  | [d1, d2] => { results := [.lit (.bool false)], args := [d1, d2] }
  | _ => none }
def AutoAcceptsWrongFalsely : Prop := autoAcceptsRow.holds Try.pinned (OpenSpec.ofChange autoAcceptsWrong)

/-- 'plumblinekeep.AutoDecodes': WHATEVER THE INPUT: true; the input reads as it did. -/
def autoDecodesSpec : ChangeSpec := { name := "autoDecodes", fn := fun _ => fun
  | [d1, d2] => { results := [.lit (.bool true)], args := [d1, d2] }
  | _ => none }
def autoDecodesRow : OpenClaim := { program := "ytefohnbmifblkaa", sum := "81ab30dcb12edf97259843473dd6f8e949be32045352d4b06ee7ca9307313a82", func := "plumbline/plumblinekeep.AutoDecodes", spec := "autoDecodes", apart := false }
def AutoDecodesSaid : Prop := autoDecodesRow.holds Try.pinned (OpenSpec.ofChange autoDecodesSpec)

/-- ITS FALSE NEIGHBOUR: 'it returns false'. Refute it at one input. -/
def autoDecodesWrong : ChangeSpec := { name := "autoDecodes", fn := fun _ => fun
  | [d1, d2] => { results := [.lit (.bool false)], args := [d1, d2] }
  | _ => none }
def AutoDecodesWrongFalsely : Prop := autoDecodesRow.holds Try.pinned (OpenSpec.ofChange autoDecodesWrong)

/-- 'plumblinekeep.ScoreBest': WHATEVER THE INPUT: true; the input reads as it did. -/
def scoreBestSpec : ChangeSpec := { name := "scoreBest", fn := fun _ => fun
  | [d1, d2] => { results := [.lit (.bool true)], args := [d1, d2] }
  | _ => none }
def scoreBestRow : OpenClaim := { program := "ytefohnbmifblkaa", sum := "81ab30dcb12edf97259843473dd6f8e949be32045352d4b06ee7ca9307313a82", func := "plumbline/plumblinekeep.ScoreBest", spec := "scoreBest", unfollowed := true, recurses := true, apart := false }
def ScoreBestSaid : Prop := scoreBestRow.holds Try.pinned (OpenSpec.ofChange scoreBestSpec)

/-- ITS FALSE NEIGHBOUR: 'it returns false'. Refute it at one input. -/
def scoreBestWrong : ChangeSpec := { name := "scoreBest", fn := fun _ => fun
  | [d1, d2] => { results := [.lit (.bool false)], args := [d1, d2] }
  | _ => none }
def ScoreBestWrongFalsely : Prop := scoreBestRow.holds Try.pinned (OpenSpec.ofChange scoreBestWrong)

/-- 'plumblinelaw.ScoreTells': WHATEVER THE INPUT: true; the input reads as it did. -/
def scoreTellsSpec : ChangeSpec := { name := "scoreTells", fn := fun _ => fun
  | [d1, d2, d3, d4] => { results := [.lit (.bool true)], args := [d1, d2, d3, d4] }
  | _ => none }
def scoreTellsRow : OpenClaim := { program := "ytefohnbmifblkaa", sum := "81ab30dcb12edf97259843473dd6f8e949be32045352d4b06ee7ca9307313a82", func := "plumbline/plumblinelaw.ScoreTells", spec := "scoreTells", inPlace := ["internal/bytealg.IndexByteString"], unfollowed := true, recurses := true, apart := false }
def ScoreTellsSaid : Prop := scoreTellsRow.holds Try.pinned (OpenSpec.ofChange scoreTellsSpec)

/-- ITS FALSE NEIGHBOUR: 'it returns false'. Refute it at one input. -/
def scoreTellsWrong : ChangeSpec := { name := "scoreTells", fn := fun _ => fun
  | [d1, d2, d3, d4] => { results := [.lit (.bool false)], args := [d1, d2, d3, d4] }
  | _ => none }
def ScoreTellsWrongFalsely : Prop := scoreTellsRow.holds Try.pinned (OpenSpec.ofChange scoreTellsWrong)

/-- 'plumblinelaw.DecodeNone': WHATEVER THE INPUT: true; the input reads as it did. -/
def decodeNoneSpec : ChangeSpec := { name := "decodeNone", fn := fun _ => fun
  | [d1, d2, d3] => { results := [.lit (.bool true)], args := [d1, d2, d3] }
  | _ => none }
def decodeNoneRow : OpenClaim := { program := "ytefohnbmifblkaa", sum := "81ab30dcb12edf97259843473dd6f8e949be32045352d4b06ee7ca9307313a82", func := "plumbline/plumblinelaw.DecodeNone", spec := "decodeNone", apart := false }
def DecodeNoneSaid : Prop := decodeNoneRow.holds Try.pinned (OpenSpec.ofChange decodeNoneSpec)

/-- ITS FALSE NEIGHBOUR: 'it returns false'. Refute it at one input. -/
def decodeNoneWrong : ChangeSpec := { name := "decodeNone", fn := fun _ => fun
  | [d1, d2, d3] => { results := [.lit (.bool false)], args := [d1, d2, d3] }
  | _ => none }
def DecodeNoneWrongFalsely : Prop := decodeNoneRow.holds Try.pinned (OpenSpec.ofChange decodeNoneWrong)

/-- 'plumblinekeep.DecodeParts': WHATEVER THE INPUT: true; the input reads as it did. -/
def decodePartsSpec : ChangeSpec := { name := "decodeParts", fn := fun _ => fun
  | [d1, d2, d3] => { results := [.lit (.bool true)], args := [d1, d2, d3] }
  | _ => none }
def decodePartsRow : OpenClaim := { program := "ytefohnbmifblkaa", sum := "81ab30dcb12edf97259843473dd6f8e949be32045352d4b06ee7ca9307313a82", func := "plumbline/plumblinekeep.DecodeParts", spec := "decodeParts", apart := false }
def DecodePartsSaid : Prop := decodePartsRow.holds Try.pinned (OpenSpec.ofChange decodePartsSpec)

/-- ITS FALSE NEIGHBOUR: 'it returns false'. Refute it at one input. -/
def decodePartsWrong : ChangeSpec := { name := "decodeParts", fn := fun _ => fun
  | [d1, d2, d3] => { results := [.lit (.bool false)], args := [d1, d2, d3] }
  | _ => none }
def DecodePartsWrongFalsely : Prop := decodePartsRow.holds Try.pinned (OpenSpec.ofChange decodePartsWrong)

/-- 'plumblinekeep.DecodePlain': WHATEVER THE INPUT: true; the input reads as it did. -/
def decodePlainSpec : ChangeSpec := { name := "decodePlain", fn := fun _ => fun
  | [d1, d2] => { results := [.lit (.bool true)], args := [d1, d2] }
  | _ => none }
def decodePlainRow : OpenClaim := { program := "ytefohnbmifblkaa", sum := "81ab30dcb12edf97259843473dd6f8e949be32045352d4b06ee7ca9307313a82", func := "plumbline/plumblinekeep.DecodePlain", spec := "decodePlain", apart := false }
def DecodePlainSaid : Prop := decodePlainRow.holds Try.pinned (OpenSpec.ofChange decodePlainSpec)

/-- ITS FALSE NEIGHBOUR: 'it returns false'. Refute it at one input. -/
def decodePlainWrong : ChangeSpec := { name := "decodePlain", fn := fun _ => fun
  | [d1, d2] => { results := [.lit (.bool false)], args := [d1, d2] }
  | _ => none }
def DecodePlainWrongFalsely : Prop := decodePlainRow.holds Try.pinned (OpenSpec.ofChange decodePlainWrong)

/-- 'plumblinekeep.DecodeBack': WHATEVER THE INPUT: true; the input reads as it did. -/
def decodeBackSpec : ChangeSpec := { name := "decodeBack", fn := fun _ => fun
  | [d1, d2] => { results := [.lit (.bool true)], args := [d1, d2] }
  | _ => none }
def decodeBackRow : OpenClaim := { program := "ytefohnbmifblkaa", sum := "81ab30dcb12edf97259843473dd6f8e949be32045352d4b06ee7ca9307313a82", func := "plumbline/plumblinekeep.DecodeBack", spec := "decodeBack", apart := false }
def DecodeBackSaid : Prop := decodeBackRow.holds Try.pinned (OpenSpec.ofChange decodeBackSpec)

/-- ITS FALSE NEIGHBOUR: 'it returns false'. Refute it at one input. -/
def decodeBackWrong : ChangeSpec := { name := "decodeBack", fn := fun _ => fun
  | [d1, d2] => { results := [.lit (.bool false)], args := [d1, d2] }
  | _ => none }
def DecodeBackWrongFalsely : Prop := decodeBackRow.holds Try.pinned (OpenSpec.ofChange decodeBackWrong)

/-- 'plumblinekeep.DecodeFew': WHATEVER THE INPUT: true; the input reads as it did. -/
def decodeFewSpec : ChangeSpec := { name := "decodeFew", fn := fun _ => fun
  | [d1, d2] => { results := [.lit (.bool true)], args := [d1, d2] }
  | _ => none }
def decodeFewRow : OpenClaim := { program := "ytefohnbmifblkaa", sum := "81ab30dcb12edf97259843473dd6f8e949be32045352d4b06ee7ca9307313a82", func := "plumbline/plumblinekeep.DecodeFew", spec := "decodeFew", apart := false }
def DecodeFewSaid : Prop := decodeFewRow.holds Try.pinned (OpenSpec.ofChange decodeFewSpec)

/-- ITS FALSE NEIGHBOUR: 'it returns false'. Refute it at one input. -/
def decodeFewWrong : ChangeSpec := { name := "decodeFew", fn := fun _ => fun
  | [d1, d2] => { results := [.lit (.bool false)], args := [d1, d2] }
  | _ => none }
def DecodeFewWrongFalsely : Prop := decodeFewRow.holds Try.pinned (OpenSpec.ofChange decodeFewWrong)

/- THE SECOND FORM. 'bulk': how many values and letters a reading holds, each counted each time it is reached (what is shared counts as often as it is met; a slice's spare places count too). A statement '..UptoSaid' is the law's where the arguments, and the package variables that the reading takes, are together of bulk at most 1048576: NARROWER than '..Said'. Prove '..Said' where nothing that the law and all that it calls make is longer than what came in: it says more and counts as full. Else prove '..UptoSaid'. A law counts once. -/
mutual
def uptoBulk {H : Type} : DataW H → Nat
  | .lit (.string bytes) => bytes.length + 1
  | .lit _ => 1
  | .nil => 1
  | .ptr d => uptoBulk d + 1
  | .slice elems spare => uptoBulkAll elems + uptoBulkAll spare + 1
  | .agg parts => uptoBulkAll parts + 1
  | .iface _ d => uptoBulk d + 1
  | .map entries => uptoBulkEntries entries + 1
  | .held _ => 1
def uptoBulkAll {H : Type} : List (DataW H) → Nat
  | [] => 0
  | d :: r => uptoBulk d + uptoBulkAll r
def uptoBulkEntries {H : Type} : List (Lit × DataW H) → Nat
  | [] => 0
  | x :: r => uptoBulkEntry x + uptoBulkEntries r
def uptoBulkEntry {H : Type} : Lit × DataW H → Nat
  | (.string bytes, d) => bytes.length + uptoBulk d + 1
  | (_, d) => uptoBulk d + 1
 end
def uptoSmall : (H : Type) → List (DataW H) → Bool := fun _ ds => decide (uptoBulkAll ds ≤ 1048576)
def OpenSpec.upto (s : _root_.Go.ChangeSpec) : _root_.Go.OpenSpec := { _root_.Go.OpenSpec.ofChange s with cond := some uptoSmall }

/-- 'plumblinelaw.Names', WHERE WHAT IT READS IS OF BULK AT MOST 1048576: true; the input reads as it did. -/
def namesUptoRow : OpenClaim := { program := "ytefohnbmifblkaa", sum := "81ab30dcb12edf97259843473dd6f8e949be32045352d4b06ee7ca9307313a82", func := "plumbline/plumblinelaw.Names", spec := "names", apart := false, narrowed := true }
def NamesUptoSaid : Prop := namesUptoRow.holds Try.pinned (OpenSpec.upto namesSpec)

/-- 'plumblinekeep.AutoNever', WHERE WHAT IT READS IS OF BULK AT MOST 1048576: true; the input reads as it did. -/
def autoNeverUptoRow : OpenClaim := { program := "ytefohnbmifblkaa", sum := "81ab30dcb12edf97259843473dd6f8e949be32045352d4b06ee7ca9307313a82", func := "plumbline/plumblinekeep.AutoNever", spec := "autoNever", apart := false, narrowed := true }
def AutoNeverUptoSaid : Prop := autoNeverUptoRow.holds Try.pinned (OpenSpec.upto autoNeverSpec)

/-- 'plumblinelaw.AutoAccepts', WHERE WHAT IT READS IS OF BULK AT MOST 1048576: true; the input reads as it did. -/
def autoAcceptsUptoRow : OpenClaim := { program := "ytefohnbmifblkaa", sum := "81ab30dcb12edf97259843473dd6f8e949be32045352d4b06ee7ca9307313a82", func := "plumbline/plumblinelaw.AutoAccepts", spec := "autoAccepts", inPlace := ["internal/bytealg.IndexByteString"], unfollowed := true, recurses := true, apart := false, narrowed := true }
def AutoAcceptsUptoSaid : Prop := autoAcceptsUptoRow.holds Try.pinned (OpenSpec.upto autoAcceptsSpec)

/-- 'plumblinekeep.AutoDecodes', WHERE WHAT IT READS IS OF BULK AT MOST 1048576: true; the input reads as it did. -/
def autoDecodesUptoRow : OpenClaim := { program := "ytefohnbmifblkaa", sum := "81ab30dcb12edf97259843473dd6f8e949be32045352d4b06ee7ca9307313a82", func := "plumbline/plumblinekeep.AutoDecodes", spec := "autoDecodes", apart := false, narrowed := true }
def AutoDecodesUptoSaid : Prop := autoDecodesUptoRow.holds Try.pinned (OpenSpec.upto autoDecodesSpec)

/-- 'plumblinekeep.ScoreBest', WHERE WHAT IT READS IS OF BULK AT MOST 1048576: true; the input reads as it did. -/
def scoreBestUptoRow : OpenClaim := { program := "ytefohnbmifblkaa", sum := "81ab30dcb12edf97259843473dd6f8e949be32045352d4b06ee7ca9307313a82", func := "plumbline/plumblinekeep.ScoreBest", spec := "scoreBest", unfollowed := true, recurses := true, apart := false, narrowed := true }
def ScoreBestUptoSaid : Prop := scoreBestUptoRow.holds Try.pinned (OpenSpec.upto scoreBestSpec)

/-- 'plumblinelaw.ScoreTells', WHERE WHAT IT READS IS OF BULK AT MOST 1048576: true; the input reads as it did. -/
def scoreTellsUptoRow : OpenClaim := { program := "ytefohnbmifblkaa", sum := "81ab30dcb12edf97259843473dd6f8e949be32045352d4b06ee7ca9307313a82", func := "plumbline/plumblinelaw.ScoreTells", spec := "scoreTells", inPlace := ["internal/bytealg.IndexByteString"], unfollowed := true, recurses := true, apart := false, narrowed := true }
def ScoreTellsUptoSaid : Prop := scoreTellsUptoRow.holds Try.pinned (OpenSpec.upto scoreTellsSpec)

/-- 'plumblinelaw.DecodeNone', WHERE WHAT IT READS IS OF BULK AT MOST 1048576: true; the input reads as it did. -/
def decodeNoneUptoRow : OpenClaim := { program := "ytefohnbmifblkaa", sum := "81ab30dcb12edf97259843473dd6f8e949be32045352d4b06ee7ca9307313a82", func := "plumbline/plumblinelaw.DecodeNone", spec := "decodeNone", apart := false, narrowed := true }
def DecodeNoneUptoSaid : Prop := decodeNoneUptoRow.holds Try.pinned (OpenSpec.upto decodeNoneSpec)

/-- 'plumblinekeep.DecodeParts', WHERE WHAT IT READS IS OF BULK AT MOST 1048576: true; the input reads as it did. -/
def decodePartsUptoRow : OpenClaim := { program := "ytefohnbmifblkaa", sum := "81ab30dcb12edf97259843473dd6f8e949be32045352d4b06ee7ca9307313a82", func := "plumbline/plumblinekeep.DecodeParts", spec := "decodeParts", apart := false, narrowed := true }
def DecodePartsUptoSaid : Prop := decodePartsUptoRow.holds Try.pinned (OpenSpec.upto decodePartsSpec)

/-- 'plumblinekeep.DecodePlain', WHERE WHAT IT READS IS OF BULK AT MOST 1048576: true; the input reads as it did. -/
def decodePlainUptoRow : OpenClaim := { program := "ytefohnbmifblkaa", sum := "81ab30dcb12edf97259843473dd6f8e949be32045352d4b06ee7ca9307313a82", func := "plumbline/plumblinekeep.DecodePlain", spec := "decodePlain", apart := false, narrowed := true }
def DecodePlainUptoSaid : Prop := decodePlainUptoRow.holds Try.pinned (OpenSpec.upto decodePlainSpec)

/-- 'plumblinekeep.DecodeBack', WHERE WHAT IT READS IS OF BULK AT MOST 1048576: true; the input reads as it did. -/
def decodeBackUptoRow : OpenClaim := { program := "ytefohnbmifblkaa", sum := "81ab30dcb12edf97259843473dd6f8e949be32045352d4b06ee7ca9307313a82", func := "plumbline/plumblinekeep.DecodeBack", spec := "decodeBack", apart := false, narrowed := true }
def DecodeBackUptoSaid : Prop := decodeBackUptoRow.holds Try.pinned (OpenSpec.upto decodeBackSpec)

/-- 'plumblinekeep.DecodeFew', WHERE WHAT IT READS IS OF BULK AT MOST 1048576: true; the input reads as it did. -/
def decodeFewUptoRow : OpenClaim := { program := "ytefohnbmifblkaa", sum := "81ab30dcb12edf97259843473dd6f8e949be32045352d4b06ee7ca9307313a82", func := "plumbline/plumblinekeep.DecodeFew", spec := "decodeFew", apart := false, narrowed := true }
def DecodeFewUptoSaid : Prop := decodeFewUptoRow.holds Try.pinned (OpenSpec.upto decodeFewSpec)

end Rows
end Go.Proofs.Ytefohnbmifblkaa
