/-
  No cell of these rows narrows 'for every input' (looked for: loops, veiled, ifaces, maps, wideKeys, modest, calm, conditions, laid).
  DERIVED. THE GIVEN ROWS OF THIS SEAT. 12 by the template 'for every input the law returns true; each argument reads behind the call as it read before'; 0 by the template 'total and deterministic' (their statements: YtfaabjohlimnlaaTotals.lean).
  GIVEN WITH THE SEED: the statements are not yours to turn. If you find one false, say at which input.
  Laid BY PROGRAM, IN A SANDBOX (cutbox-rows.mjs): the forced cells as the released guide's own fill.sh prints them over the translation d79794a4dcc40662… (all of the seat's roots in one cut). By AI agents, Wed Nov 11 2026. No macro, syntax, notation, axiom, sorry.
-/
import Derived.Test.YtfaabjohlimnlaaChecked
import GoSem.Claim
import GoSem.ClaimJoined
import GoSem.ClaimMapViews
import Derived.JoinedTies
import Derived.KernelRfl
namespace Go.Proofs.Ytfaabjohlimnlaa
/- THE CELL 'sum', in the pinned program and in every row, IS THE sha256 OF THE DUMP (.gsa) THAT YtfaabjohlimnlaaProg.lean LOADS. Nothing in Lean hashes anything: it is a label: what it is worth is what the hold of that sum in a sandbox is worth. -/
noncomputable def Try.pinned : Pinned := { name := "ytfaabjohlimnlaa", sum := "d79794a4dcc406626f05c17282b344d070fe667cff4854a675afee022a31f273", checked := Try.checked }
namespace Rows
def none {H : Type} : Left H := { results := [], args := [] }

/-- 'odographlaw06.CrcSums': WHATEVER THE INPUT: true; the input reads as it did. -/
def crcSumsSpec : ChangeSpec := { name := "crcSums", fn := fun _ => fun
  | [d1, d2] => { results := [.lit (.bool true)], args := [d1, d2] }
  | _ => none }
def crcSumsRow : OpenClaim := { program := "ytfaabjohlimnlaa", sum := "d79794a4dcc406626f05c17282b344d070fe667cff4854a675afee022a31f273", func := "odograph/odographlaw06.CrcSums", spec := "crcSums", apart := false }
def CrcSumsSaid : Prop := crcSumsRow.holds Try.pinned (OpenSpec.ofChange crcSumsSpec)

/-- ITS FALSE NEIGHBOUR: 'it returns false'. Refute it at one input. -/
def crcSumsWrong : ChangeSpec := { name := "crcSums", fn := fun _ => fun
  | [d1, d2] => { results := [.lit (.bool false)], args := [d1, d2] }
  | _ => none }
def CrcSumsWrongFalsely : Prop := crcSumsRow.holds Try.pinned (OpenSpec.ofChange crcSumsWrong)

/-- 'odographlaw06.CrcAdds': WHATEVER THE INPUT: true; the input reads as it did. -/
def crcAddsSpec : ChangeSpec := { name := "crcAdds", fn := fun _ => fun
  | [d1, d2, d3] => { results := [.lit (.bool true)], args := [d1, d2, d3] }
  | _ => none }
def crcAddsRow : OpenClaim := { program := "ytfaabjohlimnlaa", sum := "d79794a4dcc406626f05c17282b344d070fe667cff4854a675afee022a31f273", func := "odograph/odographlaw06.CrcAdds", spec := "crcAdds", apart := false }
def CrcAddsSaid : Prop := crcAddsRow.holds Try.pinned (OpenSpec.ofChange crcAddsSpec)

/-- ITS FALSE NEIGHBOUR: 'it returns false'. Refute it at one input. -/
def crcAddsWrong : ChangeSpec := { name := "crcAdds", fn := fun _ => fun
  | [d1, d2, d3] => { results := [.lit (.bool false)], args := [d1, d2, d3] }
  | _ => none }
def CrcAddsWrongFalsely : Prop := crcAddsRow.holds Try.pinned (OpenSpec.ofChange crcAddsWrong)

/-- 'odographlaw06.CrcSeals': WHATEVER THE INPUT: true; the input reads as it did. -/
def crcSealsSpec : ChangeSpec := { name := "crcSeals", fn := fun _ => fun
  | [d] => { results := [.lit (.bool true)], args := [d] }
  | _ => none }
def crcSealsRow : OpenClaim := { program := "ytfaabjohlimnlaa", sum := "d79794a4dcc406626f05c17282b344d070fe667cff4854a675afee022a31f273", func := "odograph/odographlaw06.CrcSeals", spec := "crcSeals", apart := false }
def CrcSealsSaid : Prop := crcSealsRow.holds Try.pinned (OpenSpec.ofChange crcSealsSpec)

/-- ITS FALSE NEIGHBOUR: 'it returns false'. Refute it at one input. -/
def crcSealsWrong : ChangeSpec := { name := "crcSeals", fn := fun _ => fun
  | [d] => { results := [.lit (.bool false)], args := [d] }
  | _ => none }
def CrcSealsWrongFalsely : Prop := crcSealsRow.holds Try.pinned (OpenSpec.ofChange crcSealsWrong)

/-- 'odographlaw07.FrameApart': WHATEVER THE INPUT: true; the input reads as it did. -/
def frameApartSpec : ChangeSpec := { name := "frameApart", fn := fun _ => fun
  | [d1, d2] => { results := [.lit (.bool true)], args := [d1, d2] }
  | _ => none }
def frameApartRow : OpenClaim := { program := "ytfaabjohlimnlaa", sum := "d79794a4dcc406626f05c17282b344d070fe667cff4854a675afee022a31f273", func := "odograph/odographlaw07.FrameApart", spec := "frameApart", apart := false }
def FrameApartSaid : Prop := frameApartRow.holds Try.pinned (OpenSpec.ofChange frameApartSpec)

/-- ITS FALSE NEIGHBOUR: 'it returns false'. Refute it at one input. -/
def frameApartWrong : ChangeSpec := { name := "frameApart", fn := fun _ => fun
  | [d1, d2] => { results := [.lit (.bool false)], args := [d1, d2] }
  | _ => none }
def FrameApartWrongFalsely : Prop := frameApartRow.holds Try.pinned (OpenSpec.ofChange frameApartWrong)

/-- 'odographlaw07.FramePuts': WHATEVER THE INPUT: true; the input reads as it did. -/
def framePutsSpec : ChangeSpec := { name := "framePuts", fn := fun _ => fun
  | [d] => { results := [.lit (.bool true)], args := [d] }
  | _ => none }
def framePutsRow : OpenClaim := { program := "ytfaabjohlimnlaa", sum := "d79794a4dcc406626f05c17282b344d070fe667cff4854a675afee022a31f273", func := "odograph/odographlaw07.FramePuts", spec := "framePuts", apart := false }
def FramePutsSaid : Prop := framePutsRow.holds Try.pinned (OpenSpec.ofChange framePutsSpec)

/-- ITS FALSE NEIGHBOUR: 'it returns false'. Refute it at one input. -/
def framePutsWrong : ChangeSpec := { name := "framePuts", fn := fun _ => fun
  | [d] => { results := [.lit (.bool false)], args := [d] }
  | _ => none }
def FramePutsWrongFalsely : Prop := framePutsRow.holds Try.pinned (OpenSpec.ofChange framePutsWrong)

/-- 'odographlaw07.FrameGets': WHATEVER THE INPUT: true; the input reads as it did. -/
def frameGetsSpec : ChangeSpec := { name := "frameGets", fn := fun _ => fun
  | [d] => { results := [.lit (.bool true)], args := [d] }
  | _ => none }
def frameGetsRow : OpenClaim := { program := "ytfaabjohlimnlaa", sum := "d79794a4dcc406626f05c17282b344d070fe667cff4854a675afee022a31f273", func := "odograph/odographlaw07.FrameGets", spec := "frameGets", apart := false }
def FrameGetsSaid : Prop := frameGetsRow.holds Try.pinned (OpenSpec.ofChange frameGetsSpec)

/-- ITS FALSE NEIGHBOUR: 'it returns false'. Refute it at one input. -/
def frameGetsWrong : ChangeSpec := { name := "frameGets", fn := fun _ => fun
  | [d] => { results := [.lit (.bool false)], args := [d] }
  | _ => none }
def FrameGetsWrongFalsely : Prop := frameGetsRow.holds Try.pinned (OpenSpec.ofChange frameGetsWrong)

/-- 'odographlaw07.FrameTurned': WHATEVER THE INPUT: true; the input reads as it did. -/
def frameTurnedSpec : ChangeSpec := { name := "frameTurned", fn := fun _ => fun
  | [d1, d2, d3] => { results := [.lit (.bool true)], args := [d1, d2, d3] }
  | _ => none }
def frameTurnedRow : OpenClaim := { program := "ytfaabjohlimnlaa", sum := "d79794a4dcc406626f05c17282b344d070fe667cff4854a675afee022a31f273", func := "odograph/odographlaw07.FrameTurned", spec := "frameTurned", apart := false }
def FrameTurnedSaid : Prop := frameTurnedRow.holds Try.pinned (OpenSpec.ofChange frameTurnedSpec)

/-- ITS FALSE NEIGHBOUR: 'it returns false'. Refute it at one input. -/
def frameTurnedWrong : ChangeSpec := { name := "frameTurned", fn := fun _ => fun
  | [d1, d2, d3] => { results := [.lit (.bool false)], args := [d1, d2, d3] }
  | _ => none }
def FrameTurnedWrongFalsely : Prop := frameTurnedRow.holds Try.pinned (OpenSpec.ofChange frameTurnedWrong)

/-- 'odographlaw08.MailSorts': WHATEVER THE INPUT: true; the input reads as it did. -/
def mailSortsSpec : ChangeSpec := { name := "mailSorts", fn := fun _ => fun
  | [d1, d2] => { results := [.lit (.bool true)], args := [d1, d2] }
  | _ => none }
def mailSortsRow : OpenClaim := { program := "ytfaabjohlimnlaa", sum := "d79794a4dcc406626f05c17282b344d070fe667cff4854a675afee022a31f273", func := "odograph/odographlaw08.MailSorts", spec := "mailSorts", apart := false }
def MailSortsSaid : Prop := mailSortsRow.holds Try.pinned (OpenSpec.ofChange mailSortsSpec)

/-- ITS FALSE NEIGHBOUR: 'it returns false'. Refute it at one input. -/
def mailSortsWrong : ChangeSpec := { name := "mailSorts", fn := fun _ => fun
  | [d1, d2] => { results := [.lit (.bool false)], args := [d1, d2] }
  | _ => none }
def MailSortsWrongFalsely : Prop := mailSortsRow.holds Try.pinned (OpenSpec.ofChange mailSortsWrong)

/-- 'odographlaw08.MailCounts': WHATEVER THE INPUT: true; the input reads as it did. -/
def mailCountsSpec : ChangeSpec := { name := "mailCounts", fn := fun _ => fun
  | [d1, d2] => { results := [.lit (.bool true)], args := [d1, d2] }
  | _ => none }
def mailCountsRow : OpenClaim := { program := "ytfaabjohlimnlaa", sum := "d79794a4dcc406626f05c17282b344d070fe667cff4854a675afee022a31f273", func := "odograph/odographlaw08.MailCounts", spec := "mailCounts", apart := false }
def MailCountsSaid : Prop := mailCountsRow.holds Try.pinned (OpenSpec.ofChange mailCountsSpec)

/-- ITS FALSE NEIGHBOUR: 'it returns false'. Refute it at one input. -/
def mailCountsWrong : ChangeSpec := { name := "mailCounts", fn := fun _ => fun
  | [d1, d2] => { results := [.lit (.bool false)], args := [d1, d2] }
  | _ => none }
def MailCountsWrongFalsely : Prop := mailCountsRow.holds Try.pinned (OpenSpec.ofChange mailCountsWrong)

/-- 'odographlaw08.MailAfter': WHATEVER THE INPUT: true; the input reads as it did. -/
def mailAfterSpec : ChangeSpec := { name := "mailAfter", fn := fun _ => fun
  | [d1, d2, d3, d4] => { results := [.lit (.bool true)], args := [d1, d2, d3, d4] }
  | _ => none }
def mailAfterRow : OpenClaim := { program := "ytfaabjohlimnlaa", sum := "d79794a4dcc406626f05c17282b344d070fe667cff4854a675afee022a31f273", func := "odograph/odographlaw08.MailAfter", spec := "mailAfter", apart := false }
def MailAfterSaid : Prop := mailAfterRow.holds Try.pinned (OpenSpec.ofChange mailAfterSpec)

/-- ITS FALSE NEIGHBOUR: 'it returns false'. Refute it at one input. -/
def mailAfterWrong : ChangeSpec := { name := "mailAfter", fn := fun _ => fun
  | [d1, d2, d3, d4] => { results := [.lit (.bool false)], args := [d1, d2, d3, d4] }
  | _ => none }
def MailAfterWrongFalsely : Prop := mailAfterRow.holds Try.pinned (OpenSpec.ofChange mailAfterWrong)

/-- 'odographlaw08.MailAsks': WHATEVER THE INPUT: true; the input reads as it did. -/
def mailAsksSpec : ChangeSpec := { name := "mailAsks", fn := fun _ => fun
  | [d1, d2] => { results := [.lit (.bool true)], args := [d1, d2] }
  | _ => none }
def mailAsksRow : OpenClaim := { program := "ytfaabjohlimnlaa", sum := "d79794a4dcc406626f05c17282b344d070fe667cff4854a675afee022a31f273", func := "odograph/odographlaw08.MailAsks", spec := "mailAsks", apart := false }
def MailAsksSaid : Prop := mailAsksRow.holds Try.pinned (OpenSpec.ofChange mailAsksSpec)

/-- ITS FALSE NEIGHBOUR: 'it returns false'. Refute it at one input. -/
def mailAsksWrong : ChangeSpec := { name := "mailAsks", fn := fun _ => fun
  | [d1, d2] => { results := [.lit (.bool false)], args := [d1, d2] }
  | _ => none }
def MailAsksWrongFalsely : Prop := mailAsksRow.holds Try.pinned (OpenSpec.ofChange mailAsksWrong)

/-- 'odographlaw08.MailFirst': WHATEVER THE INPUT: true; the input reads as it did. -/
def mailFirstSpec : ChangeSpec := { name := "mailFirst", fn := fun _ => fun
  | [d1, d2, d3] => { results := [.lit (.bool true)], args := [d1, d2, d3] }
  | _ => none }
def mailFirstRow : OpenClaim := { program := "ytfaabjohlimnlaa", sum := "d79794a4dcc406626f05c17282b344d070fe667cff4854a675afee022a31f273", func := "odograph/odographlaw08.MailFirst", spec := "mailFirst", apart := false }
def MailFirstSaid : Prop := mailFirstRow.holds Try.pinned (OpenSpec.ofChange mailFirstSpec)

/-- ITS FALSE NEIGHBOUR: 'it returns false'. Refute it at one input. -/
def mailFirstWrong : ChangeSpec := { name := "mailFirst", fn := fun _ => fun
  | [d1, d2, d3] => { results := [.lit (.bool false)], args := [d1, d2, d3] }
  | _ => none }
def MailFirstWrongFalsely : Prop := mailFirstRow.holds Try.pinned (OpenSpec.ofChange mailFirstWrong)

/- THE SECOND FORM. 'bulk': how many values and letters a reading holds, each counted each time it is reached (what is shared counts as often as it is met; a slice's spare places count too). A statement '..UptoSaid' is the law's where the arguments, and the package variables that the reading takes, are together of bulk at most 1048576: NARROWER than '..Said'. Prove '..Said' where nothing that the law and all that it calls make is longer than what came in: it says more and counts as full. Else prove '..UptoSaid'. A law counts once. -/
mutual
def uptoBulk {H : Type} : DataW H → Nat
  | .lit (.string bytes) => bytes.length + 1
  | .lit _ => 1
  | .nil => 1
  | .ptr d => uptoBulk d + 1
  | .slice elems spare => uptoBulkAll elems + uptoBulkAll spare + 1
  | .agg parts => uptoBulkAll parts + 1
  | .iface _ d => uptoBulk d + 1
  | .map entries => uptoBulkEntries entries + 1
  | .held _ => 1
def uptoBulkAll {H : Type} : List (DataW H) → Nat
  | [] => 0
  | d :: r => uptoBulk d + uptoBulkAll r
def uptoBulkEntries {H : Type} : List (Lit × DataW H) → Nat
  | [] => 0
  | x :: r => uptoBulkEntry x + uptoBulkEntries r
def uptoBulkEntry {H : Type} : Lit × DataW H → Nat
  | (.string bytes, d) => bytes.length + uptoBulk d + 1
  | (_, d) => uptoBulk d + 1
 end
def uptoSmall : (H : Type) → List (DataW H) → Bool := fun _ ds => decide (uptoBulkAll ds ≤ 1048576)
def OpenSpec.upto (s : _root_.Go.ChangeSpec) : _root_.Go.OpenSpec := { _root_.Go.OpenSpec.ofChange s with cond := some uptoSmall }

/-- 'odographlaw06.CrcSums', WHERE WHAT IT READS IS OF BULK AT MOST 1048576: true; the input reads as it did. -/
def crcSumsUptoRow : OpenClaim := { program := "ytfaabjohlimnlaa", sum := "d79794a4dcc406626f05c17282b344d070fe667cff4854a675afee022a31f273", func := "odograph/odographlaw06.CrcSums", spec := "crcSums", apart := false, narrowed := true }
def CrcSumsUptoSaid : Prop := crcSumsUptoRow.holds Try.pinned (OpenSpec.upto crcSumsSpec)

/-- 'odographlaw06.CrcAdds', WHERE WHAT IT READS IS OF BULK AT MOST 1048576: true; the input reads as it did. -/
def crcAddsUptoRow : OpenClaim := { program := "ytfaabjohlimnlaa", sum := "d79794a4dcc406626f05c17282b344d070fe667cff4854a675afee022a31f273", func := "odograph/odographlaw06.CrcAdds", spec := "crcAdds", apart := false, narrowed := true }
def CrcAddsUptoSaid : Prop := crcAddsUptoRow.holds Try.pinned (OpenSpec.upto crcAddsSpec)

/-- 'odographlaw06.CrcSeals', WHERE WHAT IT READS IS OF BULK AT MOST 1048576: true; the input reads as it did. -/
def crcSealsUptoRow : OpenClaim := { program := "ytfaabjohlimnlaa", sum := "d79794a4dcc406626f05c17282b344d070fe667cff4854a675afee022a31f273", func := "odograph/odographlaw06.CrcSeals", spec := "crcSeals", apart := false, narrowed := true }
def CrcSealsUptoSaid : Prop := crcSealsUptoRow.holds Try.pinned (OpenSpec.upto crcSealsSpec)

/-- 'odographlaw07.FrameApart', WHERE WHAT IT READS IS OF BULK AT MOST 1048576: true; the input reads as it did. -/
def frameApartUptoRow : OpenClaim := { program := "ytfaabjohlimnlaa", sum := "d79794a4dcc406626f05c17282b344d070fe667cff4854a675afee022a31f273", func := "odograph/odographlaw07.FrameApart", spec := "frameApart", apart := false, narrowed := true }
def FrameApartUptoSaid : Prop := frameApartUptoRow.holds Try.pinned (OpenSpec.upto frameApartSpec)

/-- 'odographlaw07.FramePuts', WHERE WHAT IT READS IS OF BULK AT MOST 1048576: true; the input reads as it did. -/
def framePutsUptoRow : OpenClaim := { program := "ytfaabjohlimnlaa", sum := "d79794a4dcc406626f05c17282b344d070fe667cff4854a675afee022a31f273", func := "odograph/odographlaw07.FramePuts", spec := "framePuts", apart := false, narrowed := true }
def FramePutsUptoSaid : Prop := framePutsUptoRow.holds Try.pinned (OpenSpec.upto framePutsSpec)

/-- 'odographlaw07.FrameGets', WHERE WHAT IT READS IS OF BULK AT MOST 1048576: true; the input reads as it did. -/
def frameGetsUptoRow : OpenClaim := { program := "ytfaabjohlimnlaa", sum := "d79794a4dcc406626f05c17282b344d070fe667cff4854a675afee022a31f273", func := "odograph/odographlaw07.FrameGets", spec := "frameGets", apart := false, narrowed := true }
def FrameGetsUptoSaid : Prop := frameGetsUptoRow.holds Try.pinned (OpenSpec.upto frameGetsSpec)

/-- 'odographlaw07.FrameTurned', WHERE WHAT IT READS IS OF BULK AT MOST 1048576: true; the input reads as it did. -/
def frameTurnedUptoRow : OpenClaim := { program := "ytfaabjohlimnlaa", sum := "d79794a4dcc406626f05c17282b344d070fe667cff4854a675afee022a31f273", func := "odograph/odographlaw07.FrameTurned", spec := "frameTurned", apart := false, narrowed := true }
def FrameTurnedUptoSaid : Prop := frameTurnedUptoRow.holds Try.pinned (OpenSpec.upto frameTurnedSpec)

/-- 'odographlaw08.MailSorts', WHERE WHAT IT READS IS OF BULK AT MOST 1048576: true; the input reads as it did. -/
def mailSortsUptoRow : OpenClaim := { program := "ytfaabjohlimnlaa", sum := "d79794a4dcc406626f05c17282b344d070fe667cff4854a675afee022a31f273", func := "odograph/odographlaw08.MailSorts", spec := "mailSorts", apart := false, narrowed := true }
def MailSortsUptoSaid : Prop := mailSortsUptoRow.holds Try.pinned (OpenSpec.upto mailSortsSpec)

/-- 'odographlaw08.MailCounts', WHERE WHAT IT READS IS OF BULK AT MOST 1048576: true; the input reads as it did. -/
def mailCountsUptoRow : OpenClaim := { program := "ytfaabjohlimnlaa", sum := "d79794a4dcc406626f05c17282b344d070fe667cff4854a675afee022a31f273", func := "odograph/odographlaw08.MailCounts", spec := "mailCounts", apart := false, narrowed := true }
def MailCountsUptoSaid : Prop := mailCountsUptoRow.holds Try.pinned (OpenSpec.upto mailCountsSpec)

/-- 'odographlaw08.MailAfter', WHERE WHAT IT READS IS OF BULK AT MOST 1048576: true; the input reads as it did. -/
def mailAfterUptoRow : OpenClaim := { program := "ytfaabjohlimnlaa", sum := "d79794a4dcc406626f05c17282b344d070fe667cff4854a675afee022a31f273", func := "odograph/odographlaw08.MailAfter", spec := "mailAfter", apart := false, narrowed := true }
def MailAfterUptoSaid : Prop := mailAfterUptoRow.holds Try.pinned (OpenSpec.upto mailAfterSpec)

/-- 'odographlaw08.MailAsks', WHERE WHAT IT READS IS OF BULK AT MOST 1048576: true; the input reads as it did. -/
def mailAsksUptoRow : OpenClaim := { program := "ytfaabjohlimnlaa", sum := "d79794a4dcc406626f05c17282b344d070fe667cff4854a675afee022a31f273", func := "odograph/odographlaw08.MailAsks", spec := "mailAsks", apart := false, narrowed := true }
def MailAsksUptoSaid : Prop := mailAsksUptoRow.holds Try.pinned (OpenSpec.upto mailAsksSpec)

/-- 'odographlaw08.MailFirst', WHERE WHAT IT READS IS OF BULK AT MOST 1048576: true; the input reads as it did. -/
def mailFirstUptoRow : OpenClaim := { program := "ytfaabjohlimnlaa", sum := "d79794a4dcc406626f05c17282b344d070fe667cff4854a675afee022a31f273", func := "odograph/odographlaw08.MailFirst", spec := "mailFirst", apart := false, narrowed := true }
def MailFirstUptoSaid : Prop := mailFirstUptoRow.holds Try.pinned (OpenSpec.upto mailFirstSpec)

end Rows
end Go.Proofs.Ytfaabjohlimnlaa
