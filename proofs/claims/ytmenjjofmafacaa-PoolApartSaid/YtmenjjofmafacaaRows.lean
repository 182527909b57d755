/-
  No cell of these rows narrows 'for every input' (looked for: loops, veiled, ifaces, maps, wideKeys, modest, calm, conditions, laid).
  DERIVED. THE GIVEN ROWS OF THIS SEAT. 8 by the template 'for every input the law returns true; each argument reads behind the call as it read before'; 0 by the template 'total and deterministic' (their statements: YtmenjjofmafacaaTotals.lean).
  GIVEN WITH THE SEED: the statements are not yours to turn. If you find one false, say at which input.
  Laid BY PROGRAM, IN A SANDBOX (cutbox-rows.mjs): the forced cells as the released guide's own fill.sh prints them over the translation 14a1b95eb47285c3… (all of the seat's roots in one cut). By AI agents, Wed Nov 11 2026. No macro, syntax, notation, axiom, sorry.
-/
import Derived.Test.YtmenjjofmafacaaChecked
import GoSem.Claim
import GoSem.ClaimJoined
import GoSem.ClaimMapViews
import Derived.JoinedTies
import Derived.KernelRfl
namespace Go.Proofs.Ytmenjjofmafacaa
/- THE CELL 'sum', in the pinned program and in every row, IS THE sha256 OF THE DUMP (.gsa) THAT YtmenjjofmafacaaProg.lean LOADS. Nothing in Lean hashes anything: it is a label: what it is worth is what the hold of that sum in a sandbox is worth. -/
noncomputable def Try.pinned : Pinned := { name := "ytmenjjofmafacaa", sum := "14a1b95eb47285c3be8fee8083cb7b8f0a38c16c693f24fecb31ff727feb9a67", checked := Try.checked }
namespace Rows
def none {H : Type} : Left H := { results := [], args := [] }

/-- 'cortadolaw19.ClockDue': WHATEVER THE INPUT: true; the input reads as it did. -/
def clockDueSpec : ChangeSpec := { name := "clockDue", fn := fun _ => fun
  | [d1, d2, d3] => { results := [.lit (.bool true)], args := [d1, d2, d3] }
  | _ => none }
def clockDueRow : OpenClaim := { program := "ytmenjjofmafacaa", sum := "14a1b95eb47285c3be8fee8083cb7b8f0a38c16c693f24fecb31ff727feb9a67", func := "cortado/cortadolaw19.ClockDue", spec := "clockDue", apart := false }
def ClockDueSaid : Prop := clockDueRow.holds Try.pinned (OpenSpec.ofChange clockDueSpec)

/-- ITS FALSE NEIGHBOUR: 'it returns false'. Refute it at one input. -/
def clockDueWrong : ChangeSpec := { name := "clockDue", fn := fun _ => fun
  | [d1, d2, d3] => { results := [.lit (.bool false)], args := [d1, d2, d3] }
  | _ => none }
def ClockDueWrongFalsely : Prop := clockDueRow.holds Try.pinned (OpenSpec.ofChange clockDueWrong)

/-- 'cortadolaw09.PoolPlays': WHATEVER THE INPUT: true; the input reads as it did. -/
def poolPlaysSpec : ChangeSpec := { name := "poolPlays", fn := fun _ => fun
  | [d1, d2, d3] => { results := [.lit (.bool true)], args := [d1, d2, d3] }
  | _ => none }
def poolPlaysRow : OpenClaim := { program := "ytmenjjofmafacaa", sum := "14a1b95eb47285c3be8fee8083cb7b8f0a38c16c693f24fecb31ff727feb9a67", func := "cortado/cortadolaw09.PoolPlays", spec := "poolPlays", apart := false }
def PoolPlaysSaid : Prop := poolPlaysRow.holds Try.pinned (OpenSpec.ofChange poolPlaysSpec)

/-- ITS FALSE NEIGHBOUR: 'it returns false'. Refute it at one input. -/
def poolPlaysWrong : ChangeSpec := { name := "poolPlays", fn := fun _ => fun
  | [d1, d2, d3] => { results := [.lit (.bool false)], args := [d1, d2, d3] }
  | _ => none }
def PoolPlaysWrongFalsely : Prop := poolPlaysRow.holds Try.pinned (OpenSpec.ofChange poolPlaysWrong)

/-- 'cortadolaw09.PoolApart': WHATEVER THE INPUT: true; the input reads as it did. -/
def poolApartSpec : ChangeSpec := { name := "poolApart", fn := fun _ => fun
  | [d1, d2, d3] => { results := [.lit (.bool true)], args := [d1, d2, d3] }
  | _ => none }
def poolApartRow : OpenClaim := { program := "ytmenjjofmafacaa", sum := "14a1b95eb47285c3be8fee8083cb7b8f0a38c16c693f24fecb31ff727feb9a67", func := "cortado/cortadolaw09.PoolApart", spec := "poolApart", apart := false }
def PoolApartSaid : Prop := poolApartRow.holds Try.pinned (OpenSpec.ofChange poolApartSpec)

/-- ITS FALSE NEIGHBOUR: 'it returns false'. Refute it at one input. -/
def poolApartWrong : ChangeSpec := { name := "poolApart", fn := fun _ => fun
  | [d1, d2, d3] => { results := [.lit (.bool false)], args := [d1, d2, d3] }
  | _ => none }
def PoolApartWrongFalsely : Prop := poolApartRow.holds Try.pinned (OpenSpec.ofChange poolApartWrong)

/-- 'cortadolaw31.EventStays': WHATEVER THE INPUT: true; the input reads as it did. -/
def eventStaysSpec : ChangeSpec := { name := "eventStays", fn := fun _ => fun
  | [d1, d2] => { results := [.lit (.bool true)], args := [d1, d2] }
  | _ => none }
def eventStaysRow : OpenClaim := { program := "ytmenjjofmafacaa", sum := "14a1b95eb47285c3be8fee8083cb7b8f0a38c16c693f24fecb31ff727feb9a67", func := "cortado/cortadolaw31.EventStays", spec := "eventStays", unfollowed := true, recurses := true, apart := false }
def EventStaysSaid : Prop := eventStaysRow.holds Try.pinned (OpenSpec.ofChange eventStaysSpec)

/-- ITS FALSE NEIGHBOUR: 'it returns false'. Refute it at one input. -/
def eventStaysWrong : ChangeSpec := { name := "eventStays", fn := fun _ => fun
  | [d1, d2] => { results := [.lit (.bool false)], args := [d1, d2] }
  | _ => none }
def EventStaysWrongFalsely : Prop := eventStaysRow.holds Try.pinned (OpenSpec.ofChange eventStaysWrong)

/-- 'cortadolaw19.ClockTells': WHATEVER THE INPUT: true; the input reads as it did. -/
def clockTellsSpec : ChangeSpec := { name := "clockTells", fn := fun _ => fun
  | [d] => { results := [.lit (.bool true)], args := [d] }
  | _ => none }
def clockTellsRow : OpenClaim := { program := "ytmenjjofmafacaa", sum := "14a1b95eb47285c3be8fee8083cb7b8f0a38c16c693f24fecb31ff727feb9a67", func := "cortado/cortadolaw19.ClockTells", spec := "clockTells", apart := false }
def ClockTellsSaid : Prop := clockTellsRow.holds Try.pinned (OpenSpec.ofChange clockTellsSpec)

/-- ITS FALSE NEIGHBOUR: 'it returns false'. Refute it at one input. -/
def clockTellsWrong : ChangeSpec := { name := "clockTells", fn := fun _ => fun
  | [d] => { results := [.lit (.bool false)], args := [d] }
  | _ => none }
def ClockTellsWrongFalsely : Prop := clockTellsRow.holds Try.pinned (OpenSpec.ofChange clockTellsWrong)

/-- 'cortadolaw10.NibbleTells': WHATEVER THE INPUT: true; the input reads as it did. -/
def nibbleTellsSpec : ChangeSpec := { name := "nibbleTells", fn := fun _ => fun
  | [d1, d2] => { results := [.lit (.bool true)], args := [d1, d2] }
  | _ => none }
def nibbleTellsRow : OpenClaim := { program := "ytmenjjofmafacaa", sum := "14a1b95eb47285c3be8fee8083cb7b8f0a38c16c693f24fecb31ff727feb9a67", func := "cortado/cortadolaw10.NibbleTells", spec := "nibbleTells", unfollowed := true, recurses := true, apart := false }
def NibbleTellsSaid : Prop := nibbleTellsRow.holds Try.pinned (OpenSpec.ofChange nibbleTellsSpec)

/-- ITS FALSE NEIGHBOUR: 'it returns false'. Refute it at one input. -/
def nibbleTellsWrong : ChangeSpec := { name := "nibbleTells", fn := fun _ => fun
  | [d1, d2] => { results := [.lit (.bool false)], args := [d1, d2] }
  | _ => none }
def NibbleTellsWrongFalsely : Prop := nibbleTellsRow.holds Try.pinned (OpenSpec.ofChange nibbleTellsWrong)

/-- 'cortadolaw31.EventPlays': WHATEVER THE INPUT: true; the input reads as it did. -/
def eventPlaysSpec : ChangeSpec := { name := "eventPlays", fn := fun _ => fun
  | [d1, d2, d3] => { results := [.lit (.bool true)], args := [d1, d2, d3] }
  | _ => none }
def eventPlaysRow : OpenClaim := { program := "ytmenjjofmafacaa", sum := "14a1b95eb47285c3be8fee8083cb7b8f0a38c16c693f24fecb31ff727feb9a67", func := "cortado/cortadolaw31.EventPlays", spec := "eventPlays", unfollowed := true, recurses := true, apart := false }
def EventPlaysSaid : Prop := eventPlaysRow.holds Try.pinned (OpenSpec.ofChange eventPlaysSpec)

/-- ITS FALSE NEIGHBOUR: 'it returns false'. Refute it at one input. -/
def eventPlaysWrong : ChangeSpec := { name := "eventPlays", fn := fun _ => fun
  | [d1, d2, d3] => { results := [.lit (.bool false)], args := [d1, d2, d3] }
  | _ => none }
def EventPlaysWrongFalsely : Prop := eventPlaysRow.holds Try.pinned (OpenSpec.ofChange eventPlaysWrong)

/-- 'cortadolaw16.TapeBack': WHATEVER THE INPUT: true; the input reads as it did. -/
def tapeBackSpec : ChangeSpec := { name := "tapeBack", fn := fun _ => fun
  | [d1, d2] => { results := [.lit (.bool true)], args := [d1, d2] }
  | _ => none }
def tapeBackRow : OpenClaim := { program := "ytmenjjofmafacaa", sum := "14a1b95eb47285c3be8fee8083cb7b8f0a38c16c693f24fecb31ff727feb9a67", func := "cortado/cortadolaw16.TapeBack", spec := "tapeBack", apart := false }
def TapeBackSaid : Prop := tapeBackRow.holds Try.pinned (OpenSpec.ofChange tapeBackSpec)

/-- ITS FALSE NEIGHBOUR: 'it returns false'. Refute it at one input. -/
def tapeBackWrong : ChangeSpec := { name := "tapeBack", fn := fun _ => fun
  | [d1, d2] => { results := [.lit (.bool false)], args := [d1, d2] }
  | _ => none }
def TapeBackWrongFalsely : Prop := tapeBackRow.holds Try.pinned (OpenSpec.ofChange tapeBackWrong)

/- THE SECOND FORM. 'bulk': how many values and letters a reading holds, each counted each time it is reached (what is shared counts as often as it is met; a slice's spare places count too). A statement '..UptoSaid' is the law's where the arguments, and the package variables that the reading takes, are together of bulk at most 1048576: NARROWER than '..Said'. Prove '..Said' where nothing that the law and all that it calls make is longer than what came in: it says more and counts as full. Else prove '..UptoSaid'. A law counts once. -/
mutual
def uptoBulk {H : Type} : DataW H → Nat
  | .lit (.string bytes) => bytes.length + 1
  | .lit _ => 1
  | .nil => 1
  | .ptr d => uptoBulk d + 1
  | .slice elems spare => uptoBulkAll elems + uptoBulkAll spare + 1
  | .agg parts => uptoBulkAll parts + 1
  | .iface _ d => uptoBulk d + 1
  | .map entries => uptoBulkEntries entries + 1
  | .held _ => 1
def uptoBulkAll {H : Type} : List (DataW H) → Nat
  | [] => 0
  | d :: r => uptoBulk d + uptoBulkAll r
def uptoBulkEntries {H : Type} : List (Lit × DataW H) → Nat
  | [] => 0
  | x :: r => uptoBulkEntry x + uptoBulkEntries r
def uptoBulkEntry {H : Type} : Lit × DataW H → Nat
  | (.string bytes, d) => bytes.length + uptoBulk d + 1
  | (_, d) => uptoBulk d + 1
 end
def uptoSmall : (H : Type) → List (DataW H) → Bool := fun _ ds => decide (uptoBulkAll ds ≤ 1048576)
def OpenSpec.upto (s : _root_.Go.ChangeSpec) : _root_.Go.OpenSpec := { _root_.Go.OpenSpec.ofChange s with cond := some uptoSmall }

/-- 'cortadolaw19.ClockDue', WHERE WHAT IT READS IS OF BULK AT MOST 1048576: true; the input reads as it did. -/
def clockDueUptoRow : OpenClaim := { program := "ytmenjjofmafacaa", sum := "14a1b95eb47285c3be8fee8083cb7b8f0a38c16c693f24fecb31ff727feb9a67", func := "cortado/cortadolaw19.ClockDue", spec := "clockDue", apart := false, narrowed := true }
def ClockDueUptoSaid : Prop := clockDueUptoRow.holds Try.pinned (OpenSpec.upto clockDueSpec)

/-- 'cortadolaw09.PoolPlays', WHERE WHAT IT READS IS OF BULK AT MOST 1048576: true; the input reads as it did. -/
def poolPlaysUptoRow : OpenClaim := { program := "ytmenjjofmafacaa", sum := "14a1b95eb47285c3be8fee8083cb7b8f0a38c16c693f24fecb31ff727feb9a67", func := "cortado/cortadolaw09.PoolPlays", spec := "poolPlays", apart := false, narrowed := true }
def PoolPlaysUptoSaid : Prop := poolPlaysUptoRow.holds Try.pinned (OpenSpec.upto poolPlaysSpec)

/-- 'cortadolaw09.PoolApart', WHERE WHAT IT READS IS OF BULK AT MOST 1048576: true; the input reads as it did. -/
def poolApartUptoRow : OpenClaim := { program := "ytmenjjofmafacaa", sum := "14a1b95eb47285c3be8fee8083cb7b8f0a38c16c693f24fecb31ff727feb9a67", func := "cortado/cortadolaw09.PoolApart", spec := "poolApart", apart := false, narrowed := true }
def PoolApartUptoSaid : Prop := poolApartUptoRow.holds Try.pinned (OpenSpec.upto poolApartSpec)

/-- 'cortadolaw31.EventStays', WHERE WHAT IT READS IS OF BULK AT MOST 1048576: true; the input reads as it did. -/
def eventStaysUptoRow : OpenClaim := { program := "ytmenjjofmafacaa", sum := "14a1b95eb47285c3be8fee8083cb7b8f0a38c16c693f24fecb31ff727feb9a67", func := "cortado/cortadolaw31.EventStays", spec := "eventStays", unfollowed := true, recurses := true, apart := false, narrowed := true }
def EventStaysUptoSaid : Prop := eventStaysUptoRow.holds Try.pinned (OpenSpec.upto eventStaysSpec)

/-- 'cortadolaw19.ClockTells', WHERE WHAT IT READS IS OF BULK AT MOST 1048576: true; the input reads as it did. -/
def clockTellsUptoRow : OpenClaim := { program := "ytmenjjofmafacaa", sum := "14a1b95eb47285c3be8fee8083cb7b8f0a38c16c693f24fecb31ff727feb9a67", func := "cortado/cortadolaw19.ClockTells", spec := "clockTells", apart := false, narrowed := true }
def ClockTellsUptoSaid : Prop := clockTellsUptoRow.holds Try.pinned (OpenSpec.upto clockTellsSpec)

/-- 'cortadolaw10.NibbleTells', WHERE WHAT IT READS IS OF BULK AT MOST 1048576: true; the input reads as it did. -/
def nibbleTellsUptoRow : OpenClaim := { program := "ytmenjjofmafacaa", sum := "14a1b95eb47285c3be8fee8083cb7b8f0a38c16c693f24fecb31ff727feb9a67", func := "cortado/cortadolaw10.NibbleTells", spec := "nibbleTells", unfollowed := true, recurses := true, apart := false, narrowed := true }
def NibbleTellsUptoSaid : Prop := nibbleTellsUptoRow.holds Try.pinned (OpenSpec.upto nibbleTellsSpec)

/-- 'cortadolaw31.EventPlays', WHERE WHAT IT READS IS OF BULK AT MOST 1048576: true; the input reads as it did. -/
def eventPlaysUptoRow : OpenClaim := { program := "ytmenjjofmafacaa", sum := "14a1b95eb47285c3be8fee8083cb7b8f0a38c16c693f24fecb31ff727feb9a67", func := "cortado/cortadolaw31.EventPlays", spec := "eventPlays", unfollowed := true, recurses := true, apart := false, narrowed := true }
def EventPlaysUptoSaid : Prop := eventPlaysUptoRow.holds Try.pinned (OpenSpec.upto eventPlaysSpec)

/-- 'cortadolaw16.TapeBack', WHERE WHAT IT READS IS OF BULK AT MOST 1048576: true; the input reads as it did. -/
def tapeBackUptoRow : OpenClaim := { program := "ytmenjjofmafacaa", sum := "14a1b95eb47285c3be8fee8083cb7b8f0a38c16c693f24fecb31ff727feb9a67", func := "cortado/cortadolaw16.TapeBack", spec := "tapeBack", apart := false, narrowed := true }
def TapeBackUptoSaid : Prop := tapeBackUptoRow.holds Try.pinned (OpenSpec.upto tapeBackSpec)

end Rows
end Go.Proofs.Ytmenjjofmafacaa
