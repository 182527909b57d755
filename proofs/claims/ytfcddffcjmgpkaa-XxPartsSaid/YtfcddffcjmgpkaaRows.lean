/-
  No cell of these rows narrows 'for every input' (looked for: loops, veiled, ifaces, maps, wideKeys, modest, calm, conditions, laid).
  DERIVED. THE GIVEN ROWS OF THIS SEAT. 10 by the template 'for every input the law returns true; each argument reads behind the call as it read before'; 0 by the template 'total and deterministic' (their statements: YtfcddffcjmgpkaaTotals.lean).
  GIVEN WITH THE SEED: the statements are not yours to turn. If you find one false, say at which input.
  Laid BY PROGRAM, IN A SANDBOX (cutbox-rows.mjs): the forced cells as the released guide's own fill.sh prints them over the translation 27c2eaec0688bed2… (all of the seat's roots in one cut). By AI agents, Wed Nov 11 2026. No macro, syntax, notation, axiom, sorry.
-/
import Derived.Test.YtfcddffcjmgpkaaChecked
import GoSem.Claim
import GoSem.ClaimJoined
import GoSem.ClaimMapViews
import Derived.JoinedTies
import Derived.KernelRfl
namespace Go.Proofs.Ytfcddffcjmgpkaa
/- THE CELL 'sum', in the pinned program and in every row, IS THE sha256 OF THE DUMP (.gsa) THAT YtfcddffcjmgpkaaProg.lean LOADS. Nothing in Lean hashes anything: it is a label: what it is worth is what the hold of that sum in a sandbox is worth. -/
noncomputable def Try.pinned : Pinned := { name := "ytfcddffcjmgpkaa", sum := "27c2eaec0688bed2932e3e1e943dfc04f4a01431ae139447087b212c554fc094", checked := Try.checked }
namespace Rows
def none {H : Type} : Left H := { results := [], args := [] }

/-- 'cortadolaw49.LruIncludes': WHATEVER THE INPUT: true; the input reads as it did. -/
def lruIncludesSpec : ChangeSpec := { name := "lruIncludes", fn := fun _ => fun
  | [d1, d2, d3] => { results := [.lit (.bool true)], args := [d1, d2, d3] }
  | _ => none }
def lruIncludesRow : OpenClaim := { program := "ytfcddffcjmgpkaa", sum := "27c2eaec0688bed2932e3e1e943dfc04f4a01431ae139447087b212c554fc094", func := "cortado/cortadolaw49.LruIncludes", spec := "lruIncludes", apart := false }
def LruIncludesSaid : Prop := lruIncludesRow.holds Try.pinned (OpenSpec.ofChange lruIncludesSpec)

/-- ITS FALSE NEIGHBOUR: 'it returns false'. Refute it at one input. -/
def lruIncludesWrong : ChangeSpec := { name := "lruIncludes", fn := fun _ => fun
  | [d1, d2, d3] => { results := [.lit (.bool false)], args := [d1, d2, d3] }
  | _ => none }
def LruIncludesWrongFalsely : Prop := lruIncludesRow.holds Try.pinned (OpenSpec.ofChange lruIncludesWrong)

/-- 'cortadolaw07.RingOrder': WHATEVER THE INPUT: true; the input reads as it did. -/
def ringOrderSpec : ChangeSpec := { name := "ringOrder", fn := fun _ => fun
  | [d1, d2] => { results := [.lit (.bool true)], args := [d1, d2] }
  | _ => none }
def ringOrderRow : OpenClaim := { program := "ytfcddffcjmgpkaa", sum := "27c2eaec0688bed2932e3e1e943dfc04f4a01431ae139447087b212c554fc094", func := "cortado/cortadolaw07.RingOrder", spec := "ringOrder", unfollowed := true, recurses := true, apart := false }
def RingOrderSaid : Prop := ringOrderRow.holds Try.pinned (OpenSpec.ofChange ringOrderSpec)

/-- ITS FALSE NEIGHBOUR: 'it returns false'. Refute it at one input. -/
def ringOrderWrong : ChangeSpec := { name := "ringOrder", fn := fun _ => fun
  | [d1, d2] => { results := [.lit (.bool false)], args := [d1, d2] }
  | _ => none }
def RingOrderWrongFalsely : Prop := ringOrderRow.holds Try.pinned (OpenSpec.ofChange ringOrderWrong)

/-- 'cortadolaw04.XxSums': WHATEVER THE INPUT: true; the input reads as it did. -/
def xxSumsSpec : ChangeSpec := { name := "xxSums", fn := fun _ => fun
  | [d1, d2] => { results := [.lit (.bool true)], args := [d1, d2] }
  | _ => none }
def xxSumsRow : OpenClaim := { program := "ytfcddffcjmgpkaa", sum := "27c2eaec0688bed2932e3e1e943dfc04f4a01431ae139447087b212c554fc094", func := "cortado/cortadolaw04.XxSums", spec := "xxSums", apart := false }
def XxSumsSaid : Prop := xxSumsRow.holds Try.pinned (OpenSpec.ofChange xxSumsSpec)

/-- ITS FALSE NEIGHBOUR: 'it returns false'. Refute it at one input. -/
def xxSumsWrong : ChangeSpec := { name := "xxSums", fn := fun _ => fun
  | [d1, d2] => { results := [.lit (.bool false)], args := [d1, d2] }
  | _ => none }
def XxSumsWrongFalsely : Prop := xxSumsRow.holds Try.pinned (OpenSpec.ofChange xxSumsWrong)

/-- 'cortadolaw10.NibblePlays': WHATEVER THE INPUT: true; the input reads as it did. -/
def nibblePlaysSpec : ChangeSpec := { name := "nibblePlays", fn := fun _ => fun
  | [d1, d2, d3] => { results := [.lit (.bool true)], args := [d1, d2, d3] }
  | _ => none }
def nibblePlaysRow : OpenClaim := { program := "ytfcddffcjmgpkaa", sum := "27c2eaec0688bed2932e3e1e943dfc04f4a01431ae139447087b212c554fc094", func := "cortado/cortadolaw10.NibblePlays", spec := "nibblePlays", unfollowed := true, recurses := true, apart := false }
def NibblePlaysSaid : Prop := nibblePlaysRow.holds Try.pinned (OpenSpec.ofChange nibblePlaysSpec)

/-- ITS FALSE NEIGHBOUR: 'it returns false'. Refute it at one input. -/
def nibblePlaysWrong : ChangeSpec := { name := "nibblePlays", fn := fun _ => fun
  | [d1, d2, d3] => { results := [.lit (.bool false)], args := [d1, d2, d3] }
  | _ => none }
def NibblePlaysWrongFalsely : Prop := nibblePlaysRow.holds Try.pinned (OpenSpec.ofChange nibblePlaysWrong)

/-- 'cortadolaw10.NibbleApart': WHATEVER THE INPUT: true; the input reads as it did. -/
def nibbleApartSpec : ChangeSpec := { name := "nibbleApart", fn := fun _ => fun
  | [d1, d2, d3] => { results := [.lit (.bool true)], args := [d1, d2, d3] }
  | _ => none }
def nibbleApartRow : OpenClaim := { program := "ytfcddffcjmgpkaa", sum := "27c2eaec0688bed2932e3e1e943dfc04f4a01431ae139447087b212c554fc094", func := "cortado/cortadolaw10.NibbleApart", spec := "nibbleApart", unfollowed := true, recurses := true, apart := false }
def NibbleApartSaid : Prop := nibbleApartRow.holds Try.pinned (OpenSpec.ofChange nibbleApartSpec)

/-- ITS FALSE NEIGHBOUR: 'it returns false'. Refute it at one input. -/
def nibbleApartWrong : ChangeSpec := { name := "nibbleApart", fn := fun _ => fun
  | [d1, d2, d3] => { results := [.lit (.bool false)], args := [d1, d2, d3] }
  | _ => none }
def NibbleApartWrongFalsely : Prop := nibbleApartRow.holds Try.pinned (OpenSpec.ofChange nibbleApartWrong)

/-- 'cortadolaw16.TapeReads': WHATEVER THE INPUT: true; the input reads as it did. -/
def tapeReadsSpec : ChangeSpec := { name := "tapeReads", fn := fun _ => fun
  | [d1, d2] => { results := [.lit (.bool true)], args := [d1, d2] }
  | _ => none }
def tapeReadsRow : OpenClaim := { program := "ytfcddffcjmgpkaa", sum := "27c2eaec0688bed2932e3e1e943dfc04f4a01431ae139447087b212c554fc094", func := "cortado/cortadolaw16.TapeReads", spec := "tapeReads", apart := false }
def TapeReadsSaid : Prop := tapeReadsRow.holds Try.pinned (OpenSpec.ofChange tapeReadsSpec)

/-- ITS FALSE NEIGHBOUR: 'it returns false'. Refute it at one input. -/
def tapeReadsWrong : ChangeSpec := { name := "tapeReads", fn := fun _ => fun
  | [d1, d2] => { results := [.lit (.bool false)], args := [d1, d2] }
  | _ => none }
def TapeReadsWrongFalsely : Prop := tapeReadsRow.holds Try.pinned (OpenSpec.ofChange tapeReadsWrong)

/-- 'cortadolaw04.XxParts': WHATEVER THE INPUT: true; the input reads as it did. -/
def xxPartsSpec : ChangeSpec := { name := "xxParts", fn := fun _ => fun
  | [d1, d2] => { results := [.lit (.bool true)], args := [d1, d2] }
  | _ => none }
def xxPartsRow : OpenClaim := { program := "ytfcddffcjmgpkaa", sum := "27c2eaec0688bed2932e3e1e943dfc04f4a01431ae139447087b212c554fc094", func := "cortado/cortadolaw04.XxParts", spec := "xxParts", apart := false }
def XxPartsSaid : Prop := xxPartsRow.holds Try.pinned (OpenSpec.ofChange xxPartsSpec)

/-- ITS FALSE NEIGHBOUR: 'it returns false'. Refute it at one input. -/
def xxPartsWrong : ChangeSpec := { name := "xxParts", fn := fun _ => fun
  | [d1, d2] => { results := [.lit (.bool false)], args := [d1, d2] }
  | _ => none }
def XxPartsWrongFalsely : Prop := xxPartsRow.holds Try.pinned (OpenSpec.ofChange xxPartsWrong)

/-- 'cortadolaw35.SchedFair': WHATEVER THE INPUT: true; the input reads as it did. -/
def schedFairSpec : ChangeSpec := { name := "schedFair", fn := fun _ => fun
  | [d1, d2, d3] => { results := [.lit (.bool true)], args := [d1, d2, d3] }
  | _ => none }
def schedFairRow : OpenClaim := { program := "ytfcddffcjmgpkaa", sum := "27c2eaec0688bed2932e3e1e943dfc04f4a01431ae139447087b212c554fc094", func := "cortado/cortadolaw35.SchedFair", spec := "schedFair", unfollowed := true, recurses := true, apart := false }
def SchedFairSaid : Prop := schedFairRow.holds Try.pinned (OpenSpec.ofChange schedFairSpec)

/-- ITS FALSE NEIGHBOUR: 'it returns false'. Refute it at one input. -/
def schedFairWrong : ChangeSpec := { name := "schedFair", fn := fun _ => fun
  | [d1, d2, d3] => { results := [.lit (.bool false)], args := [d1, d2, d3] }
  | _ => none }
def SchedFairWrongFalsely : Prop := schedFairRow.holds Try.pinned (OpenSpec.ofChange schedFairWrong)

/-- 'cortadolaw07.RingPlays': WHATEVER THE INPUT: true; the input reads as it did. -/
def ringPlaysSpec : ChangeSpec := { name := "ringPlays", fn := fun _ => fun
  | [d1, d2] => { results := [.lit (.bool true)], args := [d1, d2] }
  | _ => none }
def ringPlaysRow : OpenClaim := { program := "ytfcddffcjmgpkaa", sum := "27c2eaec0688bed2932e3e1e943dfc04f4a01431ae139447087b212c554fc094", func := "cortado/cortadolaw07.RingPlays", spec := "ringPlays", unfollowed := true, recurses := true, apart := false }
def RingPlaysSaid : Prop := ringPlaysRow.holds Try.pinned (OpenSpec.ofChange ringPlaysSpec)

/-- ITS FALSE NEIGHBOUR: 'it returns false'. Refute it at one input. -/
def ringPlaysWrong : ChangeSpec := { name := "ringPlays", fn := fun _ => fun
  | [d1, d2] => { results := [.lit (.bool false)], args := [d1, d2] }
  | _ => none }
def RingPlaysWrongFalsely : Prop := ringPlaysRow.holds Try.pinned (OpenSpec.ofChange ringPlaysWrong)

/-- 'cortadolaw07.RingNil': WHATEVER THE INPUT: true; the input reads as it did. -/
def ringNilSpec : ChangeSpec := { name := "ringNil", fn := fun _ => fun
  | [d1, d2] => { results := [.lit (.bool true)], args := [d1, d2] }
  | _ => none }
def ringNilRow : OpenClaim := { program := "ytfcddffcjmgpkaa", sum := "27c2eaec0688bed2932e3e1e943dfc04f4a01431ae139447087b212c554fc094", func := "cortado/cortadolaw07.RingNil", spec := "ringNil", unfollowed := true, recurses := true, apart := false }
def RingNilSaid : Prop := ringNilRow.holds Try.pinned (OpenSpec.ofChange ringNilSpec)

/-- ITS FALSE NEIGHBOUR: 'it returns false'. Refute it at one input. -/
def ringNilWrong : ChangeSpec := { name := "ringNil", fn := fun _ => fun
  | [d1, d2] => { results := [.lit (.bool false)], args := [d1, d2] }
  | _ => none }
def RingNilWrongFalsely : Prop := ringNilRow.holds Try.pinned (OpenSpec.ofChange ringNilWrong)

/- THE SECOND FORM. 'bulk': how many values and letters a reading holds, each counted each time it is reached (what is shared counts as often as it is met; a slice's spare places count too). A statement '..UptoSaid' is the law's where the arguments, and the package variables that the reading takes, are together of bulk at most 1048576: NARROWER than '..Said'. Prove '..Said' where nothing that the law and all that it calls make is longer than what came in: it says more and counts as full. Else prove '..UptoSaid'. A law counts once. -/
mutual
def uptoBulk {H : Type} : DataW H → Nat
  | .lit (.string bytes) => bytes.length + 1
  | .lit _ => 1
  | .nil => 1
  | .ptr d => uptoBulk d + 1
  | .slice elems spare => uptoBulkAll elems + uptoBulkAll spare + 1
  | .agg parts => uptoBulkAll parts + 1
  | .iface _ d => uptoBulk d + 1
  | .map entries => uptoBulkEntries entries + 1
  | .held _ => 1
def uptoBulkAll {H : Type} : List (DataW H) → Nat
  | [] => 0
  | d :: r => uptoBulk d + uptoBulkAll r
def uptoBulkEntries {H : Type} : List (Lit × DataW H) → Nat
  | [] => 0
  | x :: r => uptoBulkEntry x + uptoBulkEntries r
def uptoBulkEntry {H : Type} : Lit × DataW H → Nat
  | (.string bytes, d) => bytes.length + uptoBulk d + 1
  | (_, d) => uptoBulk d + 1
 end
def uptoSmall : (H : Type) → List (DataW H) → Bool := fun _ ds => decide (uptoBulkAll ds ≤ 1048576)
def OpenSpec.upto (s : _root_.Go.ChangeSpec) : _root_.Go.OpenSpec := { _root_.Go.OpenSpec.ofChange s with cond := some uptoSmall }

/-- 'cortadolaw49.LruIncludes', WHERE WHAT IT READS IS OF BULK AT MOST 1048576: true; the input reads as it did. -/
def lruIncludesUptoRow : OpenClaim := { program := "ytfcddffcjmgpkaa", sum := "27c2eaec0688bed2932e3e1e943dfc04f4a01431ae139447087b212c554fc094", func := "cortado/cortadolaw49.LruIncludes", spec := "lruIncludes", apart := false, narrowed := true }
def LruIncludesUptoSaid : Prop := lruIncludesUptoRow.holds Try.pinned (OpenSpec.upto lruIncludesSpec)

/-- 'cortadolaw07.RingOrder', WHERE WHAT IT READS IS OF BULK AT MOST 1048576: true; the input reads as it did. -/
def ringOrderUptoRow : OpenClaim := { program := "ytfcddffcjmgpkaa", sum := "27c2eaec0688bed2932e3e1e943dfc04f4a01431ae139447087b212c554fc094", func := "cortado/cortadolaw07.RingOrder", spec := "ringOrder", unfollowed := true, recurses := true, apart := false, narrowed := true }
def RingOrderUptoSaid : Prop := ringOrderUptoRow.holds Try.pinned (OpenSpec.upto ringOrderSpec)

/-- 'cortadolaw04.XxSums', WHERE WHAT IT READS IS OF BULK AT MOST 1048576: true; the input reads as it did. -/
def xxSumsUptoRow : OpenClaim := { program := "ytfcddffcjmgpkaa", sum := "27c2eaec0688bed2932e3e1e943dfc04f4a01431ae139447087b212c554fc094", func := "cortado/cortadolaw04.XxSums", spec := "xxSums", apart := false, narrowed := true }
def XxSumsUptoSaid : Prop := xxSumsUptoRow.holds Try.pinned (OpenSpec.upto xxSumsSpec)

/-- 'cortadolaw10.NibblePlays', WHERE WHAT IT READS IS OF BULK AT MOST 1048576: true; the input reads as it did. -/
def nibblePlaysUptoRow : OpenClaim := { program := "ytfcddffcjmgpkaa", sum := "27c2eaec0688bed2932e3e1e943dfc04f4a01431ae139447087b212c554fc094", func := "cortado/cortadolaw10.NibblePlays", spec := "nibblePlays", unfollowed := true, recurses := true, apart := false, narrowed := true }
def NibblePlaysUptoSaid : Prop := nibblePlaysUptoRow.holds Try.pinned (OpenSpec.upto nibblePlaysSpec)

/-- 'cortadolaw10.NibbleApart', WHERE WHAT IT READS IS OF BULK AT MOST 1048576: true; the input reads as it did. -/
def nibbleApartUptoRow : OpenClaim := { program := "ytfcddffcjmgpkaa", sum := "27c2eaec0688bed2932e3e1e943dfc04f4a01431ae139447087b212c554fc094", func := "cortado/cortadolaw10.NibbleApart", spec := "nibbleApart", unfollowed := true, recurses := true, apart := false, narrowed := true }
def NibbleApartUptoSaid : Prop := nibbleApartUptoRow.holds Try.pinned (OpenSpec.upto nibbleApartSpec)

/-- 'cortadolaw16.TapeReads', WHERE WHAT IT READS IS OF BULK AT MOST 1048576: true; the input reads as it did. -/
def tapeReadsUptoRow : OpenClaim := { program := "ytfcddffcjmgpkaa", sum := "27c2eaec0688bed2932e3e1e943dfc04f4a01431ae139447087b212c554fc094", func := "cortado/cortadolaw16.TapeReads", spec := "tapeReads", apart := false, narrowed := true }
def TapeReadsUptoSaid : Prop := tapeReadsUptoRow.holds Try.pinned (OpenSpec.upto tapeReadsSpec)

/-- 'cortadolaw04.XxParts', WHERE WHAT IT READS IS OF BULK AT MOST 1048576: true; the input reads as it did. -/
def xxPartsUptoRow : OpenClaim := { program := "ytfcddffcjmgpkaa", sum := "27c2eaec0688bed2932e3e1e943dfc04f4a01431ae139447087b212c554fc094", func := "cortado/cortadolaw04.XxParts", spec := "xxParts", apart := false, narrowed := true }
def XxPartsUptoSaid : Prop := xxPartsUptoRow.holds Try.pinned (OpenSpec.upto xxPartsSpec)

/-- 'cortadolaw35.SchedFair', WHERE WHAT IT READS IS OF BULK AT MOST 1048576: true; the input reads as it did. -/
def schedFairUptoRow : OpenClaim := { program := "ytfcddffcjmgpkaa", sum := "27c2eaec0688bed2932e3e1e943dfc04f4a01431ae139447087b212c554fc094", func := "cortado/cortadolaw35.SchedFair", spec := "schedFair", unfollowed := true, recurses := true, apart := false, narrowed := true }
def SchedFairUptoSaid : Prop := schedFairUptoRow.holds Try.pinned (OpenSpec.upto schedFairSpec)

/-- 'cortadolaw07.RingPlays', WHERE WHAT IT READS IS OF BULK AT MOST 1048576: true; the input reads as it did. -/
def ringPlaysUptoRow : OpenClaim := { program := "ytfcddffcjmgpkaa", sum := "27c2eaec0688bed2932e3e1e943dfc04f4a01431ae139447087b212c554fc094", func := "cortado/cortadolaw07.RingPlays", spec := "ringPlays", unfollowed := true, recurses := true, apart := false, narrowed := true }
def RingPlaysUptoSaid : Prop := ringPlaysUptoRow.holds Try.pinned (OpenSpec.upto ringPlaysSpec)

/-- 'cortadolaw07.RingNil', WHERE WHAT IT READS IS OF BULK AT MOST 1048576: true; the input reads as it did. -/
def ringNilUptoRow : OpenClaim := { program := "ytfcddffcjmgpkaa", sum := "27c2eaec0688bed2932e3e1e943dfc04f4a01431ae139447087b212c554fc094", func := "cortado/cortadolaw07.RingNil", spec := "ringNil", unfollowed := true, recurses := true, apart := false, narrowed := true }
def RingNilUptoSaid : Prop := ringNilUptoRow.holds Try.pinned (OpenSpec.upto ringNilSpec)

end Rows
end Go.Proofs.Ytfcddffcjmgpkaa
