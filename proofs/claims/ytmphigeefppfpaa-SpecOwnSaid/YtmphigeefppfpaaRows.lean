/-
  No cell of these rows narrows 'for every input' (looked for: loops, veiled, ifaces, maps, wideKeys, modest, calm, conditions, laid).
  DERIVED. THE GIVEN ROWS OF THIS SEAT. 11 by the template 'for every input the law returns true; each argument reads behind the call as it read before'; 0 by the template 'total and deterministic' (their statements: YtmphigeefppfpaaTotals.lean).
  GIVEN WITH THE SEED: the statements are not yours to turn. If you find one false, say at which input.
  Laid BY PROGRAM, IN A SANDBOX (cutbox-rows.mjs): the forced cells as the released guide's own fill.sh prints them over the translation 56b3e799e6059c12… (all of the seat's roots in one cut). By AI agents, Wed Nov 11 2026. No macro, syntax, notation, axiom, sorry.
-/
import Derived.Test.YtmphigeefppfpaaChecked
import GoSem.Claim
import GoSem.ClaimJoined
import GoSem.ClaimMapViews
import Derived.JoinedTies
import Derived.KernelRfl
namespace Go.Proofs.Ytmphigeefppfpaa
/- THE CELL 'sum', in the pinned program and in every row, IS THE sha256 OF THE DUMP (.gsa) THAT YtmphigeefppfpaaProg.lean LOADS. Nothing in Lean hashes anything: it is a label: what it is worth is what the hold of that sum in a sandbox is worth. -/
noncomputable def Try.pinned : Pinned := { name := "ytmphigeefppfpaa", sum := "56b3e799e6059c1257fb572f41611a92056e45ab388a7060f4345560352f2565", checked := Try.checked }
namespace Rows
def none {H : Type} : Left H := { results := [], args := [] }

/-- 'virgationlaw11.SpecRead': WHATEVER THE INPUT: true; the input reads as it did. -/
def specReadSpec : ChangeSpec := { name := "specRead", fn := fun _ => fun
  | [d1, d2] => { results := [.lit (.bool true)], args := [d1, d2] }
  | _ => none }
def specReadRow : OpenClaim := { program := "ytmphigeefppfpaa", sum := "56b3e799e6059c1257fb572f41611a92056e45ab388a7060f4345560352f2565", func := "virgation/virgationlaw11.SpecRead", spec := "specRead", unfollowed := true, recurses := true, plainKeys := false, apart := false }
def SpecReadSaid : Prop := specReadRow.holds Try.pinned (OpenSpec.ofChange specReadSpec)

/-- ITS FALSE NEIGHBOUR: 'it returns false'. Refute it at one input. -/
def specReadWrong : ChangeSpec := { name := "specRead", fn := fun _ => fun
  | [d1, d2] => { results := [.lit (.bool false)], args := [d1, d2] }
  | _ => none }
def SpecReadWrongFalsely : Prop := specReadRow.holds Try.pinned (OpenSpec.ofChange specReadWrong)

/-- 'virgationlaw11.SpecCheck': WHATEVER THE INPUT: true; the input reads as it did. -/
def specCheckSpec : ChangeSpec := { name := "specCheck", fn := fun _ => fun
  | [d] => { results := [.lit (.bool true)], args := [d] }
  | _ => none }
def specCheckRow : OpenClaim := { program := "ytmphigeefppfpaa", sum := "56b3e799e6059c1257fb572f41611a92056e45ab388a7060f4345560352f2565", func := "virgation/virgationlaw11.SpecCheck", spec := "specCheck", unfollowed := true, recurses := true, plainKeys := false, apart := false }
def SpecCheckSaid : Prop := specCheckRow.holds Try.pinned (OpenSpec.ofChange specCheckSpec)

/-- ITS FALSE NEIGHBOUR: 'it returns false'. Refute it at one input. -/
def specCheckWrong : ChangeSpec := { name := "specCheck", fn := fun _ => fun
  | [d] => { results := [.lit (.bool false)], args := [d] }
  | _ => none }
def SpecCheckWrongFalsely : Prop := specCheckRow.holds Try.pinned (OpenSpec.ofChange specCheckWrong)

/-- 'virgationlaw11.SpecSame': WHATEVER THE INPUT: true; the input reads as it did. -/
def specSameSpec : ChangeSpec := { name := "specSame", fn := fun _ => fun
  | [d1, d2] => { results := [.lit (.bool true)], args := [d1, d2] }
  | _ => none }
def specSameRow : OpenClaim := { program := "ytmphigeefppfpaa", sum := "56b3e799e6059c1257fb572f41611a92056e45ab388a7060f4345560352f2565", func := "virgation/virgationlaw11.SpecSame", spec := "specSame", unfollowed := true, recurses := true, plainKeys := false, apart := false }
def SpecSameSaid : Prop := specSameRow.holds Try.pinned (OpenSpec.ofChange specSameSpec)

/-- ITS FALSE NEIGHBOUR: 'it returns false'. Refute it at one input. -/
def specSameWrong : ChangeSpec := { name := "specSame", fn := fun _ => fun
  | [d1, d2] => { results := [.lit (.bool false)], args := [d1, d2] }
  | _ => none }
def SpecSameWrongFalsely : Prop := specSameRow.holds Try.pinned (OpenSpec.ofChange specSameWrong)

/-- 'virgationlaw11.SpecApart': WHATEVER THE INPUT: true; the input reads as it did. -/
def specApartSpec : ChangeSpec := { name := "specApart", fn := fun _ => fun
  | [d1, d2] => { results := [.lit (.bool true)], args := [d1, d2] }
  | _ => none }
def specApartRow : OpenClaim := { program := "ytmphigeefppfpaa", sum := "56b3e799e6059c1257fb572f41611a92056e45ab388a7060f4345560352f2565", func := "virgation/virgationlaw11.SpecApart", spec := "specApart", unfollowed := true, recurses := true, plainKeys := false, apart := false }
def SpecApartSaid : Prop := specApartRow.holds Try.pinned (OpenSpec.ofChange specApartSpec)

/-- ITS FALSE NEIGHBOUR: 'it returns false'. Refute it at one input. -/
def specApartWrong : ChangeSpec := { name := "specApart", fn := fun _ => fun
  | [d1, d2] => { results := [.lit (.bool false)], args := [d1, d2] }
  | _ => none }
def SpecApartWrongFalsely : Prop := specApartRow.holds Try.pinned (OpenSpec.ofChange specApartWrong)

/-- 'virgationlaw11.SpecLeast': WHATEVER THE INPUT: true; the input reads as it did. -/
def specLeastSpec : ChangeSpec := { name := "specLeast", fn := fun _ => fun
  | [d] => { results := [.lit (.bool true)], args := [d] }
  | _ => none }
def specLeastRow : OpenClaim := { program := "ytmphigeefppfpaa", sum := "56b3e799e6059c1257fb572f41611a92056e45ab388a7060f4345560352f2565", func := "virgation/virgationlaw11.SpecLeast", spec := "specLeast", unfollowed := true, recurses := true, plainKeys := false, apart := false }
def SpecLeastSaid : Prop := specLeastRow.holds Try.pinned (OpenSpec.ofChange specLeastSpec)

/-- ITS FALSE NEIGHBOUR: 'it returns false'. Refute it at one input. -/
def specLeastWrong : ChangeSpec := { name := "specLeast", fn := fun _ => fun
  | [d] => { results := [.lit (.bool false)], args := [d] }
  | _ => none }
def SpecLeastWrongFalsely : Prop := specLeastRow.holds Try.pinned (OpenSpec.ofChange specLeastWrong)

/-- 'virgationlaw11.SpecTwice': WHATEVER THE INPUT: true; the input reads as it did. -/
def specTwiceSpec : ChangeSpec := { name := "specTwice", fn := fun _ => fun
  | [d1, d2] => { results := [.lit (.bool true)], args := [d1, d2] }
  | _ => none }
def specTwiceRow : OpenClaim := { program := "ytmphigeefppfpaa", sum := "56b3e799e6059c1257fb572f41611a92056e45ab388a7060f4345560352f2565", func := "virgation/virgationlaw11.SpecTwice", spec := "specTwice", unfollowed := true, recurses := true, plainKeys := false, apart := false }
def SpecTwiceSaid : Prop := specTwiceRow.holds Try.pinned (OpenSpec.ofChange specTwiceSpec)

/-- ITS FALSE NEIGHBOUR: 'it returns false'. Refute it at one input. -/
def specTwiceWrong : ChangeSpec := { name := "specTwice", fn := fun _ => fun
  | [d1, d2] => { results := [.lit (.bool false)], args := [d1, d2] }
  | _ => none }
def SpecTwiceWrongFalsely : Prop := specTwiceRow.holds Try.pinned (OpenSpec.ofChange specTwiceWrong)

/-- 'virgationlaw11.SpecBoth': WHATEVER THE INPUT: true; the input reads as it did. -/
def specBothSpec : ChangeSpec := { name := "specBoth", fn := fun _ => fun
  | [d1, d2] => { results := [.lit (.bool true)], args := [d1, d2] }
  | _ => none }
def specBothRow : OpenClaim := { program := "ytmphigeefppfpaa", sum := "56b3e799e6059c1257fb572f41611a92056e45ab388a7060f4345560352f2565", func := "virgation/virgationlaw11.SpecBoth", spec := "specBoth", unfollowed := true, recurses := true, plainKeys := false, apart := false }
def SpecBothSaid : Prop := specBothRow.holds Try.pinned (OpenSpec.ofChange specBothSpec)

/-- ITS FALSE NEIGHBOUR: 'it returns false'. Refute it at one input. -/
def specBothWrong : ChangeSpec := { name := "specBoth", fn := fun _ => fun
  | [d1, d2] => { results := [.lit (.bool false)], args := [d1, d2] }
  | _ => none }
def SpecBothWrongFalsely : Prop := specBothRow.holds Try.pinned (OpenSpec.ofChange specBothWrong)

/-- 'virgationlaw11.SpecWords': WHATEVER THE INPUT: true; the input reads as it did. -/
def specWordsSpec : ChangeSpec := { name := "specWords", fn := fun _ => fun
  | [d1, d2, d3] => { results := [.lit (.bool true)], args := [d1, d2, d3] }
  | _ => none }
def specWordsRow : OpenClaim := { program := "ytmphigeefppfpaa", sum := "56b3e799e6059c1257fb572f41611a92056e45ab388a7060f4345560352f2565", func := "virgation/virgationlaw11.SpecWords", spec := "specWords", unfollowed := true, recurses := true, plainKeys := false, apart := false }
def SpecWordsSaid : Prop := specWordsRow.holds Try.pinned (OpenSpec.ofChange specWordsSpec)

/-- ITS FALSE NEIGHBOUR: 'it returns false'. Refute it at one input. -/
def specWordsWrong : ChangeSpec := { name := "specWords", fn := fun _ => fun
  | [d1, d2, d3] => { results := [.lit (.bool false)], args := [d1, d2, d3] }
  | _ => none }
def SpecWordsWrongFalsely : Prop := specWordsRow.holds Try.pinned (OpenSpec.ofChange specWordsWrong)

/-- 'virgationlaw11.SpecAuto': WHATEVER THE INPUT: true; the input reads as it did. -/
def specAutoSpec : ChangeSpec := { name := "specAuto", fn := fun _ => fun
  | [d1, d2, d3] => { results := [.lit (.bool true)], args := [d1, d2, d3] }
  | _ => none }
def specAutoRow : OpenClaim := { program := "ytmphigeefppfpaa", sum := "56b3e799e6059c1257fb572f41611a92056e45ab388a7060f4345560352f2565", func := "virgation/virgationlaw11.SpecAuto", spec := "specAuto", unfollowed := true, recurses := true, plainKeys := false, apart := false }
def SpecAutoSaid : Prop := specAutoRow.holds Try.pinned (OpenSpec.ofChange specAutoSpec)

/-- ITS FALSE NEIGHBOUR: 'it returns false'. Refute it at one input. -/
def specAutoWrong : ChangeSpec := { name := "specAuto", fn := fun _ => fun
  | [d1, d2, d3] => { results := [.lit (.bool false)], args := [d1, d2, d3] }
  | _ => none }
def SpecAutoWrongFalsely : Prop := specAutoRow.holds Try.pinned (OpenSpec.ofChange specAutoWrong)

/-- 'virgationlaw11.SpecEqual': WHATEVER THE INPUT: true; the input reads as it did. -/
def specEqualSpec : ChangeSpec := { name := "specEqual", fn := fun _ => fun
  | [d1, d2] => { results := [.lit (.bool true)], args := [d1, d2] }
  | _ => none }
def specEqualRow : OpenClaim := { program := "ytmphigeefppfpaa", sum := "56b3e799e6059c1257fb572f41611a92056e45ab388a7060f4345560352f2565", func := "virgation/virgationlaw11.SpecEqual", spec := "specEqual", unfollowed := true, recurses := true, plainKeys := false, apart := false }
def SpecEqualSaid : Prop := specEqualRow.holds Try.pinned (OpenSpec.ofChange specEqualSpec)

/-- ITS FALSE NEIGHBOUR: 'it returns false'. Refute it at one input. -/
def specEqualWrong : ChangeSpec := { name := "specEqual", fn := fun _ => fun
  | [d1, d2] => { results := [.lit (.bool false)], args := [d1, d2] }
  | _ => none }
def SpecEqualWrongFalsely : Prop := specEqualRow.holds Try.pinned (OpenSpec.ofChange specEqualWrong)

/-- 'virgationlaw11.SpecOwn': WHATEVER THE INPUT: true; the input reads as it did. -/
def specOwnSpec : ChangeSpec := { name := "specOwn", fn := fun _ => fun
  | [d1, d2, d3, d4] => { results := [.lit (.bool true)], args := [d1, d2, d3, d4] }
  | _ => none }
def specOwnRow : OpenClaim := { program := "ytmphigeefppfpaa", sum := "56b3e799e6059c1257fb572f41611a92056e45ab388a7060f4345560352f2565", func := "virgation/virgationlaw11.SpecOwn", spec := "specOwn", unfollowed := true, recurses := true, plainKeys := false, apart := false }
def SpecOwnSaid : Prop := specOwnRow.holds Try.pinned (OpenSpec.ofChange specOwnSpec)

/-- ITS FALSE NEIGHBOUR: 'it returns false'. Refute it at one input. -/
def specOwnWrong : ChangeSpec := { name := "specOwn", fn := fun _ => fun
  | [d1, d2, d3, d4] => { results := [.lit (.bool false)], args := [d1, d2, d3, d4] }
  | _ => none }
def SpecOwnWrongFalsely : Prop := specOwnRow.holds Try.pinned (OpenSpec.ofChange specOwnWrong)

/- THE SECOND FORM. 'bulk': how many values and letters a reading holds, each counted each time it is reached (what is shared counts as often as it is met; a slice's spare places count too). A statement '..UptoSaid' is the law's where the arguments, and the package variables that the reading takes, are together of bulk at most 1048576: NARROWER than '..Said'. Prove '..Said' where nothing that the law and all that it calls make is longer than what came in: it says more and counts as full. Else prove '..UptoSaid'. A law counts once. -/
mutual
def uptoBulk {H : Type} : DataW H → Nat
  | .lit (.string bytes) => bytes.length + 1
  | .lit _ => 1
  | .nil => 1
  | .ptr d => uptoBulk d + 1
  | .slice elems spare => uptoBulkAll elems + uptoBulkAll spare + 1
  | .agg parts => uptoBulkAll parts + 1
  | .iface _ d => uptoBulk d + 1
  | .map entries => uptoBulkEntries entries + 1
  | .held _ => 1
def uptoBulkAll {H : Type} : List (DataW H) → Nat
  | [] => 0
  | d :: r => uptoBulk d + uptoBulkAll r
def uptoBulkEntries {H : Type} : List (Lit × DataW H) → Nat
  | [] => 0
  | x :: r => uptoBulkEntry x + uptoBulkEntries r
def uptoBulkEntry {H : Type} : Lit × DataW H → Nat
  | (.string bytes, d) => bytes.length + uptoBulk d + 1
  | (_, d) => uptoBulk d + 1
 end
def uptoSmall : (H : Type) → List (DataW H) → Bool := fun _ ds => decide (uptoBulkAll ds ≤ 1048576)
def OpenSpec.upto (s : _root_.Go.ChangeSpec) : _root_.Go.OpenSpec := { _root_.Go.OpenSpec.ofChange s with cond := some uptoSmall }

/-- 'virgationlaw11.SpecRead', WHERE WHAT IT READS IS OF BULK AT MOST 1048576: true; the input reads as it did. -/
def specReadUptoRow : OpenClaim := { program := "ytmphigeefppfpaa", sum := "56b3e799e6059c1257fb572f41611a92056e45ab388a7060f4345560352f2565", func := "virgation/virgationlaw11.SpecRead", spec := "specRead", unfollowed := true, recurses := true, plainKeys := false, apart := false, narrowed := true }
def SpecReadUptoSaid : Prop := specReadUptoRow.holds Try.pinned (OpenSpec.upto specReadSpec)

/-- 'virgationlaw11.SpecCheck', WHERE WHAT IT READS IS OF BULK AT MOST 1048576: true; the input reads as it did. -/
def specCheckUptoRow : OpenClaim := { program := "ytmphigeefppfpaa", sum := "56b3e799e6059c1257fb572f41611a92056e45ab388a7060f4345560352f2565", func := "virgation/virgationlaw11.SpecCheck", spec := "specCheck", unfollowed := true, recurses := true, plainKeys := false, apart := false, narrowed := true }
def SpecCheckUptoSaid : Prop := specCheckUptoRow.holds Try.pinned (OpenSpec.upto specCheckSpec)

/-- 'virgationlaw11.SpecSame', WHERE WHAT IT READS IS OF BULK AT MOST 1048576: true; the input reads as it did. -/
def specSameUptoRow : OpenClaim := { program := "ytmphigeefppfpaa", sum := "56b3e799e6059c1257fb572f41611a92056e45ab388a7060f4345560352f2565", func := "virgation/virgationlaw11.SpecSame", spec := "specSame", unfollowed := true, recurses := true, plainKeys := false, apart := false, narrowed := true }
def SpecSameUptoSaid : Prop := specSameUptoRow.holds Try.pinned (OpenSpec.upto specSameSpec)

/-- 'virgationlaw11.SpecApart', WHERE WHAT IT READS IS OF BULK AT MOST 1048576: true; the input reads as it did. -/
def specApartUptoRow : OpenClaim := { program := "ytmphigeefppfpaa", sum := "56b3e799e6059c1257fb572f41611a92056e45ab388a7060f4345560352f2565", func := "virgation/virgationlaw11.SpecApart", spec := "specApart", unfollowed := true, recurses := true, plainKeys := false, apart := false, narrowed := true }
def SpecApartUptoSaid : Prop := specApartUptoRow.holds Try.pinned (OpenSpec.upto specApartSpec)

/-- 'virgationlaw11.SpecLeast', WHERE WHAT IT READS IS OF BULK AT MOST 1048576: true; the input reads as it did. -/
def specLeastUptoRow : OpenClaim := { program := "ytmphigeefppfpaa", sum := "56b3e799e6059c1257fb572f41611a92056e45ab388a7060f4345560352f2565", func := "virgation/virgationlaw11.SpecLeast", spec := "specLeast", unfollowed := true, recurses := true, plainKeys := false, apart := false, narrowed := true }
def SpecLeastUptoSaid : Prop := specLeastUptoRow.holds Try.pinned (OpenSpec.upto specLeastSpec)

/-- 'virgationlaw11.SpecTwice', WHERE WHAT IT READS IS OF BULK AT MOST 1048576: true; the input reads as it did. -/
def specTwiceUptoRow : OpenClaim := { program := "ytmphigeefppfpaa", sum := "56b3e799e6059c1257fb572f41611a92056e45ab388a7060f4345560352f2565", func := "virgation/virgationlaw11.SpecTwice", spec := "specTwice", unfollowed := true, recurses := true, plainKeys := false, apart := false, narrowed := true }
def SpecTwiceUptoSaid : Prop := specTwiceUptoRow.holds Try.pinned (OpenSpec.upto specTwiceSpec)

/-- 'virgationlaw11.SpecBoth', WHERE WHAT IT READS IS OF BULK AT MOST 1048576: true; the input reads as it did. -/
def specBothUptoRow : OpenClaim := { program := "ytmphigeefppfpaa", sum := "56b3e799e6059c1257fb572f41611a92056e45ab388a7060f4345560352f2565", func := "virgation/virgationlaw11.SpecBoth", spec := "specBoth", unfollowed := true, recurses := true, plainKeys := false, apart := false, narrowed := true }
def SpecBothUptoSaid : Prop := specBothUptoRow.holds Try.pinned (OpenSpec.upto specBothSpec)

/-- 'virgationlaw11.SpecWords', WHERE WHAT IT READS IS OF BULK AT MOST 1048576: true; the input reads as it did. -/
def specWordsUptoRow : OpenClaim := { program := "ytmphigeefppfpaa", sum := "56b3e799e6059c1257fb572f41611a92056e45ab388a7060f4345560352f2565", func := "virgation/virgationlaw11.SpecWords", spec := "specWords", unfollowed := true, recurses := true, plainKeys := false, apart := false, narrowed := true }
def SpecWordsUptoSaid : Prop := specWordsUptoRow.holds Try.pinned (OpenSpec.upto specWordsSpec)

/-- 'virgationlaw11.SpecAuto', WHERE WHAT IT READS IS OF BULK AT MOST 1048576: true; the input reads as it did. -/
def specAutoUptoRow : OpenClaim := { program := "ytmphigeefppfpaa", sum := "56b3e799e6059c1257fb572f41611a92056e45ab388a7060f4345560352f2565", func := "virgation/virgationlaw11.SpecAuto", spec := "specAuto", unfollowed := true, recurses := true, plainKeys := false, apart := false, narrowed := true }
def SpecAutoUptoSaid : Prop := specAutoUptoRow.holds Try.pinned (OpenSpec.upto specAutoSpec)

/-- 'virgationlaw11.SpecEqual', WHERE WHAT IT READS IS OF BULK AT MOST 1048576: true; the input reads as it did. -/
def specEqualUptoRow : OpenClaim := { program := "ytmphigeefppfpaa", sum := "56b3e799e6059c1257fb572f41611a92056e45ab388a7060f4345560352f2565", func := "virgation/virgationlaw11.SpecEqual", spec := "specEqual", unfollowed := true, recurses := true, plainKeys := false, apart := false, narrowed := true }
def SpecEqualUptoSaid : Prop := specEqualUptoRow.holds Try.pinned (OpenSpec.upto specEqualSpec)

/-- 'virgationlaw11.SpecOwn', WHERE WHAT IT READS IS OF BULK AT MOST 1048576: true; the input reads as it did. -/
def specOwnUptoRow : OpenClaim := { program := "ytmphigeefppfpaa", sum := "56b3e799e6059c1257fb572f41611a92056e45ab388a7060f4345560352f2565", func := "virgation/virgationlaw11.SpecOwn", spec := "specOwn", unfollowed := true, recurses := true, plainKeys := false, apart := false, narrowed := true }
def SpecOwnUptoSaid : Prop := specOwnUptoRow.holds Try.pinned (OpenSpec.upto specOwnSpec)

end Rows
end Go.Proofs.Ytmphigeefppfpaa
