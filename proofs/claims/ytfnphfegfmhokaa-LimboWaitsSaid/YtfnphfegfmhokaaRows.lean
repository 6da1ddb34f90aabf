/-
  No cell of these rows narrows 'for every input' (looked for: loops, veiled, ifaces, maps, wideKeys, modest, calm, conditions, laid).
  DERIVED. THE GIVEN ROWS OF THIS SEAT. 11 by the template 'for every input the law returns true; each argument reads behind the call as it read before'; 0 by the template 'total and deterministic' (their statements: YtfnphfegfmhokaaTotals.lean).
  GIVEN WITH THE SEED: the statements are not yours to turn. If you find one false, say at which input.
  Laid BY PROGRAM, IN A SANDBOX (cutbox-rows.mjs): the forced cells as the released guide's own fill.sh prints them over the translation 2a617428ed254a39… (all of the seat's roots in one cut). By AI agents, Wed Nov 11 2026. No macro, syntax, notation, axiom, sorry.
-/
import Derived.Test.YtfnphfegfmhokaaChecked
import GoSem.Claim
import GoSem.ClaimJoined
import GoSem.ClaimMapViews
import Derived.JoinedTies
import Derived.KernelRfl
namespace Go.Proofs.Ytfnphfegfmhokaa
/- THE CELL 'sum', in the pinned program and in every row, IS THE sha256 OF THE DUMP (.gsa) THAT YtfnphfegfmhokaaProg.lean LOADS. Nothing in Lean hashes anything: it is a label: what it is worth is what the hold of that sum in a sandbox is worth. -/
noncomputable def Try.pinned : Pinned := { name := "ytfnphfegfmhokaa", sum := "2a617428ed254a396ebf51e7db885b6e1fd7372744c6902b9599658d572680f6", checked := Try.checked }
namespace Rows
def none {H : Type} : Left H := { results := [], args := [] }

/-- 'pawllaw16.Pauses': WHATEVER THE INPUT: true; the input reads as it did. -/
def pausesSpec : ChangeSpec := { name := "pauses", fn := fun _ => fun
  | [d1, d2] => { results := [.lit (.bool true)], args := [d1, d2] }
  | _ => none }
def pausesRow : OpenClaim := { program := "ytfnphfegfmhokaa", sum := "2a617428ed254a396ebf51e7db885b6e1fd7372744c6902b9599658d572680f6", func := "pawl/pawllaw16.Pauses", spec := "pauses", apart := false }
def PausesSaid : Prop := pausesRow.holds Try.pinned (OpenSpec.ofChange pausesSpec)

/-- ITS FALSE NEIGHBOUR: 'it returns false'. Refute it at one input. -/
def pausesWrong : ChangeSpec := { name := "pauses", fn := fun _ => fun
  | [d1, d2] => { results := [.lit (.bool false)], args := [d1, d2] }
  | _ => none }
def PausesWrongFalsely : Prop := pausesRow.holds Try.pinned (OpenSpec.ofChange pausesWrong)

/-- 'pawllaw16.PauseRises': WHATEVER THE INPUT: true; the input reads as it did. -/
def pauseRisesSpec : ChangeSpec := { name := "pauseRises", fn := fun _ => fun
  | [d1, d2] => { results := [.lit (.bool true)], args := [d1, d2] }
  | _ => none }
def pauseRisesRow : OpenClaim := { program := "ytfnphfegfmhokaa", sum := "2a617428ed254a396ebf51e7db885b6e1fd7372744c6902b9599658d572680f6", func := "pawl/pawllaw16.PauseRises", spec := "pauseRises", apart := false }
def PauseRisesSaid : Prop := pauseRisesRow.holds Try.pinned (OpenSpec.ofChange pauseRisesSpec)

/-- ITS FALSE NEIGHBOUR: 'it returns false'. Refute it at one input. -/
def pauseRisesWrong : ChangeSpec := { name := "pauseRises", fn := fun _ => fun
  | [d1, d2] => { results := [.lit (.bool false)], args := [d1, d2] }
  | _ => none }
def PauseRisesWrongFalsely : Prop := pauseRisesRow.holds Try.pinned (OpenSpec.ofChange pauseRisesWrong)

/-- 'pawllaw16.PauseDoubles': WHATEVER THE INPUT: true; the input reads as it did. -/
def pauseDoublesSpec : ChangeSpec := { name := "pauseDoubles", fn := fun _ => fun
  | [d] => { results := [.lit (.bool true)], args := [d] }
  | _ => none }
def pauseDoublesRow : OpenClaim := { program := "ytfnphfegfmhokaa", sum := "2a617428ed254a396ebf51e7db885b6e1fd7372744c6902b9599658d572680f6", func := "pawl/pawllaw16.PauseDoubles", spec := "pauseDoubles", apart := false }
def PauseDoublesSaid : Prop := pauseDoublesRow.holds Try.pinned (OpenSpec.ofChange pauseDoublesSpec)

/-- ITS FALSE NEIGHBOUR: 'it returns false'. Refute it at one input. -/
def pauseDoublesWrong : ChangeSpec := { name := "pauseDoubles", fn := fun _ => fun
  | [d] => { results := [.lit (.bool false)], args := [d] }
  | _ => none }
def PauseDoublesWrongFalsely : Prop := pauseDoublesRow.holds Try.pinned (OpenSpec.ofChange pauseDoublesWrong)

/-- 'pawllaw21.Safes': WHATEVER THE INPUT: true; the input reads as it did. -/
def safesSpec : ChangeSpec := { name := "safes", fn := fun _ => fun
  | [d] => { results := [.lit (.bool true)], args := [d] }
  | _ => none }
def safesRow : OpenClaim := { program := "ytfnphfegfmhokaa", sum := "2a617428ed254a396ebf51e7db885b6e1fd7372744c6902b9599658d572680f6", func := "pawl/pawllaw21.Safes", spec := "safes", apart := false }
def SafesSaid : Prop := safesRow.holds Try.pinned (OpenSpec.ofChange safesSpec)

/-- ITS FALSE NEIGHBOUR: 'it returns false'. Refute it at one input. -/
def safesWrong : ChangeSpec := { name := "safes", fn := fun _ => fun
  | [d] => { results := [.lit (.bool false)], args := [d] }
  | _ => none }
def SafesWrongFalsely : Prop := safesRow.holds Try.pinned (OpenSpec.ofChange safesWrong)

/-- 'pawllaw21.SafeParts': WHATEVER THE INPUT: true; the input reads as it did. -/
def safePartsSpec : ChangeSpec := { name := "safeParts", fn := fun _ => fun
  | [d1, d2] => { results := [.lit (.bool true)], args := [d1, d2] }
  | _ => none }
def safePartsRow : OpenClaim := { program := "ytfnphfegfmhokaa", sum := "2a617428ed254a396ebf51e7db885b6e1fd7372744c6902b9599658d572680f6", func := "pawl/pawllaw21.SafeParts", spec := "safeParts", apart := false }
def SafePartsSaid : Prop := safePartsRow.holds Try.pinned (OpenSpec.ofChange safePartsSpec)

/-- ITS FALSE NEIGHBOUR: 'it returns false'. Refute it at one input. -/
def safePartsWrong : ChangeSpec := { name := "safeParts", fn := fun _ => fun
  | [d1, d2] => { results := [.lit (.bool false)], args := [d1, d2] }
  | _ => none }
def SafePartsWrongFalsely : Prop := safePartsRow.holds Try.pinned (OpenSpec.ofChange safePartsWrong)

/-- 'pawllaw21.SafeForms': WHATEVER THE INPUT: true; the input reads as it did. -/
def safeFormsSpec : ChangeSpec := { name := "safeForms", fn := fun _ => fun
  | [d1, d2, d3] => { results := [.lit (.bool true)], args := [d1, d2, d3] }
  | _ => none }
def safeFormsRow : OpenClaim := { program := "ytfnphfegfmhokaa", sum := "2a617428ed254a396ebf51e7db885b6e1fd7372744c6902b9599658d572680f6", func := "pawl/pawllaw21.SafeForms", spec := "safeForms", apart := false }
def SafeFormsSaid : Prop := safeFormsRow.holds Try.pinned (OpenSpec.ofChange safeFormsSpec)

/-- ITS FALSE NEIGHBOUR: 'it returns false'. Refute it at one input. -/
def safeFormsWrong : ChangeSpec := { name := "safeForms", fn := fun _ => fun
  | [d1, d2, d3] => { results := [.lit (.bool false)], args := [d1, d2, d3] }
  | _ => none }
def SafeFormsWrongFalsely : Prop := safeFormsRow.holds Try.pinned (OpenSpec.ofChange safeFormsWrong)

/-- 'pawllaw12.Limbos': WHATEVER THE INPUT: true; the input reads as it did. -/
def limbosSpec : ChangeSpec := { name := "limbos", fn := fun _ => fun
  | [d1, d2, d3] => { results := [.lit (.bool true)], args := [d1, d2, d3] }
  | _ => none }
def limbosRow : OpenClaim := { program := "ytfnphfegfmhokaa", sum := "2a617428ed254a396ebf51e7db885b6e1fd7372744c6902b9599658d572680f6", func := "pawl/pawllaw12.Limbos", spec := "limbos", unfollowed := true, recurses := true, apart := false }
def LimbosSaid : Prop := limbosRow.holds Try.pinned (OpenSpec.ofChange limbosSpec)

/-- ITS FALSE NEIGHBOUR: 'it returns false'. Refute it at one input. -/
def limbosWrong : ChangeSpec := { name := "limbos", fn := fun _ => fun
  | [d1, d2, d3] => { results := [.lit (.bool false)], args := [d1, d2, d3] }
  | _ => none }
def LimbosWrongFalsely : Prop := limbosRow.holds Try.pinned (OpenSpec.ofChange limbosWrong)

/-- 'pawllaw12.LimboWaits': WHATEVER THE INPUT: true; the input reads as it did. -/
def limboWaitsSpec : ChangeSpec := { name := "limboWaits", fn := fun _ => fun
  | [d] => { results := [.lit (.bool true)], args := [d] }
  | _ => none }
def limboWaitsRow : OpenClaim := { program := "ytfnphfegfmhokaa", sum := "2a617428ed254a396ebf51e7db885b6e1fd7372744c6902b9599658d572680f6", func := "pawl/pawllaw12.LimboWaits", spec := "limboWaits", unfollowed := true, recurses := true, apart := false }
def LimboWaitsSaid : Prop := limboWaitsRow.holds Try.pinned (OpenSpec.ofChange limboWaitsSpec)

/-- ITS FALSE NEIGHBOUR: 'it returns false'. Refute it at one input. -/
def limboWaitsWrong : ChangeSpec := { name := "limboWaits", fn := fun _ => fun
  | [d] => { results := [.lit (.bool false)], args := [d] }
  | _ => none }
def LimboWaitsWrongFalsely : Prop := limboWaitsRow.holds Try.pinned (OpenSpec.ofChange limboWaitsWrong)

/-- 'pawllaw12.LimboForms': WHATEVER THE INPUT: true; the input reads as it did. -/
def limboFormsSpec : ChangeSpec := { name := "limboForms", fn := fun _ => fun
  | [d1, d2] => { results := [.lit (.bool true)], args := [d1, d2] }
  | _ => none }
def limboFormsRow : OpenClaim := { program := "ytfnphfegfmhokaa", sum := "2a617428ed254a396ebf51e7db885b6e1fd7372744c6902b9599658d572680f6", func := "pawl/pawllaw12.LimboForms", spec := "limboForms", unfollowed := true, recurses := true, apart := false }
def LimboFormsSaid : Prop := limboFormsRow.holds Try.pinned (OpenSpec.ofChange limboFormsSpec)

/-- ITS FALSE NEIGHBOUR: 'it returns false'. Refute it at one input. -/
def limboFormsWrong : ChangeSpec := { name := "limboForms", fn := fun _ => fun
  | [d1, d2] => { results := [.lit (.bool false)], args := [d1, d2] }
  | _ => none }
def LimboFormsWrongFalsely : Prop := limboFormsRow.holds Try.pinned (OpenSpec.ofChange limboFormsWrong)

/-- 'pawllaw12.LimboRows': WHATEVER THE INPUT: true; the input reads as it did. -/
def limboRowsSpec : ChangeSpec := { name := "limboRows", fn := fun _ => fun
  | [d1, d2] => { results := [.lit (.bool true)], args := [d1, d2] }
  | _ => none }
def limboRowsRow : OpenClaim := { program := "ytfnphfegfmhokaa", sum := "2a617428ed254a396ebf51e7db885b6e1fd7372744c6902b9599658d572680f6", func := "pawl/pawllaw12.LimboRows", spec := "limboRows", unfollowed := true, recurses := true, apart := false }
def LimboRowsSaid : Prop := limboRowsRow.holds Try.pinned (OpenSpec.ofChange limboRowsSpec)

/-- ITS FALSE NEIGHBOUR: 'it returns false'. Refute it at one input. -/
def limboRowsWrong : ChangeSpec := { name := "limboRows", fn := fun _ => fun
  | [d1, d2] => { results := [.lit (.bool false)], args := [d1, d2] }
  | _ => none }
def LimboRowsWrongFalsely : Prop := limboRowsRow.holds Try.pinned (OpenSpec.ofChange limboRowsWrong)

/-- 'pawllaw12.LimboEmpties': WHATEVER THE INPUT: true; the input reads as it did. -/
def limboEmptiesSpec : ChangeSpec := { name := "limboEmpties", fn := fun _ => fun
  | [d1, d2] => { results := [.lit (.bool true)], args := [d1, d2] }
  | _ => none }
def limboEmptiesRow : OpenClaim := { program := "ytfnphfegfmhokaa", sum := "2a617428ed254a396ebf51e7db885b6e1fd7372744c6902b9599658d572680f6", func := "pawl/pawllaw12.LimboEmpties", spec := "limboEmpties", unfollowed := true, recurses := true, apart := false }
def LimboEmptiesSaid : Prop := limboEmptiesRow.holds Try.pinned (OpenSpec.ofChange limboEmptiesSpec)

/-- ITS FALSE NEIGHBOUR: 'it returns false'. Refute it at one input. -/
def limboEmptiesWrong : ChangeSpec := { name := "limboEmpties", fn := fun _ => fun
  | [d1, d2] => { results := [.lit (.bool false)], args := [d1, d2] }
  | _ => none }
def LimboEmptiesWrongFalsely : Prop := limboEmptiesRow.holds Try.pinned (OpenSpec.ofChange limboEmptiesWrong)

/- THE SECOND FORM. 'bulk': how many values and letters a reading holds, each counted each time it is reached (what is shared counts as often as it is met; a slice's spare places count too). A statement '..UptoSaid' is the law's where the arguments, and the package variables that the reading takes, are together of bulk at most 1048576: NARROWER than '..Said'. Prove '..Said' where nothing that the law and all that it calls make is longer than what came in: it says more and counts as full. Else prove '..UptoSaid'. A law counts once. -/
mutual
def uptoBulk {H : Type} : DataW H → Nat
  | .lit (.string bytes) => bytes.length + 1
  | .lit _ => 1
  | .nil => 1
  | .ptr d => uptoBulk d + 1
  | .slice elems spare => uptoBulkAll elems + uptoBulkAll spare + 1
  | .agg parts => uptoBulkAll parts + 1
  | .iface _ d => uptoBulk d + 1
  | .map entries => uptoBulkEntries entries + 1
  | .held _ => 1
def uptoBulkAll {H : Type} : List (DataW H) → Nat
  | [] => 0
  | d :: r => uptoBulk d + uptoBulkAll r
def uptoBulkEntries {H : Type} : List (Lit × DataW H) → Nat
  | [] => 0
  | x :: r => uptoBulkEntry x + uptoBulkEntries r
def uptoBulkEntry {H : Type} : Lit × DataW H → Nat
  | (.string bytes, d) => bytes.length + uptoBulk d + 1
  | (_, d) => uptoBulk d + 1
 end
def uptoSmall : (H : Type) → List (DataW H) → Bool := fun _ ds => decide (uptoBulkAll ds ≤ 1048576)
def OpenSpec.upto (s : _root_.Go.ChangeSpec) : _root_.Go.OpenSpec := { _root_.Go.OpenSpec.ofChange s with cond := some uptoSmall }

/-- 'pawllaw16.Pauses', WHERE WHAT IT READS IS OF BULK AT MOST 1048576: true; the input reads as it did. -/
def pausesUptoRow : OpenClaim := { program := "ytfnphfegfmhokaa", sum := "2a617428ed254a396ebf51e7db885b6e1fd7372744c6902b9599658d572680f6", func := "pawl/pawllaw16.Pauses", spec := "pauses", apart := false, narrowed := true }
def PausesUptoSaid : Prop := pausesUptoRow.holds Try.pinned (OpenSpec.upto pausesSpec)

/-- 'pawllaw16.PauseRises', WHERE WHAT IT READS IS OF BULK AT MOST 1048576: true; the input reads as it did. -/
def pauseRisesUptoRow : OpenClaim := { program := "ytfnphfegfmhokaa", sum := "2a617428ed254a396ebf51e7db885b6e1fd7372744c6902b9599658d572680f6", func := "pawl/pawllaw16.PauseRises", spec := "pauseRises", apart := false, narrowed := true }
def PauseRisesUptoSaid : Prop := pauseRisesUptoRow.holds Try.pinned (OpenSpec.upto pauseRisesSpec)

/-- 'pawllaw16.PauseDoubles', WHERE WHAT IT READS IS OF BULK AT MOST 1048576: true; the input reads as it did. -/
def pauseDoublesUptoRow : OpenClaim := { program := "ytfnphfegfmhokaa", sum := "2a617428ed254a396ebf51e7db885b6e1fd7372744c6902b9599658d572680f6", func := "pawl/pawllaw16.PauseDoubles", spec := "pauseDoubles", apart := false, narrowed := true }
def PauseDoublesUptoSaid : Prop := pauseDoublesUptoRow.holds Try.pinned (OpenSpec.upto pauseDoublesSpec)

/-- 'pawllaw21.Safes', WHERE WHAT IT READS IS OF BULK AT MOST 1048576: true; the input reads as it did. -/
def safesUptoRow : OpenClaim := { program := "ytfnphfegfmhokaa", sum := "2a617428ed254a396ebf51e7db885b6e1fd7372744c6902b9599658d572680f6", func := "pawl/pawllaw21.Safes", spec := "safes", apart := false, narrowed := true }
def SafesUptoSaid : Prop := safesUptoRow.holds Try.pinned (OpenSpec.upto safesSpec)

/-- 'pawllaw21.SafeParts', WHERE WHAT IT READS IS OF BULK AT MOST 1048576: true; the input reads as it did. -/
def safePartsUptoRow : OpenClaim := { program := "ytfnphfegfmhokaa", sum := "2a617428ed254a396ebf51e7db885b6e1fd7372744c6902b9599658d572680f6", func := "pawl/pawllaw21.SafeParts", spec := "safeParts", apart := false, narrowed := true }
def SafePartsUptoSaid : Prop := safePartsUptoRow.holds Try.pinned (OpenSpec.upto safePartsSpec)

/-- 'pawllaw21.SafeForms', WHERE WHAT IT READS IS OF BULK AT MOST 1048576: true; the input reads as it did. -/
def safeFormsUptoRow : OpenClaim := { program := "ytfnphfegfmhokaa", sum := "2a617428ed254a396ebf51e7db885b6e1fd7372744c6902b9599658d572680f6", func := "pawl/pawllaw21.SafeForms", spec := "safeForms", apart := false, narrowed := true }
def SafeFormsUptoSaid : Prop := safeFormsUptoRow.holds Try.pinned (OpenSpec.upto safeFormsSpec)

/-- 'pawllaw12.Limbos', WHERE WHAT IT READS IS OF BULK AT MOST 1048576: true; the input reads as it did. -/
def limbosUptoRow : OpenClaim := { program := "ytfnphfegfmhokaa", sum := "2a617428ed254a396ebf51e7db885b6e1fd7372744c6902b9599658d572680f6", func := "pawl/pawllaw12.Limbos", spec := "limbos", unfollowed := true, recurses := true, apart := false, narrowed := true }
def LimbosUptoSaid : Prop := limbosUptoRow.holds Try.pinned (OpenSpec.upto limbosSpec)

/-- 'pawllaw12.LimboWaits', WHERE WHAT IT READS IS OF BULK AT MOST 1048576: true; the input reads as it did. -/
def limboWaitsUptoRow : OpenClaim := { program := "ytfnphfegfmhokaa", sum := "2a617428ed254a396ebf51e7db885b6e1fd7372744c6902b9599658d572680f6", func := "pawl/pawllaw12.LimboWaits", spec := "limboWaits", unfollowed := true, recurses := true, apart := false, narrowed := true }
def LimboWaitsUptoSaid : Prop := limboWaitsUptoRow.holds Try.pinned (OpenSpec.upto limboWaitsSpec)

/-- 'pawllaw12.LimboForms', WHERE WHAT IT READS IS OF BULK AT MOST 1048576: true; the input reads as it did. -/
def limboFormsUptoRow : OpenClaim := { program := "ytfnphfegfmhokaa", sum := "2a617428ed254a396ebf51e7db885b6e1fd7372744c6902b9599658d572680f6", func := "pawl/pawllaw12.LimboForms", spec := "limboForms", unfollowed := true, recurses := true, apart := false, narrowed := true }
def LimboFormsUptoSaid : Prop := limboFormsUptoRow.holds Try.pinned (OpenSpec.upto limboFormsSpec)

/-- 'pawllaw12.LimboRows', WHERE WHAT IT READS IS OF BULK AT MOST 1048576: true; the input reads as it did. -/
def limboRowsUptoRow : OpenClaim := { program := "ytfnphfegfmhokaa", sum := "2a617428ed254a396ebf51e7db885b6e1fd7372744c6902b9599658d572680f6", func := "pawl/pawllaw12.LimboRows", spec := "limboRows", unfollowed := true, recurses := true, apart := false, narrowed := true }
def LimboRowsUptoSaid : Prop := limboRowsUptoRow.holds Try.pinned (OpenSpec.upto limboRowsSpec)

/-- 'pawllaw12.LimboEmpties', WHERE WHAT IT READS IS OF BULK AT MOST 1048576: true; the input reads as it did. -/
def limboEmptiesUptoRow : OpenClaim := { program := "ytfnphfegfmhokaa", sum := "2a617428ed254a396ebf51e7db885b6e1fd7372744c6902b9599658d572680f6", func := "pawl/pawllaw12.LimboEmpties", spec := "limboEmpties", unfollowed := true, recurses := true, apart := false, narrowed := true }
def LimboEmptiesUptoSaid : Prop := limboEmptiesUptoRow.holds Try.pinned (OpenSpec.upto limboEmptiesSpec)

end Rows
end Go.Proofs.Ytfnphfegfmhokaa
