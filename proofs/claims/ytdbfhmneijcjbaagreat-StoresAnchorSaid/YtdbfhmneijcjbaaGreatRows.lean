/-
  No cell of these rows narrows 'for every input' (looked for: loops, veiled, ifaces, maps, wideKeys, modest, calm, conditions, laid).
  DERIVED. THE GIVEN ROWS OF THIS SEAT. 5 by the template 'for every input the law returns true; each argument reads behind the call as it read before'; 0 by the template 'total and deterministic' (their statements: YtdbfhmneijcjbaaGreatTotals.lean).
  GIVEN WITH THE SEED: the statements are not yours to turn. If you find one false, say at which input.
  Laid BY PROGRAM, IN A SANDBOX (cutbox-rows.mjs): the forced cells as the released guide's own fill.sh prints them over the translation 5ac7c7f29836b925… (all of the seat's roots in one cut). By AI agents, Wed Nov 11 2026. No macro, syntax, notation, axiom, sorry.
-/
import Derived.Test.YtdbfhmneijcjbaaGreatChecked
import GoSem.Claim
import GoSem.ClaimJoined
import GoSem.ClaimMapViews
import Derived.JoinedTies
import Derived.KernelRfl
namespace Go.Proofs.YtdbfhmneijcjbaaGreat
/- THE CELL 'sum', in the pinned program and in every row, IS THE sha256 OF THE DUMP (.gsa) THAT YtdbfhmneijcjbaaGreatProg.lean LOADS. Nothing in Lean hashes anything: it is a label: what it is worth is what the hold of that sum in a sandbox is worth. -/
noncomputable def Tryz.pinned : Pinned := { name := "ytdbfhmneijcjbaagreat", sum := "5ac7c7f29836b925f3bdb5a61c50d45487ace38c62464bde701977588a68ebeb", checked := Tryz.checked }
namespace Rows
def none {H : Type} : Left H := { results := [], args := [] }

/-- 'paternosterlaw35.StoresKnown': WHATEVER THE INPUT: true; the input reads as it did. -/
def storesKnownSpec : ChangeSpec := { name := "storesKnown", fn := fun _ => fun
  | [] => { results := [.lit (.bool true)], args := [] }
  | _ => none }
def storesKnownRow : OpenClaim := { program := "ytdbfhmneijcjbaagreat", sum := "5ac7c7f29836b925f3bdb5a61c50d45487ace38c62464bde701977588a68ebeb", func := "paternoster/paternosterlaw35.StoresKnown", spec := "storesKnown", unfollowed := true, recurses := true, apart := false }
def StoresKnownSaid : Prop := storesKnownRow.holds Tryz.pinned (OpenSpec.ofChange storesKnownSpec)

/-- ITS FALSE NEIGHBOUR: 'it returns false'. Refute it at one input. -/
def storesKnownWrong : ChangeSpec := { name := "storesKnown", fn := fun _ => fun
  | [] => { results := [.lit (.bool false)], args := [] }
  | _ => none }
def StoresKnownWrongFalsely : Prop := storesKnownRow.holds Tryz.pinned (OpenSpec.ofChange storesKnownWrong)

/-- 'paternosterlaw35.StoresMeasure': WHATEVER THE INPUT: true; the input reads as it did. -/
def storesMeasureSpec : ChangeSpec := { name := "storesMeasure", fn := fun _ => fun
  | [d1, d2] => { results := [.lit (.bool true)], args := [d1, d2] }
  | _ => none }
def storesMeasureRow : OpenClaim := { program := "ytdbfhmneijcjbaagreat", sum := "5ac7c7f29836b925f3bdb5a61c50d45487ace38c62464bde701977588a68ebeb", func := "paternoster/paternosterlaw35.StoresMeasure", spec := "storesMeasure", unfollowed := true, recurses := true, apart := false }
def StoresMeasureSaid : Prop := storesMeasureRow.holds Tryz.pinned (OpenSpec.ofChange storesMeasureSpec)

/-- ITS FALSE NEIGHBOUR: 'it returns false'. Refute it at one input. -/
def storesMeasureWrong : ChangeSpec := { name := "storesMeasure", fn := fun _ => fun
  | [d1, d2] => { results := [.lit (.bool false)], args := [d1, d2] }
  | _ => none }
def StoresMeasureWrongFalsely : Prop := storesMeasureRow.holds Tryz.pinned (OpenSpec.ofChange storesMeasureWrong)

/-- 'paternosterlaw35.StoresApply': WHATEVER THE INPUT: true; the input reads as it did. -/
def storesApplySpec : ChangeSpec := { name := "storesApply", fn := fun _ => fun
  | [d1, d2] => { results := [.lit (.bool true)], args := [d1, d2] }
  | _ => none }
def storesApplyRow : OpenClaim := { program := "ytdbfhmneijcjbaagreat", sum := "5ac7c7f29836b925f3bdb5a61c50d45487ace38c62464bde701977588a68ebeb", func := "paternoster/paternosterlaw35.StoresApply", spec := "storesApply", unfollowed := true, recurses := true, apart := false }
def StoresApplySaid : Prop := storesApplyRow.holds Tryz.pinned (OpenSpec.ofChange storesApplySpec)

/-- ITS FALSE NEIGHBOUR: 'it returns false'. Refute it at one input. -/
def storesApplyWrong : ChangeSpec := { name := "storesApply", fn := fun _ => fun
  | [d1, d2] => { results := [.lit (.bool false)], args := [d1, d2] }
  | _ => none }
def StoresApplyWrongFalsely : Prop := storesApplyRow.holds Tryz.pinned (OpenSpec.ofChange storesApplyWrong)

/-- 'paternosterlaw35.StoresViews': WHATEVER THE INPUT: true; the input reads as it did. -/
def storesViewsSpec : ChangeSpec := { name := "storesViews", fn := fun _ => fun
  | [d1, d2, d3] => { results := [.lit (.bool true)], args := [d1, d2, d3] }
  | _ => none }
def storesViewsRow : OpenClaim := { program := "ytdbfhmneijcjbaagreat", sum := "5ac7c7f29836b925f3bdb5a61c50d45487ace38c62464bde701977588a68ebeb", func := "paternoster/paternosterlaw35.StoresViews", spec := "storesViews", unfollowed := true, recurses := true, apart := false }
def StoresViewsSaid : Prop := storesViewsRow.holds Tryz.pinned (OpenSpec.ofChange storesViewsSpec)

/-- ITS FALSE NEIGHBOUR: 'it returns false'. Refute it at one input. -/
def storesViewsWrong : ChangeSpec := { name := "storesViews", fn := fun _ => fun
  | [d1, d2, d3] => { results := [.lit (.bool false)], args := [d1, d2, d3] }
  | _ => none }
def StoresViewsWrongFalsely : Prop := storesViewsRow.holds Tryz.pinned (OpenSpec.ofChange storesViewsWrong)

/-- 'paternosterlaw35.StoresAnchor': WHATEVER THE INPUT: true; the input reads as it did. -/
def storesAnchorSpec : ChangeSpec := { name := "storesAnchor", fn := fun _ => fun
  | [d1, d2, d3] => { results := [.lit (.bool true)], args := [d1, d2, d3] }
  | _ => none }
def storesAnchorRow : OpenClaim := { program := "ytdbfhmneijcjbaagreat", sum := "5ac7c7f29836b925f3bdb5a61c50d45487ace38c62464bde701977588a68ebeb", func := "paternoster/paternosterlaw35.StoresAnchor", spec := "storesAnchor", unfollowed := true, recurses := true, apart := false }
def StoresAnchorSaid : Prop := storesAnchorRow.holds Tryz.pinned (OpenSpec.ofChange storesAnchorSpec)

/-- ITS FALSE NEIGHBOUR: 'it returns false'. Refute it at one input. -/
def storesAnchorWrong : ChangeSpec := { name := "storesAnchor", fn := fun _ => fun
  | [d1, d2, d3] => { results := [.lit (.bool false)], args := [d1, d2, d3] }
  | _ => none }
def StoresAnchorWrongFalsely : Prop := storesAnchorRow.holds Tryz.pinned (OpenSpec.ofChange storesAnchorWrong)

/- THE SECOND FORM. 'bulk': how many values and letters a reading holds, each counted each time it is reached (what is shared counts as often as it is met; a slice's spare places count too). A statement '..UptoSaid' is the law's where the arguments, and the package variables that the reading takes, are together of bulk at most 1048576: NARROWER than '..Said'. Prove '..Said' where nothing that the law and all that it calls make is longer than what came in: it says more and counts as full. Else prove '..UptoSaid'. A law counts once. -/
mutual
def uptoBulk {H : Type} : DataW H → Nat
  | .lit (.string bytes) => bytes.length + 1
  | .lit _ => 1
  | .nil => 1
  | .ptr d => uptoBulk d + 1
  | .slice elems spare => uptoBulkAll elems + uptoBulkAll spare + 1
  | .agg parts => uptoBulkAll parts + 1
  | .iface _ d => uptoBulk d + 1
  | .map entries => uptoBulkEntries entries + 1
  | .held _ => 1
def uptoBulkAll {H : Type} : List (DataW H) → Nat
  | [] => 0
  | d :: r => uptoBulk d + uptoBulkAll r
def uptoBulkEntries {H : Type} : List (Lit × DataW H) → Nat
  | [] => 0
  | x :: r => uptoBulkEntry x + uptoBulkEntries r
def uptoBulkEntry {H : Type} : Lit × DataW H → Nat
  | (.string bytes, d) => bytes.length + uptoBulk d + 1
  | (_, d) => uptoBulk d + 1
 end
def uptoSmall : (H : Type) → List (DataW H) → Bool := fun _ ds => decide (uptoBulkAll ds ≤ 1048576)
def OpenSpec.upto (s : _root_.Go.ChangeSpec) : _root_.Go.OpenSpec := { _root_.Go.OpenSpec.ofChange s with cond := some uptoSmall }

/-- 'paternosterlaw35.StoresKnown', WHERE WHAT IT READS IS OF BULK AT MOST 1048576: true; the input reads as it did. -/
def storesKnownUptoRow : OpenClaim := { program := "ytdbfhmneijcjbaagreat", sum := "5ac7c7f29836b925f3bdb5a61c50d45487ace38c62464bde701977588a68ebeb", func := "paternoster/paternosterlaw35.StoresKnown", spec := "storesKnown", unfollowed := true, recurses := true, apart := false, narrowed := true }
def StoresKnownUptoSaid : Prop := storesKnownUptoRow.holds Tryz.pinned (OpenSpec.upto storesKnownSpec)

/-- 'paternosterlaw35.StoresMeasure', WHERE WHAT IT READS IS OF BULK AT MOST 1048576: true; the input reads as it did. -/
def storesMeasureUptoRow : OpenClaim := { program := "ytdbfhmneijcjbaagreat", sum := "5ac7c7f29836b925f3bdb5a61c50d45487ace38c62464bde701977588a68ebeb", func := "paternoster/paternosterlaw35.StoresMeasure", spec := "storesMeasure", unfollowed := true, recurses := true, apart := false, narrowed := true }
def StoresMeasureUptoSaid : Prop := storesMeasureUptoRow.holds Tryz.pinned (OpenSpec.upto storesMeasureSpec)

/-- 'paternosterlaw35.StoresApply', WHERE WHAT IT READS IS OF BULK AT MOST 1048576: true; the input reads as it did. -/
def storesApplyUptoRow : OpenClaim := { program := "ytdbfhmneijcjbaagreat", sum := "5ac7c7f29836b925f3bdb5a61c50d45487ace38c62464bde701977588a68ebeb", func := "paternoster/paternosterlaw35.StoresApply", spec := "storesApply", unfollowed := true, recurses := true, apart := false, narrowed := true }
def StoresApplyUptoSaid : Prop := storesApplyUptoRow.holds Tryz.pinned (OpenSpec.upto storesApplySpec)

/-- 'paternosterlaw35.StoresViews', WHERE WHAT IT READS IS OF BULK AT MOST 1048576: true; the input reads as it did. -/
def storesViewsUptoRow : OpenClaim := { program := "ytdbfhmneijcjbaagreat", sum := "5ac7c7f29836b925f3bdb5a61c50d45487ace38c62464bde701977588a68ebeb", func := "paternoster/paternosterlaw35.StoresViews", spec := "storesViews", unfollowed := true, recurses := true, apart := false, narrowed := true }
def StoresViewsUptoSaid : Prop := storesViewsUptoRow.holds Tryz.pinned (OpenSpec.upto storesViewsSpec)

/-- 'paternosterlaw35.StoresAnchor', WHERE WHAT IT READS IS OF BULK AT MOST 1048576: true; the input reads as it did. -/
def storesAnchorUptoRow : OpenClaim := { program := "ytdbfhmneijcjbaagreat", sum := "5ac7c7f29836b925f3bdb5a61c50d45487ace38c62464bde701977588a68ebeb", func := "paternoster/paternosterlaw35.StoresAnchor", spec := "storesAnchor", unfollowed := true, recurses := true, apart := false, narrowed := true }
def StoresAnchorUptoSaid : Prop := storesAnchorUptoRow.holds Tryz.pinned (OpenSpec.upto storesAnchorSpec)

end Rows
end Go.Proofs.YtdbfhmneijcjbaaGreat
