/-
  No cell of these rows narrows 'for every input' (looked for: loops, veiled, ifaces, maps, wideKeys, modest, calm, conditions, laid).
  DERIVED. THE GIVEN ROWS OF THIS SEAT. 7 by the template 'for every input the law returns true; each argument reads behind the call as it read before'; 0 by the template 'total and deterministic' (their statements: YtbmneikfcbbmmaaGreatTotals.lean).
  GIVEN WITH THE SEED: the statements are not yours to turn. If you find one false, say at which input.
  Laid BY PROGRAM, IN A SANDBOX (cutbox-rows.mjs): the forced cells as the released guide's own fill.sh prints them over the translation 4c7bb16a051d9fa6… (all of the seat's roots in one cut). By AI agents, Wed Nov 11 2026. No macro, syntax, notation, axiom, sorry.
-/
import Derived.Test.YtbmneikfcbbmmaaGreatChecked
import GoSem.Claim
import GoSem.ClaimJoined
import GoSem.ClaimMapViews
import Derived.JoinedTies
import Derived.KernelRfl
namespace Go.Proofs.YtbmneikfcbbmmaaGreat
/- THE CELL 'sum', in the pinned program and in every row, IS THE sha256 OF THE DUMP (.gsa) THAT YtbmneikfcbbmmaaGreatProg.lean LOADS. Nothing in Lean hashes anything: it is a label: what it is worth is what the hold of that sum in a sandbox is worth. -/
noncomputable def Tryz.pinned : Pinned := { name := "ytbmneikfcbbmmaagreat", sum := "4c7bb16a051d9fa667430b36e63649a73943228c2b337ffcf8f0631401207ef6", checked := Tryz.checked }
namespace Rows
def none {H : Type} : Left H := { results := [], args := [] }

/-- 'plugboardlaw26.HostsFair': WHATEVER THE INPUT: true; the input reads as it did. -/
def hostsFairSpec : ChangeSpec := { name := "hostsFair", fn := fun _ => fun
  | [d1, d2] => { results := [.lit (.bool true)], args := [d1, d2] }
  | _ => none }
def hostsFairRow : OpenClaim := { program := "ytbmneikfcbbmmaagreat", sum := "4c7bb16a051d9fa667430b36e63649a73943228c2b337ffcf8f0631401207ef6", func := "plugboard/plugboardlaw26.HostsFair", spec := "hostsFair", unfollowed := true, recurses := true, plainKeys := false, apart := false }
def HostsFairSaid : Prop := hostsFairRow.holds Tryz.pinned (OpenSpec.ofChange hostsFairSpec)

/-- ITS FALSE NEIGHBOUR: 'it returns false'. Refute it at one input. -/
def hostsFairWrong : ChangeSpec := { name := "hostsFair", fn := fun _ => fun
  | [d1, d2] => { results := [.lit (.bool false)], args := [d1, d2] }
  | _ => none }
def HostsFairWrongFalsely : Prop := hostsFairRow.holds Tryz.pinned (OpenSpec.ofChange hostsFairWrong)

/-- 'plugboardlaw26.HostsFrames': WHATEVER THE INPUT: true; the input reads as it did. -/
def hostsFramesSpec : ChangeSpec := { name := "hostsFrames", fn := fun _ => fun
  | [d1, d2, d3] => { results := [.lit (.bool true)], args := [d1, d2, d3] }
  | _ => none }
def hostsFramesRow : OpenClaim := { program := "ytbmneikfcbbmmaagreat", sum := "4c7bb16a051d9fa667430b36e63649a73943228c2b337ffcf8f0631401207ef6", func := "plugboard/plugboardlaw26.HostsFrames", spec := "hostsFrames", unfollowed := true, recurses := true, plainKeys := false, apart := false }
def HostsFramesSaid : Prop := hostsFramesRow.holds Tryz.pinned (OpenSpec.ofChange hostsFramesSpec)

/-- ITS FALSE NEIGHBOUR: 'it returns false'. Refute it at one input. -/
def hostsFramesWrong : ChangeSpec := { name := "hostsFrames", fn := fun _ => fun
  | [d1, d2, d3] => { results := [.lit (.bool false)], args := [d1, d2, d3] }
  | _ => none }
def HostsFramesWrongFalsely : Prop := hostsFramesRow.holds Tryz.pinned (OpenSpec.ofChange hostsFramesWrong)

/-- 'plugboardlaw26.HostsTicks': WHATEVER THE INPUT: true; the input reads as it did. -/
def hostsTicksSpec : ChangeSpec := { name := "hostsTicks", fn := fun _ => fun
  | [d1, d2, d3] => { results := [.lit (.bool true)], args := [d1, d2, d3] }
  | _ => none }
def hostsTicksRow : OpenClaim := { program := "ytbmneikfcbbmmaagreat", sum := "4c7bb16a051d9fa667430b36e63649a73943228c2b337ffcf8f0631401207ef6", func := "plugboard/plugboardlaw26.HostsTicks", spec := "hostsTicks", unfollowed := true, recurses := true, plainKeys := false, apart := false }
def HostsTicksSaid : Prop := hostsTicksRow.holds Tryz.pinned (OpenSpec.ofChange hostsTicksSpec)

/-- ITS FALSE NEIGHBOUR: 'it returns false'. Refute it at one input. -/
def hostsTicksWrong : ChangeSpec := { name := "hostsTicks", fn := fun _ => fun
  | [d1, d2, d3] => { results := [.lit (.bool false)], args := [d1, d2, d3] }
  | _ => none }
def HostsTicksWrongFalsely : Prop := hostsTicksRow.holds Tryz.pinned (OpenSpec.ofChange hostsTicksWrong)

/-- 'plugboardlaw26.HostsOpen': WHATEVER THE INPUT: true; the input reads as it did. -/
def hostsOpenSpec : ChangeSpec := { name := "hostsOpen", fn := fun _ => fun
  | [d] => { results := [.lit (.bool true)], args := [d] }
  | _ => none }
def hostsOpenRow : OpenClaim := { program := "ytbmneikfcbbmmaagreat", sum := "4c7bb16a051d9fa667430b36e63649a73943228c2b337ffcf8f0631401207ef6", func := "plugboard/plugboardlaw26.HostsOpen", spec := "hostsOpen", unfollowed := true, recurses := true, plainKeys := false, apart := false }
def HostsOpenSaid : Prop := hostsOpenRow.holds Tryz.pinned (OpenSpec.ofChange hostsOpenSpec)

/-- ITS FALSE NEIGHBOUR: 'it returns false'. Refute it at one input. -/
def hostsOpenWrong : ChangeSpec := { name := "hostsOpen", fn := fun _ => fun
  | [d] => { results := [.lit (.bool false)], args := [d] }
  | _ => none }
def HostsOpenWrongFalsely : Prop := hostsOpenRow.holds Tryz.pinned (OpenSpec.ofChange hostsOpenWrong)

/-- 'plugboardlaw26.HostsErrors': WHATEVER THE INPUT: true; the input reads as it did. -/
def hostsErrorsSpec : ChangeSpec := { name := "hostsErrors", fn := fun _ => fun
  | [d1, d2] => { results := [.lit (.bool true)], args := [d1, d2] }
  | _ => none }
def hostsErrorsRow : OpenClaim := { program := "ytbmneikfcbbmmaagreat", sum := "4c7bb16a051d9fa667430b36e63649a73943228c2b337ffcf8f0631401207ef6", func := "plugboard/plugboardlaw26.HostsErrors", spec := "hostsErrors", unfollowed := true, recurses := true, plainKeys := false, apart := false }
def HostsErrorsSaid : Prop := hostsErrorsRow.holds Tryz.pinned (OpenSpec.ofChange hostsErrorsSpec)

/-- ITS FALSE NEIGHBOUR: 'it returns false'. Refute it at one input. -/
def hostsErrorsWrong : ChangeSpec := { name := "hostsErrors", fn := fun _ => fun
  | [d1, d2] => { results := [.lit (.bool false)], args := [d1, d2] }
  | _ => none }
def HostsErrorsWrongFalsely : Prop := hostsErrorsRow.holds Tryz.pinned (OpenSpec.ofChange hostsErrorsWrong)

/-- 'plugboardlaw26.HostsIntervals': WHATEVER THE INPUT: true; the input reads as it did. -/
def hostsIntervalsSpec : ChangeSpec := { name := "hostsIntervals", fn := fun _ => fun
  | [d1, d2] => { results := [.lit (.bool true)], args := [d1, d2] }
  | _ => none }
def hostsIntervalsRow : OpenClaim := { program := "ytbmneikfcbbmmaagreat", sum := "4c7bb16a051d9fa667430b36e63649a73943228c2b337ffcf8f0631401207ef6", func := "plugboard/plugboardlaw26.HostsIntervals", spec := "hostsIntervals", unfollowed := true, recurses := true, plainKeys := false, apart := false }
def HostsIntervalsSaid : Prop := hostsIntervalsRow.holds Tryz.pinned (OpenSpec.ofChange hostsIntervalsSpec)

/-- ITS FALSE NEIGHBOUR: 'it returns false'. Refute it at one input. -/
def hostsIntervalsWrong : ChangeSpec := { name := "hostsIntervals", fn := fun _ => fun
  | [d1, d2] => { results := [.lit (.bool false)], args := [d1, d2] }
  | _ => none }
def HostsIntervalsWrongFalsely : Prop := hostsIntervalsRow.holds Tryz.pinned (OpenSpec.ofChange hostsIntervalsWrong)

/-- 'plugboardlaw26.HostsSplits': WHATEVER THE INPUT: true; the input reads as it did. -/
def hostsSplitsSpec : ChangeSpec := { name := "hostsSplits", fn := fun _ => fun
  | [d] => { results := [.lit (.bool true)], args := [d] }
  | _ => none }
def hostsSplitsRow : OpenClaim := { program := "ytbmneikfcbbmmaagreat", sum := "4c7bb16a051d9fa667430b36e63649a73943228c2b337ffcf8f0631401207ef6", func := "plugboard/plugboardlaw26.HostsSplits", spec := "hostsSplits", unfollowed := true, recurses := true, plainKeys := false, apart := false }
def HostsSplitsSaid : Prop := hostsSplitsRow.holds Tryz.pinned (OpenSpec.ofChange hostsSplitsSpec)

/-- ITS FALSE NEIGHBOUR: 'it returns false'. Refute it at one input. -/
def hostsSplitsWrong : ChangeSpec := { name := "hostsSplits", fn := fun _ => fun
  | [d] => { results := [.lit (.bool false)], args := [d] }
  | _ => none }
def HostsSplitsWrongFalsely : Prop := hostsSplitsRow.holds Tryz.pinned (OpenSpec.ofChange hostsSplitsWrong)

/- THE SECOND FORM. 'bulk': how many values and letters a reading holds, each counted each time it is reached (what is shared counts as often as it is met; a slice's spare places count too). A statement '..UptoSaid' is the law's where the arguments, and the package variables that the reading takes, are together of bulk at most 1048576: NARROWER than '..Said'. Prove '..Said' where nothing that the law and all that it calls make is longer than what came in: it says more and counts as full. Else prove '..UptoSaid'. A law counts once. -/
mutual
def uptoBulk {H : Type} : DataW H → Nat
  | .lit (.string bytes) => bytes.length + 1
  | .lit _ => 1
  | .nil => 1
  | .ptr d => uptoBulk d + 1
  | .slice elems spare => uptoBulkAll elems + uptoBulkAll spare + 1
  | .agg parts => uptoBulkAll parts + 1
  | .iface _ d => uptoBulk d + 1
  | .map entries => uptoBulkEntries entries + 1
  | .held _ => 1
def uptoBulkAll {H : Type} : List (DataW H) → Nat
  | [] => 0
  | d :: r => uptoBulk d + uptoBulkAll r
def uptoBulkEntries {H : Type} : List (Lit × DataW H) → Nat
  | [] => 0
  | x :: r => uptoBulkEntry x + uptoBulkEntries r
def uptoBulkEntry {H : Type} : Lit × DataW H → Nat
  | (.string bytes, d) => bytes.length + uptoBulk d + 1
  | (_, d) => uptoBulk d + 1
 end
def uptoSmall : (H : Type) → List (DataW H) → Bool := fun _ ds => decide (uptoBulkAll ds ≤ 1048576)
def OpenSpec.upto (s : _root_.Go.ChangeSpec) : _root_.Go.OpenSpec := { _root_.Go.OpenSpec.ofChange s with cond := some uptoSmall }

/-- 'plugboardlaw26.HostsFair', WHERE WHAT IT READS IS OF BULK AT MOST 1048576: true; the input reads as it did. -/
def hostsFairUptoRow : OpenClaim := { program := "ytbmneikfcbbmmaagreat", sum := "4c7bb16a051d9fa667430b36e63649a73943228c2b337ffcf8f0631401207ef6", func := "plugboard/plugboardlaw26.HostsFair", spec := "hostsFair", unfollowed := true, recurses := true, plainKeys := false, apart := false, narrowed := true }
def HostsFairUptoSaid : Prop := hostsFairUptoRow.holds Tryz.pinned (OpenSpec.upto hostsFairSpec)

/-- 'plugboardlaw26.HostsFrames', WHERE WHAT IT READS IS OF BULK AT MOST 1048576: true; the input reads as it did. -/
def hostsFramesUptoRow : OpenClaim := { program := "ytbmneikfcbbmmaagreat", sum := "4c7bb16a051d9fa667430b36e63649a73943228c2b337ffcf8f0631401207ef6", func := "plugboard/plugboardlaw26.HostsFrames", spec := "hostsFrames", unfollowed := true, recurses := true, plainKeys := false, apart := false, narrowed := true }
def HostsFramesUptoSaid : Prop := hostsFramesUptoRow.holds Tryz.pinned (OpenSpec.upto hostsFramesSpec)

/-- 'plugboardlaw26.HostsTicks', WHERE WHAT IT READS IS OF BULK AT MOST 1048576: true; the input reads as it did. -/
def hostsTicksUptoRow : OpenClaim := { program := "ytbmneikfcbbmmaagreat", sum := "4c7bb16a051d9fa667430b36e63649a73943228c2b337ffcf8f0631401207ef6", func := "plugboard/plugboardlaw26.HostsTicks", spec := "hostsTicks", unfollowed := true, recurses := true, plainKeys := false, apart := false, narrowed := true }
def HostsTicksUptoSaid : Prop := hostsTicksUptoRow.holds Tryz.pinned (OpenSpec.upto hostsTicksSpec)

/-- 'plugboardlaw26.HostsOpen', WHERE WHAT IT READS IS OF BULK AT MOST 1048576: true; the input reads as it did. -/
def hostsOpenUptoRow : OpenClaim := { program := "ytbmneikfcbbmmaagreat", sum := "4c7bb16a051d9fa667430b36e63649a73943228c2b337ffcf8f0631401207ef6", func := "plugboard/plugboardlaw26.HostsOpen", spec := "hostsOpen", unfollowed := true, recurses := true, plainKeys := false, apart := false, narrowed := true }
def HostsOpenUptoSaid : Prop := hostsOpenUptoRow.holds Tryz.pinned (OpenSpec.upto hostsOpenSpec)

/-- 'plugboardlaw26.HostsErrors', WHERE WHAT IT READS IS OF BULK AT MOST 1048576: true; the input reads as it did. -/
def hostsErrorsUptoRow : OpenClaim := { program := "ytbmneikfcbbmmaagreat", sum := "4c7bb16a051d9fa667430b36e63649a73943228c2b337ffcf8f0631401207ef6", func := "plugboard/plugboardlaw26.HostsErrors", spec := "hostsErrors", unfollowed := true, recurses := true, plainKeys := false, apart := false, narrowed := true }
def HostsErrorsUptoSaid : Prop := hostsErrorsUptoRow.holds Tryz.pinned (OpenSpec.upto hostsErrorsSpec)

/-- 'plugboardlaw26.HostsIntervals', WHERE WHAT IT READS IS OF BULK AT MOST 1048576: true; the input reads as it did. -/
def hostsIntervalsUptoRow : OpenClaim := { program := "ytbmneikfcbbmmaagreat", sum := "4c7bb16a051d9fa667430b36e63649a73943228c2b337ffcf8f0631401207ef6", func := "plugboard/plugboardlaw26.HostsIntervals", spec := "hostsIntervals", unfollowed := true, recurses := true, plainKeys := false, apart := false, narrowed := true }
def HostsIntervalsUptoSaid : Prop := hostsIntervalsUptoRow.holds Tryz.pinned (OpenSpec.upto hostsIntervalsSpec)

/-- 'plugboardlaw26.HostsSplits', WHERE WHAT IT READS IS OF BULK AT MOST 1048576: true; the input reads as it did. -/
def hostsSplitsUptoRow : OpenClaim := { program := "ytbmneikfcbbmmaagreat", sum := "4c7bb16a051d9fa667430b36e63649a73943228c2b337ffcf8f0631401207ef6", func := "plugboard/plugboardlaw26.HostsSplits", spec := "hostsSplits", unfollowed := true, recurses := true, plainKeys := false, apart := false, narrowed := true }
def HostsSplitsUptoSaid : Prop := hostsSplitsUptoRow.holds Tryz.pinned (OpenSpec.upto hostsSplitsSpec)

end Rows
end Go.Proofs.YtbmneikfcbbmmaaGreat
