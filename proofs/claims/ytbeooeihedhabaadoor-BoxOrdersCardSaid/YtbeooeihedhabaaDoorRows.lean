/-
  NARROWER THAN 'FOR EVERY INPUT', by the rows' own cells (each row's printed sentence says how): BoxWrites: laid · BoxReads: laid · BoxLands: laid · BoxBack: laid · BoxOrders: laid · BoxForged: laid.
  DERIVED. THE GIVEN ROWS OF THIS SEAT. 6 by the template 'for every input the law returns true; each argument reads behind the call as it read before'; 0 by the template 'total and deterministic' (their statements: YtbeooeihedhabaaDoorTotals.lean).
  GIVEN WITH THE SEED: the statements are not yours to turn. If you find one false, say at which input.
  Laid BY PROGRAM, IN A SANDBOX (cutbox-rows.mjs): the forced cells as the released guide's own fill.sh prints them over the translation 0686520dd2deaa50… (all of the seat's roots in one cut). By AI agents, Wed Nov 11 2026. No macro, syntax, notation, axiom, sorry.
-/
import Derived.Test.YtbeooeihedhabaaDoorChecked
import GoSem.Claim
import GoSem.ClaimJoined
import GoSem.ClaimMapViews
import Derived.JoinedTies
import Derived.KernelRfl
namespace Go.Proofs.YtbeooeihedhabaaDoor
/- THE CELL 'sum', in the pinned program and in every row, IS THE sha256 OF THE DUMP (.gsa) THAT YtbeooeihedhabaaDoorProg.lean LOADS. Nothing in Lean hashes anything: it is a label: what it is worth is what the hold of that sum in a sandbox is worth. -/
noncomputable def Tryd.pinned : Pinned := { name := "ytbeooeihedhabaadoor", sum := "0686520dd2deaa501343e77debcdd598a6483c5bc595ca42de077f817424c4c0", checked := Tryd.checked }
namespace Rows
def none {H : Type} : Left H := { results := [], args := [] }

/- WHAT THE LISTED PACKAGE-LEVEL VARIABLES READ AS WHEN THE CALL BEGINS. Each datum BY PROGRAM (the guide's laid-datum.mjs) off the statement by which the dump's own 'gosem.cut.vars' lays the variable. In a bare row this is a premise. The card (YtbeooeihedhabaaDoorCards.lean) ties it to the program's text. -/
def laid_cavalcade_digest_rounds {H : Type} : DataW H := .agg [.lit (.int .u32 1116352408), .lit (.int .u32 1899447441), .lit (.int .u32 3049323471), .lit (.int .u32 3921009573), .lit (.int .u32 961987163), .lit (.int .u32 1508970993), .lit (.int .u32 2453635748), .lit (.int .u32 2870763221), .lit (.int .u32 3624381080), .lit (.int .u32 310598401), .lit (.int .u32 607225278), .lit (.int .u32 1426881987), .lit (.int .u32 1925078388), .lit (.int .u32 2162078206), .lit (.int .u32 2614888103), .lit (.int .u32 3248222580), .lit (.int .u32 3835390401), .lit (.int .u32 4022224774), .lit (.int .u32 264347078), .lit (.int .u32 604807628), .lit (.int .u32 770255983), .lit (.int .u32 1249150122), .lit (.int .u32 1555081692), .lit (.int .u32 1996064986), .lit (.int .u32 2554220882), .lit (.int .u32 2821834349), .lit (.int .u32 2952996808), .lit (.int .u32 3210313671), .lit (.int .u32 3336571891), .lit (.int .u32 3584528711), .lit (.int .u32 113926993), .lit (.int .u32 338241895), .lit (.int .u32 666307205), .lit (.int .u32 773529912), .lit (.int .u32 1294757372), .lit (.int .u32 1396182291), .lit (.int .u32 1695183700), .lit (.int .u32 1986661051), .lit (.int .u32 2177026350), .lit (.int .u32 2456956037), .lit (.int .u32 2730485921), .lit (.int .u32 2820302411), .lit (.int .u32 3259730800), .lit (.int .u32 3345764771), .lit (.int .u32 3516065817), .lit (.int .u32 3600352804), .lit (.int .u32 4094571909), .lit (.int .u32 275423344), .lit (.int .u32 430227734), .lit (.int .u32 506948616), .lit (.int .u32 659060556), .lit (.int .u32 883997877), .lit (.int .u32 958139571), .lit (.int .u32 1322822218), .lit (.int .u32 1537002063), .lit (.int .u32 1747873779), .lit (.int .u32 1955562222), .lit (.int .u32 2024104815), .lit (.int .u32 2227730452), .lit (.int .u32 2361852424), .lit (.int .u32 2428436474), .lit (.int .u32 2756734187), .lit (.int .u32 3204031479), .lit (.int .u32 3329325298)]

/-- 'cavalcadelaw13.BoxWrites': WHATEVER THE INPUT: true; the input reads as it did. -/
def boxWritesSpec : ChangeSpec := { name := "boxWrites", fn := fun _ => fun
  | [d] => { results := [.lit (.bool true)], args := [d] }
  | _ => none }
def boxWritesRow : OpenClaim := { program := "ytbeooeihedhabaadoor", sum := "0686520dd2deaa501343e77debcdd598a6483c5bc595ca42de077f817424c4c0", func := "cavalcade/cavalcadelaw13.BoxWrites", spec := "boxWrites", unfollowed := true, recurses := true, named := ["cavalcade/digest.rounds"], apart := false, laid := [("cavalcade/digest.rounds", laid_cavalcade_digest_rounds)] }
def BoxWritesSaid : Prop := boxWritesRow.holds Tryd.pinned (OpenSpec.ofChange boxWritesSpec)

/-- ITS FALSE NEIGHBOUR: 'it returns false'. Refute it at one input. -/
def boxWritesWrong : ChangeSpec := { name := "boxWrites", fn := fun _ => fun
  | [d] => { results := [.lit (.bool false)], args := [d] }
  | _ => none }
def BoxWritesWrongFalsely : Prop := boxWritesRow.holds Tryd.pinned (OpenSpec.ofChange boxWritesWrong)

/-- 'cavalcadelaw13.BoxReads': WHATEVER THE INPUT: true; the input reads as it did. -/
def boxReadsSpec : ChangeSpec := { name := "boxReads", fn := fun _ => fun
  | [d] => { results := [.lit (.bool true)], args := [d] }
  | _ => none }
def boxReadsRow : OpenClaim := { program := "ytbeooeihedhabaadoor", sum := "0686520dd2deaa501343e77debcdd598a6483c5bc595ca42de077f817424c4c0", func := "cavalcade/cavalcadelaw13.BoxReads", spec := "boxReads", unfollowed := true, recurses := true, named := ["cavalcade/digest.rounds"], apart := false, laid := [("cavalcade/digest.rounds", laid_cavalcade_digest_rounds)] }
def BoxReadsSaid : Prop := boxReadsRow.holds Tryd.pinned (OpenSpec.ofChange boxReadsSpec)

/-- ITS FALSE NEIGHBOUR: 'it returns false'. Refute it at one input. -/
def boxReadsWrong : ChangeSpec := { name := "boxReads", fn := fun _ => fun
  | [d] => { results := [.lit (.bool false)], args := [d] }
  | _ => none }
def BoxReadsWrongFalsely : Prop := boxReadsRow.holds Tryd.pinned (OpenSpec.ofChange boxReadsWrong)

/-- 'cavalcadelaw13.BoxLands': WHATEVER THE INPUT: true; the input reads as it did. -/
def boxLandsSpec : ChangeSpec := { name := "boxLands", fn := fun _ => fun
  | [d] => { results := [.lit (.bool true)], args := [d] }
  | _ => none }
def boxLandsRow : OpenClaim := { program := "ytbeooeihedhabaadoor", sum := "0686520dd2deaa501343e77debcdd598a6483c5bc595ca42de077f817424c4c0", func := "cavalcade/cavalcadelaw13.BoxLands", spec := "boxLands", unfollowed := true, recurses := true, named := ["cavalcade/digest.rounds"], apart := false, laid := [("cavalcade/digest.rounds", laid_cavalcade_digest_rounds)] }
def BoxLandsSaid : Prop := boxLandsRow.holds Tryd.pinned (OpenSpec.ofChange boxLandsSpec)

/-- ITS FALSE NEIGHBOUR: 'it returns false'. Refute it at one input. -/
def boxLandsWrong : ChangeSpec := { name := "boxLands", fn := fun _ => fun
  | [d] => { results := [.lit (.bool false)], args := [d] }
  | _ => none }
def BoxLandsWrongFalsely : Prop := boxLandsRow.holds Tryd.pinned (OpenSpec.ofChange boxLandsWrong)

/-- 'cavalcadelaw13.BoxBack': WHATEVER THE INPUT: true; the input reads as it did. -/
def boxBackSpec : ChangeSpec := { name := "boxBack", fn := fun _ => fun
  | [d1, d2] => { results := [.lit (.bool true)], args := [d1, d2] }
  | _ => none }
def boxBackRow : OpenClaim := { program := "ytbeooeihedhabaadoor", sum := "0686520dd2deaa501343e77debcdd598a6483c5bc595ca42de077f817424c4c0", func := "cavalcade/cavalcadelaw13.BoxBack", spec := "boxBack", unfollowed := true, recurses := true, named := ["cavalcade/digest.rounds"], apart := false, laid := [("cavalcade/digest.rounds", laid_cavalcade_digest_rounds)] }
def BoxBackSaid : Prop := boxBackRow.holds Tryd.pinned (OpenSpec.ofChange boxBackSpec)

/-- ITS FALSE NEIGHBOUR: 'it returns false'. Refute it at one input. -/
def boxBackWrong : ChangeSpec := { name := "boxBack", fn := fun _ => fun
  | [d1, d2] => { results := [.lit (.bool false)], args := [d1, d2] }
  | _ => none }
def BoxBackWrongFalsely : Prop := boxBackRow.holds Tryd.pinned (OpenSpec.ofChange boxBackWrong)

/-- 'cavalcadelaw13.BoxOrders': WHATEVER THE INPUT: true; the input reads as it did. -/
def boxOrdersSpec : ChangeSpec := { name := "boxOrders", fn := fun _ => fun
  | [d1, d2] => { results := [.lit (.bool true)], args := [d1, d2] }
  | _ => none }
def boxOrdersRow : OpenClaim := { program := "ytbeooeihedhabaadoor", sum := "0686520dd2deaa501343e77debcdd598a6483c5bc595ca42de077f817424c4c0", func := "cavalcade/cavalcadelaw13.BoxOrders", spec := "boxOrders", unfollowed := true, recurses := true, named := ["cavalcade/digest.rounds"], apart := false, laid := [("cavalcade/digest.rounds", laid_cavalcade_digest_rounds)] }
def BoxOrdersSaid : Prop := boxOrdersRow.holds Tryd.pinned (OpenSpec.ofChange boxOrdersSpec)

/-- ITS FALSE NEIGHBOUR: 'it returns false'. Refute it at one input. -/
def boxOrdersWrong : ChangeSpec := { name := "boxOrders", fn := fun _ => fun
  | [d1, d2] => { results := [.lit (.bool false)], args := [d1, d2] }
  | _ => none }
def BoxOrdersWrongFalsely : Prop := boxOrdersRow.holds Tryd.pinned (OpenSpec.ofChange boxOrdersWrong)

/-- 'cavalcadelaw13.BoxForged': WHATEVER THE INPUT: true; the input reads as it did. -/
def boxForgedSpec : ChangeSpec := { name := "boxForged", fn := fun _ => fun
  | [d1, d2, d3] => { results := [.lit (.bool true)], args := [d1, d2, d3] }
  | _ => none }
def boxForgedRow : OpenClaim := { program := "ytbeooeihedhabaadoor", sum := "0686520dd2deaa501343e77debcdd598a6483c5bc595ca42de077f817424c4c0", func := "cavalcade/cavalcadelaw13.BoxForged", spec := "boxForged", unfollowed := true, recurses := true, named := ["cavalcade/digest.rounds"], apart := false, laid := [("cavalcade/digest.rounds", laid_cavalcade_digest_rounds)] }
def BoxForgedSaid : Prop := boxForgedRow.holds Tryd.pinned (OpenSpec.ofChange boxForgedSpec)

/-- ITS FALSE NEIGHBOUR: 'it returns false'. Refute it at one input. -/
def boxForgedWrong : ChangeSpec := { name := "boxForged", fn := fun _ => fun
  | [d1, d2, d3] => { results := [.lit (.bool false)], args := [d1, d2, d3] }
  | _ => none }
def BoxForgedWrongFalsely : Prop := boxForgedRow.holds Tryd.pinned (OpenSpec.ofChange boxForgedWrong)

/- THE SECOND FORM. 'bulk': how many values and letters a reading holds, each counted each time it is reached (what is shared counts as often as it is met; a slice's spare places count too). A statement '..UptoSaid' is the law's where the arguments, and the package variables that the reading takes, are together of bulk at most 1048576: NARROWER than '..Said'. Prove '..Said' where nothing that the law and all that it calls make is longer than what came in: it says more and counts as full. Else prove '..UptoSaid'. A law counts once. -/
mutual
def uptoBulk {H : Type} : DataW H → Nat
  | .lit (.string bytes) => bytes.length + 1
  | .lit _ => 1
  | .nil => 1
  | .ptr d => uptoBulk d + 1
  | .slice elems spare => uptoBulkAll elems + uptoBulkAll spare + 1
  | .agg parts => uptoBulkAll parts + 1
  | .iface _ d => uptoBulk d + 1
  | .map entries => uptoBulkEntries entries + 1
  | .held _ => 1
def uptoBulkAll {H : Type} : List (DataW H) → Nat
  | [] => 0
  | d :: r => uptoBulk d + uptoBulkAll r
def uptoBulkEntries {H : Type} : List (Lit × DataW H) → Nat
  | [] => 0
  | x :: r => uptoBulkEntry x + uptoBulkEntries r
def uptoBulkEntry {H : Type} : Lit × DataW H → Nat
  | (.string bytes, d) => bytes.length + uptoBulk d + 1
  | (_, d) => uptoBulk d + 1
 end
def uptoSmall : (H : Type) → List (DataW H) → Bool := fun _ ds => decide (uptoBulkAll ds ≤ 1048576)
def OpenSpec.upto (s : _root_.Go.ChangeSpec) : _root_.Go.OpenSpec := { _root_.Go.OpenSpec.ofChange s with cond := some uptoSmall }

/-- 'cavalcadelaw13.BoxWrites', WHERE WHAT IT READS IS OF BULK AT MOST 1048576: true; the input reads as it did. -/
def boxWritesUptoRow : OpenClaim := { program := "ytbeooeihedhabaadoor", sum := "0686520dd2deaa501343e77debcdd598a6483c5bc595ca42de077f817424c4c0", func := "cavalcade/cavalcadelaw13.BoxWrites", spec := "boxWrites", unfollowed := true, recurses := true, named := ["cavalcade/digest.rounds"], apart := false, laid := [("cavalcade/digest.rounds", laid_cavalcade_digest_rounds)], narrowed := true }
def BoxWritesUptoSaid : Prop := boxWritesUptoRow.holds Tryd.pinned (OpenSpec.upto boxWritesSpec)

/-- 'cavalcadelaw13.BoxReads', WHERE WHAT IT READS IS OF BULK AT MOST 1048576: true; the input reads as it did. -/
def boxReadsUptoRow : OpenClaim := { program := "ytbeooeihedhabaadoor", sum := "0686520dd2deaa501343e77debcdd598a6483c5bc595ca42de077f817424c4c0", func := "cavalcade/cavalcadelaw13.BoxReads", spec := "boxReads", unfollowed := true, recurses := true, named := ["cavalcade/digest.rounds"], apart := false, laid := [("cavalcade/digest.rounds", laid_cavalcade_digest_rounds)], narrowed := true }
def BoxReadsUptoSaid : Prop := boxReadsUptoRow.holds Tryd.pinned (OpenSpec.upto boxReadsSpec)

/-- 'cavalcadelaw13.BoxLands', WHERE WHAT IT READS IS OF BULK AT MOST 1048576: true; the input reads as it did. -/
def boxLandsUptoRow : OpenClaim := { program := "ytbeooeihedhabaadoor", sum := "0686520dd2deaa501343e77debcdd598a6483c5bc595ca42de077f817424c4c0", func := "cavalcade/cavalcadelaw13.BoxLands", spec := "boxLands", unfollowed := true, recurses := true, named := ["cavalcade/digest.rounds"], apart := false, laid := [("cavalcade/digest.rounds", laid_cavalcade_digest_rounds)], narrowed := true }
def BoxLandsUptoSaid : Prop := boxLandsUptoRow.holds Tryd.pinned (OpenSpec.upto boxLandsSpec)

/-- 'cavalcadelaw13.BoxBack', WHERE WHAT IT READS IS OF BULK AT MOST 1048576: true; the input reads as it did. -/
def boxBackUptoRow : OpenClaim := { program := "ytbeooeihedhabaadoor", sum := "0686520dd2deaa501343e77debcdd598a6483c5bc595ca42de077f817424c4c0", func := "cavalcade/cavalcadelaw13.BoxBack", spec := "boxBack", unfollowed := true, recurses := true, named := ["cavalcade/digest.rounds"], apart := false, laid := [("cavalcade/digest.rounds", laid_cavalcade_digest_rounds)], narrowed := true }
def BoxBackUptoSaid : Prop := boxBackUptoRow.holds Tryd.pinned (OpenSpec.upto boxBackSpec)

/-- 'cavalcadelaw13.BoxOrders', WHERE WHAT IT READS IS OF BULK AT MOST 1048576: true; the input reads as it did. -/
def boxOrdersUptoRow : OpenClaim := { program := "ytbeooeihedhabaadoor", sum := "0686520dd2deaa501343e77debcdd598a6483c5bc595ca42de077f817424c4c0", func := "cavalcade/cavalcadelaw13.BoxOrders", spec := "boxOrders", unfollowed := true, recurses := true, named := ["cavalcade/digest.rounds"], apart := false, laid := [("cavalcade/digest.rounds", laid_cavalcade_digest_rounds)], narrowed := true }
def BoxOrdersUptoSaid : Prop := boxOrdersUptoRow.holds Tryd.pinned (OpenSpec.upto boxOrdersSpec)

/-- 'cavalcadelaw13.BoxForged', WHERE WHAT IT READS IS OF BULK AT MOST 1048576: true; the input reads as it did. -/
def boxForgedUptoRow : OpenClaim := { program := "ytbeooeihedhabaadoor", sum := "0686520dd2deaa501343e77debcdd598a6483c5bc595ca42de077f817424c4c0", func := "cavalcade/cavalcadelaw13.BoxForged", spec := "boxForged", unfollowed := true, recurses := true, named := ["cavalcade/digest.rounds"], apart := false, laid := [("cavalcade/digest.rounds", laid_cavalcade_digest_rounds)], narrowed := true }
def BoxForgedUptoSaid : Prop := boxForgedUptoRow.holds Tryd.pinned (OpenSpec.upto boxForgedSpec)

end Rows
end Go.Proofs.YtbeooeihedhabaaDoor
