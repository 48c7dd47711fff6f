/-
  NARROWER THAN 'FOR EVERY INPUT', by the rows' own cells (each row's printed sentence says how): TxBack: laid · TxLays: laid · TxSigns: laid · TxStays: laid · AdmitNames: laid · AdmitNone: laid · OrderChained: laid · OrderLoads: laid · OrderDoes: laid · OrderNone: laid.
  DERIVED. THE GIVEN ROWS OF THIS SEAT. 10 by the template 'for every input the law returns true; each argument reads behind the call as it read before'; 0 by the template 'total and deterministic' (their statements: YtckfdmkjeocadaaDoorTotals.lean).
  GIVEN WITH THE SEED: the statements are not yours to turn. If you find one false, say at which input.
  Laid BY PROGRAM, IN A SANDBOX (cutbox-rows.mjs): the forced cells as the released guide's own fill.sh prints them over the translation 14a46929dfba6960… (all of the seat's roots in one cut). By AI agents, Wed Nov 11 2026. No macro, syntax, notation, axiom, sorry.
-/
import Derived.Test.YtckfdmkjeocadaaDoorChecked
import GoSem.Claim
import GoSem.ClaimJoined
import GoSem.ClaimMapViews
import Derived.JoinedTies
import Derived.KernelRfl
namespace Go.Proofs.YtckfdmkjeocadaaDoor
/- THE CELL 'sum', in the pinned program and in every row, IS THE sha256 OF THE DUMP (.gsa) THAT YtckfdmkjeocadaaDoorProg.lean LOADS. Nothing in Lean hashes anything: it is a label: what it is worth is what the hold of that sum in a sandbox is worth. -/
noncomputable def Tryd.pinned : Pinned := { name := "ytckfdmkjeocadaadoor", sum := "14a46929dfba69608af6a3aa12f723fddb76b1d4496547b0e1f36e4bcc1cb63d", checked := Tryd.checked }
namespace Rows
def none {H : Type} : Left H := { results := [], args := [] }

/- WHAT THE LISTED PACKAGE-LEVEL VARIABLES READ AS WHEN THE CALL BEGINS. Each datum BY PROGRAM (the guide's laid-datum.mjs) off the statement by which the dump's own 'gosem.cut.vars' lays the variable. In a bare row this is a premise. The card (YtckfdmkjeocadaaDoorCards.lean) ties it to the program's text. -/
def laid_cavalcade_digest_rounds {H : Type} : DataW H := .agg [.lit (.int .u32 1116352408), .lit (.int .u32 1899447441), .lit (.int .u32 3049323471), .lit (.int .u32 3921009573), .lit (.int .u32 961987163), .lit (.int .u32 1508970993), .lit (.int .u32 2453635748), .lit (.int .u32 2870763221), .lit (.int .u32 3624381080), .lit (.int .u32 310598401), .lit (.int .u32 607225278), .lit (.int .u32 1426881987), .lit (.int .u32 1925078388), .lit (.int .u32 2162078206), .lit (.int .u32 2614888103), .lit (.int .u32 3248222580), .lit (.int .u32 3835390401), .lit (.int .u32 4022224774), .lit (.int .u32 264347078), .lit (.int .u32 604807628), .lit (.int .u32 770255983), .lit (.int .u32 1249150122), .lit (.int .u32 1555081692), .lit (.int .u32 1996064986), .lit (.int .u32 2554220882), .lit (.int .u32 2821834349), .lit (.int .u32 2952996808), .lit (.int .u32 3210313671), .lit (.int .u32 3336571891), .lit (.int .u32 3584528711), .lit (.int .u32 113926993), .lit (.int .u32 338241895), .lit (.int .u32 666307205), .lit (.int .u32 773529912), .lit (.int .u32 1294757372), .lit (.int .u32 1396182291), .lit (.int .u32 1695183700), .lit (.int .u32 1986661051), .lit (.int .u32 2177026350), .lit (.int .u32 2456956037), .lit (.int .u32 2730485921), .lit (.int .u32 2820302411), .lit (.int .u32 3259730800), .lit (.int .u32 3345764771), .lit (.int .u32 3516065817), .lit (.int .u32 3600352804), .lit (.int .u32 4094571909), .lit (.int .u32 275423344), .lit (.int .u32 430227734), .lit (.int .u32 506948616), .lit (.int .u32 659060556), .lit (.int .u32 883997877), .lit (.int .u32 958139571), .lit (.int .u32 1322822218), .lit (.int .u32 1537002063), .lit (.int .u32 1747873779), .lit (.int .u32 1955562222), .lit (.int .u32 2024104815), .lit (.int .u32 2227730452), .lit (.int .u32 2361852424), .lit (.int .u32 2428436474), .lit (.int .u32 2756734187), .lit (.int .u32 3204031479), .lit (.int .u32 3329325298)]

/-- 'cavalcadelaw04.TxBack': WHATEVER THE INPUT: true; the input reads as it did. -/
def txBackSpec : ChangeSpec := { name := "txBack", fn := fun _ => fun
  | [d1, d2] => { results := [.lit (.bool true)], args := [d1, d2] }
  | _ => none }
def txBackRow : OpenClaim := { program := "ytckfdmkjeocadaadoor", sum := "14a46929dfba69608af6a3aa12f723fddb76b1d4496547b0e1f36e4bcc1cb63d", func := "cavalcade/cavalcadelaw04.TxBack", spec := "txBack", unfollowed := true, recurses := true, named := ["cavalcade/digest.rounds"], apart := false, laid := [("cavalcade/digest.rounds", laid_cavalcade_digest_rounds)] }
def TxBackSaid : Prop := txBackRow.holds Tryd.pinned (OpenSpec.ofChange txBackSpec)

/-- ITS FALSE NEIGHBOUR: 'it returns false'. Refute it at one input. -/
def txBackWrong : ChangeSpec := { name := "txBack", fn := fun _ => fun
  | [d1, d2] => { results := [.lit (.bool false)], args := [d1, d2] }
  | _ => none }
def TxBackWrongFalsely : Prop := txBackRow.holds Tryd.pinned (OpenSpec.ofChange txBackWrong)

/-- 'cavalcadelaw04.TxLays': WHATEVER THE INPUT: true; the input reads as it did. -/
def txLaysSpec : ChangeSpec := { name := "txLays", fn := fun _ => fun
  | [d] => { results := [.lit (.bool true)], args := [d] }
  | _ => none }
def txLaysRow : OpenClaim := { program := "ytckfdmkjeocadaadoor", sum := "14a46929dfba69608af6a3aa12f723fddb76b1d4496547b0e1f36e4bcc1cb63d", func := "cavalcade/cavalcadelaw04.TxLays", spec := "txLays", unfollowed := true, recurses := true, named := ["cavalcade/digest.rounds"], apart := false, laid := [("cavalcade/digest.rounds", laid_cavalcade_digest_rounds)] }
def TxLaysSaid : Prop := txLaysRow.holds Tryd.pinned (OpenSpec.ofChange txLaysSpec)

/-- ITS FALSE NEIGHBOUR: 'it returns false'. Refute it at one input. -/
def txLaysWrong : ChangeSpec := { name := "txLays", fn := fun _ => fun
  | [d] => { results := [.lit (.bool false)], args := [d] }
  | _ => none }
def TxLaysWrongFalsely : Prop := txLaysRow.holds Tryd.pinned (OpenSpec.ofChange txLaysWrong)

/-- 'cavalcadelaw04.TxSigns': WHATEVER THE INPUT: true; the input reads as it did. -/
def txSignsSpec : ChangeSpec := { name := "txSigns", fn := fun _ => fun
  | [d1, d2] => { results := [.lit (.bool true)], args := [d1, d2] }
  | _ => none }
def txSignsRow : OpenClaim := { program := "ytckfdmkjeocadaadoor", sum := "14a46929dfba69608af6a3aa12f723fddb76b1d4496547b0e1f36e4bcc1cb63d", func := "cavalcade/cavalcadelaw04.TxSigns", spec := "txSigns", unfollowed := true, recurses := true, named := ["cavalcade/digest.rounds"], apart := false, laid := [("cavalcade/digest.rounds", laid_cavalcade_digest_rounds)] }
def TxSignsSaid : Prop := txSignsRow.holds Tryd.pinned (OpenSpec.ofChange txSignsSpec)

/-- ITS FALSE NEIGHBOUR: 'it returns false'. Refute it at one input. -/
def txSignsWrong : ChangeSpec := { name := "txSigns", fn := fun _ => fun
  | [d1, d2] => { results := [.lit (.bool false)], args := [d1, d2] }
  | _ => none }
def TxSignsWrongFalsely : Prop := txSignsRow.holds Tryd.pinned (OpenSpec.ofChange txSignsWrong)

/-- 'cavalcadelaw04.TxStays': WHATEVER THE INPUT: true; the input reads as it did. -/
def txStaysSpec : ChangeSpec := { name := "txStays", fn := fun _ => fun
  | [d1, d2] => { results := [.lit (.bool true)], args := [d1, d2] }
  | _ => none }
def txStaysRow : OpenClaim := { program := "ytckfdmkjeocadaadoor", sum := "14a46929dfba69608af6a3aa12f723fddb76b1d4496547b0e1f36e4bcc1cb63d", func := "cavalcade/cavalcadelaw04.TxStays", spec := "txStays", unfollowed := true, recurses := true, named := ["cavalcade/digest.rounds"], apart := false, laid := [("cavalcade/digest.rounds", laid_cavalcade_digest_rounds)] }
def TxStaysSaid : Prop := txStaysRow.holds Tryd.pinned (OpenSpec.ofChange txStaysSpec)

/-- ITS FALSE NEIGHBOUR: 'it returns false'. Refute it at one input. -/
def txStaysWrong : ChangeSpec := { name := "txStays", fn := fun _ => fun
  | [d1, d2] => { results := [.lit (.bool false)], args := [d1, d2] }
  | _ => none }
def TxStaysWrongFalsely : Prop := txStaysRow.holds Tryd.pinned (OpenSpec.ofChange txStaysWrong)

/-- 'cavalcadelaw17.AdmitNames': WHATEVER THE INPUT: true; the input reads as it did. -/
def admitNamesSpec : ChangeSpec := { name := "admitNames", fn := fun _ => fun
  | [d1, d2] => { results := [.lit (.bool true)], args := [d1, d2] }
  | _ => none }
def admitNamesRow : OpenClaim := { program := "ytckfdmkjeocadaadoor", sum := "14a46929dfba69608af6a3aa12f723fddb76b1d4496547b0e1f36e4bcc1cb63d", func := "cavalcade/cavalcadelaw17.AdmitNames", spec := "admitNames", unfollowed := true, recurses := true, named := ["cavalcade/digest.rounds"], apart := false, laid := [("cavalcade/digest.rounds", laid_cavalcade_digest_rounds)] }
def AdmitNamesSaid : Prop := admitNamesRow.holds Tryd.pinned (OpenSpec.ofChange admitNamesSpec)

/-- ITS FALSE NEIGHBOUR: 'it returns false'. Refute it at one input. -/
def admitNamesWrong : ChangeSpec := { name := "admitNames", fn := fun _ => fun
  | [d1, d2] => { results := [.lit (.bool false)], args := [d1, d2] }
  | _ => none }
def AdmitNamesWrongFalsely : Prop := admitNamesRow.holds Tryd.pinned (OpenSpec.ofChange admitNamesWrong)

/-- 'cavalcadelaw17.AdmitNone': WHATEVER THE INPUT: true; the input reads as it did. -/
def admitNoneSpec : ChangeSpec := { name := "admitNone", fn := fun _ => fun
  | [d] => { results := [.lit (.bool true)], args := [d] }
  | _ => none }
def admitNoneRow : OpenClaim := { program := "ytckfdmkjeocadaadoor", sum := "14a46929dfba69608af6a3aa12f723fddb76b1d4496547b0e1f36e4bcc1cb63d", func := "cavalcade/cavalcadelaw17.AdmitNone", spec := "admitNone", unfollowed := true, recurses := true, named := ["cavalcade/digest.rounds"], apart := false, laid := [("cavalcade/digest.rounds", laid_cavalcade_digest_rounds)] }
def AdmitNoneSaid : Prop := admitNoneRow.holds Tryd.pinned (OpenSpec.ofChange admitNoneSpec)

/-- ITS FALSE NEIGHBOUR: 'it returns false'. Refute it at one input. -/
def admitNoneWrong : ChangeSpec := { name := "admitNone", fn := fun _ => fun
  | [d] => { results := [.lit (.bool false)], args := [d] }
  | _ => none }
def AdmitNoneWrongFalsely : Prop := admitNoneRow.holds Tryd.pinned (OpenSpec.ofChange admitNoneWrong)

/-- 'cavalcadelaw19.OrderChained': WHATEVER THE INPUT: true; the input reads as it did. -/
def orderChainedSpec : ChangeSpec := { name := "orderChained", fn := fun _ => fun
  | [d] => { results := [.lit (.bool true)], args := [d] }
  | _ => none }
def orderChainedRow : OpenClaim := { program := "ytckfdmkjeocadaadoor", sum := "14a46929dfba69608af6a3aa12f723fddb76b1d4496547b0e1f36e4bcc1cb63d", func := "cavalcade/cavalcadelaw19.OrderChained", spec := "orderChained", unfollowed := true, recurses := true, named := ["cavalcade/digest.rounds"], apart := false, laid := [("cavalcade/digest.rounds", laid_cavalcade_digest_rounds)] }
def OrderChainedSaid : Prop := orderChainedRow.holds Tryd.pinned (OpenSpec.ofChange orderChainedSpec)

/-- ITS FALSE NEIGHBOUR: 'it returns false'. Refute it at one input. -/
def orderChainedWrong : ChangeSpec := { name := "orderChained", fn := fun _ => fun
  | [d] => { results := [.lit (.bool false)], args := [d] }
  | _ => none }
def OrderChainedWrongFalsely : Prop := orderChainedRow.holds Tryd.pinned (OpenSpec.ofChange orderChainedWrong)

/-- 'cavalcadelaw19.OrderLoads': WHATEVER THE INPUT: true; the input reads as it did. -/
def orderLoadsSpec : ChangeSpec := { name := "orderLoads", fn := fun _ => fun
  | [d1, d2] => { results := [.lit (.bool true)], args := [d1, d2] }
  | _ => none }
def orderLoadsRow : OpenClaim := { program := "ytckfdmkjeocadaadoor", sum := "14a46929dfba69608af6a3aa12f723fddb76b1d4496547b0e1f36e4bcc1cb63d", func := "cavalcade/cavalcadelaw19.OrderLoads", spec := "orderLoads", unfollowed := true, recurses := true, named := ["cavalcade/digest.rounds"], apart := false, laid := [("cavalcade/digest.rounds", laid_cavalcade_digest_rounds)] }
def OrderLoadsSaid : Prop := orderLoadsRow.holds Tryd.pinned (OpenSpec.ofChange orderLoadsSpec)

/-- ITS FALSE NEIGHBOUR: 'it returns false'. Refute it at one input. -/
def orderLoadsWrong : ChangeSpec := { name := "orderLoads", fn := fun _ => fun
  | [d1, d2] => { results := [.lit (.bool false)], args := [d1, d2] }
  | _ => none }
def OrderLoadsWrongFalsely : Prop := orderLoadsRow.holds Tryd.pinned (OpenSpec.ofChange orderLoadsWrong)

/-- 'cavalcadelaw19.OrderDoes': WHATEVER THE INPUT: true; the input reads as it did. -/
def orderDoesSpec : ChangeSpec := { name := "orderDoes", fn := fun _ => fun
  | [d1, d2, d3] => { results := [.lit (.bool true)], args := [d1, d2, d3] }
  | _ => none }
def orderDoesRow : OpenClaim := { program := "ytckfdmkjeocadaadoor", sum := "14a46929dfba69608af6a3aa12f723fddb76b1d4496547b0e1f36e4bcc1cb63d", func := "cavalcade/cavalcadelaw19.OrderDoes", spec := "orderDoes", unfollowed := true, recurses := true, named := ["cavalcade/digest.rounds"], apart := false, laid := [("cavalcade/digest.rounds", laid_cavalcade_digest_rounds)] }
def OrderDoesSaid : Prop := orderDoesRow.holds Tryd.pinned (OpenSpec.ofChange orderDoesSpec)

/-- ITS FALSE NEIGHBOUR: 'it returns false'. Refute it at one input. -/
def orderDoesWrong : ChangeSpec := { name := "orderDoes", fn := fun _ => fun
  | [d1, d2, d3] => { results := [.lit (.bool false)], args := [d1, d2, d3] }
  | _ => none }
def OrderDoesWrongFalsely : Prop := orderDoesRow.holds Tryd.pinned (OpenSpec.ofChange orderDoesWrong)

/-- 'cavalcadelaw19.OrderNone': WHATEVER THE INPUT: true; the input reads as it did. -/
def orderNoneSpec : ChangeSpec := { name := "orderNone", fn := fun _ => fun
  | [d1, d2] => { results := [.lit (.bool true)], args := [d1, d2] }
  | _ => none }
def orderNoneRow : OpenClaim := { program := "ytckfdmkjeocadaadoor", sum := "14a46929dfba69608af6a3aa12f723fddb76b1d4496547b0e1f36e4bcc1cb63d", func := "cavalcade/cavalcadelaw19.OrderNone", spec := "orderNone", unfollowed := true, recurses := true, named := ["cavalcade/digest.rounds"], apart := false, laid := [("cavalcade/digest.rounds", laid_cavalcade_digest_rounds)] }
def OrderNoneSaid : Prop := orderNoneRow.holds Tryd.pinned (OpenSpec.ofChange orderNoneSpec)

/-- ITS FALSE NEIGHBOUR: 'it returns false'. Refute it at one input. -/
def orderNoneWrong : ChangeSpec := { name := "orderNone", fn := fun _ => fun
  | [d1, d2] => { results := [.lit (.bool false)], args := [d1, d2] }
  | _ => none }
def OrderNoneWrongFalsely : Prop := orderNoneRow.holds Tryd.pinned (OpenSpec.ofChange orderNoneWrong)

/- THE SECOND FORM. 'bulk': how many values and letters a reading holds, each counted each time it is reached (what is shared counts as often as it is met; a slice's spare places count too). A statement '..UptoSaid' is the law's where the arguments, and the package variables that the reading takes, are together of bulk at most 1048576: NARROWER than '..Said'. Prove '..Said' where nothing that the law and all that it calls make is longer than what came in: it says more and counts as full. Else prove '..UptoSaid'. A law counts once. -/
mutual
def uptoBulk {H : Type} : DataW H → Nat
  | .lit (.string bytes) => bytes.length + 1
  | .lit _ => 1
  | .nil => 1
  | .ptr d => uptoBulk d + 1
  | .slice elems spare => uptoBulkAll elems + uptoBulkAll spare + 1
  | .agg parts => uptoBulkAll parts + 1
  | .iface _ d => uptoBulk d + 1
  | .map entries => uptoBulkEntries entries + 1
  | .held _ => 1
def uptoBulkAll {H : Type} : List (DataW H) → Nat
  | [] => 0
  | d :: r => uptoBulk d + uptoBulkAll r
def uptoBulkEntries {H : Type} : List (Lit × DataW H) → Nat
  | [] => 0
  | x :: r => uptoBulkEntry x + uptoBulkEntries r
def uptoBulkEntry {H : Type} : Lit × DataW H → Nat
  | (.string bytes, d) => bytes.length + uptoBulk d + 1
  | (_, d) => uptoBulk d + 1
 end
def uptoSmall : (H : Type) → List (DataW H) → Bool := fun _ ds => decide (uptoBulkAll ds ≤ 1048576)
def OpenSpec.upto (s : _root_.Go.ChangeSpec) : _root_.Go.OpenSpec := { _root_.Go.OpenSpec.ofChange s with cond := some uptoSmall }

/-- 'cavalcadelaw04.TxBack', WHERE WHAT IT READS IS OF BULK AT MOST 1048576: true; the input reads as it did. -/
def txBackUptoRow : OpenClaim := { program := "ytckfdmkjeocadaadoor", sum := "14a46929dfba69608af6a3aa12f723fddb76b1d4496547b0e1f36e4bcc1cb63d", func := "cavalcade/cavalcadelaw04.TxBack", spec := "txBack", unfollowed := true, recurses := true, named := ["cavalcade/digest.rounds"], apart := false, laid := [("cavalcade/digest.rounds", laid_cavalcade_digest_rounds)], narrowed := true }
def TxBackUptoSaid : Prop := txBackUptoRow.holds Tryd.pinned (OpenSpec.upto txBackSpec)

/-- 'cavalcadelaw04.TxLays', WHERE WHAT IT READS IS OF BULK AT MOST 1048576: true; the input reads as it did. -/
def txLaysUptoRow : OpenClaim := { program := "ytckfdmkjeocadaadoor", sum := "14a46929dfba69608af6a3aa12f723fddb76b1d4496547b0e1f36e4bcc1cb63d", func := "cavalcade/cavalcadelaw04.TxLays", spec := "txLays", unfollowed := true, recurses := true, named := ["cavalcade/digest.rounds"], apart := false, laid := [("cavalcade/digest.rounds", laid_cavalcade_digest_rounds)], narrowed := true }
def TxLaysUptoSaid : Prop := txLaysUptoRow.holds Tryd.pinned (OpenSpec.upto txLaysSpec)

/-- 'cavalcadelaw04.TxSigns', WHERE WHAT IT READS IS OF BULK AT MOST 1048576: true; the input reads as it did. -/
def txSignsUptoRow : OpenClaim := { program := "ytckfdmkjeocadaadoor", sum := "14a46929dfba69608af6a3aa12f723fddb76b1d4496547b0e1f36e4bcc1cb63d", func := "cavalcade/cavalcadelaw04.TxSigns", spec := "txSigns", unfollowed := true, recurses := true, named := ["cavalcade/digest.rounds"], apart := false, laid := [("cavalcade/digest.rounds", laid_cavalcade_digest_rounds)], narrowed := true }
def TxSignsUptoSaid : Prop := txSignsUptoRow.holds Tryd.pinned (OpenSpec.upto txSignsSpec)

/-- 'cavalcadelaw04.TxStays', WHERE WHAT IT READS IS OF BULK AT MOST 1048576: true; the input reads as it did. -/
def txStaysUptoRow : OpenClaim := { program := "ytckfdmkjeocadaadoor", sum := "14a46929dfba69608af6a3aa12f723fddb76b1d4496547b0e1f36e4bcc1cb63d", func := "cavalcade/cavalcadelaw04.TxStays", spec := "txStays", unfollowed := true, recurses := true, named := ["cavalcade/digest.rounds"], apart := false, laid := [("cavalcade/digest.rounds", laid_cavalcade_digest_rounds)], narrowed := true }
def TxStaysUptoSaid : Prop := txStaysUptoRow.holds Tryd.pinned (OpenSpec.upto txStaysSpec)

/-- 'cavalcadelaw17.AdmitNames', WHERE WHAT IT READS IS OF BULK AT MOST 1048576: true; the input reads as it did. -/
def admitNamesUptoRow : OpenClaim := { program := "ytckfdmkjeocadaadoor", sum := "14a46929dfba69608af6a3aa12f723fddb76b1d4496547b0e1f36e4bcc1cb63d", func := "cavalcade/cavalcadelaw17.AdmitNames", spec := "admitNames", unfollowed := true, recurses := true, named := ["cavalcade/digest.rounds"], apart := false, laid := [("cavalcade/digest.rounds", laid_cavalcade_digest_rounds)], narrowed := true }
def AdmitNamesUptoSaid : Prop := admitNamesUptoRow.holds Tryd.pinned (OpenSpec.upto admitNamesSpec)

/-- 'cavalcadelaw17.AdmitNone', WHERE WHAT IT READS IS OF BULK AT MOST 1048576: true; the input reads as it did. -/
def admitNoneUptoRow : OpenClaim := { program := "ytckfdmkjeocadaadoor", sum := "14a46929dfba69608af6a3aa12f723fddb76b1d4496547b0e1f36e4bcc1cb63d", func := "cavalcade/cavalcadelaw17.AdmitNone", spec := "admitNone", unfollowed := true, recurses := true, named := ["cavalcade/digest.rounds"], apart := false, laid := [("cavalcade/digest.rounds", laid_cavalcade_digest_rounds)], narrowed := true }
def AdmitNoneUptoSaid : Prop := admitNoneUptoRow.holds Tryd.pinned (OpenSpec.upto admitNoneSpec)

/-- 'cavalcadelaw19.OrderChained', WHERE WHAT IT READS IS OF BULK AT MOST 1048576: true; the input reads as it did. -/
def orderChainedUptoRow : OpenClaim := { program := "ytckfdmkjeocadaadoor", sum := "14a46929dfba69608af6a3aa12f723fddb76b1d4496547b0e1f36e4bcc1cb63d", func := "cavalcade/cavalcadelaw19.OrderChained", spec := "orderChained", unfollowed := true, recurses := true, named := ["cavalcade/digest.rounds"], apart := false, laid := [("cavalcade/digest.rounds", laid_cavalcade_digest_rounds)], narrowed := true }
def OrderChainedUptoSaid : Prop := orderChainedUptoRow.holds Tryd.pinned (OpenSpec.upto orderChainedSpec)

/-- 'cavalcadelaw19.OrderLoads', WHERE WHAT IT READS IS OF BULK AT MOST 1048576: true; the input reads as it did. -/
def orderLoadsUptoRow : OpenClaim := { program := "ytckfdmkjeocadaadoor", sum := "14a46929dfba69608af6a3aa12f723fddb76b1d4496547b0e1f36e4bcc1cb63d", func := "cavalcade/cavalcadelaw19.OrderLoads", spec := "orderLoads", unfollowed := true, recurses := true, named := ["cavalcade/digest.rounds"], apart := false, laid := [("cavalcade/digest.rounds", laid_cavalcade_digest_rounds)], narrowed := true }
def OrderLoadsUptoSaid : Prop := orderLoadsUptoRow.holds Tryd.pinned (OpenSpec.upto orderLoadsSpec)

/-- 'cavalcadelaw19.OrderDoes', WHERE WHAT IT READS IS OF BULK AT MOST 1048576: true; the input reads as it did. -/
def orderDoesUptoRow : OpenClaim := { program := "ytckfdmkjeocadaadoor", sum := "14a46929dfba69608af6a3aa12f723fddb76b1d4496547b0e1f36e4bcc1cb63d", func := "cavalcade/cavalcadelaw19.OrderDoes", spec := "orderDoes", unfollowed := true, recurses := true, named := ["cavalcade/digest.rounds"], apart := false, laid := [("cavalcade/digest.rounds", laid_cavalcade_digest_rounds)], narrowed := true }
def OrderDoesUptoSaid : Prop := orderDoesUptoRow.holds Tryd.pinned (OpenSpec.upto orderDoesSpec)

/-- 'cavalcadelaw19.OrderNone', WHERE WHAT IT READS IS OF BULK AT MOST 1048576: true; the input reads as it did. -/
def orderNoneUptoRow : OpenClaim := { program := "ytckfdmkjeocadaadoor", sum := "14a46929dfba69608af6a3aa12f723fddb76b1d4496547b0e1f36e4bcc1cb63d", func := "cavalcade/cavalcadelaw19.OrderNone", spec := "orderNone", unfollowed := true, recurses := true, named := ["cavalcade/digest.rounds"], apart := false, laid := [("cavalcade/digest.rounds", laid_cavalcade_digest_rounds)], narrowed := true }
def OrderNoneUptoSaid : Prop := orderNoneUptoRow.holds Tryd.pinned (OpenSpec.upto orderNoneSpec)

end Rows
end Go.Proofs.YtckfdmkjeocadaaDoor
