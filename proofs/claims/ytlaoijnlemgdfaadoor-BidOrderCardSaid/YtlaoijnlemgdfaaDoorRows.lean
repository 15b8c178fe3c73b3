/-
  NARROWER THAN 'FOR EVERY INPUT', by the rows' own cells (each row's printed sentence says how): VowTells: laid · VowBinds: laid · LotOrders: laid · LotTells: laid · BidTruth: laid · BidPaid: laid · BidAwards: laid · BidOrder: laid.
  DERIVED. THE GIVEN ROWS OF THIS SEAT. 8 by the template 'for every input the law returns true; each argument reads behind the call as it read before'; 0 by the template 'total and deterministic' (their statements: YtlaoijnlemgdfaaDoorTotals.lean).
  GIVEN WITH THE SEED: the statements are not yours to turn. If you find one false, say at which input.
  Laid BY PROGRAM, IN A SANDBOX (cutbox-rows.mjs): the forced cells as the released guide's own fill.sh prints them over the translation 982dcbf89a835f3e… (all of the seat's roots in one cut). By AI agents, Wed Nov 11 2026. No macro, syntax, notation, axiom, sorry.
-/
import Derived.Test.YtlaoijnlemgdfaaDoorChecked
import GoSem.Claim
import GoSem.ClaimJoined
import GoSem.ClaimMapViews
import Derived.JoinedTies
import Derived.KernelRfl
namespace Go.Proofs.YtlaoijnlemgdfaaDoor
/- THE CELL 'sum', in the pinned program and in every row, IS THE sha256 OF THE DUMP (.gsa) THAT YtlaoijnlemgdfaaDoorProg.lean LOADS. Nothing in Lean hashes anything: it is a label: what it is worth is what the hold of that sum in a sandbox is worth. -/
noncomputable def Tryd.pinned : Pinned := { name := "ytlaoijnlemgdfaadoor", sum := "982dcbf89a835f3ed038e4550f44edc09b3bea9359d96ffc74d4c0b3d79def10", checked := Tryd.checked }
namespace Rows
def none {H : Type} : Left H := { results := [], args := [] }

/- WHAT THE LISTED PACKAGE-LEVEL VARIABLES READ AS WHEN THE CALL BEGINS. Each datum BY PROGRAM (the guide's laid-datum.mjs) off the statement by which the dump's own 'gosem.cut.vars' lays the variable. In a bare row this is a premise. The card (YtlaoijnlemgdfaaDoorCards.lean) ties it to the program's text. -/
def laid_moneyer_sha_rounds {H : Type} : DataW H := .agg [.lit (.int .u32 1116352408), .lit (.int .u32 1899447441), .lit (.int .u32 3049323471), .lit (.int .u32 3921009573), .lit (.int .u32 961987163), .lit (.int .u32 1508970993), .lit (.int .u32 2453635748), .lit (.int .u32 2870763221), .lit (.int .u32 3624381080), .lit (.int .u32 310598401), .lit (.int .u32 607225278), .lit (.int .u32 1426881987), .lit (.int .u32 1925078388), .lit (.int .u32 2162078206), .lit (.int .u32 2614888103), .lit (.int .u32 3248222580), .lit (.int .u32 3835390401), .lit (.int .u32 4022224774), .lit (.int .u32 264347078), .lit (.int .u32 604807628), .lit (.int .u32 770255983), .lit (.int .u32 1249150122), .lit (.int .u32 1555081692), .lit (.int .u32 1996064986), .lit (.int .u32 2554220882), .lit (.int .u32 2821834349), .lit (.int .u32 2952996808), .lit (.int .u32 3210313671), .lit (.int .u32 3336571891), .lit (.int .u32 3584528711), .lit (.int .u32 113926993), .lit (.int .u32 338241895), .lit (.int .u32 666307205), .lit (.int .u32 773529912), .lit (.int .u32 1294757372), .lit (.int .u32 1396182291), .lit (.int .u32 1695183700), .lit (.int .u32 1986661051), .lit (.int .u32 2177026350), .lit (.int .u32 2456956037), .lit (.int .u32 2730485921), .lit (.int .u32 2820302411), .lit (.int .u32 3259730800), .lit (.int .u32 3345764771), .lit (.int .u32 3516065817), .lit (.int .u32 3600352804), .lit (.int .u32 4094571909), .lit (.int .u32 275423344), .lit (.int .u32 430227734), .lit (.int .u32 506948616), .lit (.int .u32 659060556), .lit (.int .u32 883997877), .lit (.int .u32 958139571), .lit (.int .u32 1322822218), .lit (.int .u32 1537002063), .lit (.int .u32 1747873779), .lit (.int .u32 1955562222), .lit (.int .u32 2024104815), .lit (.int .u32 2227730452), .lit (.int .u32 2361852424), .lit (.int .u32 2428436474), .lit (.int .u32 2756734187), .lit (.int .u32 3204031479), .lit (.int .u32 3329325298)]
def laid_errors_errorType {H : Type} : DataW H := .iface "internal/reflectlite.rtype" (.agg [.ptr (.lit (.string [101, 114, 114, 111, 114]))])

/-- 'moneyerlaw7.VowTells': WHATEVER THE INPUT: true; the input reads as it did. -/
def vowTellsSpec : ChangeSpec := { name := "vowTells", fn := fun _ => fun
  | [d1, d2, d3] => { results := [.lit (.bool true)], args := [d1, d2, d3] }
  | _ => none }
def vowTellsRow : OpenClaim := { program := "ytlaoijnlemgdfaadoor", sum := "982dcbf89a835f3ed038e4550f44edc09b3bea9359d96ffc74d4c0b3d79def10", func := "moneyer/moneyerlaw7.VowTells", spec := "vowTells", named := ["moneyer/sha.rounds"], apart := false, laid := [("moneyer/sha.rounds", laid_moneyer_sha_rounds)] }
def VowTellsSaid : Prop := vowTellsRow.holds Tryd.pinned (OpenSpec.ofChange vowTellsSpec)

/-- ITS FALSE NEIGHBOUR: 'it returns false'. Refute it at one input. -/
def vowTellsWrong : ChangeSpec := { name := "vowTells", fn := fun _ => fun
  | [d1, d2, d3] => { results := [.lit (.bool false)], args := [d1, d2, d3] }
  | _ => none }
def VowTellsWrongFalsely : Prop := vowTellsRow.holds Tryd.pinned (OpenSpec.ofChange vowTellsWrong)

/-- 'moneyerlaw7.VowBinds': WHATEVER THE INPUT: true; the input reads as it did. -/
def vowBindsSpec : ChangeSpec := { name := "vowBinds", fn := fun _ => fun
  | [d1, d2, d3, d4, d5] => { results := [.lit (.bool true)], args := [d1, d2, d3, d4, d5] }
  | _ => none }
def vowBindsRow : OpenClaim := { program := "ytlaoijnlemgdfaadoor", sum := "982dcbf89a835f3ed038e4550f44edc09b3bea9359d96ffc74d4c0b3d79def10", func := "moneyer/moneyerlaw7.VowBinds", spec := "vowBinds", named := ["moneyer/sha.rounds"], apart := false, laid := [("moneyer/sha.rounds", laid_moneyer_sha_rounds)] }
def VowBindsSaid : Prop := vowBindsRow.holds Tryd.pinned (OpenSpec.ofChange vowBindsSpec)

/-- ITS FALSE NEIGHBOUR: 'it returns false'. Refute it at one input. -/
def vowBindsWrong : ChangeSpec := { name := "vowBinds", fn := fun _ => fun
  | [d1, d2, d3, d4, d5] => { results := [.lit (.bool false)], args := [d1, d2, d3, d4, d5] }
  | _ => none }
def VowBindsWrongFalsely : Prop := vowBindsRow.holds Tryd.pinned (OpenSpec.ofChange vowBindsWrong)

/-- 'moneyerlaw7.LotOrders': WHATEVER THE INPUT: true; the input reads as it did. -/
def lotOrdersSpec : ChangeSpec := { name := "lotOrders", fn := fun _ => fun
  | [d1, d2, d3] => { results := [.lit (.bool true)], args := [d1, d2, d3] }
  | _ => none }
def lotOrdersRow : OpenClaim := { program := "ytlaoijnlemgdfaadoor", sum := "982dcbf89a835f3ed038e4550f44edc09b3bea9359d96ffc74d4c0b3d79def10", func := "moneyer/moneyerlaw7.LotOrders", spec := "lotOrders", inPlace := ["internal/reflectlite.ValueOf", "(internal/reflectlite.Value).Type", "(internal/reflectlite.Value).IsNil", "internal/reflectlite.TypeOf", "(internal/reflectlite.Value).Elem", "(internal/reflectlite.Value).Set"], unfollowed := true, recurses := true, named := ["moneyer/sha.rounds", "errors.errorType"], apart := false, laid := [("moneyer/sha.rounds", laid_moneyer_sha_rounds), ("errors.errorType", laid_errors_errorType)] }
def LotOrdersSaid : Prop := lotOrdersRow.holds Tryd.pinned (OpenSpec.ofChange lotOrdersSpec)

/-- ITS FALSE NEIGHBOUR: 'it returns false'. Refute it at one input. -/
def lotOrdersWrong : ChangeSpec := { name := "lotOrders", fn := fun _ => fun
  | [d1, d2, d3] => { results := [.lit (.bool false)], args := [d1, d2, d3] }
  | _ => none }
def LotOrdersWrongFalsely : Prop := lotOrdersRow.holds Tryd.pinned (OpenSpec.ofChange lotOrdersWrong)

/-- 'moneyerlaw7.LotTells': WHATEVER THE INPUT: true; the input reads as it did. -/
def lotTellsSpec : ChangeSpec := { name := "lotTells", fn := fun _ => fun
  | [d1, d2, d3, d4] => { results := [.lit (.bool true)], args := [d1, d2, d3, d4] }
  | _ => none }
def lotTellsRow : OpenClaim := { program := "ytlaoijnlemgdfaadoor", sum := "982dcbf89a835f3ed038e4550f44edc09b3bea9359d96ffc74d4c0b3d79def10", func := "moneyer/moneyerlaw7.LotTells", spec := "lotTells", inPlace := ["internal/reflectlite.ValueOf", "(internal/reflectlite.Value).Type", "(internal/reflectlite.Value).IsNil", "internal/reflectlite.TypeOf", "(internal/reflectlite.Value).Elem", "(internal/reflectlite.Value).Set"], unfollowed := true, recurses := true, named := ["errors.errorType", "moneyer/sha.rounds"], apart := false, laid := [("moneyer/sha.rounds", laid_moneyer_sha_rounds), ("errors.errorType", laid_errors_errorType)] }
def LotTellsSaid : Prop := lotTellsRow.holds Tryd.pinned (OpenSpec.ofChange lotTellsSpec)

/-- ITS FALSE NEIGHBOUR: 'it returns false'. Refute it at one input. -/
def lotTellsWrong : ChangeSpec := { name := "lotTells", fn := fun _ => fun
  | [d1, d2, d3, d4] => { results := [.lit (.bool false)], args := [d1, d2, d3, d4] }
  | _ => none }
def LotTellsWrongFalsely : Prop := lotTellsRow.holds Tryd.pinned (OpenSpec.ofChange lotTellsWrong)

/-- 'moneyerlaw7.BidTruth': WHATEVER THE INPUT: true; the input reads as it did. -/
def bidTruthSpec : ChangeSpec := { name := "bidTruth", fn := fun _ => fun
  | [d1, d2, d3, d4, d5] => { results := [.lit (.bool true)], args := [d1, d2, d3, d4, d5] }
  | _ => none }
def bidTruthRow : OpenClaim := { program := "ytlaoijnlemgdfaadoor", sum := "982dcbf89a835f3ed038e4550f44edc09b3bea9359d96ffc74d4c0b3d79def10", func := "moneyer/moneyerlaw7.BidTruth", spec := "bidTruth", unfollowed := true, recurses := true, named := ["moneyer/sha.rounds"], apart := false, laid := [("moneyer/sha.rounds", laid_moneyer_sha_rounds)] }
def BidTruthSaid : Prop := bidTruthRow.holds Tryd.pinned (OpenSpec.ofChange bidTruthSpec)

/-- ITS FALSE NEIGHBOUR: 'it returns false'. Refute it at one input. -/
def bidTruthWrong : ChangeSpec := { name := "bidTruth", fn := fun _ => fun
  | [d1, d2, d3, d4, d5] => { results := [.lit (.bool false)], args := [d1, d2, d3, d4, d5] }
  | _ => none }
def BidTruthWrongFalsely : Prop := bidTruthRow.holds Tryd.pinned (OpenSpec.ofChange bidTruthWrong)

/-- 'moneyerlaw7.BidPaid': WHATEVER THE INPUT: true; the input reads as it did. -/
def bidPaidSpec : ChangeSpec := { name := "bidPaid", fn := fun _ => fun
  | [d1, d2, d3] => { results := [.lit (.bool true)], args := [d1, d2, d3] }
  | _ => none }
def bidPaidRow : OpenClaim := { program := "ytlaoijnlemgdfaadoor", sum := "982dcbf89a835f3ed038e4550f44edc09b3bea9359d96ffc74d4c0b3d79def10", func := "moneyer/moneyerlaw7.BidPaid", spec := "bidPaid", unfollowed := true, recurses := true, named := ["moneyer/sha.rounds"], apart := false, laid := [("moneyer/sha.rounds", laid_moneyer_sha_rounds)] }
def BidPaidSaid : Prop := bidPaidRow.holds Tryd.pinned (OpenSpec.ofChange bidPaidSpec)

/-- ITS FALSE NEIGHBOUR: 'it returns false'. Refute it at one input. -/
def bidPaidWrong : ChangeSpec := { name := "bidPaid", fn := fun _ => fun
  | [d1, d2, d3] => { results := [.lit (.bool false)], args := [d1, d2, d3] }
  | _ => none }
def BidPaidWrongFalsely : Prop := bidPaidRow.holds Tryd.pinned (OpenSpec.ofChange bidPaidWrong)

/-- 'moneyerlaw7.BidAwards': WHATEVER THE INPUT: true; the input reads as it did. -/
def bidAwardsSpec : ChangeSpec := { name := "bidAwards", fn := fun _ => fun
  | [d1, d2, d3] => { results := [.lit (.bool true)], args := [d1, d2, d3] }
  | _ => none }
def bidAwardsRow : OpenClaim := { program := "ytlaoijnlemgdfaadoor", sum := "982dcbf89a835f3ed038e4550f44edc09b3bea9359d96ffc74d4c0b3d79def10", func := "moneyer/moneyerlaw7.BidAwards", spec := "bidAwards", inPlace := ["internal/reflectlite.ValueOf", "(internal/reflectlite.Value).Type", "(internal/reflectlite.Value).IsNil", "internal/reflectlite.TypeOf", "(internal/reflectlite.Value).Elem", "(internal/reflectlite.Value).Set"], unfollowed := true, recurses := true, named := ["moneyer/sha.rounds", "errors.errorType"], apart := false, laid := [("moneyer/sha.rounds", laid_moneyer_sha_rounds), ("errors.errorType", laid_errors_errorType)] }
def BidAwardsSaid : Prop := bidAwardsRow.holds Tryd.pinned (OpenSpec.ofChange bidAwardsSpec)

/-- ITS FALSE NEIGHBOUR: 'it returns false'. Refute it at one input. -/
def bidAwardsWrong : ChangeSpec := { name := "bidAwards", fn := fun _ => fun
  | [d1, d2, d3] => { results := [.lit (.bool false)], args := [d1, d2, d3] }
  | _ => none }
def BidAwardsWrongFalsely : Prop := bidAwardsRow.holds Tryd.pinned (OpenSpec.ofChange bidAwardsWrong)

/-- 'moneyerlaw7.BidOrder': WHATEVER THE INPUT: true; the input reads as it did. -/
def bidOrderSpec : ChangeSpec := { name := "bidOrder", fn := fun _ => fun
  | [d1, d2, d3, d4] => { results := [.lit (.bool true)], args := [d1, d2, d3, d4] }
  | _ => none }
def bidOrderRow : OpenClaim := { program := "ytlaoijnlemgdfaadoor", sum := "982dcbf89a835f3ed038e4550f44edc09b3bea9359d96ffc74d4c0b3d79def10", func := "moneyer/moneyerlaw7.BidOrder", spec := "bidOrder", inPlace := ["internal/reflectlite.ValueOf", "(internal/reflectlite.Value).Type", "(internal/reflectlite.Value).IsNil", "internal/reflectlite.TypeOf", "(internal/reflectlite.Value).Elem", "(internal/reflectlite.Value).Set"], unfollowed := true, recurses := true, named := ["moneyer/sha.rounds", "errors.errorType"], apart := false, laid := [("moneyer/sha.rounds", laid_moneyer_sha_rounds), ("errors.errorType", laid_errors_errorType)] }
def BidOrderSaid : Prop := bidOrderRow.holds Tryd.pinned (OpenSpec.ofChange bidOrderSpec)

/-- ITS FALSE NEIGHBOUR: 'it returns false'. Refute it at one input. -/
def bidOrderWrong : ChangeSpec := { name := "bidOrder", fn := fun _ => fun
  | [d1, d2, d3, d4] => { results := [.lit (.bool false)], args := [d1, d2, d3, d4] }
  | _ => none }
def BidOrderWrongFalsely : Prop := bidOrderRow.holds Tryd.pinned (OpenSpec.ofChange bidOrderWrong)

/- THE SECOND FORM. 'bulk': how many values and letters a reading holds, each counted each time it is reached (what is shared counts as often as it is met; a slice's spare places count too). A statement '..UptoSaid' is the law's where the arguments, and the package variables that the reading takes, are together of bulk at most 1048576: NARROWER than '..Said'. Prove '..Said' where nothing that the law and all that it calls make is longer than what came in: it says more and counts as full. Else prove '..UptoSaid'. A law counts once. -/
mutual
def uptoBulk {H : Type} : DataW H → Nat
  | .lit (.string bytes) => bytes.length + 1
  | .lit _ => 1
  | .nil => 1
  | .ptr d => uptoBulk d + 1
  | .slice elems spare => uptoBulkAll elems + uptoBulkAll spare + 1
  | .agg parts => uptoBulkAll parts + 1
  | .iface _ d => uptoBulk d + 1
  | .map entries => uptoBulkEntries entries + 1
  | .held _ => 1
def uptoBulkAll {H : Type} : List (DataW H) → Nat
  | [] => 0
  | d :: r => uptoBulk d + uptoBulkAll r
def uptoBulkEntries {H : Type} : List (Lit × DataW H) → Nat
  | [] => 0
  | x :: r => uptoBulkEntry x + uptoBulkEntries r
def uptoBulkEntry {H : Type} : Lit × DataW H → Nat
  | (.string bytes, d) => bytes.length + uptoBulk d + 1
  | (_, d) => uptoBulk d + 1
 end
def uptoSmall : (H : Type) → List (DataW H) → Bool := fun _ ds => decide (uptoBulkAll ds ≤ 1048576)
def OpenSpec.upto (s : _root_.Go.ChangeSpec) : _root_.Go.OpenSpec := { _root_.Go.OpenSpec.ofChange s with cond := some uptoSmall }

/-- 'moneyerlaw7.VowTells', WHERE WHAT IT READS IS OF BULK AT MOST 1048576: true; the input reads as it did. -/
def vowTellsUptoRow : OpenClaim := { program := "ytlaoijnlemgdfaadoor", sum := "982dcbf89a835f3ed038e4550f44edc09b3bea9359d96ffc74d4c0b3d79def10", func := "moneyer/moneyerlaw7.VowTells", spec := "vowTells", named := ["moneyer/sha.rounds"], apart := false, laid := [("moneyer/sha.rounds", laid_moneyer_sha_rounds)], narrowed := true }
def VowTellsUptoSaid : Prop := vowTellsUptoRow.holds Tryd.pinned (OpenSpec.upto vowTellsSpec)

/-- 'moneyerlaw7.VowBinds', WHERE WHAT IT READS IS OF BULK AT MOST 1048576: true; the input reads as it did. -/
def vowBindsUptoRow : OpenClaim := { program := "ytlaoijnlemgdfaadoor", sum := "982dcbf89a835f3ed038e4550f44edc09b3bea9359d96ffc74d4c0b3d79def10", func := "moneyer/moneyerlaw7.VowBinds", spec := "vowBinds", named := ["moneyer/sha.rounds"], apart := false, laid := [("moneyer/sha.rounds", laid_moneyer_sha_rounds)], narrowed := true }
def VowBindsUptoSaid : Prop := vowBindsUptoRow.holds Tryd.pinned (OpenSpec.upto vowBindsSpec)

/-- 'moneyerlaw7.LotOrders', WHERE WHAT IT READS IS OF BULK AT MOST 1048576: true; the input reads as it did. -/
def lotOrdersUptoRow : OpenClaim := { program := "ytlaoijnlemgdfaadoor", sum := "982dcbf89a835f3ed038e4550f44edc09b3bea9359d96ffc74d4c0b3d79def10", func := "moneyer/moneyerlaw7.LotOrders", spec := "lotOrders", inPlace := ["internal/reflectlite.ValueOf", "(internal/reflectlite.Value).Type", "(internal/reflectlite.Value).IsNil", "internal/reflectlite.TypeOf", "(internal/reflectlite.Value).Elem", "(internal/reflectlite.Value).Set"], unfollowed := true, recurses := true, named := ["moneyer/sha.rounds", "errors.errorType"], apart := false, laid := [("moneyer/sha.rounds", laid_moneyer_sha_rounds), ("errors.errorType", laid_errors_errorType)], narrowed := true }
def LotOrdersUptoSaid : Prop := lotOrdersUptoRow.holds Tryd.pinned (OpenSpec.upto lotOrdersSpec)

/-- 'moneyerlaw7.LotTells', WHERE WHAT IT READS IS OF BULK AT MOST 1048576: true; the input reads as it did. -/
def lotTellsUptoRow : OpenClaim := { program := "ytlaoijnlemgdfaadoor", sum := "982dcbf89a835f3ed038e4550f44edc09b3bea9359d96ffc74d4c0b3d79def10", func := "moneyer/moneyerlaw7.LotTells", spec := "lotTells", inPlace := ["internal/reflectlite.ValueOf", "(internal/reflectlite.Value).Type", "(internal/reflectlite.Value).IsNil", "internal/reflectlite.TypeOf", "(internal/reflectlite.Value).Elem", "(internal/reflectlite.Value).Set"], unfollowed := true, recurses := true, named := ["errors.errorType", "moneyer/sha.rounds"], apart := false, laid := [("moneyer/sha.rounds", laid_moneyer_sha_rounds), ("errors.errorType", laid_errors_errorType)], narrowed := true }
def LotTellsUptoSaid : Prop := lotTellsUptoRow.holds Tryd.pinned (OpenSpec.upto lotTellsSpec)

/-- 'moneyerlaw7.BidTruth', WHERE WHAT IT READS IS OF BULK AT MOST 1048576: true; the input reads as it did. -/
def bidTruthUptoRow : OpenClaim := { program := "ytlaoijnlemgdfaadoor", sum := "982dcbf89a835f3ed038e4550f44edc09b3bea9359d96ffc74d4c0b3d79def10", func := "moneyer/moneyerlaw7.BidTruth", spec := "bidTruth", unfollowed := true, recurses := true, named := ["moneyer/sha.rounds"], apart := false, laid := [("moneyer/sha.rounds", laid_moneyer_sha_rounds)], narrowed := true }
def BidTruthUptoSaid : Prop := bidTruthUptoRow.holds Tryd.pinned (OpenSpec.upto bidTruthSpec)

/-- 'moneyerlaw7.BidPaid', WHERE WHAT IT READS IS OF BULK AT MOST 1048576: true; the input reads as it did. -/
def bidPaidUptoRow : OpenClaim := { program := "ytlaoijnlemgdfaadoor", sum := "982dcbf89a835f3ed038e4550f44edc09b3bea9359d96ffc74d4c0b3d79def10", func := "moneyer/moneyerlaw7.BidPaid", spec := "bidPaid", unfollowed := true, recurses := true, named := ["moneyer/sha.rounds"], apart := false, laid := [("moneyer/sha.rounds", laid_moneyer_sha_rounds)], narrowed := true }
def BidPaidUptoSaid : Prop := bidPaidUptoRow.holds Tryd.pinned (OpenSpec.upto bidPaidSpec)

/-- 'moneyerlaw7.BidAwards', WHERE WHAT IT READS IS OF BULK AT MOST 1048576: true; the input reads as it did. -/
def bidAwardsUptoRow : OpenClaim := { program := "ytlaoijnlemgdfaadoor", sum := "982dcbf89a835f3ed038e4550f44edc09b3bea9359d96ffc74d4c0b3d79def10", func := "moneyer/moneyerlaw7.BidAwards", spec := "bidAwards", inPlace := ["internal/reflectlite.ValueOf", "(internal/reflectlite.Value).Type", "(internal/reflectlite.Value).IsNil", "internal/reflectlite.TypeOf", "(internal/reflectlite.Value).Elem", "(internal/reflectlite.Value).Set"], unfollowed := true, recurses := true, named := ["moneyer/sha.rounds", "errors.errorType"], apart := false, laid := [("moneyer/sha.rounds", laid_moneyer_sha_rounds), ("errors.errorType", laid_errors_errorType)], narrowed := true }
def BidAwardsUptoSaid : Prop := bidAwardsUptoRow.holds Tryd.pinned (OpenSpec.upto bidAwardsSpec)

/-- 'moneyerlaw7.BidOrder', WHERE WHAT IT READS IS OF BULK AT MOST 1048576: true; the input reads as it did. -/
def bidOrderUptoRow : OpenClaim := { program := "ytlaoijnlemgdfaadoor", sum := "982dcbf89a835f3ed038e4550f44edc09b3bea9359d96ffc74d4c0b3d79def10", func := "moneyer/moneyerlaw7.BidOrder", spec := "bidOrder", inPlace := ["internal/reflectlite.ValueOf", "(internal/reflectlite.Value).Type", "(internal/reflectlite.Value).IsNil", "internal/reflectlite.TypeOf", "(internal/reflectlite.Value).Elem", "(internal/reflectlite.Value).Set"], unfollowed := true, recurses := true, named := ["moneyer/sha.rounds", "errors.errorType"], apart := false, laid := [("moneyer/sha.rounds", laid_moneyer_sha_rounds), ("errors.errorType", laid_errors_errorType)], narrowed := true }
def BidOrderUptoSaid : Prop := bidOrderUptoRow.holds Tryd.pinned (OpenSpec.upto bidOrderSpec)

end Rows
end Go.Proofs.YtlaoijnlemgdfaaDoor
