/-
  No cell of these rows narrows 'for every input' (looked for: loops, veiled, ifaces, maps, wideKeys, modest, calm, conditions, laid).
  DERIVED. THE GIVEN ROWS OF THIS SEAT. 5 by the template 'for every input the law returns true; each argument reads behind the call as it read before'; 0 by the template 'total and deterministic' (their statements: YtlcbfabdfpdcgaaTotals.lean).
  GIVEN WITH THE SEED: the statements are not yours to turn. If you find one false, say at which input.
  Laid BY PROGRAM, IN A SANDBOX (cutbox-rows.mjs): the forced cells as the released guide's own fill.sh prints them over the translation d960d0f9f6c1f9a4… (all of the seat's roots in one cut). By AI agents, Wed Nov 11 2026. No macro, syntax, notation, axiom, sorry.
-/
import Derived.Test.YtlcbfabdfpdcgaaChecked
import GoSem.Claim
import GoSem.ClaimJoined
import GoSem.ClaimMapViews
import Derived.JoinedTies
import Derived.KernelRfl
namespace Go.Proofs.Ytlcbfabdfpdcgaa
/- THE CELL 'sum', in the pinned program and in every row, IS THE sha256 OF THE DUMP (.gsa) THAT YtlcbfabdfpdcgaaProg.lean LOADS. Nothing in Lean hashes anything: it is a label: what it is worth is what the hold of that sum in a sandbox is worth. -/
noncomputable def Try.pinned : Pinned := { name := "ytlcbfabdfpdcgaa", sum := "d960d0f9f6c1f9a48bf02e78c7c94660a650a7df51a695b16b8b660957276108", checked := Try.checked }
namespace Rows
def none {H : Type} : Left H := { results := [], args := [] }

/-- 'eddylaw12.TradeBalances': WHATEVER THE INPUT: true; the input reads as it did. -/
def tradeBalancesSpec : ChangeSpec := { name := "tradeBalances", fn := fun _ => fun
  | [d1, d2, d3, d4, d5] => { results := [.lit (.bool true)], args := [d1, d2, d3, d4, d5] }
  | _ => none }
def tradeBalancesRow : OpenClaim := { program := "ytlcbfabdfpdcgaa", sum := "d960d0f9f6c1f9a48bf02e78c7c94660a650a7df51a695b16b8b660957276108", func := "eddy/eddylaw12.TradeBalances", spec := "tradeBalances", unfollowed := true, recurses := true, apart := false }
def TradeBalancesSaid : Prop := tradeBalancesRow.holds Try.pinned (OpenSpec.ofChange tradeBalancesSpec)

/-- ITS FALSE NEIGHBOUR: 'it returns false'. Refute it at one input. -/
def tradeBalancesWrong : ChangeSpec := { name := "tradeBalances", fn := fun _ => fun
  | [d1, d2, d3, d4, d5] => { results := [.lit (.bool false)], args := [d1, d2, d3, d4, d5] }
  | _ => none }
def TradeBalancesWrongFalsely : Prop := tradeBalancesRow.holds Try.pinned (OpenSpec.ofChange tradeBalancesWrong)

/-- 'eddylaw12.TradePlays': WHATEVER THE INPUT: true; the input reads as it did. -/
def tradePlaysSpec : ChangeSpec := { name := "tradePlays", fn := fun _ => fun
  | [d1, d2, d3, d4, d5, d6] => { results := [.lit (.bool true)], args := [d1, d2, d3, d4, d5, d6] }
  | _ => none }
def tradePlaysRow : OpenClaim := { program := "ytlcbfabdfpdcgaa", sum := "d960d0f9f6c1f9a48bf02e78c7c94660a650a7df51a695b16b8b660957276108", func := "eddy/eddylaw12.TradePlays", spec := "tradePlays", unfollowed := true, recurses := true, apart := false }
def TradePlaysSaid : Prop := tradePlaysRow.holds Try.pinned (OpenSpec.ofChange tradePlaysSpec)

/-- ITS FALSE NEIGHBOUR: 'it returns false'. Refute it at one input. -/
def tradePlaysWrong : ChangeSpec := { name := "tradePlays", fn := fun _ => fun
  | [d1, d2, d3, d4, d5, d6] => { results := [.lit (.bool false)], args := [d1, d2, d3, d4, d5, d6] }
  | _ => none }
def TradePlaysWrongFalsely : Prop := tradePlaysRow.holds Try.pinned (OpenSpec.ofChange tradePlaysWrong)

/-- 'eddylaw12.TradeTurns': WHATEVER THE INPUT: true; the input reads as it did. -/
def tradeTurnsSpec : ChangeSpec := { name := "tradeTurns", fn := fun _ => fun
  | [d1, d2, d3, d4, d5] => { results := [.lit (.bool true)], args := [d1, d2, d3, d4, d5] }
  | _ => none }
def tradeTurnsRow : OpenClaim := { program := "ytlcbfabdfpdcgaa", sum := "d960d0f9f6c1f9a48bf02e78c7c94660a650a7df51a695b16b8b660957276108", func := "eddy/eddylaw12.TradeTurns", spec := "tradeTurns", unfollowed := true, recurses := true, apart := false }
def TradeTurnsSaid : Prop := tradeTurnsRow.holds Try.pinned (OpenSpec.ofChange tradeTurnsSpec)

/-- ITS FALSE NEIGHBOUR: 'it returns false'. Refute it at one input. -/
def tradeTurnsWrong : ChangeSpec := { name := "tradeTurns", fn := fun _ => fun
  | [d1, d2, d3, d4, d5] => { results := [.lit (.bool false)], args := [d1, d2, d3, d4, d5] }
  | _ => none }
def TradeTurnsWrongFalsely : Prop := tradeTurnsRow.holds Try.pinned (OpenSpec.ofChange tradeTurnsWrong)

/-- 'eddylaw12.TradeEnds': WHATEVER THE INPUT: true; the input reads as it did. -/
def tradeEndsSpec : ChangeSpec := { name := "tradeEnds", fn := fun _ => fun
  | [d1, d2, d3, d4, d5] => { results := [.lit (.bool true)], args := [d1, d2, d3, d4, d5] }
  | _ => none }
def tradeEndsRow : OpenClaim := { program := "ytlcbfabdfpdcgaa", sum := "d960d0f9f6c1f9a48bf02e78c7c94660a650a7df51a695b16b8b660957276108", func := "eddy/eddylaw12.TradeEnds", spec := "tradeEnds", inPlace := ["math/bits.Add64", "math/bits.Sub64"], unfollowed := true, recurses := true, apart := false }
def TradeEndsSaid : Prop := tradeEndsRow.holds Try.pinned (OpenSpec.ofChange tradeEndsSpec)

/-- ITS FALSE NEIGHBOUR: 'it returns false'. Refute it at one input. -/
def tradeEndsWrong : ChangeSpec := { name := "tradeEnds", fn := fun _ => fun
  | [d1, d2, d3, d4, d5] => { results := [.lit (.bool false)], args := [d1, d2, d3, d4, d5] }
  | _ => none }
def TradeEndsWrongFalsely : Prop := tradeEndsRow.holds Try.pinned (OpenSpec.ofChange tradeEndsWrong)

/-- 'eddylaw12.TradeAlone': WHATEVER THE INPUT: true; the input reads as it did. -/
def tradeAloneSpec : ChangeSpec := { name := "tradeAlone", fn := fun _ => fun
  | [d1, d2, d3, d4, d5] => { results := [.lit (.bool true)], args := [d1, d2, d3, d4, d5] }
  | _ => none }
def tradeAloneRow : OpenClaim := { program := "ytlcbfabdfpdcgaa", sum := "d960d0f9f6c1f9a48bf02e78c7c94660a650a7df51a695b16b8b660957276108", func := "eddy/eddylaw12.TradeAlone", spec := "tradeAlone", inPlace := ["math/bits.Add64", "math/bits.Sub64"], unfollowed := true, recurses := true, apart := false }
def TradeAloneSaid : Prop := tradeAloneRow.holds Try.pinned (OpenSpec.ofChange tradeAloneSpec)

/-- ITS FALSE NEIGHBOUR: 'it returns false'. Refute it at one input. -/
def tradeAloneWrong : ChangeSpec := { name := "tradeAlone", fn := fun _ => fun
  | [d1, d2, d3, d4, d5] => { results := [.lit (.bool false)], args := [d1, d2, d3, d4, d5] }
  | _ => none }
def TradeAloneWrongFalsely : Prop := tradeAloneRow.holds Try.pinned (OpenSpec.ofChange tradeAloneWrong)

/- THE SECOND FORM. 'bulk': how many values and letters a reading holds, each counted each time it is reached (what is shared counts as often as it is met; a slice's spare places count too). A statement '..UptoSaid' is the law's where the arguments, and the package variables that the reading takes, are together of bulk at most 1048576: NARROWER than '..Said'. Prove '..Said' where nothing that the law and all that it calls make is longer than what came in: it says more and counts as full. Else prove '..UptoSaid'. A law counts once. -/
mutual
def uptoBulk {H : Type} : DataW H → Nat
  | .lit (.string bytes) => bytes.length + 1
  | .lit _ => 1
  | .nil => 1
  | .ptr d => uptoBulk d + 1
  | .slice elems spare => uptoBulkAll elems + uptoBulkAll spare + 1
  | .agg parts => uptoBulkAll parts + 1
  | .iface _ d => uptoBulk d + 1
  | .map entries => uptoBulkEntries entries + 1
  | .held _ => 1
def uptoBulkAll {H : Type} : List (DataW H) → Nat
  | [] => 0
  | d :: r => uptoBulk d + uptoBulkAll r
def uptoBulkEntries {H : Type} : List (Lit × DataW H) → Nat
  | [] => 0
  | x :: r => uptoBulkEntry x + uptoBulkEntries r
def uptoBulkEntry {H : Type} : Lit × DataW H → Nat
  | (.string bytes, d) => bytes.length + uptoBulk d + 1
  | (_, d) => uptoBulk d + 1
 end
def uptoSmall : (H : Type) → List (DataW H) → Bool := fun _ ds => decide (uptoBulkAll ds ≤ 1048576)
def OpenSpec.upto (s : _root_.Go.ChangeSpec) : _root_.Go.OpenSpec := { _root_.Go.OpenSpec.ofChange s with cond := some uptoSmall }

/-- 'eddylaw12.TradeBalances', WHERE WHAT IT READS IS OF BULK AT MOST 1048576: true; the input reads as it did. -/
def tradeBalancesUptoRow : OpenClaim := { program := "ytlcbfabdfpdcgaa", sum := "d960d0f9f6c1f9a48bf02e78c7c94660a650a7df51a695b16b8b660957276108", func := "eddy/eddylaw12.TradeBalances", spec := "tradeBalances", unfollowed := true, recurses := true, apart := false, narrowed := true }
def TradeBalancesUptoSaid : Prop := tradeBalancesUptoRow.holds Try.pinned (OpenSpec.upto tradeBalancesSpec)

/-- 'eddylaw12.TradePlays', WHERE WHAT IT READS IS OF BULK AT MOST 1048576: true; the input reads as it did. -/
def tradePlaysUptoRow : OpenClaim := { program := "ytlcbfabdfpdcgaa", sum := "d960d0f9f6c1f9a48bf02e78c7c94660a650a7df51a695b16b8b660957276108", func := "eddy/eddylaw12.TradePlays", spec := "tradePlays", unfollowed := true, recurses := true, apart := false, narrowed := true }
def TradePlaysUptoSaid : Prop := tradePlaysUptoRow.holds Try.pinned (OpenSpec.upto tradePlaysSpec)

/-- 'eddylaw12.TradeTurns', WHERE WHAT IT READS IS OF BULK AT MOST 1048576: true; the input reads as it did. -/
def tradeTurnsUptoRow : OpenClaim := { program := "ytlcbfabdfpdcgaa", sum := "d960d0f9f6c1f9a48bf02e78c7c94660a650a7df51a695b16b8b660957276108", func := "eddy/eddylaw12.TradeTurns", spec := "tradeTurns", unfollowed := true, recurses := true, apart := false, narrowed := true }
def TradeTurnsUptoSaid : Prop := tradeTurnsUptoRow.holds Try.pinned (OpenSpec.upto tradeTurnsSpec)

/-- 'eddylaw12.TradeEnds', WHERE WHAT IT READS IS OF BULK AT MOST 1048576: true; the input reads as it did. -/
def tradeEndsUptoRow : OpenClaim := { program := "ytlcbfabdfpdcgaa", sum := "d960d0f9f6c1f9a48bf02e78c7c94660a650a7df51a695b16b8b660957276108", func := "eddy/eddylaw12.TradeEnds", spec := "tradeEnds", inPlace := ["math/bits.Add64", "math/bits.Sub64"], unfollowed := true, recurses := true, apart := false, narrowed := true }
def TradeEndsUptoSaid : Prop := tradeEndsUptoRow.holds Try.pinned (OpenSpec.upto tradeEndsSpec)

/-- 'eddylaw12.TradeAlone', WHERE WHAT IT READS IS OF BULK AT MOST 1048576: true; the input reads as it did. -/
def tradeAloneUptoRow : OpenClaim := { program := "ytlcbfabdfpdcgaa", sum := "d960d0f9f6c1f9a48bf02e78c7c94660a650a7df51a695b16b8b660957276108", func := "eddy/eddylaw12.TradeAlone", spec := "tradeAlone", inPlace := ["math/bits.Add64", "math/bits.Sub64"], unfollowed := true, recurses := true, apart := false, narrowed := true }
def TradeAloneUptoSaid : Prop := tradeAloneUptoRow.holds Try.pinned (OpenSpec.upto tradeAloneSpec)

end Rows
end Go.Proofs.Ytlcbfabdfpdcgaa
