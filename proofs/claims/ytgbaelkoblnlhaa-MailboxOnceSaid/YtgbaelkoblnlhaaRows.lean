/-
  NARROWER THAN 'FOR EVERY INPUT', by the rows' own cells (each row's printed sentence says how): TermsMeasure: loops · TermsEqual: loops · TermsGrow: loops · TermsMake: loops · TermsLists: loops · TermsTake: loops · MailboxKeeps: loops · MailboxPicks: loops · MailboxRuns: loops · MailboxNone: loops · MailboxWaits: loops · MailboxOnce: loops.
  DERIVED. THE GIVEN ROWS OF THIS SEAT. 13 by the template 'for every input the law returns true; each argument reads behind the call as it read before'; 0 by the template 'total and deterministic' (their statements: YtgbaelkoblnlhaaTotals.lean).
  GIVEN WITH THE SEED: the statements are not yours to turn. If you find one false, say at which input.
  Laid BY PROGRAM, IN A SANDBOX (cutbox-rows.mjs): the forced cells as the released guide's own fill.sh prints them over the translation f1f7f7c4ee211244… (all of the seat's roots in one cut). By AI agents, Wed Nov 11 2026. No macro, syntax, notation, axiom, sorry.
-/
import Derived.Test.YtgbaelkoblnlhaaChecked
import GoSem.Claim
import GoSem.ClaimJoined
import GoSem.ClaimMapViews
import Derived.JoinedTies
import Derived.KernelRfl
namespace Go.Proofs.Ytgbaelkoblnlhaa
/- THE CELL 'sum', in the pinned program and in every row, IS THE sha256 OF THE DUMP (.gsa) THAT YtgbaelkoblnlhaaProg.lean LOADS. Nothing in Lean hashes anything: it is a label: what it is worth is what the hold of that sum in a sandbox is worth. -/
noncomputable def Try.pinned : Pinned := { name := "ytgbaelkoblnlhaa", sum := "f1f7f7c4ee2112444625713c1d06eb82b30606e5c5824c7e35b28540b58c5d54", checked := Try.checked }
namespace Rows
def none {H : Type} : Left H := { results := [], args := [] }

/-- 'stagehandlaw03.TermsMeasure': WHATEVER THE INPUT: true; the input reads as it did. -/
def termsMeasureSpec : ChangeSpec := { name := "termsMeasure", fn := fun _ => fun
  | [d1, d2] => { results := [.lit (.bool true)], args := [d1, d2] }
  | _ => none }
def termsMeasureRow : OpenClaim := { program := "ytgbaelkoblnlhaa", sum := "f1f7f7c4ee2112444625713c1d06eb82b30606e5c5824c7e35b28540b58c5d54", func := "stagehand/stagehandlaw03.TermsMeasure", spec := "termsMeasure", unfollowed := true, recurses := true, loops := true, apart := false }
def TermsMeasureSaid : Prop := termsMeasureRow.holds Try.pinned (OpenSpec.ofChange termsMeasureSpec)

/-- ITS FALSE NEIGHBOUR: 'it returns false'. Refute it at one input. -/
def termsMeasureWrong : ChangeSpec := { name := "termsMeasure", fn := fun _ => fun
  | [d1, d2] => { results := [.lit (.bool false)], args := [d1, d2] }
  | _ => none }
def TermsMeasureWrongFalsely : Prop := termsMeasureRow.holds Try.pinned (OpenSpec.ofChange termsMeasureWrong)

/-- 'stagehandlaw03.TermsEqual': WHATEVER THE INPUT: true; the input reads as it did. -/
def termsEqualSpec : ChangeSpec := { name := "termsEqual", fn := fun _ => fun
  | [d1, d2] => { results := [.lit (.bool true)], args := [d1, d2] }
  | _ => none }
def termsEqualRow : OpenClaim := { program := "ytgbaelkoblnlhaa", sum := "f1f7f7c4ee2112444625713c1d06eb82b30606e5c5824c7e35b28540b58c5d54", func := "stagehand/stagehandlaw03.TermsEqual", spec := "termsEqual", unfollowed := true, recurses := true, loops := true, apart := false }
def TermsEqualSaid : Prop := termsEqualRow.holds Try.pinned (OpenSpec.ofChange termsEqualSpec)

/-- ITS FALSE NEIGHBOUR: 'it returns false'. Refute it at one input. -/
def termsEqualWrong : ChangeSpec := { name := "termsEqual", fn := fun _ => fun
  | [d1, d2] => { results := [.lit (.bool false)], args := [d1, d2] }
  | _ => none }
def TermsEqualWrongFalsely : Prop := termsEqualRow.holds Try.pinned (OpenSpec.ofChange termsEqualWrong)

/-- 'stagehandlaw03.TermsLimits': WHATEVER THE INPUT: true; the input reads as it did. -/
def termsLimitsSpec : ChangeSpec := { name := "termsLimits", fn := fun _ => fun
  | [d1, d2, d3] => { results := [.lit (.bool true)], args := [d1, d2, d3] }
  | _ => none }
def termsLimitsRow : OpenClaim := { program := "ytgbaelkoblnlhaa", sum := "f1f7f7c4ee2112444625713c1d06eb82b30606e5c5824c7e35b28540b58c5d54", func := "stagehand/stagehandlaw03.TermsLimits", spec := "termsLimits", unfollowed := true, recurses := true, apart := false }
def TermsLimitsSaid : Prop := termsLimitsRow.holds Try.pinned (OpenSpec.ofChange termsLimitsSpec)

/-- ITS FALSE NEIGHBOUR: 'it returns false'. Refute it at one input. -/
def termsLimitsWrong : ChangeSpec := { name := "termsLimits", fn := fun _ => fun
  | [d1, d2, d3] => { results := [.lit (.bool false)], args := [d1, d2, d3] }
  | _ => none }
def TermsLimitsWrongFalsely : Prop := termsLimitsRow.holds Try.pinned (OpenSpec.ofChange termsLimitsWrong)

/-- 'stagehandlaw03.TermsGrow': WHATEVER THE INPUT: true; the input reads as it did. -/
def termsGrowSpec : ChangeSpec := { name := "termsGrow", fn := fun _ => fun
  | [d1, d2] => { results := [.lit (.bool true)], args := [d1, d2] }
  | _ => none }
def termsGrowRow : OpenClaim := { program := "ytgbaelkoblnlhaa", sum := "f1f7f7c4ee2112444625713c1d06eb82b30606e5c5824c7e35b28540b58c5d54", func := "stagehand/stagehandlaw03.TermsGrow", spec := "termsGrow", unfollowed := true, recurses := true, loops := true, apart := false }
def TermsGrowSaid : Prop := termsGrowRow.holds Try.pinned (OpenSpec.ofChange termsGrowSpec)

/-- ITS FALSE NEIGHBOUR: 'it returns false'. Refute it at one input. -/
def termsGrowWrong : ChangeSpec := { name := "termsGrow", fn := fun _ => fun
  | [d1, d2] => { results := [.lit (.bool false)], args := [d1, d2] }
  | _ => none }
def TermsGrowWrongFalsely : Prop := termsGrowRow.holds Try.pinned (OpenSpec.ofChange termsGrowWrong)

/-- 'stagehandlaw03.TermsMake': WHATEVER THE INPUT: true; the input reads as it did. -/
def termsMakeSpec : ChangeSpec := { name := "termsMake", fn := fun _ => fun
  | [d1, d2, d3] => { results := [.lit (.bool true)], args := [d1, d2, d3] }
  | _ => none }
def termsMakeRow : OpenClaim := { program := "ytgbaelkoblnlhaa", sum := "f1f7f7c4ee2112444625713c1d06eb82b30606e5c5824c7e35b28540b58c5d54", func := "stagehand/stagehandlaw03.TermsMake", spec := "termsMake", unfollowed := true, recurses := true, loops := true, apart := false }
def TermsMakeSaid : Prop := termsMakeRow.holds Try.pinned (OpenSpec.ofChange termsMakeSpec)

/-- ITS FALSE NEIGHBOUR: 'it returns false'. Refute it at one input. -/
def termsMakeWrong : ChangeSpec := { name := "termsMake", fn := fun _ => fun
  | [d1, d2, d3] => { results := [.lit (.bool false)], args := [d1, d2, d3] }
  | _ => none }
def TermsMakeWrongFalsely : Prop := termsMakeRow.holds Try.pinned (OpenSpec.ofChange termsMakeWrong)

/-- 'stagehandlaw03.TermsLists': WHATEVER THE INPUT: true; the input reads as it did. -/
def termsListsSpec : ChangeSpec := { name := "termsLists", fn := fun _ => fun
  | [d1, d2, d3] => { results := [.lit (.bool true)], args := [d1, d2, d3] }
  | _ => none }
def termsListsRow : OpenClaim := { program := "ytgbaelkoblnlhaa", sum := "f1f7f7c4ee2112444625713c1d06eb82b30606e5c5824c7e35b28540b58c5d54", func := "stagehand/stagehandlaw03.TermsLists", spec := "termsLists", unfollowed := true, recurses := true, loops := true, apart := false }
def TermsListsSaid : Prop := termsListsRow.holds Try.pinned (OpenSpec.ofChange termsListsSpec)

/-- ITS FALSE NEIGHBOUR: 'it returns false'. Refute it at one input. -/
def termsListsWrong : ChangeSpec := { name := "termsLists", fn := fun _ => fun
  | [d1, d2, d3] => { results := [.lit (.bool false)], args := [d1, d2, d3] }
  | _ => none }
def TermsListsWrongFalsely : Prop := termsListsRow.holds Try.pinned (OpenSpec.ofChange termsListsWrong)

/-- 'stagehandlaw03.TermsTake': WHATEVER THE INPUT: true; the input reads as it did. -/
def termsTakeSpec : ChangeSpec := { name := "termsTake", fn := fun _ => fun
  | [d] => { results := [.lit (.bool true)], args := [d] }
  | _ => none }
def termsTakeRow : OpenClaim := { program := "ytgbaelkoblnlhaa", sum := "f1f7f7c4ee2112444625713c1d06eb82b30606e5c5824c7e35b28540b58c5d54", func := "stagehand/stagehandlaw03.TermsTake", spec := "termsTake", unfollowed := true, recurses := true, loops := true, apart := false }
def TermsTakeSaid : Prop := termsTakeRow.holds Try.pinned (OpenSpec.ofChange termsTakeSpec)

/-- ITS FALSE NEIGHBOUR: 'it returns false'. Refute it at one input. -/
def termsTakeWrong : ChangeSpec := { name := "termsTake", fn := fun _ => fun
  | [d] => { results := [.lit (.bool false)], args := [d] }
  | _ => none }
def TermsTakeWrongFalsely : Prop := termsTakeRow.holds Try.pinned (OpenSpec.ofChange termsTakeWrong)

/-- 'stagehandlaw14.MailboxKeeps': WHATEVER THE INPUT: true; the input reads as it did. -/
def mailboxKeepsSpec : ChangeSpec := { name := "mailboxKeeps", fn := fun _ => fun
  | [d] => { results := [.lit (.bool true)], args := [d] }
  | _ => none }
def mailboxKeepsRow : OpenClaim := { program := "ytgbaelkoblnlhaa", sum := "f1f7f7c4ee2112444625713c1d06eb82b30606e5c5824c7e35b28540b58c5d54", func := "stagehand/stagehandlaw14.MailboxKeeps", spec := "mailboxKeeps", unfollowed := true, recurses := true, loops := true, apart := false }
def MailboxKeepsSaid : Prop := mailboxKeepsRow.holds Try.pinned (OpenSpec.ofChange mailboxKeepsSpec)

/-- ITS FALSE NEIGHBOUR: 'it returns false'. Refute it at one input. -/
def mailboxKeepsWrong : ChangeSpec := { name := "mailboxKeeps", fn := fun _ => fun
  | [d] => { results := [.lit (.bool false)], args := [d] }
  | _ => none }
def MailboxKeepsWrongFalsely : Prop := mailboxKeepsRow.holds Try.pinned (OpenSpec.ofChange mailboxKeepsWrong)

/-- 'stagehandlaw14.MailboxPicks': WHATEVER THE INPUT: true; the input reads as it did. -/
def mailboxPicksSpec : ChangeSpec := { name := "mailboxPicks", fn := fun _ => fun
  | [d1, d2] => { results := [.lit (.bool true)], args := [d1, d2] }
  | _ => none }
def mailboxPicksRow : OpenClaim := { program := "ytgbaelkoblnlhaa", sum := "f1f7f7c4ee2112444625713c1d06eb82b30606e5c5824c7e35b28540b58c5d54", func := "stagehand/stagehandlaw14.MailboxPicks", spec := "mailboxPicks", unfollowed := true, recurses := true, loops := true, apart := false }
def MailboxPicksSaid : Prop := mailboxPicksRow.holds Try.pinned (OpenSpec.ofChange mailboxPicksSpec)

/-- ITS FALSE NEIGHBOUR: 'it returns false'. Refute it at one input. -/
def mailboxPicksWrong : ChangeSpec := { name := "mailboxPicks", fn := fun _ => fun
  | [d1, d2] => { results := [.lit (.bool false)], args := [d1, d2] }
  | _ => none }
def MailboxPicksWrongFalsely : Prop := mailboxPicksRow.holds Try.pinned (OpenSpec.ofChange mailboxPicksWrong)

/-- 'stagehandlaw14.MailboxRuns': WHATEVER THE INPUT: true; the input reads as it did. -/
def mailboxRunsSpec : ChangeSpec := { name := "mailboxRuns", fn := fun _ => fun
  | [d] => { results := [.lit (.bool true)], args := [d] }
  | _ => none }
def mailboxRunsRow : OpenClaim := { program := "ytgbaelkoblnlhaa", sum := "f1f7f7c4ee2112444625713c1d06eb82b30606e5c5824c7e35b28540b58c5d54", func := "stagehand/stagehandlaw14.MailboxRuns", spec := "mailboxRuns", unfollowed := true, recurses := true, loops := true, apart := false }
def MailboxRunsSaid : Prop := mailboxRunsRow.holds Try.pinned (OpenSpec.ofChange mailboxRunsSpec)

/-- ITS FALSE NEIGHBOUR: 'it returns false'. Refute it at one input. -/
def mailboxRunsWrong : ChangeSpec := { name := "mailboxRuns", fn := fun _ => fun
  | [d] => { results := [.lit (.bool false)], args := [d] }
  | _ => none }
def MailboxRunsWrongFalsely : Prop := mailboxRunsRow.holds Try.pinned (OpenSpec.ofChange mailboxRunsWrong)

/-- 'stagehandlaw14.MailboxNone': WHATEVER THE INPUT: true; the input reads as it did. -/
def mailboxNoneSpec : ChangeSpec := { name := "mailboxNone", fn := fun _ => fun
  | [d] => { results := [.lit (.bool true)], args := [d] }
  | _ => none }
def mailboxNoneRow : OpenClaim := { program := "ytgbaelkoblnlhaa", sum := "f1f7f7c4ee2112444625713c1d06eb82b30606e5c5824c7e35b28540b58c5d54", func := "stagehand/stagehandlaw14.MailboxNone", spec := "mailboxNone", unfollowed := true, recurses := true, loops := true, apart := false }
def MailboxNoneSaid : Prop := mailboxNoneRow.holds Try.pinned (OpenSpec.ofChange mailboxNoneSpec)

/-- ITS FALSE NEIGHBOUR: 'it returns false'. Refute it at one input. -/
def mailboxNoneWrong : ChangeSpec := { name := "mailboxNone", fn := fun _ => fun
  | [d] => { results := [.lit (.bool false)], args := [d] }
  | _ => none }
def MailboxNoneWrongFalsely : Prop := mailboxNoneRow.holds Try.pinned (OpenSpec.ofChange mailboxNoneWrong)

/-- 'stagehandlaw14.MailboxWaits': WHATEVER THE INPUT: true; the input reads as it did. -/
def mailboxWaitsSpec : ChangeSpec := { name := "mailboxWaits", fn := fun _ => fun
  | [d1, d2] => { results := [.lit (.bool true)], args := [d1, d2] }
  | _ => none }
def mailboxWaitsRow : OpenClaim := { program := "ytgbaelkoblnlhaa", sum := "f1f7f7c4ee2112444625713c1d06eb82b30606e5c5824c7e35b28540b58c5d54", func := "stagehand/stagehandlaw14.MailboxWaits", spec := "mailboxWaits", unfollowed := true, recurses := true, loops := true, apart := false }
def MailboxWaitsSaid : Prop := mailboxWaitsRow.holds Try.pinned (OpenSpec.ofChange mailboxWaitsSpec)

/-- ITS FALSE NEIGHBOUR: 'it returns false'. Refute it at one input. -/
def mailboxWaitsWrong : ChangeSpec := { name := "mailboxWaits", fn := fun _ => fun
  | [d1, d2] => { results := [.lit (.bool false)], args := [d1, d2] }
  | _ => none }
def MailboxWaitsWrongFalsely : Prop := mailboxWaitsRow.holds Try.pinned (OpenSpec.ofChange mailboxWaitsWrong)

/-- 'stagehandlaw14.MailboxOnce': WHATEVER THE INPUT: true; the input reads as it did. -/
def mailboxOnceSpec : ChangeSpec := { name := "mailboxOnce", fn := fun _ => fun
  | [d] => { results := [.lit (.bool true)], args := [d] }
  | _ => none }
def mailboxOnceRow : OpenClaim := { program := "ytgbaelkoblnlhaa", sum := "f1f7f7c4ee2112444625713c1d06eb82b30606e5c5824c7e35b28540b58c5d54", func := "stagehand/stagehandlaw14.MailboxOnce", spec := "mailboxOnce", unfollowed := true, recurses := true, loops := true, apart := false }
def MailboxOnceSaid : Prop := mailboxOnceRow.holds Try.pinned (OpenSpec.ofChange mailboxOnceSpec)

/-- ITS FALSE NEIGHBOUR: 'it returns false'. Refute it at one input. -/
def mailboxOnceWrong : ChangeSpec := { name := "mailboxOnce", fn := fun _ => fun
  | [d] => { results := [.lit (.bool false)], args := [d] }
  | _ => none }
def MailboxOnceWrongFalsely : Prop := mailboxOnceRow.holds Try.pinned (OpenSpec.ofChange mailboxOnceWrong)

/- THE SECOND FORM. 'bulk': how many values and letters a reading holds, each counted each time it is reached (what is shared counts as often as it is met; a slice's spare places count too). A statement '..UptoSaid' is the law's where the arguments, and the package variables that the reading takes, are together of bulk at most 1048576: NARROWER than '..Said'. Prove '..Said' where nothing that the law and all that it calls make is longer than what came in: it says more and counts as full. Else prove '..UptoSaid'. A law counts once. -/
mutual
def uptoBulk {H : Type} : DataW H → Nat
  | .lit (.string bytes) => bytes.length + 1
  | .lit _ => 1
  | .nil => 1
  | .ptr d => uptoBulk d + 1
  | .slice elems spare => uptoBulkAll elems + uptoBulkAll spare + 1
  | .agg parts => uptoBulkAll parts + 1
  | .iface _ d => uptoBulk d + 1
  | .map entries => uptoBulkEntries entries + 1
  | .held _ => 1
def uptoBulkAll {H : Type} : List (DataW H) → Nat
  | [] => 0
  | d :: r => uptoBulk d + uptoBulkAll r
def uptoBulkEntries {H : Type} : List (Lit × DataW H) → Nat
  | [] => 0
  | x :: r => uptoBulkEntry x + uptoBulkEntries r
def uptoBulkEntry {H : Type} : Lit × DataW H → Nat
  | (.string bytes, d) => bytes.length + uptoBulk d + 1
  | (_, d) => uptoBulk d + 1
 end
def uptoSmall : (H : Type) → List (DataW H) → Bool := fun _ ds => decide (uptoBulkAll ds ≤ 1048576)
def OpenSpec.upto (s : _root_.Go.ChangeSpec) : _root_.Go.OpenSpec := { _root_.Go.OpenSpec.ofChange s with cond := some uptoSmall }

/-- 'stagehandlaw03.TermsMeasure', WHERE WHAT IT READS IS OF BULK AT MOST 1048576: true; the input reads as it did. -/
def termsMeasureUptoRow : OpenClaim := { program := "ytgbaelkoblnlhaa", sum := "f1f7f7c4ee2112444625713c1d06eb82b30606e5c5824c7e35b28540b58c5d54", func := "stagehand/stagehandlaw03.TermsMeasure", spec := "termsMeasure", unfollowed := true, recurses := true, loops := true, apart := false, narrowed := true }
def TermsMeasureUptoSaid : Prop := termsMeasureUptoRow.holds Try.pinned (OpenSpec.upto termsMeasureSpec)

/-- 'stagehandlaw03.TermsEqual', WHERE WHAT IT READS IS OF BULK AT MOST 1048576: true; the input reads as it did. -/
def termsEqualUptoRow : OpenClaim := { program := "ytgbaelkoblnlhaa", sum := "f1f7f7c4ee2112444625713c1d06eb82b30606e5c5824c7e35b28540b58c5d54", func := "stagehand/stagehandlaw03.TermsEqual", spec := "termsEqual", unfollowed := true, recurses := true, loops := true, apart := false, narrowed := true }
def TermsEqualUptoSaid : Prop := termsEqualUptoRow.holds Try.pinned (OpenSpec.upto termsEqualSpec)

/-- 'stagehandlaw03.TermsLimits', WHERE WHAT IT READS IS OF BULK AT MOST 1048576: true; the input reads as it did. -/
def termsLimitsUptoRow : OpenClaim := { program := "ytgbaelkoblnlhaa", sum := "f1f7f7c4ee2112444625713c1d06eb82b30606e5c5824c7e35b28540b58c5d54", func := "stagehand/stagehandlaw03.TermsLimits", spec := "termsLimits", unfollowed := true, recurses := true, apart := false, narrowed := true }
def TermsLimitsUptoSaid : Prop := termsLimitsUptoRow.holds Try.pinned (OpenSpec.upto termsLimitsSpec)

/-- 'stagehandlaw03.TermsGrow', WHERE WHAT IT READS IS OF BULK AT MOST 1048576: true; the input reads as it did. -/
def termsGrowUptoRow : OpenClaim := { program := "ytgbaelkoblnlhaa", sum := "f1f7f7c4ee2112444625713c1d06eb82b30606e5c5824c7e35b28540b58c5d54", func := "stagehand/stagehandlaw03.TermsGrow", spec := "termsGrow", unfollowed := true, recurses := true, loops := true, apart := false, narrowed := true }
def TermsGrowUptoSaid : Prop := termsGrowUptoRow.holds Try.pinned (OpenSpec.upto termsGrowSpec)

/-- 'stagehandlaw03.TermsMake', WHERE WHAT IT READS IS OF BULK AT MOST 1048576: true; the input reads as it did. -/
def termsMakeUptoRow : OpenClaim := { program := "ytgbaelkoblnlhaa", sum := "f1f7f7c4ee2112444625713c1d06eb82b30606e5c5824c7e35b28540b58c5d54", func := "stagehand/stagehandlaw03.TermsMake", spec := "termsMake", unfollowed := true, recurses := true, loops := true, apart := false, narrowed := true }
def TermsMakeUptoSaid : Prop := termsMakeUptoRow.holds Try.pinned (OpenSpec.upto termsMakeSpec)

/-- 'stagehandlaw03.TermsLists', WHERE WHAT IT READS IS OF BULK AT MOST 1048576: true; the input reads as it did. -/
def termsListsUptoRow : OpenClaim := { program := "ytgbaelkoblnlhaa", sum := "f1f7f7c4ee2112444625713c1d06eb82b30606e5c5824c7e35b28540b58c5d54", func := "stagehand/stagehandlaw03.TermsLists", spec := "termsLists", unfollowed := true, recurses := true, loops := true, apart := false, narrowed := true }
def TermsListsUptoSaid : Prop := termsListsUptoRow.holds Try.pinned (OpenSpec.upto termsListsSpec)

/-- 'stagehandlaw03.TermsTake', WHERE WHAT IT READS IS OF BULK AT MOST 1048576: true; the input reads as it did. -/
def termsTakeUptoRow : OpenClaim := { program := "ytgbaelkoblnlhaa", sum := "f1f7f7c4ee2112444625713c1d06eb82b30606e5c5824c7e35b28540b58c5d54", func := "stagehand/stagehandlaw03.TermsTake", spec := "termsTake", unfollowed := true, recurses := true, loops := true, apart := false, narrowed := true }
def TermsTakeUptoSaid : Prop := termsTakeUptoRow.holds Try.pinned (OpenSpec.upto termsTakeSpec)

/-- 'stagehandlaw14.MailboxKeeps', WHERE WHAT IT READS IS OF BULK AT MOST 1048576: true; the input reads as it did. -/
def mailboxKeepsUptoRow : OpenClaim := { program := "ytgbaelkoblnlhaa", sum := "f1f7f7c4ee2112444625713c1d06eb82b30606e5c5824c7e35b28540b58c5d54", func := "stagehand/stagehandlaw14.MailboxKeeps", spec := "mailboxKeeps", unfollowed := true, recurses := true, loops := true, apart := false, narrowed := true }
def MailboxKeepsUptoSaid : Prop := mailboxKeepsUptoRow.holds Try.pinned (OpenSpec.upto mailboxKeepsSpec)

/-- 'stagehandlaw14.MailboxPicks', WHERE WHAT IT READS IS OF BULK AT MOST 1048576: true; the input reads as it did. -/
def mailboxPicksUptoRow : OpenClaim := { program := "ytgbaelkoblnlhaa", sum := "f1f7f7c4ee2112444625713c1d06eb82b30606e5c5824c7e35b28540b58c5d54", func := "stagehand/stagehandlaw14.MailboxPicks", spec := "mailboxPicks", unfollowed := true, recurses := true, loops := true, apart := false, narrowed := true }
def MailboxPicksUptoSaid : Prop := mailboxPicksUptoRow.holds Try.pinned (OpenSpec.upto mailboxPicksSpec)

/-- 'stagehandlaw14.MailboxRuns', WHERE WHAT IT READS IS OF BULK AT MOST 1048576: true; the input reads as it did. -/
def mailboxRunsUptoRow : OpenClaim := { program := "ytgbaelkoblnlhaa", sum := "f1f7f7c4ee2112444625713c1d06eb82b30606e5c5824c7e35b28540b58c5d54", func := "stagehand/stagehandlaw14.MailboxRuns", spec := "mailboxRuns", unfollowed := true, recurses := true, loops := true, apart := false, narrowed := true }
def MailboxRunsUptoSaid : Prop := mailboxRunsUptoRow.holds Try.pinned (OpenSpec.upto mailboxRunsSpec)

/-- 'stagehandlaw14.MailboxNone', WHERE WHAT IT READS IS OF BULK AT MOST 1048576: true; the input reads as it did. -/
def mailboxNoneUptoRow : OpenClaim := { program := "ytgbaelkoblnlhaa", sum := "f1f7f7c4ee2112444625713c1d06eb82b30606e5c5824c7e35b28540b58c5d54", func := "stagehand/stagehandlaw14.MailboxNone", spec := "mailboxNone", unfollowed := true, recurses := true, loops := true, apart := false, narrowed := true }
def MailboxNoneUptoSaid : Prop := mailboxNoneUptoRow.holds Try.pinned (OpenSpec.upto mailboxNoneSpec)

/-- 'stagehandlaw14.MailboxWaits', WHERE WHAT IT READS IS OF BULK AT MOST 1048576: true; the input reads as it did. -/
def mailboxWaitsUptoRow : OpenClaim := { program := "ytgbaelkoblnlhaa", sum := "f1f7f7c4ee2112444625713c1d06eb82b30606e5c5824c7e35b28540b58c5d54", func := "stagehand/stagehandlaw14.MailboxWaits", spec := "mailboxWaits", unfollowed := true, recurses := true, loops := true, apart := false, narrowed := true }
def MailboxWaitsUptoSaid : Prop := mailboxWaitsUptoRow.holds Try.pinned (OpenSpec.upto mailboxWaitsSpec)

/-- 'stagehandlaw14.MailboxOnce', WHERE WHAT IT READS IS OF BULK AT MOST 1048576: true; the input reads as it did. -/
def mailboxOnceUptoRow : OpenClaim := { program := "ytgbaelkoblnlhaa", sum := "f1f7f7c4ee2112444625713c1d06eb82b30606e5c5824c7e35b28540b58c5d54", func := "stagehand/stagehandlaw14.MailboxOnce", spec := "mailboxOnce", unfollowed := true, recurses := true, loops := true, apart := false, narrowed := true }
def MailboxOnceUptoSaid : Prop := mailboxOnceUptoRow.holds Try.pinned (OpenSpec.upto mailboxOnceSpec)

end Rows
end Go.Proofs.Ytgbaelkoblnlhaa
