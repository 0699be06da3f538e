/-
  NARROWER THAN 'FOR EVERY INPUT', by the rows' own cells (each row's printed sentence says how): KeysIdeal: laid · CodecClauses: laid · CodecOne: laid · KeysFull: laid · KeysTwo: laid.
  DERIVED. THE GIVEN ROWS OF THIS SEAT. 5 by the template 'for every input the law returns true; each argument reads behind the call as it read before'; 0 by the template 'total and deterministic' (their statements: YthgebhndhilhkaaDoorTotals.lean).
  GIVEN WITH THE SEED: the statements are not yours to turn. If you find one false, say at which input.
  Laid BY PROGRAM, IN A SANDBOX (cutbox-rows.mjs): the forced cells as the released guide's own fill.sh prints them over the translation 7cf5092c6b7f17ce… (all of the seat's roots in one cut). By AI agents, Wed Nov 11 2026. No macro, syntax, notation, axiom, sorry.
-/
import Derived.Test.YthgebhndhilhkaaDoorChecked
import GoSem.Claim
import GoSem.ClaimJoined
import GoSem.ClaimMapViews
import Derived.JoinedTies
import Derived.KernelRfl
namespace Go.Proofs.YthgebhndhilhkaaDoor
/- THE CELL 'sum', in the pinned program and in every row, IS THE sha256 OF THE DUMP (.gsa) THAT YthgebhndhilhkaaDoorProg.lean LOADS. Nothing in Lean hashes anything: it is a label: what it is worth is what the hold of that sum in a sandbox is worth. -/
noncomputable def Tryd.pinned : Pinned := { name := "ythgebhndhilhkaadoor", sum := "7cf5092c6b7f17ced7d60f86d925ce23f13dd20490637d147f03b045df63230f", checked := Tryd.checked }
namespace Rows
def none {H : Type} : Left H := { results := [], args := [] }

/- WHAT THE LISTED PACKAGE-LEVEL VARIABLES READ AS WHEN THE CALL BEGINS. Each datum BY PROGRAM (the guide's laid-datum.mjs) off the statement by which the dump's own 'gosem.cut.vars' lays the variable. In a bare row this is a premise. The card (YthgebhndhilhkaaDoorCards.lean) ties it to the program's text. -/
def laid_hearsay_digest_rounds {H : Type} : DataW H := .agg [.lit (.int .u32 1116352408), .lit (.int .u32 1899447441), .lit (.int .u32 3049323471), .lit (.int .u32 3921009573), .lit (.int .u32 961987163), .lit (.int .u32 1508970993), .lit (.int .u32 2453635748), .lit (.int .u32 2870763221), .lit (.int .u32 3624381080), .lit (.int .u32 310598401), .lit (.int .u32 607225278), .lit (.int .u32 1426881987), .lit (.int .u32 1925078388), .lit (.int .u32 2162078206), .lit (.int .u32 2614888103), .lit (.int .u32 3248222580), .lit (.int .u32 3835390401), .lit (.int .u32 4022224774), .lit (.int .u32 264347078), .lit (.int .u32 604807628), .lit (.int .u32 770255983), .lit (.int .u32 1249150122), .lit (.int .u32 1555081692), .lit (.int .u32 1996064986), .lit (.int .u32 2554220882), .lit (.int .u32 2821834349), .lit (.int .u32 2952996808), .lit (.int .u32 3210313671), .lit (.int .u32 3336571891), .lit (.int .u32 3584528711), .lit (.int .u32 113926993), .lit (.int .u32 338241895), .lit (.int .u32 666307205), .lit (.int .u32 773529912), .lit (.int .u32 1294757372), .lit (.int .u32 1396182291), .lit (.int .u32 1695183700), .lit (.int .u32 1986661051), .lit (.int .u32 2177026350), .lit (.int .u32 2456956037), .lit (.int .u32 2730485921), .lit (.int .u32 2820302411), .lit (.int .u32 3259730800), .lit (.int .u32 3345764771), .lit (.int .u32 3516065817), .lit (.int .u32 3600352804), .lit (.int .u32 4094571909), .lit (.int .u32 275423344), .lit (.int .u32 430227734), .lit (.int .u32 506948616), .lit (.int .u32 659060556), .lit (.int .u32 883997877), .lit (.int .u32 958139571), .lit (.int .u32 1322822218), .lit (.int .u32 1537002063), .lit (.int .u32 1747873779), .lit (.int .u32 1955562222), .lit (.int .u32 2024104815), .lit (.int .u32 2227730452), .lit (.int .u32 2361852424), .lit (.int .u32 2428436474), .lit (.int .u32 2756734187), .lit (.int .u32 3204031479), .lit (.int .u32 3329325298)]
def laid_hearsay_digest_first {H : Type} : DataW H := .agg [.lit (.int .u32 1779033703), .lit (.int .u32 3144134277), .lit (.int .u32 1013904242), .lit (.int .u32 2773480762), .lit (.int .u32 1359893119), .lit (.int .u32 2600822924), .lit (.int .u32 528734635), .lit (.int .u32 1541459225)]
def laid_hearsay_hearsayref03_behindTerm {H : Type} : DataW H := .agg [.lit (.int .i64 901), .lit (.int .i64 902), .lit (.string [98, 101, 104, 105, 110, 100])]
def laid_hearsay_hearsayref03_behindTest {H : Type} : DataW H := .agg [.lit (.int .i64 903), .agg [.lit (.int .i64 0), .lit (.int .i64 0), .lit (.string [])], .agg [.lit (.int .i64 0), .lit (.int .i64 0), .lit (.string [])]]
def laid_hearsay_term_none {H : Type} : DataW H := .agg [.lit (.int .i64 0), .lit (.int .i64 0), .lit (.string [])]
def laid_hearsay_clause_checks {H : Type} : DataW H := .iface "func table" (.agg [.agg [.iface "func" (.lit (.string [104, 101, 97, 114, 115, 97, 121, 47, 99, 108, 97, 117, 115, 101, 46, 116, 111, 111, 76, 111, 110, 103]))], .agg [.iface "func" (.lit (.string [104, 101, 97, 114, 115, 97, 121, 47, 99, 108, 97, 117, 115, 101, 46, 98, 97, 100, 65, 116, 111, 109]))], .agg [.iface "func" (.lit (.string [104, 101, 97, 114, 115, 97, 121, 47, 99, 108, 97, 117, 115, 101, 46, 98, 97, 100, 84, 101, 115, 116]))], .agg [.iface "func" (.lit (.string [104, 101, 97, 114, 115, 97, 121, 47, 99, 108, 97, 117, 115, 101, 46, 111, 112, 101, 110, 72, 101, 97, 100]))], .agg [.iface "func" (.lit (.string [104, 101, 97, 114, 115, 97, 121, 47, 99, 108, 97, 117, 115, 101, 46, 117, 110, 115, 97, 102, 101]))], .agg [.iface "func" (.lit (.string [104, 101, 97, 114, 115, 97, 121, 47, 99, 108, 97, 117, 115, 101, 46, 109, 105, 115, 110, 117, 109, 98, 101, 114, 101, 100]))]])

/-- 'hearsaylaw18.KeysIdeal': WHATEVER THE INPUT: true; the input reads as it did. -/
def keysIdealSpec : ChangeSpec := { name := "keysIdeal", fn := fun _ => fun
  | [d1, d2, d3, d4, d5] => { results := [.lit (.bool true)], args := [d1, d2, d3, d4, d5] }
  | _ => none }
def keysIdealRow : OpenClaim := { program := "ythgebhndhilhkaadoor", sum := "7cf5092c6b7f17ced7d60f86d925ce23f13dd20490637d147f03b045df63230f", func := "hearsay/hearsaylaw18.KeysIdeal", spec := "keysIdeal", inPlace := ["(*internal/sync.Mutex).Lock", "internal/race.Disable", "sync/atomic.CompareAndSwapInt32", "internal/race.Enable", "internal/race.Acquire", "(*internal/sync.Mutex).lockSlow", "internal/sync.runtime_canSpin", "internal/sync.runtime_doSpin", "internal/sync.throw", "internal/sync.runtime_nanotime", "internal/sync.runtime_SemacquireMutex", "sync/atomic.AddInt32", "(*internal/sync.Mutex).Unlock", "internal/race.ReleaseMerge", "(*internal/sync.Mutex).unlockSlow", "internal/sync.fatal", "internal/sync.runtime_Semrelease"], named := ["hearsay/digest.first", "hearsay/digest.rounds"], plainKeys := false, apart := false, laid := [("hearsay/digest.rounds", laid_hearsay_digest_rounds), ("hearsay/digest.first", laid_hearsay_digest_first)] }
def KeysIdealSaid : Prop := keysIdealRow.holds Tryd.pinned (OpenSpec.ofChange keysIdealSpec)

/-- ITS FALSE NEIGHBOUR: 'it returns false'. Refute it at one input. -/
def keysIdealWrong : ChangeSpec := { name := "keysIdeal", fn := fun _ => fun
  | [d1, d2, d3, d4, d5] => { results := [.lit (.bool false)], args := [d1, d2, d3, d4, d5] }
  | _ => none }
def KeysIdealWrongFalsely : Prop := keysIdealRow.holds Tryd.pinned (OpenSpec.ofChange keysIdealWrong)

/-- 'hearsaylaw06.CodecClauses': WHATEVER THE INPUT: true; the input reads as it did. -/
def codecClausesSpec : ChangeSpec := { name := "codecClauses", fn := fun _ => fun
  | [d1, d2] => { results := [.lit (.bool true)], args := [d1, d2] }
  | _ => none }
def codecClausesRow : OpenClaim := { program := "ythgebhndhilhkaadoor", sum := "7cf5092c6b7f17ced7d60f86d925ce23f13dd20490637d147f03b045df63230f", func := "hearsay/hearsaylaw06.CodecClauses", spec := "codecClauses", unfollowed := true, recurses := true, named := ["hearsay/hearsayref03.behindTest", "hearsay/hearsayref03.behindTerm", "hearsay/clause.checks", "hearsay/term.none"], plainKeys := false, apart := false, laid := [("hearsay/hearsayref03.behindTerm", laid_hearsay_hearsayref03_behindTerm), ("hearsay/hearsayref03.behindTest", laid_hearsay_hearsayref03_behindTest), ("hearsay/term.none", laid_hearsay_term_none), ("hearsay/clause.checks", laid_hearsay_clause_checks)] }
def CodecClausesSaid : Prop := codecClausesRow.holds Tryd.pinned (OpenSpec.ofChange codecClausesSpec)

/-- ITS FALSE NEIGHBOUR: 'it returns false'. Refute it at one input. -/
def codecClausesWrong : ChangeSpec := { name := "codecClauses", fn := fun _ => fun
  | [d1, d2] => { results := [.lit (.bool false)], args := [d1, d2] }
  | _ => none }
def CodecClausesWrongFalsely : Prop := codecClausesRow.holds Tryd.pinned (OpenSpec.ofChange codecClausesWrong)

/-- 'hearsaylaw06.CodecOne': WHATEVER THE INPUT: true; the input reads as it did. -/
def codecOneSpec : ChangeSpec := { name := "codecOne", fn := fun _ => fun
  | [d1, d2] => { results := [.lit (.bool true)], args := [d1, d2] }
  | _ => none }
def codecOneRow : OpenClaim := { program := "ythgebhndhilhkaadoor", sum := "7cf5092c6b7f17ced7d60f86d925ce23f13dd20490637d147f03b045df63230f", func := "hearsay/hearsaylaw06.CodecOne", spec := "codecOne", unfollowed := true, recurses := true, named := ["hearsay/clause.checks", "hearsay/term.none"], plainKeys := false, apart := false, laid := [("hearsay/term.none", laid_hearsay_term_none), ("hearsay/clause.checks", laid_hearsay_clause_checks)] }
def CodecOneSaid : Prop := codecOneRow.holds Tryd.pinned (OpenSpec.ofChange codecOneSpec)

/-- ITS FALSE NEIGHBOUR: 'it returns false'. Refute it at one input. -/
def codecOneWrong : ChangeSpec := { name := "codecOne", fn := fun _ => fun
  | [d1, d2] => { results := [.lit (.bool false)], args := [d1, d2] }
  | _ => none }
def CodecOneWrongFalsely : Prop := codecOneRow.holds Tryd.pinned (OpenSpec.ofChange codecOneWrong)

/-- 'hearsaylaw18.KeysFull': WHATEVER THE INPUT: true; the input reads as it did. -/
def keysFullSpec : ChangeSpec := { name := "keysFull", fn := fun _ => fun
  | [d1, d2] => { results := [.lit (.bool true)], args := [d1, d2] }
  | _ => none }
def keysFullRow : OpenClaim := { program := "ythgebhndhilhkaadoor", sum := "7cf5092c6b7f17ced7d60f86d925ce23f13dd20490637d147f03b045df63230f", func := "hearsay/hearsaylaw18.KeysFull", spec := "keysFull", inPlace := ["(*internal/sync.Mutex).Lock", "internal/race.Disable", "sync/atomic.CompareAndSwapInt32", "internal/race.Enable", "internal/race.Acquire", "(*internal/sync.Mutex).lockSlow", "internal/sync.runtime_canSpin", "internal/sync.runtime_doSpin", "internal/sync.throw", "internal/sync.runtime_nanotime", "internal/sync.runtime_SemacquireMutex", "sync/atomic.AddInt32", "(*internal/sync.Mutex).Unlock", "internal/race.ReleaseMerge", "(*internal/sync.Mutex).unlockSlow", "internal/sync.fatal", "internal/sync.runtime_Semrelease"], recurses := true, named := ["hearsay/digest.first", "hearsay/digest.rounds"], plainKeys := false, apart := false, laid := [("hearsay/digest.rounds", laid_hearsay_digest_rounds), ("hearsay/digest.first", laid_hearsay_digest_first)] }
def KeysFullSaid : Prop := keysFullRow.holds Tryd.pinned (OpenSpec.ofChange keysFullSpec)

/-- ITS FALSE NEIGHBOUR: 'it returns false'. Refute it at one input. -/
def keysFullWrong : ChangeSpec := { name := "keysFull", fn := fun _ => fun
  | [d1, d2] => { results := [.lit (.bool false)], args := [d1, d2] }
  | _ => none }
def KeysFullWrongFalsely : Prop := keysFullRow.holds Tryd.pinned (OpenSpec.ofChange keysFullWrong)

/-- 'hearsaylaw18.KeysTwo': WHATEVER THE INPUT: true; the input reads as it did. -/
def keysTwoSpec : ChangeSpec := { name := "keysTwo", fn := fun _ => fun
  | [d1, d2, d3] => { results := [.lit (.bool true)], args := [d1, d2, d3] }
  | _ => none }
def keysTwoRow : OpenClaim := { program := "ythgebhndhilhkaadoor", sum := "7cf5092c6b7f17ced7d60f86d925ce23f13dd20490637d147f03b045df63230f", func := "hearsay/hearsaylaw18.KeysTwo", spec := "keysTwo", inPlace := ["(*internal/sync.Mutex).Lock", "internal/race.Disable", "sync/atomic.CompareAndSwapInt32", "internal/race.Enable", "internal/race.Acquire", "(*internal/sync.Mutex).lockSlow", "internal/sync.runtime_canSpin", "internal/sync.runtime_doSpin", "internal/sync.throw", "internal/sync.runtime_nanotime", "internal/sync.runtime_SemacquireMutex", "sync/atomic.AddInt32", "(*internal/sync.Mutex).Unlock", "internal/race.ReleaseMerge", "(*internal/sync.Mutex).unlockSlow", "internal/sync.fatal", "internal/sync.runtime_Semrelease", "internal/bytealg.Compare"], unfollowed := true, recurses := true, named := ["hearsay/digest.first", "hearsay/digest.rounds"], plainKeys := false, apart := false, laid := [("hearsay/digest.rounds", laid_hearsay_digest_rounds), ("hearsay/digest.first", laid_hearsay_digest_first)] }
def KeysTwoSaid : Prop := keysTwoRow.holds Tryd.pinned (OpenSpec.ofChange keysTwoSpec)

/-- ITS FALSE NEIGHBOUR: 'it returns false'. Refute it at one input. -/
def keysTwoWrong : ChangeSpec := { name := "keysTwo", fn := fun _ => fun
  | [d1, d2, d3] => { results := [.lit (.bool false)], args := [d1, d2, d3] }
  | _ => none }
def KeysTwoWrongFalsely : Prop := keysTwoRow.holds Tryd.pinned (OpenSpec.ofChange keysTwoWrong)

/- THE SECOND FORM. 'bulk': how many values and letters a reading holds, each counted each time it is reached (what is shared counts as often as it is met; a slice's spare places count too). A statement '..UptoSaid' is the law's where the arguments, and the package variables that the reading takes, are together of bulk at most 1048576: NARROWER than '..Said'. Prove '..Said' where nothing that the law and all that it calls make is longer than what came in: it says more and counts as full. Else prove '..UptoSaid'. A law counts once. -/
mutual
def uptoBulk {H : Type} : DataW H → Nat
  | .lit (.string bytes) => bytes.length + 1
  | .lit _ => 1
  | .nil => 1
  | .ptr d => uptoBulk d + 1
  | .slice elems spare => uptoBulkAll elems + uptoBulkAll spare + 1
  | .agg parts => uptoBulkAll parts + 1
  | .iface _ d => uptoBulk d + 1
  | .map entries => uptoBulkEntries entries + 1
  | .held _ => 1
def uptoBulkAll {H : Type} : List (DataW H) → Nat
  | [] => 0
  | d :: r => uptoBulk d + uptoBulkAll r
def uptoBulkEntries {H : Type} : List (Lit × DataW H) → Nat
  | [] => 0
  | x :: r => uptoBulkEntry x + uptoBulkEntries r
def uptoBulkEntry {H : Type} : Lit × DataW H → Nat
  | (.string bytes, d) => bytes.length + uptoBulk d + 1
  | (_, d) => uptoBulk d + 1
 end
def uptoSmall : (H : Type) → List (DataW H) → Bool := fun _ ds => decide (uptoBulkAll ds ≤ 1048576)
def OpenSpec.upto (s : _root_.Go.ChangeSpec) : _root_.Go.OpenSpec := { _root_.Go.OpenSpec.ofChange s with cond := some uptoSmall }

/-- 'hearsaylaw18.KeysIdeal', WHERE WHAT IT READS IS OF BULK AT MOST 1048576: true; the input reads as it did. -/
def keysIdealUptoRow : OpenClaim := { program := "ythgebhndhilhkaadoor", sum := "7cf5092c6b7f17ced7d60f86d925ce23f13dd20490637d147f03b045df63230f", func := "hearsay/hearsaylaw18.KeysIdeal", spec := "keysIdeal", inPlace := ["(*internal/sync.Mutex).Lock", "internal/race.Disable", "sync/atomic.CompareAndSwapInt32", "internal/race.Enable", "internal/race.Acquire", "(*internal/sync.Mutex).lockSlow", "internal/sync.runtime_canSpin", "internal/sync.runtime_doSpin", "internal/sync.throw", "internal/sync.runtime_nanotime", "internal/sync.runtime_SemacquireMutex", "sync/atomic.AddInt32", "(*internal/sync.Mutex).Unlock", "internal/race.ReleaseMerge", "(*internal/sync.Mutex).unlockSlow", "internal/sync.fatal", "internal/sync.runtime_Semrelease"], named := ["hearsay/digest.first", "hearsay/digest.rounds"], plainKeys := false, apart := false, laid := [("hearsay/digest.rounds", laid_hearsay_digest_rounds), ("hearsay/digest.first", laid_hearsay_digest_first)], narrowed := true }
def KeysIdealUptoSaid : Prop := keysIdealUptoRow.holds Tryd.pinned (OpenSpec.upto keysIdealSpec)

/-- 'hearsaylaw06.CodecClauses', WHERE WHAT IT READS IS OF BULK AT MOST 1048576: true; the input reads as it did. -/
def codecClausesUptoRow : OpenClaim := { program := "ythgebhndhilhkaadoor", sum := "7cf5092c6b7f17ced7d60f86d925ce23f13dd20490637d147f03b045df63230f", func := "hearsay/hearsaylaw06.CodecClauses", spec := "codecClauses", unfollowed := true, recurses := true, named := ["hearsay/hearsayref03.behindTest", "hearsay/hearsayref03.behindTerm", "hearsay/clause.checks", "hearsay/term.none"], plainKeys := false, apart := false, laid := [("hearsay/hearsayref03.behindTerm", laid_hearsay_hearsayref03_behindTerm), ("hearsay/hearsayref03.behindTest", laid_hearsay_hearsayref03_behindTest), ("hearsay/term.none", laid_hearsay_term_none), ("hearsay/clause.checks", laid_hearsay_clause_checks)], narrowed := true }
def CodecClausesUptoSaid : Prop := codecClausesUptoRow.holds Tryd.pinned (OpenSpec.upto codecClausesSpec)

/-- 'hearsaylaw06.CodecOne', WHERE WHAT IT READS IS OF BULK AT MOST 1048576: true; the input reads as it did. -/
def codecOneUptoRow : OpenClaim := { program := "ythgebhndhilhkaadoor", sum := "7cf5092c6b7f17ced7d60f86d925ce23f13dd20490637d147f03b045df63230f", func := "hearsay/hearsaylaw06.CodecOne", spec := "codecOne", unfollowed := true, recurses := true, named := ["hearsay/clause.checks", "hearsay/term.none"], plainKeys := false, apart := false, laid := [("hearsay/term.none", laid_hearsay_term_none), ("hearsay/clause.checks", laid_hearsay_clause_checks)], narrowed := true }
def CodecOneUptoSaid : Prop := codecOneUptoRow.holds Tryd.pinned (OpenSpec.upto codecOneSpec)

/-- 'hearsaylaw18.KeysFull', WHERE WHAT IT READS IS OF BULK AT MOST 1048576: true; the input reads as it did. -/
def keysFullUptoRow : OpenClaim := { program := "ythgebhndhilhkaadoor", sum := "7cf5092c6b7f17ced7d60f86d925ce23f13dd20490637d147f03b045df63230f", func := "hearsay/hearsaylaw18.KeysFull", spec := "keysFull", inPlace := ["(*internal/sync.Mutex).Lock", "internal/race.Disable", "sync/atomic.CompareAndSwapInt32", "internal/race.Enable", "internal/race.Acquire", "(*internal/sync.Mutex).lockSlow", "internal/sync.runtime_canSpin", "internal/sync.runtime_doSpin", "internal/sync.throw", "internal/sync.runtime_nanotime", "internal/sync.runtime_SemacquireMutex", "sync/atomic.AddInt32", "(*internal/sync.Mutex).Unlock", "internal/race.ReleaseMerge", "(*internal/sync.Mutex).unlockSlow", "internal/sync.fatal", "internal/sync.runtime_Semrelease"], recurses := true, named := ["hearsay/digest.first", "hearsay/digest.rounds"], plainKeys := false, apart := false, laid := [("hearsay/digest.rounds", laid_hearsay_digest_rounds), ("hearsay/digest.first", laid_hearsay_digest_first)], narrowed := true }
def KeysFullUptoSaid : Prop := keysFullUptoRow.holds Tryd.pinned (OpenSpec.upto keysFullSpec)

/-- 'hearsaylaw18.KeysTwo', WHERE WHAT IT READS IS OF BULK AT MOST 1048576: true; the input reads as it did. -/
def keysTwoUptoRow : OpenClaim := { program := "ythgebhndhilhkaadoor", sum := "7cf5092c6b7f17ced7d60f86d925ce23f13dd20490637d147f03b045df63230f", func := "hearsay/hearsaylaw18.KeysTwo", spec := "keysTwo", inPlace := ["(*internal/sync.Mutex).Lock", "internal/race.Disable", "sync/atomic.CompareAndSwapInt32", "internal/race.Enable", "internal/race.Acquire", "(*internal/sync.Mutex).lockSlow", "internal/sync.runtime_canSpin", "internal/sync.runtime_doSpin", "internal/sync.throw", "internal/sync.runtime_nanotime", "internal/sync.runtime_SemacquireMutex", "sync/atomic.AddInt32", "(*internal/sync.Mutex).Unlock", "internal/race.ReleaseMerge", "(*internal/sync.Mutex).unlockSlow", "internal/sync.fatal", "internal/sync.runtime_Semrelease", "internal/bytealg.Compare"], unfollowed := true, recurses := true, named := ["hearsay/digest.first", "hearsay/digest.rounds"], plainKeys := false, apart := false, laid := [("hearsay/digest.rounds", laid_hearsay_digest_rounds), ("hearsay/digest.first", laid_hearsay_digest_first)], narrowed := true }
def KeysTwoUptoSaid : Prop := keysTwoUptoRow.holds Tryd.pinned (OpenSpec.upto keysTwoSpec)

end Rows
end Go.Proofs.YthgebhndhilhkaaDoor
