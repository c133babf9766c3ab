/-
  What functions of this program compute, as equations about the evaluator. No condition but those stated.
-/
import Derived.Test.YtknoiemnpllapaaGreatHints
import Derived.Test.YtknoiemnpllapaaGreatFacts

set_option linter.all false
section
namespace Go.Proofs.YtknoiemnpllapaaGreat
open Go Go.PS
def tb0 : List UInt8 := ((List.replicate 16384 0))
def tb1 : List UInt8 := (List.append [1, 1, 60, 0, 8, 1, 1] ((List.replicate 57 0)))
def tb2 : List UInt8 := (List.append [1, 1, 60, 0, 8, 1, 1] (List.append (List.replicate 53 0) [60, 0, 0, 0]))
noncomputable def nd0 : PS.Node := (.cells [(.int Go.IntKind.i64 (0)), (.str [67, 1, 20, 0, 2, 0, 0, 0, 4, 0, 1, 4, 0, 20, 0, 1, 1, 4, 0, 12, 0, 1, 128, 0, 64, 0, 1, 0, 0, 2, 2, 0, 6, 0, 0, 0]), (.int Go.IntKind.i64 (36))])
noncomputable def nd1 : PS.Node := (.cells (List.append [.nilp, .nilp, .nilp, .nilp, .nilp, (.int Go.IntKind.i64 (0))] (List.append (List.replicate 9 .nilp) ((List.replicate 9 (.sl (.mu 0) 0 []))))))
noncomputable def nd2 : PS.Node := (.cells [(.sl (.mu 1) 16384 ((List.replicate 16384 (.int Go.IntKind.u8 (0)))))])
noncomputable def nd4 : PS.Node := (.map [(.int Go.IntKind.i64 (1))] [(.ptr (.heap 6) none 0)])
noncomputable def nd5 : PS.Node := (.cells [(.mp 3), (.sl (.mu 0) 0 [])])
noncomputable def nd6 : PS.Node := (.cells [(.sl (.mu 0) 0 []), (.int Go.IntKind.i64 (0)), (.int Go.IntKind.i64 (0)), (.int Go.IntKind.i64 (2)), (.int Go.IntKind.i64 (0))])
noncomputable def nd7 : PS.Node := (.cells [(.int Go.IntKind.i64 (1)), (.int Go.IntKind.i64 (6)), (.int Go.IntKind.i64 (2)), (.ptr (.heap 5) none 0), (.int Go.IntKind.i64 (0))])
noncomputable def nd8 : PS.Node := (.map [(.int Go.IntKind.i64 (1))] [(.ptr (.heap 10) none 0)])
noncomputable def nd9 : PS.Node := (.cells [(.mp 7), (.int Go.IntKind.i64 (0)), (.sl (.mu 0) 0 [])])
noncomputable def nd10 : PS.Node := (.cells [(.int Go.IntKind.i64 (1)), (.int Go.IntKind.i64 (0)), (.int Go.IntKind.i64 (2)), (.ptr (.heap 9) none 0)])
noncomputable def nd12 : PS.Node := (.cells [(.int Go.IntKind.i64 (0)), (.int Go.IntKind.i64 (0))])
noncomputable def nd13 : PS.Node := (.map [(.int Go.IntKind.i64 (1))] [(.agg [(.int Go.IntKind.i64 (1)), (.int Go.IntKind.i64 (128)), (.int Go.IntKind.i64 (64))])])
noncomputable def nd14 : PS.Node := (.cells [(.mp 13)])
noncomputable def nd15 : PS.Node := (.cells (List.append [(.ptr (.heap 2) none 0), (.ptr (.heap 14) none 0), (.sl (.mu 0) 0 [])] ((List.replicate 18 (.int Go.IntKind.i64 (0))))))
noncomputable def nd16 : PS.Node := (.cells [(.ptr (.heap 4) none 0), (.ptr (.heap 8) none 0), (.ptr (.heap 11) none 0), (.ptr (.heap 15) none 0)])
noncomputable def nd18 : PS.Node := (.cells (List.append [(.int Go.IntKind.i64 (20)), (.sl (.mu 0) 0 []), (.sl (.mu 0) 0 []), (.sl (.mu 10) 1 [(.int Go.IntKind.i64 (128)), (.int Go.IntKind.i64 (64)), (.int Go.IntKind.i64 (1)), (.int Go.IntKind.i64 (0)), (.int Go.IntKind.i64 (2)), (.int Go.IntKind.i64 (2)), (.int Go.IntKind.i64 (0)), (.int Go.IntKind.i64 (6)), (.int Go.IntKind.i64 (0)), (.int Go.IntKind.i64 (0))]), (.int Go.IntKind.i64 (0)), (.int Go.IntKind.i64 (4)), (.int Go.IntKind.i64 (4)), (.int Go.IntKind.i64 (20))] (List.append (List.replicate 14 (.int Go.IntKind.i64 (0))) [(.ptr (.heap 18) none 0), (.ptr (.heap 21) none 0)])))
noncomputable def nd19 : PS.Node := (.cells [(.int Go.IntKind.i64 (20)), (.sl (.mu 3) 1 [(.int Go.IntKind.i64 (1)), (.int Go.IntKind.i64 (4)), (.int Go.IntKind.i64 (12))])])
noncomputable def nd20 : PS.Node := (.cells [(.int Go.IntKind.i64 (1)), (.int Go.IntKind.i64 (4)), (.int Go.IntKind.i64 (12))])
noncomputable def nd21 : PS.Node := (.cells [(.mp 20)])
noncomputable def nd23 : PS.Node := (.cells (List.append [(.ptr (.heap 17) none 0), (.ptr (.heap 2) none 0), (.ptr (.heap 16) none 0), (.ptr (.heap 25) none 0)] (List.append (List.replicate 10 (.int Go.IntKind.i64 (0))) (List.append [.nilp, (.int Go.IntKind.i64 (0)), (.int Go.IntKind.i64 (0)), (.bool false), (.int Go.IntKind.i64 (128)), (.int Go.IntKind.i64 (64)), (.int Go.IntKind.i64 (1)), (.int Go.IntKind.i64 (0)), (.int Go.IntKind.i64 (2)), (.int Go.IntKind.i64 (2)), (.int Go.IntKind.i64 (0)), (.int Go.IntKind.i64 (6)), (.int Go.IntKind.i64 (0)), (.int Go.IntKind.i64 (0)), (.ptr (.heap 24) none 0), (.int Go.IntKind.i64 (0)), (.int Go.IntKind.i64 (0)), (.bool false)] (List.append (List.replicate 10 (.int Go.IntKind.i64 (0))) (List.append [.nilp, (.int Go.IntKind.i64 (0)), (.int Go.IntKind.i64 (0)), (.bool false)] (List.append (List.replicate 10 (.int Go.IntKind.i64 (0))) (List.append [.nilp, (.int Go.IntKind.i64 (0)), (.int Go.IntKind.i64 (0)), (.bool false)] (List.append (List.replicate 10 (.int Go.IntKind.i64 (0))) (List.append [.nilp, (.int Go.IntKind.i64 (0)), (.int Go.IntKind.i64 (0)), (.bool false)] (List.append (List.replicate 10 (.int Go.IntKind.i64 (0))) (List.append [.nilp, (.int Go.IntKind.i64 (0)), (.int Go.IntKind.i64 (0)), (.bool false)] (List.append (List.replicate 10 (.int Go.IntKind.i64 (0))) (List.append [.nilp, (.int Go.IntKind.i64 (0)), (.int Go.IntKind.i64 (0)), (.bool false)] (List.append (List.replicate 10 (.int Go.IntKind.i64 (0))) (List.append [.nilp, (.int Go.IntKind.i64 (0)), (.int Go.IntKind.i64 (0)), (.bool false)] (List.append (List.replicate 10 (.int Go.IntKind.i64 (0))) [.nilp, (.int Go.IntKind.i64 (0)), (.int Go.IntKind.i64 (0)), (.bool false)])))))))))))))))))
noncomputable def nd24 : PS.Node := (.cells [(.sl (.mu 0) 0 []), (.int Go.IntKind.i64 (0)), (.int Go.IntKind.i64 (0)), (.int Go.IntKind.i64 (1)), (.int Go.IntKind.i64 (0))])
noncomputable def nd25 : PS.Node := (.cells [(.ptr (.heap 23) none 0), (.sl (.mu 0) 0 [])])
noncomputable def nd26 : PS.Node := (.cells (List.append [(.int Go.IntKind.i64 (20)), (.int Go.IntKind.i64 (1)), (.int Go.IntKind.i64 (0)), (.int Go.IntKind.i64 (2))] ((List.replicate 31 (.int Go.IntKind.i64 (0))))))
noncomputable def nd28 : PS.Node := (.cells (List.append (List.replicate 16 (.int Go.IntKind.i64 (0))) [(.int Go.IntKind.i64 (1))]))
noncomputable def nd30 : PS.Node := (.cells [(.sl (.mu 1) 16384 (splice (List.flatten (List.replicate 16384 [(.int Go.IntKind.u8 (0))])) 128 [(.int Go.IntKind.u8 (1)), (.int Go.IntKind.u8 (1)), (.int Go.IntKind.u8 (60)), (.int Go.IntKind.u8 (0)), (.int Go.IntKind.u8 (8)), (.int Go.IntKind.u8 (1)), (.int Go.IntKind.u8 (1)), (.int Go.IntKind.u8 (0))]))])
noncomputable def nd31 : PS.Node := (.cells (List.append [(.ptr (.heap 2) none 0), (.int Go.IntKind.i64 (128)), (.int Go.IntKind.i64 (64)), (.int Go.IntKind.i64 (1))] ((List.replicate 10 (.int Go.IntKind.i64 (0))))))
noncomputable def nd32 : PS.Node := (.cells (List.append [(.ptr (.heap 2) none 0), (.ptr (.heap 16) none 0), (.ptr (.heap 22) none 0), (.ptr (.heap 26) none 0), (.ptr (.heap 17) none 0), (.int Go.IntKind.i64 (0)), .nilp, (.ptr (.heap 27) none 0), .nilp, .nilp, .nilp, .nilp, .nilp, .nilp, .nilp] ((List.replicate 9 (.sl (.mu 0) 0 [])))))
noncomputable def nd33 : PS.Node := (.cells (List.append [(.ptr (.heap 2) none 0), (.ptr (.heap 16) none 0), (.ptr (.heap 22) none 0), (.ptr (.heap 26) none 0), (.ptr (.heap 17) none 0), (.int Go.IntKind.i64 (1)), .nilp, (.ptr (.heap 27) none 0), .nilp, .nilp, .nilp, .nilp, .nilp, .nilp, .nilp] ((List.replicate 9 (.sl (.mu 0) 0 [])))))
noncomputable def nd34 : PS.Node := (.cells [(.ptr (.heap 23) none 0), (.sl (.mu 9) 0 [])])
noncomputable def nd35 : PS.Node := (.cells [(.sl (.ow 0) 0 [])])
noncomputable def nd36 : PS.Node := (.cells (List.append [(.ptr (.heap 2) none 0), (.ptr (.heap 16) none 0), (.ptr (.heap 22) none 0), (.ptr (.heap 26) none 0), (.ptr (.heap 17) none 0), (.int Go.IntKind.i64 (2)), .nilp, (.ptr (.heap 27) none 0), .nilp, .nilp, .nilp, .nilp, .nilp, .nilp, .nilp] ((List.replicate 9 (.sl (.mu 0) 0 [])))))
noncomputable def nd37 : PS.Node := (.cells (List.append [(.ptr (.heap 17) none 0), (.ptr (.heap 2) none 0), (.ptr (.heap 16) none 0), (.ptr (.heap 25) none 0)] (List.append (List.replicate 10 (.int Go.IntKind.i64 (0))) (List.append [.nilp, (.int Go.IntKind.i64 (0)), (.int Go.IntKind.i64 (0)), (.bool false), (.int Go.IntKind.i64 (128)), (.int Go.IntKind.i64 (64)), (.int Go.IntKind.i64 (1)), (.int Go.IntKind.i64 (0)), (.int Go.IntKind.i64 (2)), (.int Go.IntKind.i64 (2)), (.int Go.IntKind.i64 (0)), (.int Go.IntKind.i64 (6)), (.int Go.IntKind.i64 (0)), (.int Go.IntKind.i64 (0)), (.ptr (.heap 24) none 0), (.int Go.IntKind.i64 (1)), (.int Go.IntKind.i64 (0)), (.bool false)] (List.append (List.replicate 10 (.int Go.IntKind.i64 (0))) (List.append [.nilp, (.int Go.IntKind.i64 (0)), (.int Go.IntKind.i64 (0)), (.bool false)] (List.append (List.replicate 10 (.int Go.IntKind.i64 (0))) (List.append [.nilp, (.int Go.IntKind.i64 (0)), (.int Go.IntKind.i64 (0)), (.bool false)] (List.append (List.replicate 10 (.int Go.IntKind.i64 (0))) (List.append [.nilp, (.int Go.IntKind.i64 (0)), (.int Go.IntKind.i64 (0)), (.bool false)] (List.append (List.replicate 10 (.int Go.IntKind.i64 (0))) (List.append [.nilp, (.int Go.IntKind.i64 (0)), (.int Go.IntKind.i64 (0)), (.bool false)] (List.append (List.replicate 10 (.int Go.IntKind.i64 (0))) (List.append [.nilp, (.int Go.IntKind.i64 (0)), (.int Go.IntKind.i64 (0)), (.bool false)] (List.append (List.replicate 10 (.int Go.IntKind.i64 (0))) (List.append [.nilp, (.int Go.IntKind.i64 (0)), (.int Go.IntKind.i64 (0)), (.bool false)] (List.append (List.replicate 10 (.int Go.IntKind.i64 (0))) [.nilp, (.int Go.IntKind.i64 (0)), (.int Go.IntKind.i64 (0)), (.bool false)])))))))))))))))))
noncomputable def nd38 : PS.Node := (.cells [(.sl (.mu 7) 1 [(.int Go.IntKind.i64 (0)), (.int Go.IntKind.u8 (60)), (.int Go.IntKind.u8 (0)), (.int Go.IntKind.i64 (264)), (.int Go.IntKind.i64 (1)), (.int Go.IntKind.i64 (0)), (.bool true)]), (.int Go.IntKind.i64 (0)), (.int Go.IntKind.i64 (1)), (.int Go.IntKind.i64 (1)), (.int Go.IntKind.i64 (0))])
noncomputable def nd39 : PS.Node := (.cells [(.int Go.IntKind.i64 (0)), (.str [60, 0, 8, 1, 1, 0, 0, 0]), (.int Go.IntKind.i64 (8))])
noncomputable def nd40 : PS.Node := (.cells (List.append [(.ptr (.heap 2) none 0), (.ptr (.heap 16) none 0), (.ptr (.heap 22) none 0), (.ptr (.heap 26) none 0), (.ptr (.heap 17) none 0), (.int Go.IntKind.i64 (3)), .nilp, (.ptr (.heap 27) none 0), .nilp, .nilp, .nilp, .nilp, .nilp, .nilp, .nilp] ((List.replicate 9 (.sl (.mu 0) 0 [])))))
noncomputable def nd41 : PS.Node := (.cells (List.append [(.ptr (.heap 2) none 0), (.ptr (.heap 16) none 0), (.ptr (.heap 22) none 0), (.ptr (.heap 26) none 0), (.ptr (.heap 17) none 0), (.int Go.IntKind.i64 (4)), .nilp, (.ptr (.heap 27) none 0), .nilp, .nilp, .nilp, .nilp, .nilp, .nilp, .nilp] ((List.replicate 9 (.sl (.mu 0) 0 [])))))
noncomputable def nd42 : PS.Node := (.cells [(.ptr (.heap 2) none 0), (.ptr (.heap 16) none 0), (.ptr (.heap 22) none 0), (.ptr (.heap 26) none 0), (.ptr (.heap 17) none 0), (.int Go.IntKind.i64 (5)), .nilp, (.ptr (.heap 27) none 0), .nilp, .nilp, .nilp, .nilp, .nilp, .nilp, .nilp, (.sl (.mu 0) 0 []), (.sl (.mu 6) 1 [(.int Go.IntKind.i64 (4)), (.int Go.IntKind.u8 (1)), (.int Go.IntKind.i64 (0)), (.int Go.IntKind.i64 (0)), (.int Go.IntKind.i64 (0)), (.str tb1)]), (.sl (.mu 0) 0 []), (.sl (.mu 0) 0 []), (.sl (.mu 0) 0 []), (.sl (.mu 0) 0 []), (.sl (.mu 0) 0 []), (.sl (.mu 0) 0 []), (.sl (.mu 0) 0 [])])
noncomputable def nd43 : PS.Node := (.cells [(.sl (.mu 7) 1 [(.int Go.IntKind.i64 (0)), (.int Go.IntKind.u8 (0)), (.int Go.IntKind.u8 (0)), (.int Go.IntKind.i64 (0)), (.int Go.IntKind.i64 (0)), (.int Go.IntKind.i64 (0)), (.bool false)]), (.int Go.IntKind.i64 (0)), (.int Go.IntKind.i64 (0)), (.int Go.IntKind.i64 (1)), (.int Go.IntKind.i64 (0))])
noncomputable def nd44 : PS.Node := (.cells [(.ptr (.heap 23) none 0), (.sl (.mu 9) 1 [(.int Go.IntKind.i64 (0)), (.int Go.IntKind.u8 (60)), (.int Go.IntKind.u8 (0)), (.int Go.IntKind.i64 (264)), (.int Go.IntKind.i64 (1)), (.int Go.IntKind.i64 (0)), (.bool true), (.int Go.IntKind.i64 (2)), (.int Go.IntKind.i64 (0))])])
noncomputable def nd45 : PS.Node := (.cells [(.ptr (.heap 2) none 0), (.int Go.IntKind.i64 (128)), (.int Go.IntKind.i64 (64)), (.int Go.IntKind.i64 (1)), (.int Go.IntKind.i64 (4)), (.int Go.IntKind.i64 (0)), (.int Go.IntKind.i64 (60)), (.int Go.IntKind.i64 (0)), (.int Go.IntKind.i64 (0)), (.int Go.IntKind.i64 (0)), (.int Go.IntKind.i64 (0)), (.int Go.IntKind.i64 (0)), (.int Go.IntKind.i64 (0)), (.int Go.IntKind.i64 (0))])
noncomputable def nd46 : PS.Node := (.cells [(.int Go.IntKind.i64 (4)), (.int Go.IntKind.i64 (0)), (.int Go.IntKind.i64 (60)), (.int Go.IntKind.i64 (0)), (.int Go.IntKind.i64 (0)), (.int Go.IntKind.i64 (0)), (.int Go.IntKind.i64 (0)), (.int Go.IntKind.i64 (0)), (.int Go.IntKind.i64 (0)), (.int Go.IntKind.i64 (0))])
noncomputable def nd47 : PS.Node := (.cells [(.int Go.IntKind.i64 (0)), (.str [1, 1, 60, 0]), (.int Go.IntKind.i64 (4))])
noncomputable def nd48 : PS.Node := (.cells [(.ptr (.heap 2) none 0), (.ptr (.heap 16) none 0), (.ptr (.heap 22) none 0), (.ptr (.heap 26) none 0), (.ptr (.heap 17) none 0), (.int Go.IntKind.i64 (6)), .nilp, (.ptr (.heap 27) none 0), .nilp, .nilp, .nilp, .nilp, .nilp, .nilp, .nilp, (.sl (.mu 0) 0 []), (.sl (.mu 6) 1 [(.int Go.IntKind.i64 (4)), (.int Go.IntKind.u8 (1)), (.int Go.IntKind.i64 (0)), (.int Go.IntKind.i64 (0)), (.int Go.IntKind.i64 (0)), (.str tb1)]), (.sl (.mu 0) 0 []), (.sl (.mu 0) 0 []), (.sl (.mu 0) 0 []), (.sl (.mu 0) 0 []), (.sl (.mu 0) 0 []), (.sl (.mu 0) 0 []), (.sl (.mu 0) 0 [])])
noncomputable def nd49 : PS.Node := (.cells [(.sl (.mu 1) 16384 (splice (splice (List.flatten (List.replicate 16384 [(.int Go.IntKind.u8 (0))])) 128 [(.int Go.IntKind.u8 (1)), (.int Go.IntKind.u8 (1)), (.int Go.IntKind.u8 (60)), (.int Go.IntKind.u8 (0)), (.int Go.IntKind.u8 (8)), (.int Go.IntKind.u8 (1)), (.int Go.IntKind.u8 (1)), (.int Go.IntKind.u8 (0))]) 188 [(.int Go.IntKind.u8 (60))]))])
noncomputable def nd50 : PS.Node := (.cells [(.ptr (.heap 2) none 0), (.int Go.IntKind.i64 (128)), (.int Go.IntKind.i64 (64)), (.int Go.IntKind.i64 (1)), (.int Go.IntKind.i64 (8)), (.int Go.IntKind.i64 (0)), (.int Go.IntKind.i64 (60)), (.int Go.IntKind.i64 (0)), (.int Go.IntKind.i64 (0)), (.int Go.IntKind.i64 (0)), (.int Go.IntKind.i64 (0)), (.int Go.IntKind.i64 (0)), (.int Go.IntKind.i64 (0)), (.int Go.IntKind.i64 (0))])
noncomputable def nd51 : PS.Node := (.cells [(.int Go.IntKind.i64 (8)), (.int Go.IntKind.i64 (0)), (.int Go.IntKind.i64 (60)), (.int Go.IntKind.i64 (0)), (.int Go.IntKind.i64 (0)), (.int Go.IntKind.i64 (0)), (.int Go.IntKind.i64 (0)), (.int Go.IntKind.i64 (0)), (.int Go.IntKind.i64 (0)), (.int Go.IntKind.i64 (0))])
noncomputable def nd52 : PS.Node := (.cells [(.int Go.IntKind.i64 (0)), (.str [8, 1, 1, 0]), (.int Go.IntKind.i64 (4))])
noncomputable def nd53 : PS.Node := (.cells [(.ptr (.heap 2) none 0), (.ptr (.heap 16) none 0), (.ptr (.heap 22) none 0), (.ptr (.heap 26) none 0), (.ptr (.heap 17) none 0), (.int Go.IntKind.i64 (7)), .nilp, (.ptr (.heap 27) none 0), .nilp, .nilp, .nilp, .nilp, .nilp, .nilp, .nilp, (.sl (.mu 0) 0 []), (.sl (.mu 6) 2 [(.int Go.IntKind.i64 (4)), (.int Go.IntKind.u8 (1)), (.int Go.IntKind.i64 (0)), (.int Go.IntKind.i64 (0)), (.int Go.IntKind.i64 (0)), (.str tb1), (.int Go.IntKind.i64 (6)), (.int Go.IntKind.u8 (4)), (.int Go.IntKind.i64 (0)), (.int Go.IntKind.i64 (0)), (.int Go.IntKind.i64 (0)), (.str [])]), (.sl (.mu 0) 0 []), (.sl (.mu 0) 0 []), (.sl (.mu 0) 0 []), (.sl (.mu 0) 0 []), (.sl (.mu 0) 0 []), (.sl (.mu 0) 0 []), (.sl (.mu 0) 0 [])])
noncomputable def nd54 : PS.Node := (.cells [(.ptr (.heap 2) none 0), (.int Go.IntKind.i64 (128)), (.int Go.IntKind.i64 (64)), (.int Go.IntKind.i64 (1)), (.int Go.IntKind.i64 (8)), (.int Go.IntKind.i64 (0)), (.int Go.IntKind.i64 (60)), (.int Go.IntKind.i64 (0)), (.int Go.IntKind.i64 (0)), (.int Go.IntKind.i64 (0)), (.int Go.IntKind.i64 (0)), (.int Go.IntKind.i64 (0)), (.int Go.IntKind.i64 (0)), (.int Go.IntKind.i64 (2))])
noncomputable def nd55 : PS.Node := (.cells [(.int Go.IntKind.i64 (8)), (.int Go.IntKind.i64 (0)), (.int Go.IntKind.i64 (60)), (.int Go.IntKind.i64 (0)), (.int Go.IntKind.i64 (0)), (.int Go.IntKind.i64 (0)), (.int Go.IntKind.i64 (0)), (.int Go.IntKind.i64 (0)), (.int Go.IntKind.i64 (0)), (.int Go.IntKind.i64 (2))])
noncomputable def nd56 : PS.Node := (.cells [(.int Go.IntKind.i64 (0)), (.str [0, 0, 0, 0]), (.int Go.IntKind.i64 (4))])
noncomputable def nd57 : PS.Node := (.cells [(.ptr (.heap 2) none 0), (.ptr (.heap 16) none 0), (.ptr (.heap 22) none 0), (.ptr (.heap 26) none 0), (.ptr (.heap 17) none 0), (.int Go.IntKind.i64 (8)), .nilp, (.ptr (.heap 27) none 0), .nilp, .nilp, .nilp, .nilp, .nilp, .nilp, .nilp, (.sl (.mu 0) 0 []), (.sl (.mu 6) 2 [(.int Go.IntKind.i64 (4)), (.int Go.IntKind.u8 (1)), (.int Go.IntKind.i64 (0)), (.int Go.IntKind.i64 (0)), (.int Go.IntKind.i64 (0)), (.str tb1), (.int Go.IntKind.i64 (6)), (.int Go.IntKind.u8 (4)), (.int Go.IntKind.i64 (0)), (.int Go.IntKind.i64 (0)), (.int Go.IntKind.i64 (0)), (.str [])]), (.sl (.mu 0) 0 []), (.sl (.mu 0) 0 []), (.sl (.mu 0) 0 []), (.sl (.mu 0) 0 []), (.sl (.mu 0) 0 []), (.sl (.mu 0) 0 []), (.sl (.mu 0) 0 [])])
noncomputable def nd58 : PS.Node := (.cells [(.ptr (.heap 2) none 0), (.ptr (.heap 16) none 0), (.ptr (.heap 22) none 0), (.ptr (.heap 26) none 0), (.ptr (.heap 17) none 0), (.int Go.IntKind.i64 (9)), .nilp, (.ptr (.heap 27) none 0), .nilp, .nilp, .nilp, .nilp, .nilp, .nilp, .nilp, (.sl (.mu 0) 0 []), (.sl (.mu 6) 2 [(.int Go.IntKind.i64 (4)), (.int Go.IntKind.u8 (1)), (.int Go.IntKind.i64 (0)), (.int Go.IntKind.i64 (0)), (.int Go.IntKind.i64 (0)), (.str tb1), (.int Go.IntKind.i64 (6)), (.int Go.IntKind.u8 (4)), (.int Go.IntKind.i64 (0)), (.int Go.IntKind.i64 (0)), (.int Go.IntKind.i64 (0)), (.str [])]), (.sl (.mu 0) 0 []), (.sl (.mu 0) 0 []), (.sl (.mu 0) 0 []), (.sl (.mu 0) 0 []), (.sl (.mu 0) 0 []), (.sl (.mu 0) 0 []), (.sl (.mu 0) 0 [])])
noncomputable def hp0 : Heap := [nd0]
noncomputable def hp1 : Heap := [nd0, nd1]
noncomputable def hp2 : Heap := [nd0, nd1, nd2]
noncomputable def E38 : Option (PV × Heap × Bool) := evalCall Tryz.prog hints0 200 38 [(.str [67, 1, 20, 0, 2, 0, 0, 0, 4, 0, 1, 4, 0, 20, 0, 1, 1, 4, 0, 12, 0, 1, 128, 0, 64, 0, 1, 0, 0, 2, 2, 0, 6, 0, 0, 0, 186, 46]), (.sl .sh 1 [(.str [1, 1, 60, 0, 8, 1, 1, 0])])] []
noncomputable def hole (E : Option (PV × Heap × Bool)) (k : Nat) : PS.Node := match E with | some x => x.2.1.getD k (.cells []) | none => .cells []
noncomputable def nd11 : PS.Node := hole E38 11
noncomputable def hp13 : Heap := [nd0, nd32, nd30, nd4, nd5, nd6, nd7, nd8, nd9, nd6, nd10, nd11, nd12, nd13, nd14, nd15, nd16, nd18, nd19, nd20, nd13, nd21, nd23, nd24, nd25, nd26, nd28, nd31]
noncomputable def hp14 : Heap := [nd0, nd32, nd30, nd4, nd5, nd6, nd7, nd8, nd9, nd6, nd10, nd11, nd12, nd13, nd14, nd15, nd16, nd18, nd19, nd20, nd13, nd21, nd23, nd24, nd25, nd26, nd28, nd31, nd30]
noncomputable def hp15 : Heap := [nd0, nd33, nd30, nd4, nd5, nd6, nd7, nd8, nd9, nd6, nd10, nd11, nd12, nd13, nd14, nd15, nd16, nd18, nd19, nd20, nd13, nd21, nd23, nd24, nd34, nd26, nd28, nd31, nd30, nd35]
noncomputable def hp16 : Heap := [nd0, nd33, nd30, nd4, nd5, nd6, nd7, nd8, nd9, nd6, nd10, nd11, nd12, nd13, nd14, nd15, nd16, nd18, nd19, nd20, nd13, nd21, nd23, nd24, nd34, nd26, nd28, nd31, nd30, nd35, nd30]
noncomputable def hp17 : Heap := [nd0, nd36, nd30, nd4, nd5, nd6, nd7, nd8, nd9, nd6, nd10, nd11, nd12, nd13, nd14, nd15, nd16, nd18, nd19, nd20, nd13, nd21, nd37, nd38, nd34, nd26, nd28, nd31, nd30, nd35, nd30, nd35, nd39]
noncomputable def hp18 : Heap := [nd0, nd36, nd30, nd4, nd5, nd6, nd7, nd8, nd9, nd6, nd10, nd11, nd12, nd13, nd14, nd15, nd16, nd18, nd19, nd20, nd13, nd21, nd37, nd38, nd34, nd26, nd28, nd31, nd30, nd35, nd30, nd35, nd39, nd30]
noncomputable def hp19 : Heap := [nd0, nd40, nd30, nd4, nd5, nd6, nd7, nd8, nd9, nd6, nd10, nd11, nd12, nd13, nd14, nd15, nd16, nd18, nd19, nd20, nd13, nd21, nd37, nd38, nd34, nd26, nd28, nd31, nd30, nd35, nd30, nd35, nd39, nd30]
noncomputable def hp20 : Heap := [nd0, nd40, nd30, nd4, nd5, nd6, nd7, nd8, nd9, nd6, nd10, nd11, nd12, nd13, nd14, nd15, nd16, nd18, nd19, nd20, nd13, nd21, nd37, nd38, nd34, nd26, nd28, nd31, nd30, nd35, nd30, nd35, nd39, nd30, nd30]
noncomputable def hp21 : Heap := [nd0, nd41, nd30, nd4, nd5, nd6, nd7, nd8, nd9, nd6, nd10, nd11, nd12, nd13, nd14, nd15, nd16, nd18, nd19, nd20, nd13, nd21, nd37, nd38, nd34, nd26, nd28, nd31, nd30, nd35, nd30, nd35, nd39, nd30, nd30]
noncomputable def hp22 : Heap := [nd0, nd41, nd30, nd4, nd5, nd6, nd7, nd8, nd9, nd6, nd10, nd11, nd12, nd13, nd14, nd15, nd16, nd18, nd19, nd20, nd13, nd21, nd37, nd38, nd34, nd26, nd28, nd31, nd30, nd35, nd30, nd35, nd39, nd30, nd30, nd30]
noncomputable def hp23 : Heap := [nd0, nd42, nd30, nd4, nd5, nd6, nd7, nd8, nd9, nd6, nd10, nd11, nd12, nd13, nd14, nd15, nd16, nd18, nd19, nd20, nd13, nd21, nd37, nd43, nd44, nd26, nd28, nd45, nd30, nd35, nd30, nd35, nd39, nd30, nd30, nd30, nd35, nd46, nd47]
noncomputable def hp24 : Heap := [nd0, nd42, nd30, nd4, nd5, nd6, nd7, nd8, nd9, nd6, nd10, nd11, nd12, nd13, nd14, nd15, nd16, nd18, nd19, nd20, nd13, nd21, nd37, nd43, nd44, nd26, nd28, nd45, nd30, nd35, nd30, nd35, nd39, nd30, nd30, nd30, nd35, nd46, nd47, nd30]
noncomputable def hp25 : Heap := [nd0, nd48, nd49, nd4, nd5, nd6, nd7, nd8, nd9, nd6, nd10, nd11, nd12, nd13, nd14, nd15, nd16, nd18, nd19, nd20, nd13, nd21, nd37, nd43, nd44, nd26, nd28, nd50, nd30, nd35, nd30, nd35, nd39, nd30, nd30, nd30, nd35, nd46, nd47, nd30, nd51, nd52]
noncomputable def hp26 : Heap := [nd0, nd48, nd49, nd4, nd5, nd6, nd7, nd8, nd9, nd6, nd10, nd11, nd12, nd13, nd14, nd15, nd16, nd18, nd19, nd20, nd13, nd21, nd37, nd43, nd44, nd26, nd28, nd50, nd30, nd35, nd30, nd35, nd39, nd30, nd30, nd30, nd35, nd46, nd47, nd30, nd51, nd52, nd49]
noncomputable def hp27 : Heap := [nd0, nd53, nd49, nd4, nd5, nd6, nd7, nd8, nd9, nd6, nd10, nd11, nd12, nd13, nd14, nd15, nd16, nd18, nd19, nd20, nd13, nd21, nd37, nd43, nd44, nd26, nd28, nd54, nd30, nd35, nd30, nd35, nd39, nd30, nd30, nd30, nd35, nd46, nd47, nd30, nd51, nd52, nd49, nd55, nd56]
noncomputable def hp28 : Heap := [nd0, nd53, nd49, nd4, nd5, nd6, nd7, nd8, nd9, nd6, nd10, nd11, nd12, nd13, nd14, nd15, nd16, nd18, nd19, nd20, nd13, nd21, nd37, nd43, nd44, nd26, nd28, nd54, nd30, nd35, nd30, nd35, nd39, nd30, nd30, nd30, nd35, nd46, nd47, nd30, nd51, nd52, nd49, nd55, nd56, nd49]
noncomputable def hp29 : Heap := [nd0, nd57, nd49, nd4, nd5, nd6, nd7, nd8, nd9, nd6, nd10, nd11, nd12, nd13, nd14, nd15, nd16, nd18, nd19, nd20, nd13, nd21, nd37, nd43, nd44, nd26, nd28, nd54, nd30, nd35, nd30, nd35, nd39, nd30, nd30, nd30, nd35, nd46, nd47, nd30, nd51, nd52, nd49, nd55, nd56, nd49]
noncomputable def hp30 : Heap := [nd0, nd57, nd49, nd4, nd5, nd6, nd7, nd8, nd9, nd6, nd10, nd11, nd12, nd13, nd14, nd15, nd16, nd18, nd19, nd20, nd13, nd21, nd37, nd43, nd44, nd26, nd28, nd54, nd30, nd35, nd30, nd35, nd39, nd30, nd30, nd30, nd35, nd46, nd47, nd30, nd51, nd52, nd49, nd55, nd56, nd49, nd49]
noncomputable def hp31 : Heap := [nd0, nd58, nd49, nd4, nd5, nd6, nd7, nd8, nd9, nd6, nd10, nd11, nd12, nd13, nd14, nd15, nd16, nd18, nd19, nd20, nd13, nd21, nd37, nd43, nd44, nd26, nd28, nd54, nd30, nd35, nd30, nd35, nd39, nd30, nd30, nd30, nd35, nd46, nd47, nd30, nd51, nd52, nd49, nd55, nd56, nd49, nd49]
noncomputable def hp32 : Heap := [nd0, nd58, nd49, nd4, nd5, nd6, nd7, nd8, nd9, nd6, nd10, nd11, nd12, nd13, nd14, nd15, nd16, nd18, nd19, nd20, nd13, nd21, nd37, nd43, nd44, nd26, nd28, nd54, nd30, nd35, nd30, nd35, nd39, nd30, nd30, nd30, nd35, nd46, nd47, nd30, nd51, nd52, nd49, nd55, nd56, nd49, nd49, nd49]
end Go.Proofs.YtknoiemnpllapaaGreat
end

section
namespace Go.Proofs.YtknoiemnpllapaaGreat
open Go Go.PS
theorem hz0 (f : FuncId) (h : f ≠ 6) : hints0 f = hints f := if_neg h
@[simp] theorem ow0 (f : FuncId) : (hints0 f).own = (hints f).own := by
  by_cases h : f = 6
  · subst h; rfl
  · rw [hz0 f h]
theorem k75 : hints0 75 = hint75 := (hz0 75 (by decide)).trans hh75
theorem k84 : hints0 84 = hint84 := (hz0 84 (by decide)).trans hh84
theorem k41 : hints0 41 = hint41 := (hz0 41 (by decide)).trans hh41
theorem e75 (n k : Nat) (hp : Heap) (hk : k ≤ 16384) : evalCall Tryz.prog hints0 (n + 1) 75 [.int .i64 k] hp = some (.ptr (.heap hp.length) none 0, hp ++ [.cells [.sl (.mu 1) k (List.replicate k (.int .u8 0))]], false) := by
  rw [evalCall_at _ _ _ k75 rfl Tryz.func75 rfl (Nat.le_of_ble_eq_true rfl) rfl]
  have h1 : ¬ ((k : Int) < 0) := by omega
  have h2 : ¬ (16384 < (k : Int)) := by omega
  have h3 : (k : Int) ≤ 140737488355328 := by omega
  have h4 : (0 : Int) ≤ k := by omega
  simp [h1, h2, h3, h4]
theorem splice_all : ∀ (cs ys : List PV), ys.length = cs.length → splice cs 0 ys = ys
  | [], [], _ => rfl
  | c :: cs, y :: ys, h => by rw [splice, splice_all cs ys (by simpa using h)]
  | [], y :: ys, h => by simp at h
  | c :: cs, [], h => by simp at h
theorem out_bytes (S : List UInt8) : (ofBytes S).map outCell = ofBytes S := by
  unfold ofBytes; rw [List.map_map]; rfl
theorem sto_bytes (S : List UInt8) : (ofBytes S).all storable = true := by
  unfold ofBytes; rw [List.all_map]; simp [storable]
theorem len_bytes (S : List UInt8) : (ofBytes S).length = S.length := by simp [ofBytes]
theorem e84 (n i : Nat) (S : List UInt8) (hp : Heap) (hS : S.length = 16384) (hi : hp[i]? = some (.cells [.sl (.mu 1) 16384 (ofBytes S)])) : evalCall Tryz.prog hints0 (n + 2) 84 [.ptr (.heap i) none 0] hp = some (.ptr (.heap hp.length) none 0, hp ++ [.cells [.sl (.mu 1) 16384 (ofBytes S)]], false) := by
  rw [evalCall_at _ _ _ k84 rfl Tryz.func84 rfl (Nat.le_of_ble_eq_true rfl) rfl]
  have e : evalCall Tryz.prog hints0 (n + 1) 75 [.int .i64 16384] hp = some (.ptr (.heap hp.length) none 0, hp ++ [.cells [.sl (.mu 1) 16384 (List.replicate 16384 (.int .u8 0))]], false) := e75 n 16384 hp (Nat.le_refl _)
  have hZ : (List.replicate 16384 (PV.int .u8 0)).length = 16384 := List.length_replicate
  generalize List.replicate 16384 (PV.int .u8 0) = Z at *
  have hl := len_bytes S
  have hil : i < hp.length := by
    rcases Nat.lt_or_ge i hp.length with h | h
    · exact h
    · rw [List.getElem?_eq_none h] at hi; cases hi
  have hi2 : ∀ x, (hp ++ [x])[i]? = some (.cells [.sl (.mu 1) 16384 (ofBytes S)]) := fun x => by rw [List.getElem?_append_left hil]; exact hi
  have hs := sto_bytes S
  have ho := out_bytes S
  generalize ofBytes S = M at *
  rw [hS] at hl
  have hsp : splice Z 0 M = M := splice_all Z M (by omega)
  have htk : List.take 16384 M = M := List.take_of_length_le (by omega)
  simp [-List.reduceReplicate, -getElem?_pos, List.getElem?_cons_zero, List.getElem?_concat_length, hi, hi2, e, hl, hs, ho, hZ, hsp, htk]
end Go.Proofs.YtknoiemnpllapaaGreat
end

section
namespace Go.Proofs.YtknoiemnpllapaaGreat
open Go Go.PS
theorem k81 : hints0 81 = hint81 := (hz0 81 (by decide)).trans hh81
theorem k80 : hints0 80 = hint80 := (hz0 80 (by decide)).trans hh80
theorem k120 : hints0 120 = hint120 := (hz0 120 (by decide)).trans hh120
theorem e41 (n : Nat) (S : List UInt8) (hp : Heap) (r : List PV) (hS : S.length = 16384) (h1 : hp[1]? = some (.cells (.ptr (.heap 2) none 0 :: r))) (h2 : hp[2]? = some (.cells [.sl (.mu 1) 16384 (ofBytes S)])) : evalCall Tryz.prog hints0 (n + 3) 41 [.ptr (.heap 1) none 0] hp = some (.ptr (.heap hp.length) none 0, hp ++ [.cells [.sl (.mu 1) 16384 (ofBytes S)]], false) := by
  rw [evalCall_at _ _ _ k41 rfl Tryz.func41 rfl (Nat.le_of_ble_eq_true rfl) rfl]
  have e := e84 n 2 S hp hS h2
  simp [-getElem?_pos, List.getElem?_cons_zero, h1, e]
theorem e81 (n i : Nat) (M : List PV) (hp : Heap) (hi : hp[i]? = some (.cells [.sl (.mu 1) 16384 M])) : evalCall Tryz.prog hints0 (n + 1) 81 [.ptr (.heap i) none 0] hp = some (.int .i64 16384, hp, false) := by
  rw [evalCall_at _ _ _ k81 rfl Tryz.func81 rfl (Nat.le_of_ble_eq_true rfl) rfl]
  simp [-getElem?_pos, List.getElem?_cons_zero, hi]
theorem e120 (n i : Nat) (M : List PV) (hp : Heap) (hi : hp[i]? = some (.cells [.sl (.mu 1) 16384 M])) : evalCall Tryz.prog hints0 (n + 1) 120 [.ptr (.heap i) none 0, .int .i64 0, .int .i64 16384] hp = some (.int .i64 0, hp, false) := by
  rw [evalCall_at _ _ _ k120 rfl Tryz.func120 rfl (Nat.le_of_ble_eq_true rfl) rfl]
  have hw : IntKind.i64.wrap 16384 = 16384 := by decide
  simp [-getElem?_pos, List.getElem?_cons_zero, hi, hw]
theorem bytesOf_bytes : ∀ S : List UInt8, bytesOf (ofBytes S) = some S
  | [] => rfl
  | b :: S => by
    have ih := bytesOf_bytes S
    have e : ofBytes (b :: S) = .int .u8 b.toNat :: ofBytes S := rfl
    rw [e, bytesOf, ih]
    simp
theorem share_bytes (S : List UInt8) : shareCells (ofBytes S) = ofBytes S := by
  unfold shareCells ofBytes; rw [List.map_map]; rfl
theorem e80 (n i : Nat) (S : List UInt8) (hp : Heap) (hS : S.length = 16384) (hi : hp[i]? = some (.cells [.sl (.mu 1) 16384 (ofBytes S)])) : evalCall Tryz.prog hints0 (n + 2) 80 [.ptr (.heap i) none 0, .int .i64 0, .int .i64 16384] hp = some (.tup [.str S, .int .i64 0], hp, false) := by
  rw [evalCall_at _ _ _ k80 rfl Tryz.func80 rfl (Nat.le_of_ble_eq_true rfl) rfl]
  have e := e120 n i (ofBytes S) hp hi
  have hl := len_bytes S
  have hb := bytesOf_bytes S
  have hsh : List.map shr (ofBytes S) = ofBytes S := share_bytes S
  generalize ofBytes S = M at *
  rw [hS] at hl
  have htk : List.take 16384 M = M := List.take_of_length_le (by omega)
  have hw : IntKind.i64.wrap 16384 = 16384 := by decide
  simp [-getElem?_pos, List.getElem?_cons_zero, hi, e, hl, hb, hsh, htk, hw]
end Go.Proofs.YtknoiemnpllapaaGreat
end

section
namespace Go.Proofs.YtknoiemnpllapaaGreat
open Go Go.PS
theorem k40 : hints0 40 = hint40 := (hz0 40 (by decide)).trans hh40
theorem k93 : hints0 93 = hint93 := (hz0 93 (by decide)).trans hh93
theorem k45 : hints0 45 = hint45 := (hz0 45 (by decide)).trans hh45
theorem splice_mid : ∀ (A B C Z : List PV), Z.length = B.length → splice (A ++ (B ++ C)) A.length Z = A ++ (Z ++ C)
  | a :: A, B, C, [], h => by
    have : B = [] := List.eq_nil_of_length_eq_zero (by simpa using h.symm)
    subst this; rw [splice_nil]
  | a :: A, B, C, z :: Z, h => by
    show splice (a :: (A ++ (B ++ C))) (A.length + 1) (z :: Z) = _
    rw [splice, splice_mid A B C (z :: Z) h]; rfl
  | [], b :: B, C, z :: Z, h => by
    show splice (b :: (B ++ C)) 0 (z :: Z) = z :: (Z ++ C)
    rw [splice]
    exact congrArg (z :: ·) (splice_mid [] B C Z (by simpa using h))
  | [], [], C, [], _ => by simp [splice_nil]
/-- A memory whose one client is cleared. -/
theorem clear_mem {S R : List UInt8} (hS : S = List.replicate 128 0 ++ (R ++ List.replicate 16192 0)) (hR : R.length = 64) : splice (ofBytes S) 128 (List.replicate 64 (.int .u8 0)) = ofBytes (List.replicate 16384 0) := by
  have e1 : ofBytes S = List.replicate 128 (.int .u8 0) ++ (ofBytes R ++ List.replicate 16192 (.int .u8 0)) := by
    subst hS; unfold ofBytes
    rw [List.map_append, List.map_append, List.map_replicate, List.map_replicate]; rfl
  have e2 : ofBytes (List.replicate 16384 0) = List.replicate 128 (.int .u8 0) ++ (List.replicate 64 (.int .u8 0) ++ List.replicate 16192 (.int .u8 0)) := by
    unfold ofBytes
    rw [List.map_replicate, List.replicate_append_replicate, List.replicate_append_replicate]; rfl
  rw [e1, e2]
  have h := splice_mid (List.replicate 128 (.int .u8 0)) (ofBytes R) (List.replicate 16192 (.int .u8 0)) (List.replicate 64 (.int .u8 0)) (by rw [List.length_replicate, len_bytes, hR])
  rwa [List.length_replicate] at h
set_option maxHeartbeats 2000000 in
theorem e40 (n i j : Nat) (S R : List UInt8) (hp : Heap) (hS : S = List.replicate 128 0 ++ (R ++ List.replicate 16192 0)) (hR : R.length = 64) (hi : hp[i]? = some (.cells [.sl (.mu 1) 16384 (ofBytes S)]))
    (h82 : evalCall Tryz.prog hints0 (n + 2) 82 [.ptr (.heap 17) none 0] hp = some (.ptr (.heap j) none 0, hp, false)) (h83 : evalCall Tryz.prog hints0 (n + 2) 83 [.ptr (.heap j) none 0] hp = some (.sl (.mu 3) 1 [.int .i64 1, .int .i64 128, .int .i64 64], hp, false)) :
    evalCall Tryz.prog hints0 (n + 3) 40 [.ptr (.heap i) none 0, .ptr (.heap 17) none 0] hp = some (.str (List.replicate 16384 0), hp, false) := by
  rw [evalCall_at _ _ _ k40 rfl Tryz.func40 rfl (Nat.le_of_ble_eq_true rfl) rfl]
  have hl0 : S.length = 16384 := by rw [hS]; simp only [List.length_append, List.length_replicate, hR]
  have h81 := e81 (n + 1) i (ofBytes S) hp hi
  have h80 := e80 n i S hp hl0 hi
  have hc := clear_mem hS hR
  have hb := bytesOf_bytes (List.replicate 16384 0)
  have hl := len_bytes S
  have hl2 := len_bytes (List.replicate 16384 0)
  rw [List.length_replicate] at hl2
  have hz : (List.replicate 64 [PV.int .u8 0]).flatten = List.replicate 64 (.int .u8 0) := by simp [-List.reduceReplicate]
  have hzl : (List.replicate 64 (PV.int .u8 0)).length = 64 := List.length_replicate
  clear hS
  unfold ofBytes at *
  generalize List.replicate 16384 (0 : UInt8) = Z at *
  generalize hM : S.map (fun b => PV.int .u8 b.toNat) = M at *
  generalize hN : Z.map (fun b => PV.int .u8 b.toNat) = N at *
  rw [hl0] at hl
  have w1 : IntKind.i64.wrap 192 = 192 := by decide
  have w2 : IntKind.i64.wrap 1 = 1 := by decide
  simp [-List.reduceReplicate, -getElem?_pos, List.getElem?_cons_zero, clearOp, iter, ofBytes, hM, hN, h80, h81, h82, h83, hl0, hl, hl2, hc, hb, hz, hzl, w1, w2]

theorem e93 (n : Nat) (s : List UInt8) (hp : Heap) : evalCall Tryz.prog hints0 (n + 1) 93 [.str s, .str s] hp = some (.tup [.int .i64 0, .int .i64 0, .bool false], hp, false) := by
  rw [evalCall_at _ _ _ k93 rfl Tryz.func93 rfl (Nat.le_of_ble_eq_true rfl) rfl]
  simp
theorem e45 (n m : Nat) (cs : List PV) (a0 a1 a2 a3 : Int) (b4 b5 b6 : Bool) (s : List UInt8) (hp : Heap) : evalCall Tryz.prog hints0 (n + 2) 45 [.sl (.mu 7) m cs, .agg [.int .i64 a0, .int .i64 a1, .int .i64 a2, .int .i64 a3, .bool b4, .bool b5, .bool b6], .str s, .str s] hp = some (.sl (.mu 7) m cs, hp, false) := by
  rw [evalCall_at _ _ _ k45 rfl Tryz.func45 rfl (Nat.le_of_ble_eq_true rfl) rfl]
  have e := e93 n s hp
  cases m with
  | zero => cases cs <;> simp [e]
  | succ m => cases cs <;> simp [e]
end Go.Proofs.YtknoiemnpllapaaGreat
end
