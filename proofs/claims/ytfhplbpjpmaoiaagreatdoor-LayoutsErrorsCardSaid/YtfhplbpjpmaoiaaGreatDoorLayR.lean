/- An evaluator of the program and contracts proved over it: the texts LayEf LayEg LayEh. -/
import Derived.Test.YtfhplbpjpmaoiaaGreatDoorLayQ
set_option linter.unusedSimpArgs false
set_option linter.unusedVariables false
set_option linter.constructorNameAsVariable false
/- printed by cutfn.py: parts of fn6 -/
namespace Go.Ev.Lay
def er3 : IC := (.seq (.ops [⟨none, .p (.faddr 0) [.v 5], none⟩, ⟨none, .ld 1 false (.l 0), none⟩, ⟨none, .cf 45 [.v 8, .l 0], none⟩, ⟨none, .p (.ext 0) [.l 0], none⟩, ⟨none, .p (.ext 1) [.l 1], none⟩, ⟨none, .p .mv [.l 1], none⟩, ⟨none, .p .mv [.l 1], some 29⟩]) (.seq (.seq (.ops [⟨none, .p (.ib .eql) [.v 29, .c (.int .i64 0)], none⟩, ⟨none, .p (.faddr 0) [.v 5], none⟩, ⟨none, .ld 1 false (.l 0), none⟩, ⟨none, .p (.ib .geq) [.l 0, .c (.int .i64 0)], none⟩, ⟨(some (.l 0, true)), .p (.faddr 0) [.v 5], none⟩, ⟨(some (.l 1, true)), .ld 1 false (.l 0), none⟩, ⟨(some (.l 2, true)), .p .mv [.v 7], none⟩, ⟨(some (.l 3, true)), .p .lenS [.l 0], none⟩, ⟨(some (.l 4, true)), .p (.ib .lss) [.l 2, .l 0], none⟩, ⟨none, .p .pick [.l 5, .l 0, .c (.bool false)], none⟩, ⟨none, .p (.bb true) [.l 9, .l 0], none⟩, ⟨(some (.l 0, false)), .p .mv [.v 29], none⟩, ⟨(some (.l 1, false)), .p (.ib .neq) [.l 0, .c (.int .i64 0)], none⟩, ⟨(some (.l 2, false)), .p .mv [.l 0], none⟩, ⟨(some (.l 0, true)), .p .mv [.v 29], none⟩, ⟨(some (.l 1, true)), .p (.ib .neq) [.l 0, .c (.int .i64 4)], none⟩, ⟨(some (.l 5, false)), .p .pick [.l 2, .l 0, .c (.bool false)], none⟩, ⟨none, .p .pick [.l 6, .c (.bool true), .l 0], some 260⟩]) (.cond (.v 260) (.seq (.ops [⟨none, .p .mv [.c (.bool false)], some 6⟩]) (.ret)) (.skip))) (.seq (.ops [⟨none, .al [.nilp, .nils, .nilp], some 30⟩]) (.seq (.ops [⟨none, .cf 27 [.v 30, .c (.int .i64 0)], none⟩, ⟨none, .p (.ext 0) [.l 0], none⟩, ⟨none, .p (.ext 1) [.l 1], none⟩, ⟨none, .p .mv [.l 1], none⟩, ⟨none, .p .mv [.l 1], some 32⟩]) (.seq (.ops [⟨none, .p (.build [(.int .i64 0), (.int .i64 0), (.bool false)] [(0, 1)]) [.c (.int .i64 1)], none⟩, ⟨none, .cf 24 [.v 30, .l 0, .c (.int .i64 0)], none⟩, ⟨none, .p (.ext 0) [.l 0], none⟩, ⟨none, .p (.ext 1) [.l 1], none⟩, ⟨none, .p (.ext 2) [.l 2], none⟩, ⟨none, .p .mv [.l 2], none⟩, ⟨none, .p .mv [.l 2], none⟩, ⟨none, .p .mv [.l 2], some 35⟩]) (.seq (.ops [⟨none, .p (.ib .eql) [.v 32, .c (.int .i64 11)], none⟩, ⟨(some (.l 0, true)), .p .mv [.v 35], none⟩, ⟨(some (.l 1, true)), .p (.ib .eql) [.l 0, .c (.int .i64 0)], none⟩, ⟨none, .p .pick [.l 2, .l 0, .c (.bool false)], none⟩, ⟨(some (.l 0, true)), .cf 42 [.v 30], none⟩, ⟨(some (.l 1, true)), .p (.ib .eql) [.l 0, .c (.int .i64 0)], none⟩, ⟨none, .p .pick [.l 2, .l 0, .c (.bool false)], none⟩, ⟨(some (.l 0, true)), .bs [(.int .i64 0)] [(0, 1)] 1 [.c (.int .i64 4)], none⟩, ⟨(some (.l 1, true)), .bs [(.bool false)] [(0, 1)] 1 [.c (.bool true)], none⟩, ⟨(some (.l 2, true)), .cf 9 [.v 30, .c (.int .i64 0), .l 1, .l 0], none⟩, ⟨(some (.l 3, true)), .p (.ib .eql) [.l 0, .c (.int .i64 0)], none⟩, ⟨none, .p .pick [.l 4, .l 0, .c (.bool false)], none⟩, ⟨(some (.l 0, true)), .cf 8 [.v 30], none⟩, ⟨(some (.l 1, true)), .p (.ib .eql) [.l 0, .c (.int .i64 4)], none⟩, ⟨none, .p .pick [.l 2, .l 0, .c (.bool false)], none⟩, ⟨(some (.l 0, true)), .cf 20 [], none⟩, ⟨none, .p .pick [.l 1, .l 0, .c (.bool false)], none⟩, ⟨none, .p .mv [.l 0], some 6⟩]) (.ret)))))))
def er2 : IC := (.seq (.ops [⟨none, .ld 3 true (.v 4), none⟩, ⟨none, .p (.faddr 0) [.v 5], none⟩, ⟨none, .ld 1 false (.l 0), none⟩, ⟨none, .p (.faddr 1) [.v 5], none⟩, ⟨none, .ld 1 false (.l 0), none⟩, ⟨none, .cf 14 [.v 8, .l 4, .l 2, .l 0, .v 24], none⟩, ⟨none, .p (.ext 0) [.l 0], none⟩, ⟨none, .p (.ext 1) [.l 1], none⟩, ⟨none, .p (.ext 2) [.l 2], none⟩, ⟨none, .p .mv [.l 2], some 25⟩, ⟨none, .p .mv [.l 1], some 26⟩, ⟨none, .p .mv [.l 0], some 27⟩]) (.seq (.seq (.ops [⟨none, .p (.ib .neq) [.v 27, .v 23], none⟩, ⟨(some (.l 0, false)), .p .mv [.v 23], none⟩, ⟨(some (.l 1, false)), .p (.ib .neq) [.l 0, .c (.int .i64 0)], none⟩, ⟨(some (.l 2, false)), .p .mv [.l 0], none⟩, ⟨(some (.l 0, true)), .p .mv [.v 25], none⟩, ⟨(some (.l 1, true)), .p (.ib .neq) [.l 0, .c (.int .i64 0)], none⟩, ⟨(some (.l 2, true)), .p .mv [.l 0], none⟩, ⟨(some (.l 0, false)), .p .mv [.v 26], none⟩, ⟨(some (.l 1, false)), .p (.ib .neq) [.l 0, .c (.int .i64 0)], none⟩, ⟨(some (.l 5, true)), .p .pick [.l 2, .c (.bool true), .l 0], none⟩, ⟨(some (.l 6, true)), .p .mv [.l 0], none⟩, ⟨(some (.l 0, false)), .p .mv [.v 8], none⟩, ⟨(some (.l 1, false)), .p .mv [.v 7], none⟩, ⟨(some (.l 2, false)), .cf 17 [.l 1, .l 0], none⟩, ⟨(some (.l 3, false)), .p (.ib .eql) [.l 0, .c (.int .i64 0)], none⟩, ⟨(some (.l 11, true)), .p .pick [.l 4, .c (.bool true), .l 0], none⟩, ⟨(some (.l 15, false)), .p .pick [.l 12, .l 0, .c (.bool false)], none⟩, ⟨none, .p .pick [.l 16, .c (.bool true), .l 0], some 232⟩]) (.cond (.v 232) (.seq (.ops [⟨none, .p .mv [.c (.bool false)], some 6⟩]) (.ret)) (.skip))) er3))
def er15 : IC := (.seq (.seq (.ops [⟨none, .p (.ib .eql) [.v 23, .c (.int .i64 0)], none⟩, ⟨(some (.l 0, true)), .p (.faddr 0) [.v 5], none⟩, ⟨(some (.l 1, true)), .ld 1 false (.l 0), none⟩, ⟨(some (.l 2, true)), .p (.ib .lss) [.l 0, .c (.int .i64 (-1))], none⟩, ⟨(some (.l 3, true)), .p .mv [.l 0], none⟩, ⟨(some (.l 0, false)), .p (.faddr 0) [.v 5], none⟩, ⟨(some (.l 1, false)), .ld 1 false (.l 0), none⟩, ⟨(some (.l 2, false)), .p .mv [.v 7], none⟩, ⟨(some (.l 3, false)), .p .lenS [.l 0], none⟩, ⟨(some (.l 4, false)), .p (.ib .geq) [.l 2, .l 0], none⟩, ⟨(some (.l 9, true)), .p .pick [.l 5, .c (.bool true), .l 0], none⟩, ⟨(some (.l 10, true)), .p .mv [.l 0], none⟩, ⟨(some (.l 0, false)), .p (.faddr 1) [.v 5], none⟩, ⟨(some (.l 1, false)), .ld 1 false (.l 0), none⟩, ⟨(some (.l 2, false)), .p (.ib .lss) [.l 0, .c (.int .i64 0)], none⟩, ⟨(some (.l 14, true)), .p .pick [.l 3, .c (.bool true), .l 0], none⟩, ⟨(some (.l 15, true)), .p .mv [.l 0], none⟩, ⟨(some (.l 0, false)), .p (.faddr 1) [.v 5], none⟩, ⟨(some (.l 1, false)), .ld 1 false (.l 0), none⟩, ⟨(some (.l 2, false)), .p (.ib .gtr) [.l 0, .c (.int .i64 2305843009213693952)], none⟩, ⟨(some (.l 19, true)), .p .pick [.l 3, .c (.bool true), .l 0], none⟩, ⟨none, .p .pick [.l 20, .l 0, .c (.bool false)], some 199⟩]) (.cond (.v 199) (.ops [⟨none, .p .mv [.c (.int .i64 4)], some 23⟩]) (.skip))) er2)
def er1 : IC := (.seq (.ops [⟨none, .ld 3 true (.v 4), none⟩, ⟨none, .cf 10 [.v 8, .l 0, .c (.int .i64 0)], none⟩, ⟨none, .p (.ext 0) [.l 0], none⟩, ⟨none, .p (.ext 1) [.l 1], none⟩, ⟨none, .p .mv [.l 0], some 11⟩]) (.seq (.ops [⟨none, .ld 3 true (.v 4), none⟩, ⟨none, .cf 24 [.v 8, .l 0, .c (.int .i64 0)], none⟩, ⟨none, .p (.ext 0) [.l 0], none⟩, ⟨none, .p (.ext 1) [.l 1], none⟩, ⟨none, .p (.ext 2) [.l 2], none⟩, ⟨none, .p .mv [.l 0], some 14⟩]) (.seq (.ops [⟨none, .ld 3 true (.v 4), none⟩, ⟨none, .cf 11 [.v 8, .l 0, .c (.int .i64 0)], none⟩, ⟨none, .p (.ext 0) [.l 0], none⟩, ⟨none, .p (.ext 1) [.l 1], none⟩, ⟨none, .p .mv [.l 0], some 16⟩]) (.seq (.seq (.ops [⟨none, .p (.ib .neq) [.v 11, .v 23], none⟩, ⟨(some (.l 0, false)), .p .mv [.v 14], none⟩, ⟨(some (.l 1, false)), .p .mv [.v 23], none⟩, ⟨(some (.l 2, false)), .p (.ib .neq) [.l 1, .l 0], none⟩, ⟨none, .p .pick [.l 3, .c (.bool true), .l 0], none⟩, ⟨(some (.l 0, false)), .p .mv [.v 16], none⟩, ⟨(some (.l 1, false)), .p .mv [.v 23], none⟩, ⟨(some (.l 2, false)), .p (.ib .neq) [.l 1, .l 0], none⟩, ⟨none, .p .pick [.l 3, .c (.bool true), .l 0], some 172⟩]) (.cond (.v 172) (.seq (.ops [⟨none, .p .mv [.c (.bool false)], some 6⟩]) (.ret)) (.skip))) (.seq (.ops [⟨none, .p .mv [.c (.func (.func 44) [] [])], some 24⟩]) (.seq (.seq (.ops [⟨none, .p (.faddr 2) [.v 5], none⟩, ⟨none, .ld 1 false (.l 0), none⟩, ⟨none, .p .not [.l 0], some 175⟩]) (.cond (.v 175) (.seq (.ops [⟨none, .p .mv [.c .nilf], some 24⟩]) (.ops [⟨none, .p .mv [.c (.int .i64 1)], some 23⟩])) (.skip))) er15))))))
def er0 : IC := (.seq (.ops [⟨none, .p .mv [.c (.int .i64 0)], some 23⟩]) (.seq (.seq (.ops [⟨none, .p (.faddr 0) [.v 4], none⟩, ⟨none, .ld 1 false (.l 0), none⟩, ⟨none, .p (.faddr 1) [.v 4], none⟩, ⟨none, .ld 1 false (.l 0), none⟩, ⟨none, .cf 43 [.l 2, .l 0], none⟩, ⟨none, .p .not [.l 0], some 140⟩]) (.cond (.v 140) (.ops [⟨none, .p .mv [.c (.int .i64 1)], some 23⟩]) (.skip))) er1))
def fn6x : IFn := ⟨3, .seq (.ops [⟨none, .bx (.v 0), some 3⟩, ⟨none, .bx (.v 1), some 4⟩, ⟨none, .bx (.v 2), some 5⟩, ⟨none, .p .mv [.c (.bool false)], some 6⟩]) (.seq (.ops [⟨none, .ld 1 true (.v 3), none⟩, ⟨none, .cf 21 [.l 0], none⟩, ⟨none, .p .mv [.l 0], some 7⟩]) (.seq (.ops [⟨none, .cf 7 [.v 7], none⟩, ⟨none, .p .mv [.l 0], some 8⟩]) (.seq (.seq (.ops [⟨none, .p (.nil 0 false) [.v 8, .c .nilp], some 41⟩]) (.cond (.v 41) (.seq (.ops [⟨none, .p .mv [.c (.bool false)], some 6⟩]) (.ret)) (.skip))) (.seq (.ops [⟨none, .p .mv [.c .nilp], some 9⟩]) (.seq (.ops [⟨none, .ld 3 true (.v 4), none⟩, ⟨none, .cf 10 [.v 9, .l 0, .c (.int .i64 0)], none⟩, ⟨none, .p (.ext 0) [.l 0], none⟩, ⟨none, .p (.ext 1) [.l 1], none⟩, ⟨none, .p .mv [.l 1], none⟩, ⟨none, .p .mv [.l 1], some 11⟩]) (.seq (.ops [⟨none, .ld 3 true (.v 4), none⟩, ⟨none, .cf 24 [.v 9, .l 0, .c (.int .i64 0)], none⟩, ⟨none, .p (.ext 0) [.l 0], none⟩, ⟨none, .p (.ext 1) [.l 1], none⟩, ⟨none, .p (.ext 2) [.l 2], none⟩, ⟨none, .p .mv [.l 2], none⟩, ⟨none, .p .mv [.l 2], none⟩, ⟨none, .p .mv [.l 2], some 14⟩]) (.seq (.ops [⟨none, .cf 27 [.v 9, .c (.int .i64 0)], none⟩, ⟨none, .p (.ext 0) [.l 0], none⟩, ⟨none, .p (.ext 1) [.l 1], none⟩, ⟨none, .p .mv [.l 1], none⟩, ⟨none, .p .mv [.l 1], some 16⟩]) (.seq (.ops [⟨none, .ld 3 true (.v 4), none⟩, ⟨none, .p (.faddr 0) [.v 5], none⟩, ⟨none, .ld 1 false (.l 0), none⟩, ⟨none, .p (.faddr 1) [.v 5], none⟩, ⟨none, .ld 1 false (.l 0), none⟩, ⟨none, .cf 14 [.v 9, .l 4, .l 2, .l 0, .c .nilf], none⟩, ⟨none, .p (.ext 0) [.l 0], none⟩, ⟨none, .p (.ext 1) [.l 1], none⟩, ⟨none, .p (.ext 2) [.l 2], none⟩, ⟨none, .p .mv [.l 2], none⟩, ⟨none, .p .mv [.l 2], none⟩, ⟨none, .p .mv [.l 2], some 19⟩]) (.seq (.ops [⟨none, .cf 28 [.v 9, .c (.int .i64 0)], none⟩, ⟨none, .p (.ext 0) [.l 0], none⟩, ⟨none, .p (.ext 1) [.l 1], none⟩, ⟨none, .p (.ext 2) [.l 2], none⟩, ⟨none, .p .mv [.l 2], none⟩, ⟨none, .p .mv [.l 2], none⟩, ⟨none, .p .mv [.l 2], some 22⟩]) (.seq (.seq (.ops [⟨none, .p (.ib .neq) [.v 11, .c (.int .i64 2)], none⟩, ⟨(some (.l 0, false)), .p .mv [.v 14], none⟩, ⟨(some (.l 1, false)), .p (.ib .neq) [.l 0, .c (.int .i64 2)], none⟩, ⟨none, .p .pick [.l 2, .c (.bool true), .l 0], none⟩, ⟨(some (.l 0, false)), .p .mv [.v 16], none⟩, ⟨(some (.l 1, false)), .p (.ib .neq) [.l 0, .c (.int .i64 2)], none⟩, ⟨none, .p .pick [.l 2, .c (.bool true), .l 0], none⟩, ⟨(some (.l 0, false)), .p .mv [.v 19], none⟩, ⟨(some (.l 1, false)), .p (.ib .neq) [.l 0, .c (.int .i64 2)], none⟩, ⟨none, .p .pick [.l 2, .c (.bool true), .l 0], none⟩, ⟨(some (.l 0, false)), .p .mv [.v 22], none⟩, ⟨(some (.l 1, false)), .p (.ib .neq) [.l 0, .c (.int .i64 2)], none⟩, ⟨none, .p .pick [.l 2, .c (.bool true), .l 0], none⟩, ⟨(some (.l 0, false)), .p .mv [.v 9], none⟩, ⟨(some (.l 1, false)), .cf 33 [.l 0], none⟩, ⟨(some (.l 2, false)), .p (.nil 0 true) [.l 0, .c .nilp], none⟩, ⟨none, .p .pick [.l 3, .c (.bool true), .l 0], none⟩, ⟨(some (.l 0, false)), .p .mv [.v 9], none⟩, ⟨(some (.l 1, false)), .cf 42 [.l 0], none⟩, ⟨(some (.l 2, false)), .p (.ib .neq) [.l 0, .c (.int .i64 0)], none⟩, ⟨none, .p .pick [.l 3, .c (.bool true), .l 0], none⟩, ⟨(some (.l 0, false)), .p .mv [.v 9], none⟩, ⟨(some (.l 1, false)), .cf 8 [.l 0], none⟩, ⟨(some (.l 2, false)), .p (.ib .neq) [.l 0, .c (.int .i64 0)], none⟩, ⟨none, .p .pick [.l 3, .c (.bool true), .l 0], none⟩, ⟨(some (.l 0, false)), .p .mv [.v 9], none⟩, ⟨(some (.l 1, false)), .cf 9 [.l 0, .c (.int .i64 0), .c .nils, .c .nils], none⟩, ⟨(some (.l 2, false)), .p (.ib .neq) [.l 0, .c (.int .i64 2)], none⟩, ⟨none, .p .pick [.l 3, .c (.bool true), .l 0], none⟩, ⟨(some (.l 0, false)), .p .mv [.v 9], none⟩, ⟨(some (.l 1, false)), .cf 36 [.l 0, .c (.int .i64 0), .c (.int .i64 0)], none⟩, ⟨(some (.l 2, false)), .p (.ib .neq) [.l 0, .c (.int .i64 2)], none⟩, ⟨none, .p .pick [.l 3, .c (.bool true), .l 0], none⟩, ⟨(some (.l 0, false)), .p .mv [.v 9], none⟩, ⟨(some (.l 1, false)), .cf 38 [.l 0, .c (.int .i64 0), .c (.int .i64 0), .c (.int .i64 0)], none⟩, ⟨(some (.l 2, false)), .p (.ib .neq) [.l 0, .c (.int .i64 2)], none⟩, ⟨none, .p .pick [.l 3, .c (.bool true), .l 0], none⟩, ⟨(some (.l 0, false)), .p .mv [.v 9], none⟩, ⟨(some (.l 1, false)), .cf 40 [.l 0, .c (.int .i64 0), .c (.int .i64 1), .c (.bool true)], none⟩, ⟨(some (.l 2, false)), .p (.ib .neq) [.l 0, .c (.int .i64 2)], none⟩, ⟨none, .p .pick [.l 3, .c (.bool true), .l 0], none⟩, ⟨(some (.l 0, false)), .p .mv [.v 9], none⟩, ⟨(some (.l 1, false)), .cf 41 [.l 0, .c (.int .i64 0), .c (.bool true)], none⟩, ⟨(some (.l 2, false)), .p (.ib .neq) [.l 0, .c (.int .i64 2)], none⟩, ⟨none, .p .pick [.l 3, .c (.bool true), .l 0], some 134⟩]) (.cond (.v 134) (.seq (.ops [⟨none, .p .mv [.c (.bool false)], some 6⟩]) (.ret)) (.skip))) er0)))))))))), [.t 6], [0, 1, 2, 3, 4, 5, 6, 7, 8, 9, 11, 14, 16, 19, 22, 23, 24, 25, 26, 27, 29, 30, 32, 35, 41, 134, 140, 172, 175, 199, 232, 260]⟩
/-- paternoster/paternosterlaw34.Lay -/
theorem g6x : F.get 6 = some fn6x := rfl
end Go.Ev.Lay

/- LayoutsErrors: its parts, from the end on. -/
namespace Go.Ev.Lay
set_option maxRecDepth 4000
theorem lookR_small : ∀ (A l : List Int) (ks : List Bool) (mo : Bool), (∀ i ∈ A, 0 ≤ i ∧ i < l.length) → ks.length = l.length → (∀ x ∈ l, 1 ≤ x ∧ x ≤ 128) → l.length ≤ 30 →
    (lookR (fun _ => 3) A l ks mo).1 = 0 ∧ ∀ x ∈ (lookR (fun _ => 3) A l ks mo).2.1, 1 ≤ x ∧ x ≤ 128
  | [], l, ks, mo, _, _, hp, _ => ⟨rfl, hp⟩
  | i :: A, l, ks, mo, hA, hl, hp, h30 => by
    have hi := hA i (by simp)
    have hA' : ∀ i ∈ A, 0 ≤ i ∧ i < l.length := fun j hj => hA j (by simp [hj])
    rw [lookR, if_pos hi]
    by_cases c2 : ks.getD i.toNat false = true
    · rw [if_pos c2]; exact lookR_small A l ks mo hA' hl hp h30
    · have s1 := sum_le l 128 fun x hx => (hp x hx).2
      have s2 : 0 ≤ l.getD i.toNat 0 := by
        have hn : i.toNat < l.length := by omega
        have : l.getD i.toNat 0 = l[i.toNat] := by simp [List.getD, hn]
        rw [this]; have := hp _ (List.getElem_mem hn); omega
      have z : xsetE l i 3 = 0 := by
        unfold xsetE
        rw [if_pos hi, if_neg (by omega), if_neg (by omega)]
      rw [if_neg c2, if_pos z]
      refine lookR_small A _ _ true (by simpa using hA') (by simpa using hl) (fun x hx => ?_) (by simpa using h30)
      rcases List.mem_or_eq_of_mem_set hx with q | q
      · exact hp x q
      · omega
theorem SetS.small {bs : List Bool} {view over anchor delta : Int} {lo : Bool} {s : Int} {r : Nat} {l : List Int} {ks : List Bool} {s2 n2 e2 : Int} {l2 : List Int} {ks2 : List Bool} (a : SetS (fun _ => 3) bs view over anchor delta lo s r l ks s2 n2 e2 l2 ks2) :
    bs.length = l.length → ks.length = l.length → (∀ x ∈ l, 1 ≤ x ∧ x ≤ 128) → l.length ≤ 30 → e2 = 0 ∧ l2.length = l.length := by
  induction a with
  | bad a1 a2 => intro h1 h2 h3 h4; exact absurd (lookR_small _ _ _ false (att_range a1 h1) h2 h3 h4).1 a2
  | @done s r l ks A l' ks' a1 a2 =>
    intro h1 h2 h3 h4
    have sp := lookR_spec (fun _ => 3) A l ks false h2 (fun x hx => (h3 x hx).1)
    have := congrArg (fun z => z.2.1.length) a2
    simp only [] at this
    exact ⟨rfl, by rw [← this]; exact sp.1⟩
  | @more s r l ks A l' ks' s2 n2 e2 l2 ks2 a1 a2 _ ih =>
    intro h1 h2 h3 h4
    have sp := lookR_spec (fun _ => 3) A l ks false h2 (fun x hx => (h3 x hx).1)
    have sm := lookR_small _ _ _ false (att_range a1 h1) h2 h3 h4
    have e1 := sp.1
    have e3 := sp.2.1
    rw [a2] at e1 e3 sm
    simp only [] at e1 e3 sm
    have := ih (by omega) (by omega) sm.2 (by omega)
    exact ⟨this.1, by omega⟩
theorem lo_zero {h : Heap} {b : Nat} (o : Own h b [.nilp, .nils, .nilp]) : Lo h b [] [] [] :=
  ⟨none, .nils, none, o, rfl, ⟨none, .nils, [], rfl, ⟨.nil, none, rfl, rfl, rfl, by simp, by simp, by simp⟩, .inl ⟨rfl, rfl⟩, ⟨trivial, by simp, fun i => by simp [inS]⟩, rfl, by simp⟩, rfl, rfl⟩
theorem rValid_ok {h : Heap} {view over : Int} : Does go 43 [.int .i64 view, .int .i64 over] h fun u h' => u = .bool (decide (okF view over)) ∧ h' = h := by
  unfold okF
  by_cases c1 : 1 ≤ view
  · by_cases c2 : view ≤ 2147483648
    · by_cases c3 : 0 ≤ over
      · refine does_fn g43 rfl ?_
        simp (disch := omega) only [fn43, evs, ↓reduceIte, Nat.reduceEqDiff, Nat.reduceAdd, Nat.reduceMul, Nat.reduceLeDiff, Nat.reduceLT, Int.reduceNeg, DF, eff, Nat.reduceSub, fwrap_i64, c1, c2, c3]
        try simp
      · refine does_fn g43 rfl ?_
        simp (disch := omega) only [fn43, evs, ↓reduceIte, Nat.reduceEqDiff, Nat.reduceAdd, Nat.reduceMul, Nat.reduceLeDiff, Nat.reduceLT, Int.reduceNeg, DF, eff, Nat.reduceSub, fwrap_i64, c1, c2, c3]
        try simp
    · refine does_fn g43 rfl ?_
      simp (disch := omega) only [fn43, evs, ↓reduceIte, Nat.reduceEqDiff, Nat.reduceAdd, Nat.reduceMul, Nat.reduceLeDiff, Nat.reduceLT, Int.reduceNeg, DF, eff, Nat.reduceSub, fwrap_i64, c1, c2]
      try simp
  · refine does_fn g43 rfl ?_
    simp (disch := omega) only [fn43, evs, ↓reduceIte, Nat.reduceEqDiff, Nat.reduceAdd, Nat.reduceMul, Nat.reduceLeDiff, Nat.reduceLT, Int.reduceNeg, DF, eff, Nat.reduceSub, fwrap_i64, c1]
    try simp
theorem three_ok (h : Heap) (i : Int) : Does go 44 [.int .i64 i] h fun u h' => u = .int .i64 3 ∧ h' = h := by
  refine does_fn g44 rfl ?_
  simp (disch := omega) only [fn44, evs, ↓reduceIte, Nat.reduceEqDiff, Nat.reduceAdd, Nat.reduceMul, Nat.reduceLeDiff, Nat.reduceLT, Int.reduceNeg, DF, eff, Nat.reduceSub, fwrap_i64]
theorem win_zero : winE [] 1 0 0 = .tup [.int .i64 0, .int .i64 0, .int .i64 0] := by
  unfold winE
  rw [if_pos (by unfold okF; omega), if_pos (by unfold clampL; simp only [List.sum_nil]; omega), if_pos rfl]
theorem er3_ok {h : Heap} {env : T V} {b zb : Nat} {v : V} {L : List (Int × Bool × Bool)} {l' : List Int} {ks' bs : List Bool} {anchor delta : Int} {me : Bool} {R : V → Heap → Prop}
    (wf : WF h) (glb : Glb h) (hn : 0 < h.next) (lo : Lo h b l' ks' bs) (ll : l'.length = L.length) (rw' : Rws h v L) (zo : Own h zb [.int .i64 anchor, .int .i64 delta, .bool me]) (a0 : -9223372036854775808 ≤ anchor) (a1 : anchor ≤ 9223372036854775807)
    (g5 : env.get 5 = some (.ptr zb 0)) (g7 : env.get 7 = some v) (g8 : env.get 8 = some (.ptr b 0)) (K : ∀ h' b2, h.next ≤ b2 → FrF b2 h h' → R (.bool true) h') : W go er3 env h (RetQ [.t 6] R) := by
  have rl := rw'.len
  simp (disch := omega) only [evs, ↓reduceIte, Nat.reduceEqDiff, Nat.reduceAdd, Nat.reduceMul, Nat.reduceLeDiff, Nat.reduceLT, Int.reduceNeg, DF, eff, Nat.reduceSub, fwrap_i64, er3, g5, g7, g8, zo.ld1]
  refine OQ_does (LSticky_ok wf lo a0 a1) ?_
  rintro _ h1 ⟨rfl, F1⟩
  rw [ll]
  have zo1 := F1.get zo
  have rl1 := (Recs.fr rw' F1).len
  have n4 : ¬ (4 : Int) = 0 := by omega
  have three : (0 ≤ anchor ∧ anchor < L.length) ∨ (0 ≤ anchor ∧ ¬ anchor < L.length) ∨ ¬ 0 ≤ anchor := by omega
  rcases three with ⟨c, c2⟩ | ⟨c, c2⟩ | c
  case' inl =>
    rw [if_pos ⟨c, c2⟩]
    obtain ⟨h2, e_h2⟩ : ∃ h2, h2 = halloc h1 [.nilp, .nils, .nilp] := ⟨_, rfl⟩
    have F_h2 : Fr [] h1 h2 := e_h2 ▸ Fr.halloc F1.wf _
    have o_h2 : Own h2 h1.next [.nilp, .nils, .nilp] := e_h2 ▸ Own.new F1.wf _
    simp (disch := omega) only [evs, ↓reduceIte, Nat.reduceEqDiff, Nat.reduceAdd, Nat.reduceMul, Nat.reduceLeDiff, Nat.reduceLT, Int.reduceNeg, DF, eff, Nat.reduceSub, fwrap_i64, g5, g7, g8, zo1.ld1, eq_true c, eq_true c2, rl1, ← e_h2]
  case' inr.inl =>
    rw [if_neg (fun x => c2 x.2)]
    obtain ⟨h2, e_h2⟩ : ∃ h2, h2 = halloc h1 [.nilp, .nils, .nilp] := ⟨_, rfl⟩
    have F_h2 : Fr [] h1 h2 := e_h2 ▸ Fr.halloc F1.wf _
    have o_h2 : Own h2 h1.next [.nilp, .nils, .nilp] := e_h2 ▸ Own.new F1.wf _
    simp (disch := omega) only [evs, ↓reduceIte, Nat.reduceEqDiff, Nat.reduceAdd, Nat.reduceMul, Nat.reduceLeDiff, Nat.reduceLT, Int.reduceNeg, DF, eff, Nat.reduceSub, fwrap_i64, g5, g7, g8, zo1.ld1, eq_true c, eq_false c2, rl1, eq_false n4, ← e_h2]
  case' inr.inr =>
    rw [if_neg (fun x => c x.1)]
    obtain ⟨h2, e_h2⟩ : ∃ h2, h2 = halloc h1 [.nilp, .nils, .nilp] := ⟨_, rfl⟩
    have F_h2 : Fr [] h1 h2 := e_h2 ▸ Fr.halloc F1.wf _
    have o_h2 : Own h2 h1.next [.nilp, .nils, .nilp] := e_h2 ▸ Own.new F1.wf _
    simp (disch := omega) only [evs, ↓reduceIte, Nat.reduceEqDiff, Nat.reduceAdd, Nat.reduceMul, Nat.reduceLeDiff, Nat.reduceLT, Int.reduceNeg, DF, eff, Nat.reduceSub, fwrap_i64, g5, g7, g8, zo1.ld1, eq_false c, rl1, eq_false n4, ← e_h2]
  all_goals
    have F02 := F1.then F_h2
    have lz := lo_zero o_h2
    refine OQ_does (LHead_ok F_h2.wf (glb.fr F02) lz (by omega) (by omega)) ?_
    rintro _ h3 ⟨⟨r, e, rfl, hs⟩, F3⟩
    have hre : r = 0 ∧ e = 11 := by unfold HeadS at hs; rw [if_pos ⟨rfl, rfl⟩] at hs; exact hs
    obtain ⟨rfl, rfl⟩ := hre
    have F03 := F02.then F3
    simp (disch := omega) only [evs, ↓reduceIte, Nat.reduceEqDiff, Nat.reduceAdd, Nat.reduceMul, Nat.reduceLeDiff, Nat.reduceLT, Int.reduceNeg, DF, eff, Nat.reduceSub, fwrap_i64]
    refine OQ_does (LWindow_ok F3.wf (lz.fr F3) (by simp) (by omega) (by omega)) ?_
    rintro _ h4 ⟨rfl, F4⟩
    rw [win_zero]
    have F04 := F03.then F4
    have F24 := F3.then F4
    simp (disch := omega) only [evs, ↓reduceIte, Nat.reduceEqDiff, Nat.reduceAdd, Nat.reduceMul, Nat.reduceLeDiff, Nat.reduceLT, Int.reduceNeg, DF, eff, Nat.reduceSub, fwrap_i64, eq_true (show (11 : Int) = 11 by rfl)]
    refine OQ_does (LLen_ok F4.wf (lz.fr F24)) ?_
    rintro _ h5 ⟨rfl, F5⟩
    have F05 := F04.then F5
    have F25 := F24.then F5
    obtain ⟨h6, e_h6⟩ : ∃ h6, h6 = halloc h5 [.int .i64 4] := ⟨_, rfl⟩
    have F_h6 : Fr [] h5 h6 := e_h6 ▸ Fr.halloc F5.wf _
    have o_h6 : Own h6 h5.next [.int .i64 4] := e_h6 ▸ Own.new F5.wf _
    obtain ⟨h7, e_h7⟩ : ∃ h7, h7 = halloc h6 [.bool true] := ⟨_, rfl⟩
    have F_h7 : Fr [] h6 h7 := e_h7 ▸ Fr.halloc F_h6.wf _
    have o_h7 : Own h7 h6.next [.bool true] := e_h7 ▸ Own.new F_h6.wf _
    have F07 := F05.then (F_h6.then F_h7)
    have F27 := F25.then (F_h6.then F_h7)
    simp (disch := omega) only [evs, ↓reduceIte, Nat.reduceEqDiff, Nat.reduceAdd, Nat.reduceMul, Nat.reduceLeDiff, Nat.reduceLT, Int.reduceNeg, DF, eff, Nat.reduceSub, fwrap_i64, List.length_nil, eq_true (show ((0 : Nat) : Int) = 0 by rfl), ← e_h6, ← e_h7]
    refine OQ_does (LIns_ok (m := [4]) (st := [true]) F_h7.wf (lz.fr F27) (Sl.lit (F_h7.get o_h6) rfl) (Sl.lit o_h7 rfl) (by simp) rfl (by omega) (by omega)) ?_
    rintro _ h8 ⟨rfl, F8, lo8⟩
    have xz : xinsE [] 0 [4] = 0 := by decide
    rw [xz, if_pos rfl] at lo8
    rw [xz]
    have lo8' : Lo h8 h1.next [4] [false] [true] := by simpa using lo8
    simp (disch := omega) only [evs, ↓reduceIte, Nat.reduceEqDiff, Nat.reduceAdd, Nat.reduceMul, Nat.reduceLeDiff, Nat.reduceLT, Int.reduceNeg, DF, eff, Nat.reduceSub, fwrap_i64]
    refine OQ_does (LTotal_ok F8.wf lo8') ?_
    rintro _ h9 ⟨rfl, F9⟩
    simp (disch := omega) only [evs, ↓reduceIte, Nat.reduceEqDiff, Nat.reduceAdd, Nat.reduceMul, Nat.reduceLeDiff, Nat.reduceLT, Int.reduceNeg, DF, eff, Nat.reduceSub, fwrap_i64, List.sum_cons, List.sum_nil, Int.add_zero, eq_true (show (4 : Int) = 4 by rfl)]
    have F09 : FrF h1.next h h9 := (frF F07).trans (F8.trans (frF F9))
    refine OQ_does (lives_ok (glb.frF F09 (by have := F1.next; omega))) ?_
    rintro _ _ ⟨rfl, hh⟩
    replace hh := hh.symm
    subst hh
    simp (disch := omega) only [evs, ↓reduceIte, Nat.reduceEqDiff, Nat.reduceAdd, Nat.reduceMul, Nat.reduceLeDiff, Nat.reduceLT, Int.reduceNeg, DF, eff, Nat.reduceSub, fwrap_i64]
    exact K _ _ F1.next F09
end Go.Ev.Lay

/- LayoutsErrors: whole. -/
namespace Go.Ev.Lay
set_option maxRecDepth 4000
structure ES (h : Heap) (env : T V) (b fb zb : Nat) (v : V) (L : List (Int × Bool × Bool)) (view over anchor delta : Int) (lo me : Bool) : Prop where
  wf : WF h
  glb : Glb h
  hn : 0 < h.next
  ly : Lo h b (sz L) (ky L) (sy L)
  rf : RwF h v L
  good : Good L
  sm : ∀ x ∈ sz L, 1 ≤ x ∧ x ≤ 128
  l30 : L.length ≤ 30
  fo : Own h fb [.int .i64 view, .int .i64 over, .bool lo]
  zo : Own h zb [.int .i64 anchor, .int .i64 delta, .bool me]
  fne : fb ≠ b
  zne : zb ≠ b
  a0 : -9223372036854775808 ≤ anchor
  a1 : anchor ≤ 9223372036854775807
  g4 : env.get 4 = some (.ptr fb 0)
  g5 : env.get 5 = some (.ptr zb 0)
  g7 : env.get 7 = some v
  g8 : env.get 8 = some (.ptr b 0)
theorem er2_ok {h : Heap} {env : T V} {b fb zb : Nat} {v f : V} {L : List (Int × Bool × Bool)} {view over anchor delta want : Int} {lo me : Bool} {R : V → Heap → Prop} (S : ES h env b fb zb v L view over anchor delta lo me)
    (g23 : env.get 23 = some (.int .i64 want)) (hw : want = setBad (sz L) view over anchor delta (!me)) (g24 : env.get 24 = some f) (hf : (me = false ∧ f = .nilf) ∨ (me = true ∧ f = .func (.func 44) [] []))
    (K : ∀ h1 h' b2, FrF b h h1 → h1.next ≤ b2 → FrF b2 h1 h' → R (.bool true) h') : W go er2 env h (RetQ [.t 6] R) := by
  obtain ⟨wf, glb, hn, ly, rf, good, sm, l30, fo, zo, fne, zne, a0, a1, g4, g5, g7, g8⟩ := S
  simp (disch := omega) only [evs, ↓reduceIte, Nat.reduceEqDiff, Nat.reduceAdd, Nat.reduceMul, Nat.reduceLeDiff, Nat.reduceLT, Int.reduceNeg, DF, eff, Nat.reduceSub, fwrap_i64, er2, g4, g5, g8, g24, fo.ld, zo.ld1]
  by_cases z : want = 0
  · have hme : me = true ∧ f = .func (.func 44) [] [] := by
      rcases hf with ⟨e1, e2⟩ | x
      · subst e1; rw [hw] at z; unfold setBad at z; rw [if_pos (.inr rfl)] at z; omega
      · exact x
    obtain ⟨rfl, rfl⟩ := hme
    have hb0 : 0 ≠ b := by
      rintro rfl
      obtain ⟨p, vk, pm, o, _⟩ := ly
      have := congrArg List.length (glb.own.uniq o)
      rw [tabc_len'] at this; simp at this
    refine OQ_does (Settle_ok (m := fun _ => 3) wf glb ly good.pos (hw.symm.trans z) (fun h i _ _ => three_ok h i) (fun _ => by constructor <;> decide)) ?_
    rintro _ h1 ⟨s, n, e, l', ks', rfl, ss, lo1, L1⟩
    have kl : (ky L).length = (sz L).length := by rw [ky_len, sz_len]
    have yl : (sy L).length = (sz L).length := by rw [sy_len, sz_len]
    obtain ⟨rfl, ll⟩ := ss.small yl kl sm (by rw [sz_len]; exact l30)
    rw [if_pos rfl] at lo1
    subst z
    simp (disch := omega) only [evs, ↓reduceIte, Nat.reduceEqDiff, Nat.reduceAdd, Nat.reduceMul, Nat.reduceLeDiff, Nat.reduceLT, Int.reduceNeg, DF, eff, Nat.reduceSub, fwrap_i64, g23, eq_true (show (0 : Int) = 0 by rfl)]
    have rf1 : RwF h1 v L := by
      obtain ⟨p, vk, pm, o, _, ix, _⟩ := ly
      exact rf.frF L1.f o (noInt ix.noint)
    exact er3_ok L1.f.wf (glb.frF L1.f hb0) (by have := L1.f.next; omega) lo1 (by rw [ll, sz_len]) rf1.rws (L1.f.own _ _ zne (len_noflc (by simp)) zo) a0 a1 (by simp [T.get_set, g5]) (by simp [T.get_set, g7]) (by simp [T.get_set, g8]) (fun h' b2 q1 q2 => K h1 h' b2 L1.f q1 q2)
  · have hf' : ((!me) = true ∧ f = .nilf) ∨ ((!me) = false ∧ ∃ N, f = .func (.func N) [] []) := by
      rcases hf with ⟨e1, e2⟩ | ⟨e1, e2⟩
      · subst e1; exact .inl ⟨rfl, e2⟩
      · subst e1; exact .inr ⟨rfl, 44, e2⟩
    refine OQ_does (SettleBad_ok (nil := !me) wf ly hf' (by rw [← hw]; exact z)) ?_
    rintro _ h1 ⟨rfl, F1⟩
    rw [← hw]
    simp (disch := omega) only [evs, ↓reduceIte, Nat.reduceEqDiff, Nat.reduceAdd, Nat.reduceMul, Nat.reduceLeDiff, Nat.reduceLT, Int.reduceNeg, DF, eff, Nat.reduceSub, fwrap_i64, g23, eq_false z, g7, g8, eq_true (show (0 : Int) = 0 by rfl)]
    refine OQ_does (same_ok F1.wf (ly.fr F1) (rf.fr F1).rws good) ?_
    rintro _ h2 ⟨rfl, F2⟩
    have F02 := F1.then F2
    simp (disch := omega) only [evs, ↓reduceIte, Nat.reduceEqDiff, Nat.reduceAdd, Nat.reduceMul, Nat.reduceLeDiff, Nat.reduceLT, Int.reduceNeg, DF, eff, Nat.reduceSub, fwrap_i64, eq_false (show ¬ (1 : Int) = 0 by omega)]
    exact er3_ok F2.wf (glb.fr F02) (by have := F02.next; omega) (ly.fr F02) (by rw [sz_len]) (rf.fr F02).rws (F02.get zo) a0 a1 (by simp [T.get_set, g5]) (by simp [T.get_set, g7]) (by simp [T.get_set, g8]) (fun h' b2 q1 q2 => K h2 h' b2 (frF F02) q1 q2)
theorem er15_ok {h : Heap} {env : T V} {b fb zb : Nat} {v f : V} {L : List (Int × Bool × Bool)} {view over anchor delta want : Int} {lo me : Bool} {R : V → Heap → Prop} (S : ES h env b fb zb v L view over anchor delta lo me)
    (g23 : env.get 23 = some (.int .i64 want)) (hw : want = if ¬ okF view over ∨ me = false then 1 else 0) (g24 : env.get 24 = some f) (hf : (me = false ∧ f = .nilf) ∨ (me = true ∧ f = .func (.func 44) [] []))
    (K : ∀ h1 h' b2, FrF b h h1 → h1.next ≤ b2 → FrF b2 h1 h' → R (.bool true) h') : W go er15 env h (RetQ [.t 6] R) := by
  have S0 := S
  obtain ⟨wf, glb, hn, ly, rf, good, sm, l30, fo, zo, fne, zne, a0, a1, g4, g5, g7, g8⟩ := S
  have rl := rf.rws.len
  have nx : ∀ (env' : T V) (w' : Int), env'.get 4 = some (.ptr fb 0) → env'.get 5 = some (.ptr zb 0) → env'.get 7 = some v → env'.get 8 = some (.ptr b 0) → env'.get 24 = some f → env'.get 23 = some (.int .i64 w') → w' = setBad (sz L) view over anchor delta (!me) → W go er2 env' h (RetQ [.t 6] R) :=
    fun env' w' e4 e5 e7 e8 e24 e23 ew => er2_ok ⟨wf, glb, hn, ly, rf, good, sm, l30, fo, zo, fne, zne, a0, a1, e4, e5, e7, e8⟩ e23 ew e24 hf K
  have nm : (¬ okF view over ∨ me = false) ↔ (¬ okF view over ∨ (!me) = true) := by cases me <;> simp
  by_cases c : ¬ okF view over ∨ me = false
  · rw [if_pos c] at hw
    subst hw
    simp (disch := omega) only [evs, ↓reduceIte, Nat.reduceEqDiff, Nat.reduceAdd, Nat.reduceMul, Nat.reduceLeDiff, Nat.reduceLT, Int.reduceNeg, DF, eff, Nat.reduceSub, fwrap_i64, er15, g23, eq_false (show ¬ (1 : Int) = 0 by omega)]
    exact nx _ 1 (by simp [T.get_set, g4]) (by simp [T.get_set, g5]) (by simp [T.get_set, g7]) (by simp [T.get_set, g8]) (by simp [T.get_set, g24]) (by simp [T.get_set, g23]) (by unfold setBad; rw [if_pos (nm.1 c)])
  · rw [if_neg c] at hw
    subst hw
    have sb : setBad (sz L) view over anchor delta (!me) = if anchor < -1 ∨ L.length ≤ anchor ∨ delta < 0 ∨ 2305843009213693952 < delta then 4 else 0 := by
      unfold setBad; rw [if_neg (fun x => c (nm.2 x)), sz_len]
    by_cases c1 : anchor < -1
    · simp (disch := omega) only [evs, ↓reduceIte, Nat.reduceEqDiff, Nat.reduceAdd, Nat.reduceMul, Nat.reduceLeDiff, Nat.reduceLT, Int.reduceNeg, DF, eff, Nat.reduceSub, fwrap_i64, er15, g23, g5, zo.ld1, eq_true (show (0 : Int) = 0 by rfl), eq_true c1]
      exact nx _ 4 (by simp [T.get_set, g4]) (by simp [T.get_set, g5]) (by simp [T.get_set, g7]) (by simp [T.get_set, g8]) (by simp [T.get_set, g24]) (by simp [T.get_set]) (by rw [sb, if_pos (.inl c1)])
    · by_cases c2 : (L.length : Int) ≤ anchor
      · simp (disch := omega) only [evs, ↓reduceIte, Nat.reduceEqDiff, Nat.reduceAdd, Nat.reduceMul, Nat.reduceLeDiff, Nat.reduceLT, Int.reduceNeg, DF, eff, Nat.reduceSub, fwrap_i64, er15, g23, g5, g7, rl, zo.ld1, eq_true (show (0 : Int) = 0 by rfl), eq_false c1, eq_true c2]
        exact nx _ 4 (by simp [T.get_set, g4]) (by simp [T.get_set, g5]) (by simp [T.get_set, g7]) (by simp [T.get_set, g8]) (by simp [T.get_set, g24]) (by simp [T.get_set]) (by rw [sb, if_pos (.inr (.inl c2))])
      · by_cases c3 : delta < 0
        · simp (disch := omega) only [evs, ↓reduceIte, Nat.reduceEqDiff, Nat.reduceAdd, Nat.reduceMul, Nat.reduceLeDiff, Nat.reduceLT, Int.reduceNeg, DF, eff, Nat.reduceSub, fwrap_i64, er15, g23, g5, g7, rl, zo.ld1, eq_true (show (0 : Int) = 0 by rfl), eq_false c1, eq_false c2, eq_true c3]
          exact nx _ 4 (by simp [T.get_set, g4]) (by simp [T.get_set, g5]) (by simp [T.get_set, g7]) (by simp [T.get_set, g8]) (by simp [T.get_set, g24]) (by simp [T.get_set]) (by rw [sb, if_pos (.inr (.inr (.inl c3)))])
        · by_cases c4 : 2305843009213693952 < delta
          · simp (disch := omega) only [evs, ↓reduceIte, Nat.reduceEqDiff, Nat.reduceAdd, Nat.reduceMul, Nat.reduceLeDiff, Nat.reduceLT, Int.reduceNeg, DF, eff, Nat.reduceSub, fwrap_i64, er15, g23, g5, g7, rl, zo.ld1, eq_true (show (0 : Int) = 0 by rfl), eq_false c1, eq_false c2, eq_false c3, eq_true c4]
            exact nx _ 4 (by simp [T.get_set, g4]) (by simp [T.get_set, g5]) (by simp [T.get_set, g7]) (by simp [T.get_set, g8]) (by simp [T.get_set, g24]) (by simp [T.get_set]) (by rw [sb, if_pos (.inr (.inr (.inr c4)))])
          · simp (disch := omega) only [evs, ↓reduceIte, Nat.reduceEqDiff, Nat.reduceAdd, Nat.reduceMul, Nat.reduceLeDiff, Nat.reduceLT, Int.reduceNeg, DF, eff, Nat.reduceSub, fwrap_i64, er15, g23, g5, g7, rl, zo.ld1, eq_true (show (0 : Int) = 0 by rfl), eq_false c1, eq_false c2, eq_false c3, eq_false c4]
            exact nx _ 0 (by simp [T.get_set, g4]) (by simp [T.get_set, g5]) (by simp [T.get_set, g7]) (by simp [T.get_set, g8]) (by simp [T.get_set, g24]) (by simp [T.get_set, g23]) (by rw [sb, if_neg (by omega)])
theorem er1_ok {h : Heap} {env : T V} {b fb zb : Nat} {v : V} {L : List (Int × Bool × Bool)} {view over anchor delta want : Int} {lo me : Bool} {R : V → Heap → Prop} (S : ES h env b fb zb v L view over anchor delta lo me)
    (g23 : env.get 23 = some (.int .i64 want)) (hw : want = if okF view over then 0 else 1)
    (K : ∀ h1 h' b2, FrF b h h1 → h1.next ≤ b2 → FrF b2 h1 h' → R (.bool true) h') : W go er1 env h (RetQ [.t 6] R) := by
  have S0 := S
  obtain ⟨wf, glb, hn, ly, rf, good, sm, l30, fo, zo, fne, zne, a0, a1, g4, g5, g7, g8⟩ := S
  have f1 := good.fit.nn
  simp (disch := omega) only [evs, ↓reduceIte, Nat.reduceEqDiff, Nat.reduceAdd, Nat.reduceMul, Nat.reduceLeDiff, Nat.reduceLT, Int.reduceNeg, DF, eff, Nat.reduceSub, fwrap_i64, er1, g4, g8, fo.ld]
  refine OQ_does (LClamp_ok wf ly) ?_
  rintro u1 h1 ⟨e1, F1⟩
  obtain ⟨x1, rfl⟩ : ∃ x1, u1 = .tup [.int .i64 x1, .int .i64 want] := by
    by_cases c : okF view over
    · rw [if_pos c] at e1 hw; exact ⟨_, by rw [e1, hw]⟩
    · rw [if_neg c] at e1 hw; exact ⟨_, by rw [e1, hw]⟩
  simp (disch := omega) only [evs, ↓reduceIte, Nat.reduceEqDiff, Nat.reduceAdd, Nat.reduceMul, Nat.reduceLeDiff, Nat.reduceLT, Int.reduceNeg, DF, eff, Nat.reduceSub, fwrap_i64, g4, g8, (F1.get fo).ld]
  refine OQ_does (LWindow_ok F1.wf (ly.fr F1) good.pos (by omega) (by omega)) ?_
  rintro u2 h2 ⟨e2, F2⟩
  have F02 := F1.then F2
  have cl : clampL (sz L) view 0 = 0 := by unfold clampL; omega
  obtain ⟨x2, y2, rfl⟩ : ∃ x2 y2, u2 = .tup [.int .i64 x2, .int .i64 y2, .int .i64 want] := by
    unfold winE at e2
    by_cases c : okF view over
    · rw [if_pos c] at e2 hw
      rw [if_pos cl] at e2
      split at e2 <;> exact ⟨_, _, by rw [e2, hw]⟩
    · rw [if_neg c] at e2 hw; exact ⟨_, _, by rw [e2, hw]⟩
  simp (disch := omega) only [evs, ↓reduceIte, Nat.reduceEqDiff, Nat.reduceAdd, Nat.reduceMul, Nat.reduceLeDiff, Nat.reduceLT, Int.reduceNeg, DF, eff, Nat.reduceSub, fwrap_i64, g4, g8, (F02.get fo).ld]
  refine OQ_does (LAtt_ok F2.wf (glb.fr F02) (ly.fr F02) good.pos (by omega) (by omega)) ?_
  rintro u3 h3 ⟨F3, e3⟩
  have F03 := F02.then F3
  obtain ⟨x3, rfl⟩ : ∃ x3, u3 = .tup [x3, .int .i64 want] := by
    by_cases c : okF view over
    · rw [if_pos c] at e3 hw
      rw [if_pos cl] at e3
      split at e3
      · exact ⟨_, by rw [e3, hw]⟩
      · obtain ⟨A, q, e4, _⟩ := e3; exact ⟨_, by rw [e4, hw]⟩
    · rw [if_neg c] at e3 hw; exact ⟨_, by rw [e3, hw]⟩
  have zo3 := F03.get zo
  have nx : ∀ (env' : T V) (w' : Int) (f : V), env'.get 4 = some (.ptr fb 0) → env'.get 5 = some (.ptr zb 0) → env'.get 7 = some v → env'.get 8 = some (.ptr b 0) → env'.get 24 = some f → env'.get 23 = some (.int .i64 w') → w' = (if ¬ okF view over ∨ me = false then 1 else 0) → ((me = false ∧ f = .nilf) ∨ (me = true ∧ f = .func (.func 44) [] [])) → W go er15 env' h3 (RetQ [.t 6] R) :=
    fun env' w' f e4 e5 e7 e8 e24 e23 ew ef => er15_ok ⟨F3.wf, glb.fr F03, by have := F03.next; omega, ly.fr F03, rf.fr F03, good, sm, l30, F03.get fo, zo3, fne, zne, a0, a1, e4, e5, e7, e8⟩ e23 ew e24 ef (fun h1 h' b2 q1 q2 q3 => K h1 h' b2 ((frF F03).trans q1) q2 q3)
  cases me
  · simp (disch := omega) only [evs, ↓reduceIte, Nat.reduceEqDiff, Nat.reduceAdd, Nat.reduceMul, Nat.reduceLeDiff, Nat.reduceLT, Int.reduceNeg, DF, eff, Nat.reduceSub, fwrap_i64, g23, g5, zo3.ld1]
    exact nx _ 1 .nilf (by simp [T.get_set, g4]) (by simp [T.get_set, g5]) (by simp [T.get_set, g7]) (by simp [T.get_set, g8]) (by simp [T.get_set]) (by simp [T.get_set]) (by rw [if_pos (.inr rfl)]) (.inl ⟨rfl, rfl⟩)
  · simp (disch := omega) only [evs, ↓reduceIte, Nat.reduceEqDiff, Nat.reduceAdd, Nat.reduceMul, Nat.reduceLeDiff, Nat.reduceLT, Int.reduceNeg, DF, eff, Nat.reduceSub, fwrap_i64, g23, g5, zo3.ld1]
    refine nx _ want (.func (.func 44) [] []) (by simp [T.get_set, g4]) (by simp [T.get_set, g5]) (by simp [T.get_set, g7]) (by simp [T.get_set, g8]) (by simp [T.get_set]) (by simp [T.get_set, g23]) ?_ (.inr ⟨rfl, rfl⟩)
    rw [hw]; by_cases c : okF view over <;> simp [c]
theorem LErr_ok {h : Heap} {v : V} {ps : List (Nat × Nat)} {view over anchor delta : Int} {lo me : Bool} (w : WF h) (g : Glb h) (hn : 0 < h.next) (a : Recs uc 2 h v ps) (hp : ∀ p ∈ ps, p.1 < 256 ∧ p.2 < 256) (a0 : -9223372036854775808 ≤ anchor) (a1 : anchor ≤ 9223372036854775807) :
    Does go 6 [.agg [v], .agg [.int .i64 view, .int .i64 over, .bool lo], .agg [.int .i64 anchor, .int .i64 delta, .bool me]] h fun u h' => u = .bool true ∧ ∀ x c, x < h.next → (∀ n m ws, ws.length = 64 → c ≠ flc n m ws) → Own h x c → Own h' x c := by
  have v1 := cells_one (Sl.one a)
  have G := good_rows ps
  obtain ⟨L, hL⟩ : ∃ L, L = (ps.take 30).map mkRow := ⟨_, rfl⟩
  have sm : ∀ x ∈ sz L, 1 ≤ x ∧ x ≤ 128 := by
    intro x hx
    rw [hL] at hx
    simp only [sz, List.mem_map] at hx
    obtain ⟨r, ⟨p, _, rfl⟩, rfl⟩ := hx
    simp only [mkRow]
    omega
  have l30 : L.length ≤ 30 := by rw [hL]; simp; omega
  rw [← hL] at G
  obtain ⟨h1, e_h1⟩ : ∃ h1, h1 = halloc h [v] := ⟨_, rfl⟩
  have F_h1 : Fr [] h h1 := e_h1 ▸ Fr.halloc w _
  have o_h1 : Own h1 h.next [v] := e_h1 ▸ Own.new w _
  obtain ⟨h2, e_h2⟩ : ∃ h2, h2 = halloc h1 [.int .i64 view, .int .i64 over, .bool lo] := ⟨_, rfl⟩
  have F_h2 : Fr [] h1 h2 := e_h2 ▸ Fr.halloc F_h1.wf _
  have o_h2 : Own h2 h1.next [.int .i64 view, .int .i64 over, .bool lo] := e_h2 ▸ Own.new F_h1.wf _
  obtain ⟨h3, e_h3⟩ : ∃ h3, h3 = halloc h2 [.int .i64 anchor, .int .i64 delta, .bool me] := ⟨_, rfl⟩
  have F_h3 : Fr [] h2 h3 := e_h3 ▸ Fr.halloc F_h2.wf _
  have o_h3 : Own h3 h2.next [.int .i64 anchor, .int .i64 delta, .bool me] := e_h3 ▸ Own.new F_h2.wf _
  have F13 := F_h2.then F_h3
  have F03 := F_h1.then F13
  refine does_fn g6x rfl ?_
  simp (disch := omega) only [evs, ↓reduceIte, Nat.reduceEqDiff, Nat.reduceAdd, Nat.reduceMul, Nat.reduceLeDiff, Nat.reduceLT, Int.reduceNeg, DF, eff, Nat.reduceSub, fwrap_i64, fn6x, v1, ← e_h1, ← e_h2, ← e_h3, (F13.get o_h1).ld, (F13.get o_h1).ld1]
  refine OQ_does (Rows_ok F03.wf (Recs.fr a F03) hp) ?_
  rintro u h4 ⟨gr, F4⟩
  rw [← hL] at gr
  have rf := GRecs.rwf gr
  have F04 := F03.then F4
  simp (disch := omega) only [evs, ↓reduceIte, Nat.reduceEqDiff, Nat.reduceAdd, Nat.reduceMul, Nat.reduceLeDiff, Nat.reduceLT, Int.reduceNeg, DF, eff, Nat.reduceSub, fwrap_i64]
  refine OQ_does (Lay_ok F4.wf rf G) ?_
  rintro _ h5 ⟨b, rfl, hb, lo5, F5⟩
  have rf5 := rf.frF' F5 F4.wf hb
  have hb0 : h.next ≤ b := Nat.le_trans F04.next hb
  have o2 := F4.get (F_h3.get o_h2)
  have o3 := F4.get o_h3
  have l2 := o2.lt F4.wf
  have l3 := o3.lt F4.wf
  have fo5 := F5.own _ _ (by omega) (len_noflc (by simp)) o2
  have zo5 := F5.own _ _ (by omega) (len_noflc (by simp)) o3
  have glb5 : Glb h5 := (g.fr F04).frF F5 (by omega)
  have F05 : FrF b h h5 := (frF F04).trans F5
  simp (disch := omega) only [evs, ↓reduceIte, Nat.reduceEqDiff, Nat.reduceAdd, Nat.reduceMul, Nat.reduceLeDiff, Nat.reduceLT, Int.reduceNeg, DF, eff, Nat.reduceSub, fwrap_i64, fo5.ld]
  refine OQ_does (nilClamp F5.wf) ?_
  rintro _ h6 ⟨rfl, F6⟩
  simp (disch := omega) only [evs, ↓reduceIte, Nat.reduceEqDiff, Nat.reduceAdd, Nat.reduceMul, Nat.reduceLeDiff, Nat.reduceLT, Int.reduceNeg, DF, eff, Nat.reduceSub, fwrap_i64, (F6.get fo5).ld]
  refine OQ_does (nilWindow F6.wf) ?_
  rintro _ h7 ⟨rfl, F7⟩
  have F57 := F6.then F7
  simp (disch := omega) only [evs, ↓reduceIte, Nat.reduceEqDiff, Nat.reduceAdd, Nat.reduceMul, Nat.reduceLeDiff, Nat.reduceLT, Int.reduceNeg, DF, eff, Nat.reduceSub, fwrap_i64]
  refine OQ_does nilHead ?_
  rintro _ _ ⟨rfl, hh⟩
  replace hh := hh.symm
  subst hh
  simp (disch := omega) only [evs, ↓reduceIte, Nat.reduceEqDiff, Nat.reduceAdd, Nat.reduceMul, Nat.reduceLeDiff, Nat.reduceLT, Int.reduceNeg, DF, eff, Nat.reduceSub, fwrap_i64, (F57.get fo5).ld, (F57.get zo5).ld1]
  refine OQ_does (nilSettle F7.wf) ?_
  rintro _ h8 ⟨rfl, F8⟩
  have F58 := F57.then F8
  simp (disch := omega) only [evs, ↓reduceIte, Nat.reduceEqDiff, Nat.reduceAdd, Nat.reduceMul, Nat.reduceLeDiff, Nat.reduceLT, Int.reduceNeg, DF, eff, Nat.reduceSub, fwrap_i64]
  refine OQ_does nilAt ?_
  rintro _ _ ⟨rfl, hh⟩
  replace hh := hh.symm
  subst hh
  simp (disch := omega) only [evs, ↓reduceIte, Nat.reduceEqDiff, Nat.reduceAdd, Nat.reduceMul, Nat.reduceLeDiff, Nat.reduceLT, Int.reduceNeg, DF, eff, Nat.reduceSub, fwrap_i64, eq_true (show (2 : Int) = 2 by rfl)]
  refine OQ_does nilCopy ?_
  rintro _ _ ⟨rfl, hh⟩
  replace hh := hh.symm
  subst hh
  simp (disch := omega) only [evs, ↓reduceIte, Nat.reduceEqDiff, Nat.reduceAdd, Nat.reduceMul, Nat.reduceLeDiff, Nat.reduceLT, Int.reduceNeg, DF, eff, Nat.reduceSub, fwrap_i64]
  refine OQ_does nilLen ?_
  rintro _ _ ⟨rfl, hh⟩
  replace hh := hh.symm
  subst hh
  simp (disch := omega) only [evs, ↓reduceIte, Nat.reduceEqDiff, Nat.reduceAdd, Nat.reduceMul, Nat.reduceLeDiff, Nat.reduceLT, Int.reduceNeg, DF, eff, Nat.reduceSub, fwrap_i64, eq_true (show (0 : Int) = 0 by rfl)]
  refine OQ_does nilTotal ?_
  rintro _ _ ⟨rfl, hh⟩
  replace hh := hh.symm
  subst hh
  simp (disch := omega) only [evs, ↓reduceIte, Nat.reduceEqDiff, Nat.reduceAdd, Nat.reduceMul, Nat.reduceLeDiff, Nat.reduceLT, Int.reduceNeg, DF, eff, Nat.reduceSub, fwrap_i64, eq_true (show (0 : Int) = 0 by rfl)]
  refine OQ_does nilIns ?_
  rintro _ _ ⟨rfl, hh⟩
  replace hh := hh.symm
  subst hh
  simp (disch := omega) only [evs, ↓reduceIte, Nat.reduceEqDiff, Nat.reduceAdd, Nat.reduceMul, Nat.reduceLeDiff, Nat.reduceLT, Int.reduceNeg, DF, eff, Nat.reduceSub, fwrap_i64, eq_true (show (2 : Int) = 2 by rfl)]
  refine OQ_does nilRem ?_
  rintro _ _ ⟨rfl, hh⟩
  replace hh := hh.symm
  subst hh
  simp (disch := omega) only [evs, ↓reduceIte, Nat.reduceEqDiff, Nat.reduceAdd, Nat.reduceMul, Nat.reduceLeDiff, Nat.reduceLT, Int.reduceNeg, DF, eff, Nat.reduceSub, fwrap_i64, eq_true (show (2 : Int) = 2 by rfl)]
  refine OQ_does nilMove ?_
  rintro _ _ ⟨rfl, hh⟩
  replace hh := hh.symm
  subst hh
  simp (disch := omega) only [evs, ↓reduceIte, Nat.reduceEqDiff, Nat.reduceAdd, Nat.reduceMul, Nat.reduceLeDiff, Nat.reduceLT, Int.reduceNeg, DF, eff, Nat.reduceSub, fwrap_i64, eq_true (show (2 : Int) = 2 by rfl)]
  refine OQ_does nilSet ?_
  rintro _ _ ⟨rfl, hh⟩
  replace hh := hh.symm
  subst hh
  simp (disch := omega) only [evs, ↓reduceIte, Nat.reduceEqDiff, Nat.reduceAdd, Nat.reduceMul, Nat.reduceLeDiff, Nat.reduceLT, Int.reduceNeg, DF, eff, Nat.reduceSub, fwrap_i64, eq_true (show (2 : Int) = 2 by rfl)]
  refine OQ_does nilMark ?_
  rintro _ _ ⟨rfl, hh⟩
  replace hh := hh.symm
  subst hh
  have F08 : FrF b h h8 := F05.trans (frF F58)
  have K : ∀ h1 h' b2, FrF b h8 h1 → h1.next ≤ b2 → FrF b2 h1 h' → V.bool true = .bool true ∧ ∀ x c, x < h.next → (∀ n m ws, ws.length = 64 → c ≠ flc n m ws) → Own h x c → Own h' x c := by
    intro q1 h' b2 k1 k2 k3
    have k4 := F08.trans k1
    refine ⟨rfl, fun x c hx hc o => k3.own _ _ (by have := k4.next; omega) hc (k4.own _ _ (by omega) hc o)⟩
  have fo8 := F58.get fo5
  simp (disch := omega) only [evs, ↓reduceIte, Nat.reduceEqDiff, Nat.reduceAdd, Nat.reduceMul, Nat.reduceLeDiff, Nat.reduceLT, Int.reduceNeg, DF, eff, Nat.reduceSub, fwrap_i64, er0, eq_true (show (2 : Int) = 2 by rfl), fo8.ld1]
  refine OQ_does rValid_ok ?_
  rintro _ _ ⟨rfl, hh⟩
  replace hh := hh.symm
  subst hh
  have nx : ∀ (env' : T V) (w' : Int), env'.get 4 = some (.ptr h1.next 0) → env'.get 5 = some (.ptr h2.next 0) → env'.get 7 = some u → env'.get 8 = some (.ptr b 0) → env'.get 23 = some (.int .i64 w') → w' = (if okF view over then 0 else 1) → W go er1 env' h8 (RetQ [.t 6] fun u h' => u = .bool true ∧ ∀ x c, x < h.next → (∀ n m ws, ws.length = 64 → c ≠ flc n m ws) → Own h x c → Own h' x c) :=
    fun env' w' e4 e5 e7 e8 e23 ew => er1_ok ⟨F8.wf, glb5.fr F58, by have := F08.next; omega, lo5.fr F58, rf5.fr F58, G, sm, l30, fo8, F58.get zo5, by omega, by omega, a0, a1, e4, e5, e7, e8⟩ e23 ew K
  by_cases c : okF view over
  · simp (disch := omega) only [evs, ↓reduceIte, Nat.reduceEqDiff, Nat.reduceAdd, Nat.reduceMul, Nat.reduceLeDiff, Nat.reduceLT, Int.reduceNeg, DF, eff, Nat.reduceSub, fwrap_i64, eq_true c]
    exact nx _ 0 (by simp [T.get_set]) (by simp [T.get_set]) (by simp [T.get_set]) (by simp [T.get_set]) (by simp [T.get_set]) (by rw [if_pos c])
  · simp (disch := omega) only [evs, ↓reduceIte, Nat.reduceEqDiff, Nat.reduceAdd, Nat.reduceMul, Nat.reduceLeDiff, Nat.reduceLT, Int.reduceNeg, DF, eff, Nat.reduceSub, fwrap_i64, eq_false c]
    exact nx _ 1 (by simp [T.get_set]) (by simp [T.get_set]) (by simp [T.get_set]) (by simp [T.get_set]) (by simp [T.get_set]) (by rw [if_neg c])
end Go.Ev.Lay
