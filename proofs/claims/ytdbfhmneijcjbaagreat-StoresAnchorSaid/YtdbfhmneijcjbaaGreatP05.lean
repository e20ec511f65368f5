/- An evaluator of the program, and contracts over it: LayG to LayG. -/
import Derived.Test.YtdbfhmneijcjbaaGreatP04
set_option linter.unusedSimpArgs false
set_option linter.unusedVariables false
set_option linter.constructorNameAsVariable false
set_option linter.unnecessarySimpa false
namespace Go.Ev.Lay
open Go.Ev.Ab
abbrev PO:=fun a=>s a .p
abbrev be:=fun a b c=>(.f (s a b) (PO c):IC)
abbrev PX:=fun a b=>(.f a b:IC)
abbrev Rv:=fun a b c=>s [a] (PX b c)
abbrev Ph:=fun a b c d=>(.d 0 (.n (Rv (q lt a b) (x b 0) (PX c d))):IC)
abbrev Pj:=fun a=>n (.a 1 false (.v a))
abbrev Qu:=fun a b=>(.d a (.n b):IC)
abbrev Tv:=fun a b c=>(.d a (PX b c):IC)
abbrev Sw:=fun a=>p lt a
abbrev TM:=fun a=>Sw [.v a,Y]
abbrev Rd:=fun a b c=>t a (.c b) (B c)
abbrev Ql:=fun a b=>t a (.b b) U
abbrev Qb:=fun a b=>q .p [.l a,Y,ff] b
abbrev UH:=fun a b c=>s [a] (s b c)
abbrev QD:=fun a b=>o (i a) b
abbrev Qs:=fun a b c d=>PX (s a b) (PX c d)
abbrev PW:=fun a b=>q lt [.v a,Y] b
abbrev PI:=fun a b=>(.e a b .i:IC)
abbrev QY:=fun a b c=>PI (.v a) (s b c)
abbrev Pm:=fun a b c=>p (.c a) [.v b,.v c]
abbrev RB:=fun a=>(.o a:IC)
abbrev QK:=fun a b=>c a [Y,.v b]
abbrev Ua:=fun a b=>RB [mv 13,Pm 2 a b,d 2 0,QK 291 10,p .H (B 3),O1 13]
abbrev Ud:=fun a=>p eq a
abbrev Rn:=fun a=>t a .d U
abbrev Sr:=fun a b=>PI (.v a) (.k b)
abbrev Qj:=fun a b=>PI (.v a) (.o b)
abbrev QT:=fun a b d=>c a [Y,.v b,.v d]
abbrev Pn:=fun a b=>o (.v a) b
abbrev Qz:=fun a b=>c a [.v b]
abbrev Ps:=fun a=>o (.l 1) a
abbrev Pk:IC:=.f .i (PX (Qu 0 (Tv 1 (Qu 2 (PX (s [lv 0,TM 11,zv 0 0,zv 1 11,Rd 2 2 1,Ql 3 1,h 4 l,zv 5 10,t 6 le (B 1),Qb 7 34] (x 34 2)) (.d 3 (I 11)))) (PX (Qu 4 (PX (s [lv 1,TM 12,zv 0 1,zv 1 12,Rd 2 2 1,Ql 3 1,h 4 l,zv 5 10,t 6 le (B 1),Qb 7 49] (x 49 4)) (.d 5 (I 12)))) (UH (QD 1073741824 13) [Of 14,Of 15] (Qs [lv 0,PW 11 55] (QY 55 [Pm 2 0 11,a 0,L,p le [Y,.v 10],O1 14] (Ua 0 11)) (s [lv 1,PW 12 74] (QY 74 [Pm 2 1 12,a 0,L,p le [Y,.v 10],O1 15] (Ua 1 12))) (Qs [lv 0,Ud [.v 11,Y],zv 0 12,zv 1 1,Rn 2,t 3 eq (B 2),Qb 4 99] (Sr 99 0) (s [N (.e (.v 2) [.v 14,.v 15]) 103] (Qj 103 [mv 9,QT 209 10 13,O1 9])) (RB [Pn 13 10]))))))) (PO [Qz 210 9,e 0,e 1,Ps 6,O1 7]))
abbrev Po:=fun a b=>n (.g a (.v b) (.l 1))
abbrev Pp:=fun a b=>q .p [.l a,tt,Y] b
abbrev Pq:=fun a b c=>t a (.b b) [.v c]
abbrev Pr:=fun a b=>q ne [.v a,O] b
abbrev Pt:=fun a=>p (.a a []) []
abbrev Pv:=fun a b=>q (.l 0 false) [.v a,.c .K] b
abbrev Pw:=fun a b c d=>(.f (s a b) (s c d):IC)
abbrev Px:=fun a b c d=>(.e (.v a) (PO b) (s c d):IC)
abbrev Py:=fun a b c=>s [Pr a b] (r b [Pn a c])
abbrev Pz:=fun a b=>q .d [.v a] b
abbrev PA:=fun a b d=>c a [.l b,.l d,Y]
abbrev PB:=fun a b=>p (.c a) (B b)
abbrev PC:=fun a=>n (.g a Y (.l 2))
abbrev PD:=fun a b c=>(.d a (s b c):IC)
abbrev PE:=fun a b=>p (.s none a true false false) (B b)
abbrev PF:=fun a b c=>f a (.b b) [.v c]
abbrev PJ:=fun a=>o (.c .K) a
abbrev PL:=fun a b c=>r a [QD b c]
abbrev PM:=fun a=>t a (.C .eql) [Y,.c (.f [])]
abbrev PN:=fun a=>p (.g 5 1) [.v 3,i a]
abbrev PR:=fun a b c=>n (.i a b (.l c) Y)
abbrev PU:=n (.b zN [(0,6)] 1 U)
abbrev PV:=fun a c=>p eq [.v a,b c]
abbrev PY:=fun a b c=>(.f (ds a b c) .p:IC)
abbrev Sz:=fun a b=>PD 1 a b
abbrev PZ:=fun a=>s [O0 4] (be [Pz 0 7,O0 8] (Ph [.v 8,.v 7] 9 (Sz [Pn 8 5] (s a (r 16 [Pn 5 4]))) (J 8)) [o (i (-1)) 4])
abbrev Qa:=fun a=>p (.h .rem) a
abbrev Qc:=p (.r .i64) U
abbrev Qd:=fun a b c=>g a (.a b true (.v c))
abbrev Qe:=fun a b=>g a (.c b U)
abbrev Qf:=fun a b=>s [On 2] (be [q (.l 1 false) [.v 0,.c .j] 4] (r 4 [On 2]) [n a,n b,O1 2])
abbrev Qg:=fun a=>p ad (B a)
abbrev Qh:=p ad [Y,i 1]
abbrev Qi:=n (.b zI [(0,4)] 1 U)
abbrev Tz:=fun a b=>ds a [(0,0,0),(4,0,0)] b
abbrev Sq:=p .x U
abbrev Rc:=fun a b=>r a [Of b]
abbrev Qk:=be [v 0,a 5,L,q .d U 29,O0 30] (Ph [.v 30,.v 29] 31 (Sz [Pn 30 8] (PX (Tz [Pj 4,mv 0,k,a 5,L,mv 8,PB 6 1,mv 1,Qh,n (.e (.l 8) (B 2)),Sq] [(43,10)]) (Rc 43 7))) (J 30)) [o tt 7]
abbrev Rq:=fun a=>q eq [Y,O] a
abbrev Qm:=fun a=>s [bx 0 1,O0 2] (be [D 6 1,c a U,Rq 5] (PL 5 14 2) [O0 2])
abbrev Ra:=fun a=>al [.j] a
abbrev Qn:=fun a=>s [bx 0 3,bx 1 4,bx 2 5,Ra 6,O0 7] (PO a)
abbrev Qo:=fun a b=>f a gt [Y,i b]
abbrev Qp:=fun a b=>f a .p [.l b,Y,ff]
abbrev Qq:=fun a b c=>p (.s none a true true false) [.l b,.l c,Y]
abbrev Rh:=fun a b d=>c a [.v b,.v d]
abbrev Qr:=fun a=>s [Of 4] (PO [Rh a 0 1,p ge [Y,O],O1 4])
abbrev TY:=fun a b=>r a [O0 b]
abbrev Qt:=fun a=>s [O0 2] (be [Pv 0 4] (TY 4 2) a)
abbrev Qv:=p (.a [.K] [(0,1)]) U
abbrev Qw:=m (.l 1)
abbrev Qx:=fun a b=>p (.c a) [Y,.v b]
abbrev Qy:=fun a b c=>p (.B (.func a) b) [.v c]
abbrev QA:=fun a c=>p (.a zO [(0,1),(1,1),(a,1)]) [b c,.v 7,Y]
abbrev QB:=fun a=>p lt [.v a,O]
abbrev QC:=fun a c=>p (.a [.f [],ZY 0,.f []] [(0,1),(1,1)]) [.c (.f a),b c]
abbrev QE:=fun a=>p (.s none a false true false) (B a)
abbrev QF:=fun a b c d=>p (.B (.func a) 0) [.v b,.v c,.v d]
abbrev QG:=p (.a zH []) []
abbrev QH:=fun a=>c a [.v 0,.v 1,.v 2]
abbrev QI:=fun a b c=>q lt [.v a,.v b] c
abbrev QJ:=fun a=>s [On 2] (PO [lv 0,lv 0,p (.s none a false true true) [.v 0,.l 1,Y],O1 2])
abbrev QL:=Pt [.K,.j]
abbrev QM:=p .j [.v 0]
abbrev QN:=fun a=>p (.a [ZY 0,.R] [(0,1),(1,1)]) [b a,Y]
abbrev QO:=fun a=>n (.g 1 Y a)
abbrev QP:=fun a b=>c a (B b)
abbrev QQ:=n (.b zE [(0,6)] 1 U)
abbrev SR:=p .q [.v 0,.v 3]
abbrev UE:=f 2 .q (B 1)
abbrev Tx:=fun a c=>f a gt [Y,b c]
abbrev QR:=fun a=>lp 0 1 [QM,PW 3 10] (x 10 0) (s [SR,Sw [Y,b 32],yv 0 0,yv 1 3,UE,Tx 3 126,Pp 4 22] a) (I 3)
abbrev QS:=p (.a zN []) []
abbrev QU:=fun a b=>p (.a [.f [],.h false,.h false,.h false,.h false,.R] [(0,1),(1,1),(2,1),(3,1),(4,1),(5,1)]) [.c a,tt,ff,ff,tt,.c b]
abbrev QV:=i 4611686018427387904
abbrev QW:=p su [Y,i 1]
abbrev QX:=fun a=>f a .x U
abbrev QZ:=fun a=>s [Of 2] (PO a)
abbrev Rb:=fun a b c=>r a [Pt b,S 1 6,Pn c 7]
abbrev Re:=fun a=>al [.K] a
abbrev Rf:=fun a=>al [.K,.j] a
abbrev Rg:=fun a b c=>p (.a [ZY 0,ZY 0,ZY 0,ZY 0] [(0,1),(1,1),(2,1),(3,1)]) [a,b,c,Y]
abbrev Ri:=fun a b=>c a [.v b,Y]
abbrev Rj:=fun a b=>f a (.b b) U
abbrev Rk:=p (.a zN [(0,1),(4,1)]) [b 2,Y]
abbrev Rl:=fun a=>N (.c 44 [.v 0]) a
abbrev Sa:=fun a b c d=>lp 0 1 a b c d
abbrev Rm:=fun a=>be [O0 6] (Sa [A 5 2,L,ls,TM 6,zv 0 5,t 1 le [Y,i 64],Qb 2 22] (x 22 0) (.o a) (I 6)) [Pn 5 4]
abbrev Ro:=fun a=>al [ZZ 0,ZZ 0] a
abbrev Rt:=fun a=>Pq 0 a 1
abbrev Ru:=p (.l 0 false) [.v 0,.c .K]
abbrev Rw:=fun a b c=>s [PV a b,O1 c] (.e (.v c) .i (RB [PV a 4,O1 c]))
abbrev Rx:=p (.r .u64) U
abbrev TU:=fun a=>f 1 gt [Y,.c (.C .i32 a)]
abbrev Ry:=QZ [Sw [.v 0,.c (.C .i32 32)],yv 0 0,TU 126,P 2,O1 2]
abbrev Rz:=fun a=>o (.l 2) a
abbrev RA:=fun a=>s [bx 0 1,O0 2] a
abbrev RC:=fun a b=>f a gt (B b)
abbrev RF:=fun a b=>q gt [Y,i a] b
abbrev RG:=fun a=>f a .d U
abbrev RH:=fun a b c=>p (.c a) [.l b,.l c]
abbrev RI:=fun a=>t a eq [Y,O]
abbrev RJ:=fun a b d e=>c a [.l b,.l d,.l e,Y]
abbrev RL:=fun a=>n (.q 4 (.l a) Y)
abbrev RM:=fun a c d=>p (.a zN [(0,1),(1,1),(a,1)]) [b c,.c (.f d),Y]
abbrev RN:=fun a=>f a (.l 0 false) [Y,.c .K]
abbrev RP:=fun a b=>n (.g a (.v b) (.l 2))
abbrev RQ:=fun a b=>s [bx 0 2,On 4] (s [lv 1,n a,O1 5] (be [Pn 1 11,Pz 11 12,O0 13] (Ph [.v 13,.v 12] 14 b (J 13)) [Pn 5 4]))
abbrev RR:=fun a=>p (.h .quo) a
abbrev RS:=fun a b c d=>(.e (.v a) (RB b) (s c d):IC)
abbrev RT:=p (.a [.h false,ZZ 0,.j,.R,.R] [(0,1),(4,1)]) (B 1)
abbrev RU:=fun a=>n (.z none [a,Y,.c (.h true)])
abbrev RW:=fun a=>f a (.C .neq) [Y,.c (.f [])]
abbrev RX:=PO [O0 6]
abbrev RY:=p (.a zO [(0,1),(2,1)]) [b 2,i 1]
abbrev RZ:=fun a=>f a .e U
abbrev Sd:=fun a b=>s [bx 0 2,O0 4] (Pw [Sw [.v 1,i 1],Qd 0 6 2,a,QX 2,Pp 3 13] (PL 13 1000 4) [QD 1 5] (Rm b))
abbrev Ue:=fun a=>p gt (B a)
abbrev Se:=fun a b=>ds [Pj 0,k,a,L,c 266 U,Pj 0,k,b,L,c 266 U,Ue 5] [(0,0,0),(3,0,0),(5,0,1),(8,0,1)] [(15,10)]
abbrev Sf:=fun a=>s [On 4,O0 5] (PO [c 269 [.v 0,.v 1,.c (.I (.func a) [] [])],e 0,e 1,Ps 4,O1 5])
abbrev Sh:=fun a c d=>p (.a zN [(0,1),(1,1),(2,1),(3,1),(5,1)]) [b 1,a,c,d,Y]
abbrev Si:=Pt [.K]
abbrev Sj:=fun a b=>o (.c (.I (.func a) [] [])) b
abbrev Sk:=fun a b=>r a [On 8,QD b 9]
abbrev Sm:=fun a b=>ds a b []
abbrev Sn:=fun a b c=>p (.a [.j,ZZ 0,.K,.K,.K] [(0,2),(2,1),(3,1),(4,1)]) [.l a,.l b,.l c,Y]
abbrev So:=fun a=>PF 0 a 1
abbrev Ss:=p (.a zH [(0,1)]) U
abbrev Su:=fun a b=>Qn [D 2 3,D 1 4,A 1 5,L,a,L,b,e 0,e 1,Po 1 6,Ps 7]
abbrev Sv:=fun a=>p ad [Y,.v a]
abbrev Sx:=fun a=>PZ [Pm a 0 5,d a 0,N (.e (.v 1) U) 16]
abbrev Sy:=fun a=>p (.g 4 1) [.v 1,i a]
abbrev SC:=t 1 .e U
abbrev SD:=fun a=>p (.a zN [(0,1)]) [b a]
abbrev SF:=n (.r Y)
abbrev SG:=fun a=>Qa [Y,b a]
abbrev SH:=fun a=>p (.a zH [(0,1),(1,1)]) a
abbrev SI:=fun a b c d=>s [a] (be b c d)
abbrev SJ:=fun a b c=>p (.B (.func a) 0) [.v b,.v c]
abbrev SK:=fun a b=>s [Pr a b] (Rb b [.j] a)
abbrev SL:=fun a b=>s [a] (PO b)
abbrev SM:=fun a b c=>s [a] (r b c)
abbrev SO:=fun a b=>s [O0 2] (Pw [lv 0,RF 4096 8] (PL 8 3 2) [a] (be [Pn 0 9,Pz 9 10,O0 11] b [O0 2]))
abbrev SP:=fun a b=>p ad [.v a,.v b]
abbrev SU:=fun a=>p ne [.v a,O]
abbrev SX:=fun a=>SI (O0 4) [O0 5] (Sa [lv 0,PW 5 9] (x 9 0) a (I 5)) [o (i (-1)) 4]
abbrev To:=fun a=>p su a
abbrev SY:=fun a b=>Sd (Qe 1 a) [mv 5,A 5 2,L,Qx 6 6,d 6 0,To [.v 1,i 1],QP b 1,Qg 6,O1 5]
abbrev SZ:=p (.a [ZZ 0,ZZ 0] [(0,1),(1,1)]) [.v 1,.v 2]
abbrev Ta:=fun a b=>s [On 2] (Pw [lv 0,Rq 6] (r 6 [On 2]) [lv 0,n a,O1 3] (SL (n b) [Pn 3 2]))
abbrev Tc:=p (.C .neq) [Y,.c (.f [])]
abbrev Td:=fun a b c d=>PX (.h a [12] [0,1,2,3,4,5,6,7,8,9,10,13,11,12,14] [(3,0,0),(5,0,0)] b) (s c d)
abbrev Te:=fun a b c=>h a (.c b [Y,.c (.I (.func c) [] [])])
abbrev Tf:=fun a=>Qo a 2305843009213693952
abbrev Tg:=fun a b c=>ds [mv 0,k,a,L,A 1 3,L,A 2 3,L,A 3 3,L,b,m Y] [(3,0,0),(5,0,0),(7,0,0),(9,0,0)] [c]
abbrev Ti:=fun b=>Sm [mv b,mv 0,k,a 0,L,mv 0,k,a 1,L,QE 4,RL 9] [(4,0,0),(8,0,0)]
abbrev Tj:=fun a b c d=>PX (PD a b c) (J d)
abbrev Tk:=fun a c=>p (.a zN [(0,1),(a,1)]) [b c,.v 0]
abbrev Tl:=fun a b c e=>Qj a [mv b,Pm 6 c e,d 6 0,QQ,PR 6 72 3,O1 b]
abbrev Tn:=fun a=>(.e (.v a) .p .i:IC)
abbrev Tp:=fun a b=>p (.a a [(0,1),(1,1)]) [Y,b]
abbrev Tq:=fun a b c d=>Rv (Of 2) (s a b) (be c d [o tt 2])
abbrev Ts:=fun a b c=>s [bx 0 3,bx 1 4,bx 2 5,Ra 6,O0 7] (Qs [D 2 3,D 1 4,QP 63 1,O1 8] a b c)
abbrev Tt:=fun a=>Rv (O0 6) (PD 0 [Ru,O1 7] (Px 7 [QD 2 6] a (PL 10 4 6))) RX
abbrev Tu:=fun a=>c a [Y,.v 1,.v 2,.v 3]
abbrev Tw:=fun a=>al [.f [],ZY 0,.f []] a
abbrev Ty:=fun a b=>s [bx 1 3,O0 4] (PX a b)
abbrev TA:=Pt [.j]
abbrev TB:=fun a b=>n (.b a [(0,1),(1,1),(2,1)] 3 b)
abbrev TC:=fun a=>n (.b [a,a] [(0,2)] 1 U)
abbrev TD:=n (.b [.f [],ZY 0,.f []] [(0,3)] 1 U)
abbrev TE:=fun a b=>Ph [.v 10,.v 9] 11 (Sz a b) (J 10)
abbrev Uq:=fun a=>q gt [Y,O] a
abbrev TF:=fun a=>be [Qz 117 10,Uq a] (Sk a 13) [Pn 10 8,O0 9]
abbrev TH:=fun a b=>q eq [.v a,O] b
abbrev TI:=f 4 su (B 1)
abbrev TJ:=fun a=>Sw [.v 12,b a]
abbrev TK:=fun a=>SM (Pr 8 a) a [On 6,Pn 8 7]
abbrev TL:=fun a=>al [.j,ZZ 0] a
abbrev TN:PK:=.I true [0,0]
abbrev TO:=fun a=>s [O0 6] a
abbrev TP:=n (.i 4 56 (.v 9) Y)
abbrev TQ:=fun a=>q .x U a
abbrev TR:=fun a=>be [D 1 1,c 82 U,q gt [Y,QV] a] (PL a 13 2) [O0 2]
abbrev TS:=fun a b=>p (.a a [(0,1)]) [b]
abbrev TT:=fun b c=>ds [b,mv 0,k,a 0,a 0,L,ls,QP 102 6,m Y] [(0,0,0),(5,0,0)] [c]
abbrev TV:=n (.h [.h false] 1 (.v 2) (.v 2))
abbrev TW:=fun a b=>h a (.c b U)
abbrev TX:=fun b=>Qt [v 0,a b,L,O1 2]
abbrev TZ:=fun a b c=>ds [mv 0,k,a,L,A 1 3,L,A 2 3,L,b,m Y] [(3,0,0),(5,0,0),(7,0,0)] [c]
abbrev Ub:=n (.d zN)
abbrev Uc:=fun a b=>Ph [.v 11,.v 10] 12 (Sz a b) (J 11)
abbrev Uf:=fun a=>To [Y,.v a]
abbrev Ug:=t 3 .x U
abbrev Uh:=fun a b=>r a [QS,S 6 6,QD b 7]
abbrev Ui:=fun a b=>t a .p [.l b,tt,Y]
abbrev Uj:=p (.a zE [(0,4),(4,1)]) (B 7)
abbrev Uk:=fun a b c=>Qf (.b a [] 0 []) (.i b c Y (.v 0))
abbrev Ul:=fun a b=>s [bx 0 3,Re 6,O0 7] (s a b)
abbrev Um:=fun a=>p (.c 6) a
abbrev Un:=fun a b=>PA 268 a b
abbrev Uo:=fun a=>g a (.a 1 false (.v 2))
abbrev Ur:=p .E [.v 10,i 1]
abbrev Us:=fun a b=>r a [O0 4,QD b 5]
abbrev Ut:=n (.b zO [(0,5),(5,5)] 2 (B 1))
abbrev Uu:=fun a=>p (.F false) a
abbrev Uv:=fun a=>al [ZZ 0,ZZ 0,ZZ 0,ZZ 0] a
abbrev Uw:=fun a b=>s [bx 0 2,a,O0 5] (s [D 1 2,c 81 U,e 0,e 1,Ps 6,O1 7] b)
abbrev Ux:=al [ZY 0,ZX 0,ZZ 0] 7
abbrev Uy:=f 1 lt [Y,O]
abbrev Uz:=QO (.c (.f []))
abbrev UA:=fun a b c=>s [bx 0 3,bx 1 4,bx 2 5,a] (s b c)
abbrev UB:=Pt [.j,ZZ 0,ZZ 0]
abbrev UC:=t 2 (.C .neq) [Y,.c (.f [])]
abbrev UD:=fun a b c d=>Qu a (Rv b c d)
abbrev UF:=fun a b c=>PX (s a b) (RB c)
abbrev UG:=fun a=>Qz a 0
abbrev UI:=fun a=>Sm a [(3,0,0),(5,0,0)]
abbrev UJ:=fun a=>PR 6 104 a
abbrev UK:=fun a=>QT a 1 2
abbrev UL:=fun a=>p (.g 64 1) [Y,.l a]
abbrev UM:=Sw [Y,i 1]
abbrev UN:=Ud [Y,O]
abbrev UO:=Rh 108 0 1
abbrev UP:=PF 0 1 4
abbrev UQ:=fun a b=>r a [QG,S 2 4,b]
abbrev UR:=Qe 2 192
abbrev US:=Ud [Y,u 0]
abbrev UT:=p (.C .eql) [Y,.c (.f [])]
abbrev UU:=fun a b=>PO [Pn a b]
abbrev UV:=c 126 [.l 2,.l 1,Y,.c .j]
abbrev UW:=fun a b=>s [c 10 [.v 3,u 5],e 0,e 1,Ps 6,O1 7] (s a b)
abbrev UX:=fun a=>n (.b a [(0,1)] 1 U)
abbrev UY:=m (.l 2)
abbrev UZ:=fun a=>p ad [.v a,i 1]
abbrev Va:=p (.f 6 6 true) (B 2)
abbrev Vb:=fun a b c d=>PX (ds a b c) (Rc d 2)
def anC:IC:=PX (PX (ds [mv 9,mv 17,D 2 13,PA 36 2 1,D 1 8,D 1 19,D 2 13,PA 37 2 1,p TN (B 4),m Y,yv 0 9,yv 1 17,PF 2 1 5,g 3 (.a 2 true Y),g 4 (.c 36 [.l 3,.l 2,Y]),Qd 5 1 8,Qd 6 1 19,PF 7 1 5,g 8 (.a 2 true Y),g 9 (.c 37 [.l 3,.l 2,Y]),f 10 TN (B 5),P 11,m Y,yv 0 9,Qd 1 2 13,g 2 (.c 36 [.l 1,.c .K,Y]),f 3 (.a [.j] []) [],Qd 4 1 19,Qd 5 2 13,g 6 (.c 37 [.l 2,.l 1,Y]),f 7 TN (B 4),P 8] [(2,0,0),(4,0,1),(5,0,1),(6,0,1),(13,2,2),(15,2,3),(16,2,3),(18,2,3),(24,4,4),(27,4,5),(28,4,5)] [(139,31)]) (Rc 139 6)) (RB [Pn 17 9])
def KY:IC:=.f (s [Rh 23 9 18,e 0,e 1,Qw,Ps 23] (s [q ne [.v 23,.v 21] 107] (Rc 107 6))) anC
def anB:IC:=s [Qz 22 9,O1 17] (s [D 1 4,D 2 7,D 1 8,PA 35 2 1,O1 18] (s [D 2 7,D 1 8,c 21 [.l 1,Y,.v 18],e 0,e 1,e 2,Ra 19,RP 1 19,UY,Rz 21] (.f (s [Pr 21 97] (Qj 97 [D 1 8,S 1 19])) KY)))
def anA:IC:=s [Rh 33 9 12,e 0,e 1,al zH 13,Po 2 13,Ps 14] (s [D 1 8,QK 34 12,e 0,e 1,al zH 15,Po 2 15,Ps 16] (PX (s [D 2 13,D 2 15,p TN (B 1),yv 0 14,yv 1 16,f 2 ne (B 1),Pp 3 77] (Rc 77 6)) (.f (s [Pr 14 79] (Qj 79 [A 1 5,d 2 0,S 2 13])) anB)))
def fn7x:l_:=⟨3,UA (Of 6) [D 3 3,c 16 U,e 0,e 1,TL 7,Ra 8,Po 2 7,Po 1 8] (s [D 2 7,D 1 8,QP 17 1,O1 9] (Pw [Pv 9 33] (Rc 33 6) [A 0 8,L,A 0 8,L,ls,QP 32 3,O1 10] (be [O0 11] (Sa [q lt [.v 11,i 2] 41] (x 41 0) (s [A 0 5,L,O1 12] (.f (s [q gt [.v 11,O] 47] (Qj 47 [mv 12,Ur,Qa (B 1),Ur,Qg 1,Ur,Qa (B 1),O1 12])) anA)) (I 11)) [c 15 [],O1 6]))),[.t 6]⟩
def fn8:l_:=⟨1,s [bx 0 1,PJ 2,O0 3] (Pw [D 2 1,c 38 U,O1 4] (SM (Pr 4 12) 12 [PJ 2,Pn 4 3]) [c 39 [.c .j],e 0,e 1,Ps 5,O1 6] (Pw [Pr 6 19] (r 19 [PJ 2,Pn 6 3]) [A 0 1,L,c 40 U,O1 7] (PX (s [Pz 7 25,O0 26] (Ph [.v 26,.v 25] 27 (Sz [Pn 26 8] (RB [Pm 9 7 8,a 0,d 6 0,c 41 U,Pm 9 7 8,a 0,PC 6])) (J 26))) (PY [mv 7,A 1 1,L,p (.a [.j,ZZ 0] [(0,1),(1,1)]) (B 2),mv 5,c 42 [],c 43 [],Sn 3 2 1,SF,m Y,m O] [(2,0,2)] [(2,9),(3,10)])))),[.t 2,.t 3]⟩
def fn9:l_:=⟨2,s [bx 1 3,O0 4] (Qs [Rl 9] (PL 9 2 4) (s [D 5 3,c 45 U,O1 5] (Py 5 13 4)) (be [Qy 46 1 0,QN 1,Qy 47 1 0,QN 2,Qy 48 1 0,QN 3,Qy 49 1 0,QN 4,Qy 50 1 0,QN 5,N (.b [ZY 0,.R] [(0,2),(2,2),(4,2),(6,2),(8,2)] 5 [.l 8,.l 6,.l 4,.l 2,Y]) 30,Pz 30 31,O0 32] (Ph [.v 32,.v 31] 33 (Sz [Pm 2 30 32,d 2 0,al [ZY 0,.R] 7,S 2 7] (s [A 0 7,L,A 0 3,L,q eq (B 2) 40] (r 40 [A 1 7,L,D 5 3,n (.e (.l 1) U),O1 4]))) (J 32)) [QD 1 4])),[.t 4]⟩
def fn10:l_:=⟨2,s [O0 4,Of 5] (be [Rl 7] (r 7 [O0 4,Of 5]) [v 0,a 3,L,QK 51 1,e 0,e 1,Ps 4,O1 5]),[.t 4,.t 5]⟩
def fn11:l_:=⟨1,SI (O0 2) [Rl 4] (TY 4 2) [v 0,a 2,L,c 52 U,O1 2],[.t 2]⟩
def fn12:l_:=⟨2,s [O0 4,O0 5] (Pw [Rl 13] (Us 13 2) [v 0,a 4,L,c 53 U,O1 6] (be [Pn 1 19,Pz 19 20,O0 21] (Ph [.v 21,.v 20] 22 (Sz [Pm 2 19 21,d 2 0,al zH 8,Pn 21 7,S 2 8] (PX (.h [mv 0,k,a 3,L,A 0 8,L,QP 51 2,m Y,e 0,e 1,Qw,Qw] [] [0,1,2,3,4,5,6,7,8,10,9,11] [(3,0,0),(5,0,0)] [(9,10),(10,11)]) (s [QD 11 11] (Pw [Pn 10 36] (PI (.v 36) (ds [mv 0,k,a 4,L,mv 9,A 1 8,L,c 54 [.l 3,.l 2,Y,tt],m Y] [(3,0,0),(6,0,0)] [(11,8)])) [Pr 11 46] (QY 46 [v 0,a 4,QO (.v 6)] (PO [Pn 7 4,Pn 11 5])))))) (J 21)) [lv 1,O1 4,O0 5])),[.t 4,.t 5]⟩
def fn13:l_:=⟨1,SI (PJ 2) [Rl 4] (r 4 [PJ 2]) [v 0,a 4,L,c 53 U,O1 2],[.t 2]⟩
def fn14:l_:=⟨1,Qt [v 0,a 0,a 0,a 0,d 1 0,c 55 U,O1 2],[.t 2]⟩
def fn15:l_:=⟨0,UH (Of 0) [SD 3,PU,RM 5 1 [114,111,119],al zN 1,S 6 1] (s [D 6 1,p (.a zK [(0,6),(6,1)]) [Y,i 10],D 6 1,p (.a zK [(0,6),(6,1),(7,1)]) [Y,i 6,tt],n (.b zK [(0,9),(9,9)] 2 (B 2)),Tp [.j,ZZ 0] (i 64),TL 2,S 2 2] (s [D 2 2,c 8 U,e 0,e 1,Ps 3,O1 4] (Pw [SU 4,yv 0 3,RN 1,Pp 2 38] (Rc 38 0) [p (.a zI [(0,1),(2,1)]) [u 5,.c (.f [97])],p (.a zI [(0,1),(1,1),(2,1)]) [u 7,b 1,.c (.f [98])],n (.b zI [(0,4),(4,4)] 2 (B 1)),p (.a zO [(0,1),(4,1)]) [b 1,Y],Ri 9 3,O1 5] (s [c 10 [.v 3,u 7],e 0,e 1,Ps 6,O1 7] (s [Qz 13 3,O1 8] (Pw [SU 5,yv 0 6,f 1 ne [Y,i 1],P 2,yv 0 7,QX 1,P 2,yv 0 8,RN 1,P 2,yv 0 8,Qe 1 14,f 2 ne [Y,i 16],Pp 3 70] (Rc 70 0) [p (.a zO [(0,1),(2,1),(3,1)]) [b 3,i 1,i 1],RY,Ut,Ri 23 3,e 0,e 1,Ps 9,O1 10] (UW [c 10 [.v 3,u 7],e 0,e 1,Ps 11,O1 12] (Pw [p ne [.v 9,i 2],yv 0 10,f 1 ne [Y,O],P 2,yv 0 6,f 1 ne [Y,O],P 2,yv 0 7,QX 1,P 2,yv 0 11,f 1 ne [Y,O],P 2,yv 0 12,Pp 1 109] (Rc 109 0) [RY,RY,Ut,Ri 23 3,e 0,e 1,Ps 13,O1 14] (UW [SH [u 5,i 30],SH [u 6,i 1],n (.b zH [(0,2),(2,2)] 2 (B 1)),Ri 12 3,e 0,e 1,Ps 15,O1 16] (s [SH [u 5,i 30],n (.b zH [(0,2)] 1 U),Ri 12 3,e 0,e 1,Ps 17,O1 18] (s [Qz 13 3,O1 8] (PO [Ud [.v 13,i 1],zv 0 14,t 1 eq [Y,i 4],Q 2,zv 0 6,RI 1,Q 2,zv 0 7,Q 1,zv 0 15,t 1 eq [Y,i 1],Q 2,zv 0 16,t 1 eq [Y,i 11],Q 2,zv 0 17,t 1 eq [Y,i 1],Q 2,zv 0 18,RI 1,Q 2,zv 0 8,t 1 (.l 0 true) [Y,.c .K],Q 2,zv 0 8,TW 1 14,t 2 eq [Y,i 30],Q 3,O1 0])))))))))))),[.t 0]⟩
def fn16:l_:=⟨1,s [bx 0 1,TL 2,Ra 3] (s [A 2 1,L,c 56 U,Tp [.j,ZZ 0] (i 12),TL 4,S 2 4] (s [A 0 1,d 1 0,c 57 U,O1 5] (Rv (Ra 6) (s [O0 7] (Sa [lv 5,PW 7 20] (x 20 0) (PX (PX (Tz [D 2 4,mv 5,mv 7,PB 4 1,d 4 0,c 58 [.l 4,Y,O],p gt [Y,O]] [(29,6)]) (Sr 29 1)) (PX (.h [D 2 4,mv 5,mv 7,PB 4 1,d 4 0,QP 59 4,n (.d zE),w 6] [6] [] [(0,0,0),(4,0,0)] [(8,6)]) (UF [A 0 6,L,ls,O1 9] (s [A 1 1,L,ls,TM 9,Rt 1,h 1 l,zv 2 9,Rd 3 1 1,h 4 l,t 5 gt [Y,b 0],Qb 6 51] (QY 51 [A 1 1,L,Qx 1 9,L,SG 40,Qc,p ad [i 1,Y],A 4 8,w 1] (RB [A 5 8,n (.g 1 Y tt)]))) [A 0 6,L,D 6 8,QQ,PR 6 72 2,A 0 6,w 1]))) (I 7))) (.f (.h [D 2 4,D 1 6,Po 2 2,Po 1 3] [] [0,2,1,3] [(0,0,0),(1,0,1)] []) .p)))),[.c 2 2 true,.c 3 1 true]⟩
def fn17:l_:=⟨2,s [bx 0 2,bx 1 3,PJ 4] (s [D 2 2,c 8 U,e 0,e 1,Ps 5,O1 6] (Pw [SU 6,yv 0 5,RN 1,Pp 2 22] (r 22 [PJ 4]) [p (.a zO [(0,1)]) [b 1],al zO 7,S 5 7] (s [On 8] (Qs [O0 9] (Sa [A 0 3,L,ls,PW 9 28] (x 28 0) (PX (Sm [A 4 7,L,A 0 3,L,mv 9,PB 6 1,a 0,d 4 0,Qi,PR 4 56 7,A 4 7,w 1] [(1,0,1),(3,0,0),(7,0,0)]) (s [A 0 3,L,Qx 6 9,a 5,N l 47] (PI (.v 47) (ds [mv 8,A 0 3,L,mv 9,PB 6 1,a 0,a 0,L,A 0 3,L,mv 9,PB 6 1,a 4,L,SH (B 6),n (.b zH [(0,2)] 1 U),PR 2 16 15,m Y] [(2,0,0),(7,0,0),(9,0,0),(13,0,0)] [(8,17)])))) (I 9)) (s [D 5 7,Ri 9 5,q ne [Y,O] 68] (r 68 [PJ 4])) (be [Rh 12 5 8,e 0,e 1,Qw,Ps 11] (SM (Pr 11 76) 76 [PJ 4]) [Pn 5 4]))))),[.t 4]⟩
def fn21:l_:=⟨3,s [bx 0 3,bx 1 4,Ra 6,O0 7,O0 8] (PX (s [D 2 3,D 1 4,QP 63 1,O1 9] (SM (Pr 9 16) 16 [TA,S 1 6,O0 7,Pn 9 8])) (Pw [lv 2,RF 32 21] (r 21 [TA,S 1 6,O0 7,QD 3 8]) [D 2 3,D 1 4,c 64 [.l 1,Y,O,O],e 0,e 1,Po 1 6,Ps 8] (be [Pn 2 29,Pz 29 30,O0 31] (Ph [.v 31,.v 30] 32 (Sz [Pm 5 29 31,d 5 0,al zO 11,Pn 31 10,S 5 11] (s [D 2 3,D 1 6,D 5 11,PA 24 2 1,e 0,e 1,Po 1 6,Ps 8] (SM (Pr 8 44) 44 [TA,mv 8,Po 1 6,Pn 10 7,Ps 8]))) (J 31)) [D 1 6,lv 2,mv 8,RP 1 6,Rz 7,Ps 8]))),[.c 6 1 true,.t 7,.t 8]⟩
def fn22:l_:=⟨1,s [PJ 2] (Pw [Rl 6] (r 6 [PJ 2]) [v 0,a 2,L,c 65 U,c 39 U,e 0,e 1,Ps 3,O1 4] (PX (SM (Pr 4 17) 17 [PJ 2]) (PY [mv 0,k,a 0,d 2 0,mv 3,mv 0,k,a 3,L,c 66 U,mv 0,k,a 4,L,c 53 U,Sn 11 10 5,SF,m Y] [(3,0,2),(8,0,0),(13,0,1)] [(2,17)]))),[.t 2]⟩
def fn23:l_:=⟨2,s [O0 4,O0 5] (PX (SM (Rl 11) 11 [O0 4,QD 2 5]) (Pw [lv 1,RF 32 14] (Us 14 3) [Qz 22 0,O1 6] (be [Pn 1 17,Pz 17 18,O0 19] (Ph [.v 19,.v 18] 20 (Sz [Pm 5 17 19,d 5 0,al zO 8,Pn 19 7,S 5 8] (s [D 5 8,Ri 9 0,O1 9] (s [Pr 9 28] (QY 28 [v 6,d 5 0,v 0,w 5] (PO [Pn 7 4,Pn 9 5]))))) (J 19)) [lv 1,O1 4,O0 5]))),[.t 4,.t 5]⟩
def fn24:l_:=⟨3,Ts (SK 8 14) (s [D 5 5,c 45 U,O1 9] (SK 9 20)) (PY [c 67 [],A 0 5,L,Va,p (.u 5 1 false) U,D 2 3,D 1 4,D 5 5,n (.e (.l 3) [.l 2,.l 1,Y]),e 0,e 1,Po 1 6,Qw] [(2,0,1),(5,0,1),(6,0,1),(7,0,1)] [(7,12)]),[.c 6 1 true,.t 7]⟩
def fn25:l_:=⟨2,s [bx 0 2,bx 1 3,O0 4,Of 5] (s [A 0 2,L,Qy 69 0 3,QP 68 1,O1 4] (PO [mv 4,p .E [Y,O],mv 4,p ge [Y,O],Rz 4,O1 5])),[.t 4,.t 5]⟩
def fn31:l_:=⟨3,TO (Pw [Pv 0 10] (PL 10 2 6) [v 0,a 0,d 2 0,UK 78,e 0,e 1,Rf 7,Po 2 7,Ps 8] (Pw [SU 8,yv 0 2,f 1 eq [Y,O],Pp 2 26] (r 26 [Pn 8 6]) [D 2 7,v 0,a 0,PC 2] (PO [v 0,a 2,L,UK 79,O1 6]))),[.t 6]⟩
def fn32:l_:=⟨2,s [O0 4] (SI (O0 5) [O0 6] (Sa [QI 6 1 9] (x 9 0) (RB [mv 5,Pm 6 0 6,a 4,L,Qg 3,O1 5]) (I 6)) [Pn 5 4]),[.t 4]⟩
def fn33:l_:=⟨2,s [al zH 4,O0 5] (PX (SM (Rl 11) 11 [QG,S 2 4,QD 2 5]) (Pw [Qz 11 0,UN,zv 0 1,RI 1,Qb 2 19] (UQ 19 (O0 5)) [v 0,a 4,L,QK 80 1,e 0,e 1,e 2,Rz 6,Ps 7,O1 8] (Pw [Pr 8 32] (UQ 32 (Pn 8 5)) [v 0,a 2,L,QK 70 6,e 0,e 1,al zI 9,Po 4 9,Ps 8] (be [Pr 8 45] (UQ 45 (Pn 8 5)) [A 0 9,L,SH [Y,.v 7],S 2 4,O0 5])))),[.c 4 2 true,.t 5]⟩
def fn34:l_:=⟨2,Uw (al zH 4) (Qs [Pr 7 15] (UQ 15 (Pn 7 5)) (s [QB 1,yv 0 1,Qd 1 1 2,Qe 2 82,f 3 su [Y,i 1],f 4 .E [O,Y],RC 5 4,Pp 6 27] (UQ 27 (QD 4 5))) (Pw [A 0 2,L,ls,Rq 32] (UQ 32 (O0 5)) [D 1 2,QK 83 1,e 0,e 1,Ps 8,O1 7] (.f (.h [A 0 2,L,mv 8,PB 6 1,a 0,a 0,L,mv 1,mv 6,mv 8,PB 1 1,L,To (B 4),SH (B 6),mv 7,Po 2 4,Qw] [] [0,1,2,3,4,5,6,7,8,9,10,11,12,13,15,14,16] [(1,0,0),(6,0,0),(11,0,0)] [(5,16)]) .p))),[.c 4 2 true,.t 5]⟩
def fn35:l_:=⟨3,UA (On 6) [On 7] (s [A 0 5,L,O1 8] (be [O0 9] (Sa [A 0 3,L,ls,TM 9,zv 0 9,t 1 lt [Y,i 6],Qb 2 23] (x 23 0) (s [A 0 3,L,Qx 5 9,d 5 0,QT 84 8 9,al zO 10,S 5 10] (s [mv 7,D 5 10,n (.b zO [(0,5)] 1 U),PR 5 56 2,O1 7] (s [D 2 4,D 5 10,c 85 [.l 1,.v 8,Y],e 0,e 1,Ps 11,O1 12] (s [TH 12 46] (Qj 46 [Pn 11 8]))))) (I 9)) [Pn 7 6])),[.t 6]⟩
def afT:IC:=Pw [Qz 11 0,Rq 97] (r 97 [QG,S 2 6]) [v 0,a 2,L,c 70 [Y,O],e 0,e 1,al zI 18,Po 4 18,Qw] (PO [A 0 18,L,Ss,S 2 6])
def fn36x:l_:=⟨3,s [bx 2 5,al zH 6] (PX (s [A 0 5,L,Ri 10 0,e 0,e 1,Qw,Ps 8] (s [tv 8 (.b 0) [.v 5],hv 8 l,tv 8 ne [Y,u 0],q .p [.v 8,Y,ff] 32] (r 32 [D 2 5,S 2 6]))) (.f (s [A 0 5,L,Ri 10 1,e 0,e 1,Ps 9,O1 10] (s [Pn 10 41] (QY 41 [v 1,a 2,L,c 65 U,O1 11] (Pw [UZ 9,O1 12] (Sa [lv 11,PW 12 52] (x 52 0) (s [Pm 4 11 12,a 0,L,Ri 10 0,e 0,e 1,Qw,Ps 14] (SM (Pn 14 65) 65 [Pm 4 11 12,a 0,L,Ss,S 2 6])) (I 12)) [To [.v 9,i 1],O1 15] (lp 2 3 [q ge [.v 15,O] 75] (x 75 2) (s [Pm 4 11 15,a 0,L,Ri 10 0,e 0,e 1,Qw,Ps 17] (SM (Pn 17 88) 88 [Pm 4 11 15,a 0,L,Ss,S 2 6])) (RB [mv 15,QW,O1 15])))))) afT)),[.c 6 2 true]⟩
def afU:IC:=be [A 0 4,L,ls,Rq 50] (r 50 [QG,S 2 6]) [A 0 4,L,Um [Y,O],a 0,a 0,L,Ss,S 2 6]
def YZ:IC:=Sz [D 1 4,QK 25 11,e 0,e 1,Qw,Ps 13] (SM (Pn 13 44) 44 [p (.a zH [(0,1)]) [.v 11],S 2 6])
def fn37x:l_:=⟨3,s [bx 0 3,bx 1 4,bx 2 5,al zH 6] (.f (s [A 0 5,L,q ne [Y,u 0] 16] (PI (.v 16) (Pw [D 1 4,A 0 5,L,QP 25 2,e 0,e 1,Qw,Ps 8] (SM (Pn 8 24) 24 [D 2 5,S 2 6]) [D 1 3,A 0 5,L,QP 25 2,e 0,e 1,Ps 9,O1 10] (s [Pn 10 33] (QY 33 [D 1 3,N (.c 86 [Y,.v 9]) 36] (.d 0 (.s (.v 36) [37] (RB [Pn 37 11]) YZ))))))) afU),[.c 6 2 true]⟩
def fn38:l_:=⟨1,RA (SI (Sj 87 3) [A 0 1,L,ls,UM,So 0,g 1 l,RG 2,Qo 3 8,P 4,So 1,g 1 l,f 2 lt [Y,i 1],P 3,So 1,g 1 l,Qo 2 64,P 3,So 0,g 1 l,yv 2 3,g 3 (.c 90 (B 1)),Pp 4 29] (PL 29 7 2) [O0 2]),[.t 2]⟩
def fn39:l_:=⟨1,s [PJ 2,O0 3] (s [UB,SF,O1 4] (be [c 91 [.v 4,O,.v 0],O1 5] (SM (Pr 5 12) 12 [PJ 2,Pn 5 3]) [Pn 4 2,O0 3])),[.t 2,.t 3]⟩
def fn40:l_:=⟨1,Qf (.b zK [] 0 []) (.i 9 128 Y (.v 0)),[.t 2]⟩
def fn41:l_:=⟨1,s [bx 0 1,al zN 2] (s [A 3 1,L,c 92 U,A 3 1,w 1] (s [A 5 1,L,c 93 U,A 5 1,w 1] (be [A 5 1,L,q .d U 14,O0 15] (Ph [.v 15,.v 14] 16 (Sz [Pn 15 3] (Sm [A 5 1,L,mv 3,A 5 1,L,mv 3,PB 6 1,d 6 0,c 41 U,RH 6 7 6,w 6] [(1,0,1),(4,0,0),(7,0,0)])) (J 15)) [D 6 1,S 6 2]))),[.c 2 6 true]⟩
def fn42:l_:=⟨0,SL (PJ 0) [UB,SF,O1 0],[.t 0]⟩
def fn43:l_:=⟨0,SL (PJ 0) [Pt [.K,.j,.K],SF,O1 0],[.t 0]⟩
def fn44:l_:=⟨1,QZ [Ru,yv 0 0,RZ 1,Rj 2 2,g 3 l,RN 4,P 5,O1 2],[.t 2]⟩
def fn45:l_:=⟨1,RA (Qs [A 0 1,L,Sw [Y,b 1],So 0,g 1 l,Tx 2 5,Pp 3 11] (PL 11 1 2) (.h [c 67 [],A 0 1,L,Va,n (.d [.f [],.h false,.h false,.h false,.h false,.R]),w 6] [4] [] [(2,0,1)] [(3,4)]) (be [A 1 3,L,Sq,Rt 1,h 1 l,t 2 ne [Y,O],Q 3,PF 0 2 3,g 1 l,QX 2,y 3 Y,Rt 2,h 1 l,t 2 ne [Y,O],Qp 7 3,P 8,PF 0 3 3,g 1 l,QX 2,y 3 Y,Rt 3,h 1 l,t 2 ne [Y,O],Qp 7 3,P 8,PF 0 4 3,g 1 l,QX 2,y 3 Y,Rt 4,h 1 l,Rn 2,t 3 gt [Y,O],Qp 8 4,Pp 9 54] (PL 54 5 2) [O0 2])),[.t 2]⟩
def fn46:l_:=⟨2,s [bx 0 2,bx 1 3,O0 4] (PX (PX (ds [A 1 3,L,Sw [Y,O],m Y,PF 0 1 3,g 1 l,Uo 2,Qe 3 11,RC 4 2,P 5] [(1,0,0),(5,0,1),(6,0,0)] [(15,9)]) (PL 15 4 4)) (PX (PX (ds [A 4 3,L,ls,Pj 2,c 11 U,To [i 1024,Y],Ue 3] [(1,0,1),(3,0,0)] [(22,6)]) (PL 22 3 4)) (be [Pj 2,A 4 3,L,Qy 95 0 2,PA 94 3 1,O1 5] (Py 5 29 4) [Pj 2,A 1 3,L,A 4 3,L,PA 96 4 2,O1 4]))),[.t 4]⟩
def fn47:l_:=⟨2,Ty (PX (TZ (a 4) (PA 31 4 2) (5,9)) (Py 5 20 4)) (Qs [A 2 3,N l 23,O0 24] (Ph [.v 24,.v 23] 25 (Sz [Pn 24 6] (Td [mv 0,k,a 2,L,A 1 3,L,mv 6,Qg 1,QP 70 4,m Y,e 0,e 1,n (.d zI),PC 4,UY] [(7,12),(8,14)] [TH 8 40] (PI (.v 40) (UI [mv 0,k,a 3,L,A 0 7,L,QP 97 2])))) (J 24)) (TZ (a 2) (PA 98 4 2) (9,9)) (s [A 1 3,L,Ri 99 0] (UU 9 4))),[.t 4]⟩
def fn48:l_:=⟨2,Ty (PX (Tg (a 4) (RJ 100 6 4 2) (5,11)) (Py 5 19 4)) (PX (Tg (a 2) (RJ 101 6 4 2) (6,11)) (s [A 1 3,L,A 3 3,L,p .H (B 2),Ri 99 0] (UU 6 4))),[.t 4]⟩
def chI:IC:=s [Pn 12 109,Pz 109 110,O0 111] (UD 4 (QI 111 110 112) (x 112 4) (Tj 5 [Pm 1 109 111,L,Pn 111 17,O1 18] (s [A 1 3,L,Sv 17,Ri 76 14,e 0,e 1,Ps 19,m Y] (Qs [p gt [.v 18,.v 19],q (.K true) [Y,.v 16] 129] (Sr 129 5) (ds [mv 0,k,a 4,L,A 1 3,L,mv 17,Qg 1,mv 18,c 54 [.l 5,.l 1,Y,ff],m Y] [(3,0,0),(5,0,0)] [(21,10)]) (s [Pr 21 141] (QY 141 [v 0,a 4,QO (.v 14)] (UU 21 4))))) 111))
def chC:IC:=be [A 4 3,N l 150,Pz 150 151,O0 152] (UD 6 (QI 152 151 153) (x 153 6) (Tj 7 [Pm 4 150 152,d 4 0,al zI 23,Pn 152 22,S 4 23] (PX (Sm [mv 0,k,a 4,L,A 1 3,L,mv 22,Qg 1,mv 13,mv 22,PB 1 1,L,PA 104 8 4] [(3,0,0),(5,0,0),(11,0,0)]) (Sm [mv 0,k,a 2,L,A 1 3,L,mv 22,Qg 1,D 4 23,c 71 U,PA 105 6 2] [(3,0,1),(5,0,1),(8,0,0)])) 152)) [O0 4]
def chB:IC:=s [A 4 3,L,Ri 103 0,e 0,e 1,Ps 12,O1 13] (s [v 0,a 4,L,c 53 U,O1 14] (.f (s [N (.b [.h false] [(0,1),(1,1)] 2 [.c (.h false),.c (.h true)]) 103,Pz 103 104,O0 105] (UD 2 (QI 105 104 106) (x 106 2) (PX (.d 3 (s [Pm 1 103 105,L,O1 16] chI)) (J 105)))) chC))
def fn49x:l_:=⟨2,Ty (PX (ds [A 1 3,L,Sw [Y,O],m Y,PF 0 1 3,g 1 l,yv 2 0,Qe 3 11,RC 4 2,P 5,m Y,PF 0 4 3,g 1 l,RG 2,yv 3 0,Qe 4 11,PF 5 1 3,g 6 l,f 7 su (B 2),RC 8 5,P 9] [(1,0,0),(5,0,1),(12,1,2),(17,1,2)] [(44,20)]) (PL 44 4 4)) (.f (s [A 4 3,N l 46,Pz 46 47,O0 48] (Ph [.v 48,.v 47] 49 (Sz [Pm 4 46 48,d 4 0,al zI 6,Pn 48 5,S 4 6] (PX (PX (TT (D 4 6) (7,8)) (Py 7 62 4)) (PX (Td [mv 0,k,a 2,L,A 1 3,L,mv 5,Qg 1,QP 70 4,m Y,e 0,e 1,n (.d zI),PC 4,UY] [(8,12)] [A 0 8,L,A 0 6,L,q ne (B 2) 80] (PL 80 9 4)) (s [D 4 6,Ri 72 0,e 0,e 1,Ub,PC 6,Rz 11] (Py 11 88 4))))) (J 48))) chB),[.t 4]⟩
def fn50:l_:=⟨2,Ty (s [A 4 3,L,ls,RF 1024 12] (PL 12 3 4)) (Pw [A 4 3,L,c 94 [.v 0,Y,.c (.I (.func 106) [] [])],O1 5] (Py 5 18 4) [v 0,a 0,d 2 0,c 8 U,e 0,e 1,Ps 6,O1 7] (PX (Py 7 29 4) (Pw [A 4 3,L,c 96 [.v 6,O,Y],O1 8] (Py 8 36 4) [v 6,d 5 0,v 0,w 5] (PO [O0 4])))),[.t 4]⟩
def fn51:l_:=⟨2,s [O0 4,Of 5] (Pw [UG 107,Rq 9] (r 9 [O0 4,Of 5]) [UO,e 0,e 1,Ps 6,O1 5] (be [q .x [.v 5] 17] (r 17 [O0 4,Of 5]) [v 0,a 0,L,Qx 3 6,a 2,L,O1 4,o tt 5])),[.t 4,.t 5]⟩
def fn52:l_:=⟨1,Rv (O0 2) (SM (Pv 0 4) 4 [O0 2]) (PY [mv 0,k,a 0,L,ls,mv 0,k,a 2,L,To (B 4),m Y] [(3,0,0),(8,0,0)] [(2,10)]),[.t 2]⟩
def fn53:l_:=⟨1,s [PJ 2] (Pw [Pv 0 5] (r 5 [PJ 2]) [v 0,a 0,d 2 0,p (.a [.K,.j,.K] [(0,2)]) U,SF,O1 3] (be [v 0,a 2,L,q (.l 0 true) [Y,.c .K] 16] (Qj 16 [v 0,a 2,L,c 109 U,v 3,a 2,PC 1]) [Pn 3 2])),[.t 2]⟩
def fn54:l_:=⟨4,s [O0 8] (Pw [Pv 0 12] (PL 12 2 8) [v 0,a 0,d 2 0,Tu 110,e 0,e 1,Rf 9,Po 2 9,Ps 10] (be [TH 10 25] (Qj 25 [D 2 9,v 0,a 0,PC 2]) [Pn 10 8])),[.t 8]⟩
def fn55:l_:=⟨1,RA (PO [A 0 1,L,c 111 U,O1 2]),[.t 2]⟩
def fn56:l_:=⟨1,UH (On 2) [QC [110] 3,QC [116,101,120,116] 1,n (.b [.f [],ZY 0,.f []] [(0,3),(3,3)] 2 (B 1)),SD 3,PU,p (.a zN [(0,1),(1,1),(3,1),(5,1)]) [b 1,.c (.f [114,111,119]),.l 2,Y],al zN 3,S 6 3] (s [QC [105,100] 2,TD,p (.a zN [(0,1),(4,1)]) [b 2,.c (.f [35])],SD 4,n (.b zN [(0,6),(6,6)] 2 (B 1)),Sh (.c (.f [104,101,97,100])) (.c (.f [104])) (.l 3),al zN 4,S 6 4] (s [SD 3,PU,p (.a zN [(0,1),(1,1),(2,1),(5,1)]) [b 1,.c (.f [98]),.c (.f [98,50]),Y],QC [111,102] 2,TD,RM 3 5 [116,97,103],n (.b zN [(0,6),(6,6)] 2 (B 3)),RM 5 1 [114,111,119],al zN 5,S 6 5] (PO [D 6 3,Qa [.v 0,b 7],Qc,p ad [i 10,Y],Qa [.v 0,b 4],Qc,p (.a zK [(0,6),(6,1),(8,1)]) [.l 5,.l 2,Y],D 6 4,Qa [.v 0,b 3],Qc,p ad [i 6,Y],RR [.v 0,b 4],SG 3,Qc,p (.a zK [(0,6),(6,1),(7,1),(8,1)]) [.l 6,.l 3,tt,Y],D 6 5,Qa [.v 0,b 16],Ud [Y,b 15],RR [.v 0,b 8],SG 3,Qc,p (.a zK [(0,6),(6,1),(7,1),(8,1)]) [.l 5,i 20,.l 3,Y],n (.b zK [(0,9),(9,9),(18,9)] 3 [.l 15,.l 7,Y]),O1 2]))),[.t 2]⟩
def fn57:l_:=⟨1,s [bx 0 1,On 2] (SI (On 3) [O0 4] (Sa [A 0 1,L,ls,TM 4,zv 0 4,t 1 lt [Y,i 12],Qb 2 14] (x 14 0) (s [A 0 1,L,Qx 4 4,d 4 0,c 112 U,al zI 5,S 4 5] (s [A 0 5,L,Ri 113 3,q lt [Y,O] 27] (Qj 27 [mv 3,D 4 5,Qi,PR 4 56 2,O1 3]))) (I 4)) [Pn 3 2]),[.t 2]⟩
def fn58:l_:=⟨3,s [bx 0 3,bx 1 4,O0 6] (Qs [D 4 4,A 0 3,L,ls,QP 114 3,Uq 14] (PL 14 6 6) (s [q eq [.v 2,i 1] 16] (PL 16 8 6)) (PX (.h [A 0 3,L,A 1 4,L,PB 9 2,a 0,d 6 0,D 4 4,A 1 3,L,PA 115 3 2,m Y,e 0,e 1,Ub,PC 6,UY] [14] [0,1,2,3,4,5,6,7,8,9,10,11,12,15,13,14,16] [(1,0,0),(3,0,0),(6,0,0),(7,0,0),(9,0,0)] [(8,16)]) (be [q gt [.v 8,O] 32] (PL 32 14 6) [O0 6]))),[.t 6]⟩
def fn59:l_:=⟨2,s [bx 0 2,bx 1 3,al zE 4] (PY [D 4 3,A 0 2,L,A 1 3,L,PB 9 2,a 6,L,Uj,S 6 4] [(0,0,0),(2,0,0),(4,0,0),(7,0,0)] []),[.c 4 6 true]⟩
def fn62:l_:=⟨1,Qt [v 0,a 0,d 2 0,c 121 U,O1 2],[.t 2]⟩
def fn63:l_:=⟨2,s [bx 0 2,bx 1 3,O0 4] (PX (s [D 2 2,c 38 U,O1 5] (Py 5 15 4)) (Pw [A 0 3,L,ls,RF 1024 20] (PL 20 3 4) [n (.s []),O1 6] (be [A 0 3,N l 23,Pz 23 24,O0 25] (Ph [.v 25,.v 24] 26 (Sz [Pm 6 23 25,d 6 0,al zE 8,S 6 8] (PX (s [A 0 8,d 4 0,A 0 2,L,ls,QP 102 3,O1 9] (Py 9 36 4)) (Pw [A 0 8,a 0,L,N (.o none (.h false) false [.v 6,Y]) 42] (PL 42 8 4) [A 0 8,a 0,L,RU (.v 6)] (Qs [D 2 2,A 0 8,d 4 0,QP 73 2,e 0,e 1,Ub,PC 6,Rz 11] (s [Pr 11 55] (PL 55 14 4)) (ds [A 4 8,L,c 88 U,Sq,m Y,PF 0 5 8,g 1 l,QX 2,y 3 Y,Pq 0 4 8,h 1 l,Pq 2 0 2,h 3 l,Pq 4 0 8,Ql 5 1,h 6 l,Rd 7 9 3,Ql 8 6,h 9 l,t 10 ne (B 8),Qp 15 11,P 16] [(1,0,0),(6,1,1),(10,1,1),(12,1,1),(15,1,1),(18,1,1)] [(77,21)]) (PL 77 12 4))))) (J 25)) [D 1 3,c 122 U,O1 4]))),[.t 4]⟩
def fn64:l_:=⟨4,s [bx 0 4,bx 1 5,bx 2 6,bx 3 7,Ra 8,O0 9] (PY [D 2 4,D 1 5,Pj 6,Pj 7,A 0 5,L,ls,PA 124 4 3,QF 125 5 6 7,RT,PA 123 9 8,e 0,e 1,Po 1 8,Qw] [(0,0,1),(1,0,1),(2,0,0),(3,0,0),(5,0,0)] [(9,14)]),[.c 8 1 true,.t 9]⟩
def fn65:l_:=⟨1,s [On 2] (Pw [Qz 52 0,Rq 6] (r 6 [On 2]) [Qz 52 0,n (.h zI 56 Y Y),O1 3] (PX (Ti 3) (PX (Sm [mv 3,mv 0,k,a 1,L,PE 4 4,mv 0,k,a 0,L,mv 0,k,a 1,L,mv 0,k,a 2,L,Qg 4,PE 4 9,RL 14] [(4,0,0),(9,0,0),(13,0,0),(17,0,0)]) (UU 3 2)))),[.t 2]⟩
def fn66:l_:=⟨1,Rv (PJ 2) (SM (Pv 0 4) 4 [PJ 2]) (PY [mv 0,k,a 0,L,c 127 U,mv 0,k,a 1,L,mv 0,k,a 2,L,p (.a [.j,ZZ 0,ZZ 0] [(0,1),(1,1),(2,1)]) [.l 8,.l 4,Y],SF,m Y] [(3,0,0),(8,0,1),(12,0,1)] [(2,15)]),[.t 2]⟩
def fn67:l_:=⟨0,SL (al [.f [],.h false,.h false,.h false,.h false,.R,.f [],.h false,.h false,.h false,.h false,.R,.f [],.h false,.h false,.h false,.h false,.R,.f [],.h false,.h false,.h false,.h false,.R,.f [],.h false,.h false,.h false,.h false,.R,.f [],.h false,.h false,.h false,.h false,.R] 0) [QU (.f [105,110,115,101,114,116]) (.I (.func 128) [] []),p (.a [.f [],.h false,.h false,.h false,.h false,.R] [(0,1),(1,1),(2,1),(3,1),(4,1),(5,1)]) [.c (.f [114,101,109,111,118,101]),tt,tt,ff,ff,.c (.I (.func 130) [] [])],p (.a [.f [],.h false,.h false,.h false,.h false,.R] [(0,1),(1,1),(2,1),(3,1),(4,1),(5,1)]) [.c (.f [109,111,118,101]),tt,tt,tt,ff,.c (.I (.func 131) [] [])],QU (.f [99,104,97,110,103,101]) (.I (.func 133) [] []),p (.a [.f [],.h false,.h false,.h false,.h false,.R] [(0,1),(1,1),(2,1),(3,1),(4,1),(5,1)]) [.c (.f [114,101,115,101,116]),ff,ff,ff,tt,.c (.I (.func 135) [] [])],p (.a [.f [],.h false,.h false,.h false,.h false,.R,.f [],.h false,.h false,.h false,.h false,.R,.f [],.h false,.h false,.h false,.h false,.R,.f [],.h false,.h false,.h false,.h false,.R,.f [],.h false,.h false,.h false,.h false,.R,.f [],.h false,.h false,.h false,.h false,.R] [(6,6),(12,6),(18,6),(24,6),(30,6)]) [.l 4,.l 3,.l 2,.l 1,Y],S 36 0],[.c 0 36 true]⟩
def fn68:l_:=⟨2,Sx 6,[.t 4]⟩
def fn69:l_:=⟨2,s [bx 0 2,Of 3] (PO [A 0 2,a 0,L,Pj 1,Ud (B 1),O1 3]),[.t 3]⟩
def fn70:l_:=⟨2,s [al zI 4,O0 5] (PX (s [c 137 [.v 0,.v 1,i 1],O1 6] (s [Pr 6 12] (QY 12 [al zI 7] (PO [D 4 7,S 4 4,Pn 6 5])))) (PY [mv 0,k,a 0,L,mv 0,mv 1,QP 138 1,PB 4 3,d 4 0,S 4 4,m O] [(3,0,1),(8,1,1)] [(5,10)])),[.c 4 4 true,.t 5]⟩
def fn71:l_:=⟨1,s [bx 0 1,al zI 2] (s [A 3 1,L,c 140 U,c 139 U,A 3 1,w 1] (PO [D 4 1,S 4 2])),[.c 2 4 true]⟩
def fn72:l_:=⟨2,s [bx 1 3,al zN 4,O0 5] (PY [mv 0,k,a 0,a 0,L,A 1 3,L,PB 9 2,a 0,d 6 0,D 4 3,mv 0,k,a 0,a 1,L,PA 141 6 5,e 0,e 1,Po 6 4,Qw] [(4,0,0),(6,0,0),(9,0,0),(10,0,0),(15,0,0)] [(5,20)]),[.c 4 6 true,.t 5]⟩
def fn73:l_:=⟨2,s [bx 0 2,bx 1 3,al zN 4,O0 5] (PY [A 0 2,L,A 1 3,L,PB 9 2,a 0,d 6 0,D 4 3,A 1 2,L,PA 141 3 2,e 0,e 1,Po 6 4,Qw] [(1,0,0),(3,0,0),(6,0,0),(7,0,0),(9,0,0)] [(5,14)]),[.c 4 6 true,.t 5]⟩
def fn74:l_:=⟨1,Qm 142,[.t 2]⟩
def fn76:l_:=⟨2,s [O0 4,O0 5] (be [Pv 0 7] (Us 7 2) [v 0,a 0,d 2 0,QK 145 1,e 0,e 1,Ps 4,O1 5]),[.t 4,.t 5]⟩
def fn78:l_:=⟨3,s [bx 0 3,Rf 6,O0 7] (s [A 0 3,a 0,d 1 0,UK 147,e 0,e 1,Re 8,Po 1 8,Ps 9] (Pw [Pr 9 21] (r 21 [QL,S 2 6,Pn 9 7]) [A 1 3,L,UK 148,e 0,e 1,Ps 10,O1 9] (PO [D 1 8,QT 149 10 9,e 0,e 1,Po 2 6,Ps 7]))),[.c 6 2 true,.t 7]⟩
def fn79:l_:=⟨3,TO (Pw [QH 150,O1 7] (Py 7 14 6) [UG 151,O1 8] (PX (Sm [mv 0,mv 8,mv 1,QE 1,mv 8,mv 1,mv 2,Qg 1,PE 1 3,n (.b [.j] [(0,1),(1,1)] 2 (B 5)),QP 152 9] []) RX)),[.t 6]⟩
def fn80:l_:=⟨2,s [O0 4,O0 5,O0 6] (be [Pv 0 8] (r 8 [O0 4,O0 5,QD 2 6]) [v 0,a 0,d 2 0,QK 153 1,e 0,e 1,e 2,Rz 4,Ps 5,O1 6]),[.t 4,.t 5,.t 6]⟩
def fn81:l_:=⟨1,s [bx 0 1,On 2,O0 3] (Pw [D 1 1,c 154 U,O1 4] (SM (Pr 4 10) 10 [On 2,Pn 4 3]) [A 0 1,L,ls,Qh,n (.h [ZZ 0] 8 Y Y),O1 5] (be [A 0 1,L,q .d U 19,O0 20] (Ph [.v 20,.v 19] 21 (Sz [Pn 20 6] (Sm [mv 5,mv 6,Qh,mv 5,mv 6,PB 1 1,L,A 0 1,L,mv 6,PB 6 1,a 4,L,Qg 6,RH 1 13 11,w 1] [(6,0,0),(8,0,0),(12,0,0)])) (J 20)) [Pn 5 2,O0 3])),[.t 2,.t 3]⟩
def fn82:l_:=⟨1,RA (SI (O0 3) [A 0 1,N l 8,Pz 8 9,O0 10] (TE [Pm 6 8 10,d 6 0,al zE 5,S 6 5] (s [A 4 5,L,p .E [Y,O],O1 6] (UF [To [QV,.v 3],q gt [.v 6,Y] 20] (PL 20 4611686018427387905 2) [mv 3,Sv 6,O1 3]))) [Pn 3 2]),[.t 2]⟩
def fn83:l_:=⟨2,Uw (O0 4) (PX (SM (Pr 7 14) 14 [O0 4,Pn 7 5]) (be [QB 1,yv 0 1,yv 1 6,yv 2 6,RG 3,f 4 su [Y,i 1],f 5 (.c 1) (B 3),g 6 l,f 7 ge (B 6),Pp 8 27] (Us 27 4) [Rh 155 6 1,O1 4,O0 5])),[.t 4,.t 5]⟩
def MB:IC:=s [p (.a zO [(0,1),(1,1)]) [b 4,.v 7],al zO 13,S 5 13] (be [O0 14] (lp 3 4 [p .H [.v 8,i 3],PW 14 103] (x 103 3) (s [PN 3,L,p (.r .u8) [.v 14],Qg 1,PN 4,L,PN 4,L,Rg (b 0) (.l 4) (.l 2),c 112 U,al zI 15,S 4 15] (s [SP 7 14,Um [.v 1,Y],a 0,a 0,L,A 0 15,w 1] (RB [A 4 13,L,D 4 15,Qi,PR 4 56 2,A 4 13,w 1]))) (I 14)) [D 5 13,S 5 6])
def MA:IC:=be [O0 16] (lp 5 6 [QI 16 8 138] (x 138 5) (RB [mv 9,SP 7 16,Um [.v 1,Y],a 0,d 4 0,Qi,PR 4 56 5,O1 9]) (I 16)) [p (.a zO [(0,1),(4,1)]) [b 5,.v 9],S 5 6]
def sG:IC:=be [p (.g 5 1) [.v 3,O],L,SG 16,O1 12] (PD 2 [TJ 4,O1 67] (Px 67 [p (.a zO [(0,1),(1,1),(4,1)]) [b 1,.v 7,.v 9],S 5 6] [TJ 6,O1 73] (Px 73 [p .H [.v 8,i 3],QA 2 2,S 5 6] [TJ 8,O1 80] (Px 80 [PN 3,L,Qc,lv 1,Uf 8,Qh,Qa (B 3),p (.a zO [(0,1),(1,1),(2,1),(3,1)]) [b 3,.v 7,.v 8,Y],S 5 6] [TJ 10,O1 95] (.e (.v 95) MB (s [TJ 11,O1 133] (.e (.v 133) MA (s [TJ 12,O1 153] (Px 153 [PN 1,L,PN 2,L,PN 3,L,PN 4,L,Rg (.l 6) (.l 4) (.l 2),c 112 U,Qi,TP,QA 4 1,S 5 6] [PV 12 12,O1 171] (Px 171 [PN 1,L,SG 8,PN 2,L,SG 8,Qc,To [Y,i 2],PN 3,L,SG 4,Qc,QW,PN 4,L,SG 3,Qc,p (.a zO [(0,1),(1,1),(2,1),(3,1)]) [.l 14,.l 9,.l 4,Y],S 5 6] [PV 12 13,O1 192] (Px 192 [UZ 8,QA 2 2,S 5 6] [PV 12 14,O1 199] (r 199 [p (.a zI [(0,1)]) [u 1],Qi,TP,QA 4 4,S 5 6])))))))))))) [PN 4,L,p (.a zI [(1,1)]) U,Qi,TP,QA 4 1,S 5 6]
def fn84x:l_:=⟨3,s [bx 0 3,al zO 6] (s [PN 1,L,Qc,lv 1,Qh,Qa (B 2),O1 7] (s [PN 2,L,Qc,lv 1,Uf 7,Qh,Qa (B 3),O1 8] (s [On 9] (.f (s [O0 10] (Sa [PN 2,L,SG 4,Qc,PW 10 38] (x 38 0) (s [PN 4,L,p (.r .u8) [.v 10],Qg 1,PN 3,L,PN 4,L,RR [Y,b 2],Rg (b 0) (.l 5) (.l 3),c 112 U,al zI 11,S 4 11] (s [p mu [i 10,.v 2],Sv 10,Rx,p ad [u 100,Y],A 0 11,w 1] (RB [mv 9,D 4 11,Qi,PR 4 56 2,O1 9]))) (I 10))) sG)))),[.c 6 5 true]⟩
def fn85:l_:=⟨3,s [bx 0 3,bx 2 5,On 6,O0 7] (PX (s [D 5 5,c 156 U,Uq 10] (r 10 [D 5 5,c 156 U,On 6,O1 7])) (be [A 0 5,N l 14] (PD 0 [PV 14 1,O1 15] (Px 15 [D 2 3,A 1 5,L,A 4 5,L,c 157 [.l 4,.v 1,.l 2,Y],e 0,e 1,Ps 6,O1 7] [PV 14 2,O1 26] (Px 26 [A 1 5,L,A 2 5,L,c 158 [.v 1,.l 2,Y],e 0,e 1,Ps 6,O1 7] [PV 14 3,O1 36] (Px 36 [A 1 5,L,A 2 5,L,A 3 5,L,c 159 [.v 1,.l 4,.l 2,Y],e 0,e 1,Ps 6,O1 7] [PV 14 4,O1 48] (r 48 [D 2 3,A 1 5,L,A 4 5,L,c 160 [.l 4,.v 1,.l 2,Y],e 0,e 1,Ps 6,O1 7]))))) [D 2 3,A 4 5,L,QP 161 2,e 0,e 1,Ps 6,O1 7])),[.t 6,.t 7]⟩
def fn86:l_:=⟨2,s [bx 0 2,bx 1 3,o (.c .R) 4] (PO [SJ 162 2 3,O1 4]),[.t 4]⟩
def fn87:l_:=⟨1,s [bx 0 1,Of 2] (PO [A 6 1,L,c 88 U,Sq,So 0,g 1 (.a 6 true Y),Qe 2 89,f 3 ne [Y,O],P 4,O1 2]),[.t 2]⟩
def fn88:l_:=⟨1,QZ [p ge [.v 0,i 1],zv 0 0,t 1 le [Y,i 2305843009213693952],Q 2,O1 2],[.t 2]⟩
def fn89:l_:=⟨1,Qm 163,[.t 2]⟩
def fn90:l_:=⟨2,Qr 164,[.t 4]⟩
def fn91:l_:=⟨3,TO (Qs [c 137 [.v 0,.v 1,O],O1 7] (Py 7 12 6) (s [lv 2,Qz 52 0,To [i 4096,Y],q gt (B 2) 19] (PL 19 3 6)) (Pw [lv 2,Rq 22] (TY 22 6) [Rh 165 0 1] (s [lv 2,Ri 166 0] (PX (Sm [mv 0,k,a 1,L,mv 0,k,a 0,L,mv 0,k,a 1,L,PE 4 4,mv 2,RL 1,Qg 11,p .e [.l 15],a 1,PC 1] [(3,0,1),(7,0,0),(11,0,0)]) (s [v 0,a 2,L,lv 2,To (B 1),v 0,a 2,PC 1] RX))))),[.t 6]⟩
def fn92:l_:=⟨1,Uk [.f [],ZY 0,.f []] 3 40,[.t 2]⟩
def fn93:l_:=⟨1,Qf (.b zN [] 0 []) (.i 6 104 Y (.v 0)),[.t 2]⟩
def fn94:l_:=⟨3,TO (s [n (.s []),O1 7] (be [Pn 1 14,Pz 14 15,O0 16] (Ph [.v 16,.v 15] 17 (Sz [Pm 4 14 16,d 4 0,al zI 9,S 4 9] (PX (PX (TT (D 4 9) (10,8)) (Py 10 29 6)) (Pw [A 0 9,L,n (.o none (.h false) false [.v 7,Y]),yv 0 2,PF 1 0 9,g 2 l,g 3 (.e (.l 2) U),Pp 4 40] (PL 40 8 6) [A 0 9,L,RU (.v 7)] (s [D 4 9,Ri 72 0,e 0,e 1,Ub,PC 6,Rz 12] (Py 12 51 6))))) (J 16)) [O0 6])),[.t 6]⟩
def fn95:l_:=⟨2,UH (Of 3) [Pj 1,k,a 3,L,QK 51 0,e 0,e 1,Qw,Ps 5] (UU 5 3),[.t 3]⟩
def fn96:l_:=⟨3,TO (s [Rh 103 0 2,e 0,e 1,Ps 7,O1 8] (PX (s [v 0,a 4,L,c 167 [Y,.v 1,.v 7,.v 8],O1 9] (Py 9 28 6)) (Pw [Pn 2 30,Pz 30 31,O0 32] (Ph [.v 32,.v 31] 33 (Sz [Pm 4 30 32,d 4 0,al zI 11,Pn 32 10,S 4 11] (PX (ds [mv 0,k,a 2,L,mv 1,mv 10,Qg 1,D 4 11,c 71 U,Qi,PA 91 6 3,m Y] [(3,0,2),(7,0,0)] [(12,11)]) (Py 12 49 6))) (J 32)) [Rh 99 0 1] RX))),[.t 6]⟩
def fn97:l_:=⟨2,s [Of 4] (Pw [UG 107,Rq 9] (Rc 9 4) [UO,e 0,e 1,Ps 5,O1 6] (be [Pn 6 16] (QY 16 [v 0,a 0,L,TS [ZY 0,ZX 0,ZZ 0] (b 2),p (.c 3) [.l 1,.v 5],w 3] (s [v 0,a 1,L,QW,v 0,a 1,PC 1] (RB [v 0,a 2,L,Qh,v 0,a 2,PC 1]))) [Pn 6 4])),[.t 4]⟩
def fn98:l_:=⟨3,TO (Pw [QH 137,O1 7] (s [SU 7,yv 0 2,f 1 eq [Y,O],Pp 2 17] (r 17 [Pn 7 6])) [Rh 165 0 1] (PX (Sm [mv 0,k,a 0,L,mv 1,mv 0,k,a 2,L,Qg 4,mv 1,mv 0,k,a 2,L,Qg 4,mv 2,Qg 1,Qq 4 14 8,n (.l zI Y)] [(3,0,0),(8,0,0),(14,0,0)]) (s [v 0,a 2,L,Sv 2,v 0,a 2,PC 1] RX))),[.t 6]⟩
def fn99:l_:=⟨2,Sa [v 0,a 2,L,c 52 U,PW 1 12] (x 12 0) (s [v 0,a 2,L,QK 70 1,e 0,e 1,al zI 4,Po 4 4,Ps 5] (s [TH 5 25] (PI (.v 25) (UI [mv 0,k,a 3,L,A 0 4,L,mv 1,PA 168 3 1])))) (I 1),[]⟩
def fn100:l_:=⟨4,s [O0 8] (Pw [Pv 0 12] (PL 12 2 8) [v 0,a 0,d 2 0,Tu 169,e 0,e 1,Rf 9,Po 2 9,Ps 10] (Pw [SU 10,yv 0 2,f 1 eq [Y,O],Pp 2 29] (r 29 [Pn 10 8]) [D 2 9,v 0,a 0,PC 2] (PO [v 0,a 2,L,Tu 170,O1 8]))),[.t 8]⟩
def fn101:l_:=⟨4,s [O0 8] (Qs [QH 137,O1 9] (Py 9 17 8) (s [QB 3,yv 0 3,yv 1 0,Qe 2 52,yv 3 2,TI,RC 5 4,Pp 6 28] (PL 28 4 8)) (Pw [TH 2 30] (TY 30 8) [n (.h zI 56 (.v 2) (.v 2)),O1 10] (Pw [Pz 10 34,O0 35] (Ph [.v 35,.v 34] 36 (Sz [Pn 35 11] (Sm [mv 10,mv 11,mv 0,k,a 0,L,mv 0,mv 1,mv 11,Qg 1,QP 138 3,PB 4 5,d 4 0,RH 4 12 11,w 4] [(5,0,1),(12,1,1)])) (J 35)) [QH 98] (PO [c 91 [.v 0,.v 3,.v 10],O1 8])))),[.t 8]⟩
def fn102:l_:=⟨2,s [bx 0 2,O0 4] (s [Qy 171 0 2,O1 5] (s [Qy 174 0 2,O1 6] (be [A 0 2,L,US,PF 0 1 2,g 1 l,f 2 (.r .i64) U,yv 3 1,f 4 ge (B 1),P 5,yv 0 5,g 1 (.e Y []),QX 2,P 3,yv 0 6,g 1 (.e Y []),QX 2,Pp 3 28] (PL 28 6 4) [O0 4]))),[.t 4]⟩
def fn103:l_:=⟨2,s [On 4,On 5] (be [Pn 1 9,Pz 9 10,O0 11] (Uc [Pm 4 9 11,d 4 0,al zI 7,S 4 7] (PX (ds [mv 0,k,a 0,a 0,L,A 1 7,L,PB 9 2,d 9 0,n (.d zK),w 9] [(4,0,1),(6,0,1),(8,0,1)] [(8,9)]) (.h [mv 4,A 6 8,L,UX [ZZ 0],PR 1 8 3,mv 5,A 7 8,L,UX [.h false],PR 1 1 3,m (.l 5),Qw] [3,8] [] [(2,0,0),(7,0,1)] [(4,10),(5,11)]))) [mv 4,mv 5,Ps 4,O1 5]),[.t 4,.t 5]⟩
def fn104:l_:=⟨3,Rv (O0 6) (s [Pv 0 8] (PL 8 2 6)) (be [QB 1,yv 0 1,yv 1 0,Qe 2 62,f 3 ge (B 2),Pp 4 16] (PL 16 4 6) [v 0,a 2,L,UK 178,O1 6]),[.t 6]⟩
def fn105:l_:=⟨3,s [bx 2 5,O0 6] (Qs [c 137 [.v 0,.v 1,i 1],O1 7] (Py 7 12 6) (Sm [mv 0,k,a 0,L,mv 0,mv 1,QP 138 1,D 4 5,RH 4 4 1,w 4] [(3,0,1),(7,0,1)]) RX),[.t 6]⟩
def fn106:l_:=⟨1,QZ [Of 2],[.t 2]⟩
def fn107:l_:=⟨1,TX 1,[.t 2]⟩
def yD:IC:=.f .i (Pw [v 0,a 0,L,Qx 3 4,d 3 0,Ux,S 3 7] (PD 0 [A 0 7,L,Ud [Y,b 1],Pq 0 1 7,h 1 l,zv 2 1,t 3 eq (B 1),Q 4,O1 25] (Px 25 [mv 4,O1 4,o tt 5] [A 0 7,L,Ud [Y,b 0],zv 0 6,t 1 ge [Y,O],Q 2,O1 36] (Px 36 [Pn 6 4,Of 5] [A 0 7,L,Ud [Y,b 0],O1 45] (Px 45 [mv 4,O1 4,Of 5] [A 0 7,L,Ud [Y,b 2],zv 0 6,t 1 lt [Y,O],Q 2,O1 50] (Qj 50 [Pn 4 6]))))) [mv 4,Qh,v 0,a 0,L,ls,Qa (B 4),O1 4] (.q 0))
def fn108x:l_:=⟨2,s [O0 4,Of 5] (.j (s [o (i (-1)) 6] (.f (ds [mv 1,c 179 U,mv 0,k,a 0,L,ls,Rx,Qa (B 6),Qc,m Y] [(5,0,1)] [(4,10)]) yD)) 0 yD),[.t 4,.t 5]⟩
def fn109:l_:=⟨1,s [PJ 2] (Pw [Pv 0 5] (r 5 [PJ 2]) [v 0,d 66 0,al [ZZ 0,ZZ 0,ZX 0,ZX 0,ZX 0,ZX 0,ZX 0,ZX 0,ZX 0,ZX 0,ZX 0,ZX 0,ZX 0,ZX 0,ZX 0,ZX 0,ZX 0,ZX 0,ZX 0,ZX 0,ZX 0,ZX 0,ZX 0,ZX 0,ZX 0,ZX 0,ZX 0,ZX 0,ZX 0,ZX 0,ZX 0,ZX 0,ZX 0,ZX 0,ZX 0,ZX 0,ZX 0,ZX 0,ZX 0,ZX 0,ZX 0,ZX 0,ZX 0,ZX 0,ZX 0,ZX 0,ZX 0,ZX 0,ZX 0,ZX 0,ZX 0,ZX 0,ZX 0,ZX 0,ZX 0,ZX 0,ZX 0,ZX 0,ZX 0,ZX 0,ZX 0,ZX 0,ZX 0,ZX 0,ZX 0,ZX 0] 3,S 66 3] (UU 3 2)),[.t 2]⟩
def fn110:l_:=⟨4,s [bx 0 4,Rf 8,O0 9] (Pw [p ge [.v 1,O],zv 0 1,h 1 (.a 2 true (.v 4)),TW 2 121,t 3 lt (B 2),Q 4,zv 0 2,TW 1 180,Qb 2 23] (r 23 [QL,S 2 8,QD 12 9]) [A 0 4,a 0,d 1 0,UK 181,e 0,e 1,Re 10,Po 1 10,Ps 11] (PX (SM (Pr 11 35) 35 [QL,S 2 8,Pn 11 9]) (PY [D 1 10,A 1 4,L,mv 1,mv 1,Qh,mv 3,RJ 182 4 3 1,c 149 [.l 7,Y,O],e 0,e 1,Po 2 8,Qw] [(0,0,1),(2,0,0)] [(9,12)]))),[.c 8 2 true,.t 9]⟩
def fn111:l_:=⟨1,TX 4,[.t 2]⟩
def fn112:l_:=⟨1,s [bx 0 1,al zI 2] (PX (.h [p (.g 4 1) [.v 1,O],L,SG 60,Rx,p ad [u 1,Y],Sy 1,L,SG 3,n (.b [.f []] [(0,1),(1,1),(2,1),(3,1),(4,1),(5,1),(6,1),(7,1)] 8 [.c (.f []),.c (.f [97]),.c (.f [114,111,119]),.c (.f [116,119,111,32,119,111,114,100,115]),.c (.f [32,32]),.c (.f [126,33,45,44]),.c (.f [97,32,108,111,110,103,101,114,32,116,101,120,116,32,111,102,32,116,104,105,115,32,107,105,110,100]),.c (.f [57])]),Sy 2,L,SG 8,PB 1 3,L,p (.a zI [(0,1),(1,1),(2,1)]) [.l 9,.l 6,Y],n (.d zI),w 4] [8] [] [(1,0,1),(6,0,1),(10,0,1),(13,0,1)] [(3,15)]) (PX (s [O0 4] (Sa [q lt [.v 4,i 3] 21] (x 21 0) (s [Sy 3,L,Uu [Y,.v 4],p (.h .and) [Y,b 1],q gt [Y,b 0] 29] (PI (.v 29) (Sm [A 3 3,L,TB [.f []] [.c (.f [97]),.c (.f [98,50]),.c (.f [107,101,121])],mv 4,Sy 3,L,RR [Y,b 8],Qc,Qg 4,Qa [Y,i 3],PB 1 7,L,UX [.f []],PR 1 16 11,A 3 3,w 1] [(1,0,2),(5,0,1),(11,1,1)]))) (I 4))) (be [Sy 3,L,q ge [Y,b 240] 47] (Qj 47 [A 3 3,L,n (.b [.f []] [(0,1),(1,1)] 2 [.c (.f [97]),.c (.f [97])]),PR 1 16 1,A 3 3,w 1]) [D 4 3,S 4 2]))),[.c 2 4 true]⟩
def fn113:l_:=⟨2,SX (s [Pm 4 0 5,a 0,L,q eq [Y,.v 1] 18] (r 18 [Pn 5 4])),[.t 4]⟩
def ckR:IC:=PX (TO (Sa [A 3 2,L,ls,PW 6 30] (x 30 0) (RB [mv 5,A 3 2,L,Qx 1 6,L,c 184 U,p mu (B 5),O1 5]) (I 6))) (be [q eq [.v 5,i 1] 42] (TY 42 4) [QD 6 4])
def fn114x:l_:=⟨2,s [bx 0 2,O0 4] (s [A 2 2,L,c 183 U,O1 5] (.f (s [A 0 2,L,US,yv 0 1,PF 1 1 2,g 2 l,f 3 (.r .i64) U,f 4 le (B 3),P 5,PF 0 3 2,g 1 l,RG 2,Qo 3 8,Pp 4 25] (Qj 25 [O0 5])) ckR)),[.t 4]⟩
def fn115:l_:=⟨3,s [bx 0 3,bx 1 4,al zN 6,O0 7] (Qs [Sw [.v 2,i 1],yv 0 2,Qo 1 64,Pp 2 14] (Uh 14 1) (s [D 6 3,c 185 U,q ne [Y,O] 18] (r 18 [QS,D 6 3,c 185 U,RP 6 6,Ps 7])) (Pw [D 4 4,c 186 U,q ne [Y,O] 24] (r 24 [QS,D 4 4,c 186 U,RP 6 6,Ps 7]) [D 6 3,D 4 4,QP 187 1,Um [Y,O],d 6 0,al zN 8,S 6 8] (be [D 6 8,c 188 U,p ne [Y,O],Qd 0 6 8,Qe 1 189,yv 2 2,RC 3 1,Pp 4 41] (Uh 41 14) [D 6 8,S 6 6,O0 7]))),[.c 6 6 true,.t 7]⟩
def fn116:l_:=⟨2,SX (s [Pm 6 0 5,a 0,a 0,L,q eq [Y,.v 1] 19] (r 19 [Pn 5 4])),[.t 4]⟩
def fn117:l_:=⟨1,SI (O0 2) [UG 190,q gt [Y,QV] 5] (PL 5 13 2) [O0 2],[.t 2]⟩
def fn121:l_:=⟨1,RA (PO [A 0 1,a 0,d 1 0,c 192 U,O1 2]),[.t 2]⟩
def fn122:l_:=⟨1,RA (TR 5),[.t 2]⟩
def fn123:l_:=⟨3,Ts (SK 8 18) (PD 0 [A 0 5,L,Sq,O1 21] (Px 21 [TA,S 1 6,QD 4 7] [A 1 5,L,p gt [Y,i 1024],O1 26] (r 26 [TA,S 1 6,QD 3 7]))) (Qs [A 2 5,N l 32,Pz 32 33,O0 34] (UD 1 (QI 34 33 35) (x 35 1) (Tj 2 [Pm 4 32 34,d 4 0,al zI 10,Pn 34 9,S 4 10] (s [D 4 10,A 0 3,L,ls,QP 102 3,O1 11] (PX (s [TH 11 45] (Qj 45 [A 3 5,L,D 4 10,n (.e (.l 1) [.v 9,Y]),O1 11])) (Pw [TH 11 52] (Qj 52 [D 2 3,D 4 10,QP 73 1,e 0,e 1,O1 11]) [Pr 11 60] (Rb 60 [.j] 11)))) 34)) (.h [A 4 5,L,D 2 3,A 2 5,L,QP 194 2,n (.e (.l 4) U),c 193 U,n (.d [.j]),w 1] [8] [] [(1,0,1),(2,0,0),(4,0,0)] [(12,8)]) (be [D 1 12,c 122 U,O1 13] (SK 13 75) [D 1 12,S 1 6,O0 7])),[.c 6 1 true,.t 7]⟩
def fn124:l_:=⟨3,SL (Of 6) [p ge [.v 0,O],zv 0 0,zv 1 2,t 2 le (B 1),Q 3,zv 0 1,t 1 ge [Y,O],Q 2,zv 0 1,zv 1 2,zv 2 0,t 3 su (B 1),t 4 le (B 3),Q 5,O1 6],[.t 6]⟩
def fn125:l_:=⟨4,SL (On 5) [A 0 1,L,Pj 2,Pj 3,UV,O1 5],[.t 5]⟩
def fn126:l_:=⟨4,UH (On 8) [lv 0,Uf 2,lv 3,Qg 1,n (.h zE 72 (.c (ZZ 0)) Y),O1 9] (s [mv 9,p (.s none 6 false true false) [.v 0,.v 1],PR 6 72 1,O1 9] (s [mv 9,n (.i 6 72 Y (.v 3)),O1 9] (PO [SP 1 2,p (.s none 6 true false false) [.v 0,Y],n (.i 6 72 (.v 9) Y),O1 8]))),[.t 8]⟩
def fn127:l_:=⟨1,Uk [ZY 0,ZX 0,ZZ 0] 3 24,[.t 2]⟩
def fn128:l_:=⟨3,Su (A 4 5) (RJ 129 5 4 2),[.c 6 1 true,.t 7]⟩
def fn129:l_:=⟨4,s [bx 0 4,bx 1 5,bx 2 6,Ra 8,O0 9] (PY [D 2 4,D 1 5,Pj 6,A 0 5,L,ls,c 124 [.l 3,O,Y],A 0 5,L,ls,mv 3,ls,Qg 2,mv 3,A 0 5,L,c 195 U,SJ 196 5 6,p (.a [.h false,ZZ 0,.j,.R,.R] [(0,1),(1,1),(2,1),(3,1),(4,1)]) [.l 11,.l 5,.l 4,.l 1,Y],PA 123 18 17,e 0,e 1,Po 1 8,Qw] [(0,0,2),(1,0,2),(2,0,0),(4,0,0),(8,0,2),(15,0,1)] [(9,23)]),[.c 8 1 true,.t 9]⟩
def fn130:l_:=⟨3,Su (A 2 5) (RJ 64 5 4 2),[.c 6 1 true,.t 7]⟩
def fn131:l_:=⟨3,Qn [D 2 3,D 1 4,A 1 5,L,A 2 5,L,A 3 5,L,c 132 [.l 7,.l 6,.l 4,.l 2,Y],e 0,e 1,Po 1 6,Ps 7],[.c 6 1 true,.t 7]⟩
def fn132:l_:=⟨5,s [bx 0 5,bx 1 6,bx 2 7,bx 3 8,bx 4 9,Ra 10,O0 11] (s [Pj 7,Pj 8,A 0 6,L,ls,PA 124 4 3,O1 12] (PY [D 2 5,D 1 6,mv 12,m Y,h 0 (.a 1 false (.v 9)),Pq 1 0 6,h 2 l,Rn 3,h 4 (.a 1 false (.v 8)),t 5 su (B 1),h 6 (.c 124 [.l 5,O,Y]),Q 7,p (.B (.func 197) 0) [.v 6,.v 7,.v 8,.v 9],RT,PA 123 13 12,e 0,e 1,Po 1 10,Qw] [(0,0,1),(1,0,1),(4,0,0),(6,0,0),(8,0,0)] [(11,18)])),[.c 10 1 true,.t 11]⟩
def fn133:l_:=⟨3,Su (A 4 5) (RJ 134 5 4 2),[.c 6 1 true,.t 7]⟩
def fn134:l_:=⟨4,s [bx 0 4,bx 1 5,bx 2 6,bx 3 7,Ra 8,O0 9] (s [SJ 198 5 6,O1 10] (PY [D 2 4,D 1 5,Pj 6,Pj 7,ls,A 0 5,L,ls,PA 124 5 3,Pj 7,mv 10,QF 199 5 6 7,p (.a [.h false,ZZ 0,.j,.R,.R] [(0,1),(1,1),(2,1),(3,1),(4,1)]) [.l 3,O,.l 2,.l 1,Y],PA 123 12 11,e 0,e 1,Po 1 8,Qw] [(0,0,1),(1,0,1),(2,0,0),(3,0,0),(6,0,0),(9,0,1)] [(9,17)])),[.c 8 1 true,.t 9]⟩
def fn135:l_:=⟨3,Qn [D 2 3,D 1 4,A 4 5,L,PA 136 3 2,e 0,e 1,Po 1 6,Ps 7],[.c 6 1 true,.t 7]⟩
def fn136:l_:=⟨3,s [bx 0 3,bx 1 4,Ra 6,O0 7] (PY [D 2 3,D 1 4,mv 2,ls,mv 2,c 195 [.c .j],p (.a [.h false,ZZ 0,.j,.R,.R] [(0,1),(1,1),(2,1),(3,1),(4,1)]) [tt,.l 2,.l 1,Y,.c (.I (.func 200) [] [])],PA 123 6 5,e 0,e 1,Po 1 6,Qw] [(0,0,1),(1,0,1)] [(7,11)]),[.c 6 1 true,.t 7]⟩
def fn137:l_:=⟨3,Tt [QB 1,yv 0 2,Uy,P 2,yv 0 1,yv 1 0,Qe 2 52,RC 3 2,P 4,yv 0 2,yv 1 0,Qe 2 52,yv 3 1,TI,RC 5 4,P 6,O1 10],[.t 6]⟩
def fn138:l_:=⟨2,SI (O0 4) [v 0,a 1,L,q ge [.v 1,Y] 10] (r 10 [v 0,a 2,L,p ad [.v 1,Y],O1 4]) [Pn 1 4],[.t 4]⟩
def fn139:l_:=⟨1,QJ 1,[.t 2]⟩
def fn140:l_:=⟨1,Uk [.f []] 1 16,[.t 2]⟩
def fn141:l_:=⟨3,s [bx 0 3,bx 1 4,al zN 6,O0 7] (Qs [Sw [.v 2,i 1],yv 0 2,Qo 1 64,Pp 2 17] (Uh 17 1) (s [D 6 3,c 89 U,O1 8] (SM (Pr 8 22) 22 [QS,S 6 6,Pn 8 7])) (Pw [D 4 4,c 201 U,O1 9] (SM (Pr 9 28) 28 [QS,S 6 6,Pn 9 7]) [D 4 4,p (.a zI [(0,4)]) U,D 6 3,PU,QP 202 2,Um [Y,O],d 6 0,al zN 10,S 6 10] (be [D 6 10,c 142 U,O1 11] (s [Ud [.v 11,O],yv 0 11,yv 1 2,RC 2 1,Pp 3 46] (Uh 46 14)) [D 6 10,S 6 6,O0 7]))),[.c 6 6 true,.t 7]⟩
def fn142:l_:=⟨1,RA (s [D 6 1,c 203 U,e 0,e 1,Ps 3,m Y] (UU 3 2)),[.t 2]⟩
def fn145:l_:=⟨2,s [bx 0 2,O0 4,O0 5] (PO [A 0 2,a 0,d 1 0,QK 204 1,e 0,e 1,Ps 4,O1 5]),[.t 4,.t 5]⟩
def fn147:l_:=⟨3,Ul [D 1 3,UK 206,e 0,e 1,e 2,e 3,o (.l 3) 8,UY,Rz 10,Ps 11] (be [Pr 11 22] (Rb 22 [.K] 11) [Rh 207 8 10,Qv,S 1 6,O0 7]),[.c 6 1 true,.t 7]⟩
def fn148:l_:=⟨3,s [On 6,O0 7] (Pw [QH 208,O1 8] (TK 17) [On 9] (be [Pn 0 19,Pz 19 20,O0 21] (Ph [.v 21,.v 20] 22 (Sz [Pm 2 19 21,d 2 0,Ro 11,S 2 11] (s [mv 9,A 0 11,L,A 1 11,L,p .H [Y,.v 1],PA 209 5 3,O1 9] (RB [mv 9,A 0 11,L,SP 1 2,p .E (B 1),Uf 2,A 1 11,L,Uf 2,PA 209 8 3,O1 9]))) (J 21)) [Qz 210 9,e 0,e 1,Ps 6,O1 7])),[.t 6,.t 7]⟩
def fn149:l_:=⟨3,s [bx 0 3,Rf 6,O0 7] (be [Pr 2 9] (r 9 [QL,S 2 6,Pn 2 7]) [D 1 3,Qv,Tp [.K,.j] (.v 1),S 2 6,O0 7]),[.c 6 2 true,.t 7]⟩
def fn150:l_:=⟨3,Tt [QB 1,yv 0 2,Uy,P 2,yv 0 1,yv 1 0,RZ 2,Rj 3 0,g 4 l,RC 5 4,P 6,yv 0 2,yv 1 0,RZ 2,Rj 3 0,g 4 l,yv 5 1,f 6 su (B 1),RC 7 6,P 8,O1 10],[.t 6]⟩
def fn151:l_:=⟨1,UH (On 2) [v 0,a 0,L,n (.h [.h false] 1 Y Y),O1 3] (be [Pz 3 11,O0 12] (Ph [.v 12,.v 11] 13 (Sz [Pn 12 4] (RB [Rh 211 0 4,Pm 1 3 4,w 1])) (J 12)) [Pn 3 2]),[.t 2]⟩
def fn152:l_:=⟨2,s [Pt [ZZ 0,ZZ 0,ZX 0,ZX 0,ZX 0,ZX 0,ZX 0,ZX 0,ZX 0,ZX 0,ZX 0,ZX 0,ZX 0,ZX 0,ZX 0,ZX 0,ZX 0,ZX 0,ZX 0,ZX 0,ZX 0,ZX 0,ZX 0,ZX 0,ZX 0,ZX 0,ZX 0,ZX 0,ZX 0,ZX 0,ZX 0,ZX 0,ZX 0,ZX 0,ZX 0,ZX 0,ZX 0,ZX 0,ZX 0,ZX 0,ZX 0,ZX 0,ZX 0,ZX 0,ZX 0,ZX 0,ZX 0,ZX 0,ZX 0,ZX 0,ZX 0,ZX 0,ZX 0,ZX 0,ZX 0,ZX 0,ZX 0,ZX 0,ZX 0,ZX 0,ZX 0,ZX 0,ZX 0,ZX 0,ZX 0,ZX 0],v 0,w 66] (Pw [Pn 1 14,Pz 14 15,O0 16] (Ph [.v 16,.v 15] 17 (Sz [Pm 1 14 16,L,O1 5] (RB [v 0,a 0,L,lv 5,Qg 1,v 0,a 0,PC 1])) (J 16)) [O0 6] (s [Pn 1 30,Pz 30 31,O0 32] (UD 2 (QI 32 31 33) (x 33 2) (Tj 3 [Pm 1 30 32,L,O1 8] (s [Pn 8 36,Pz 36 37,O0 38] (UD 4 (QI 38 37 39) (x 39 4) (Tj 5 [Pm 1 36 38,L,O1 10] (s [c 212 [.v 0,.v 6,.v 10]] (I 6)) 38))) 32)))),[]⟩
def fn153:l_:=⟨2,s [bx 0 2,O0 4,O0 5,O0 6] (PO [A 0 2,a 0,d 1 0,QK 213 1,e 0,e 1,e 2,Rz 4,Ps 5,O1 6]),[.t 4,.t 5,.t 6]⟩
def fn154:l_:=⟨1,RA (Qs [A 0 1,L,ls,RF 1024 6] (PL 6 3 2) (s [A 0 1,L,N (.c 214 [Y,.c (.I (.func 215) [] [])]) 9] (PL 9 12 2)) (TR 12)),[.t 2]⟩
def fn155:l_:=⟨2,s [bx 0 2,bx 1 3,O0 4] (PO [Pj 2,ls,QW,SJ 217 2 3,QP 216 1,O1 4]),[.t 4]⟩
def fn156:l_:=⟨1,RA (Pw [A 0 1,L,Sw [Y,b 1],So 0,g 1 l,Tx 2 5,Pp 3 12] (PL 12 1 2) [A 0 1,L,c 218 U,Uv 3,S 4 3] (be [O0 4] (Sa [q lt [.v 4,i 4] 17] (x 17 0) (s [p (.g 4 1) [.v 3,.v 4],L,UN,Rt 1,h 1 l,Pq 2 2 1,h 3 l,Pq 4 3 1,h 5 l,Pq 6 4 1,h 7 l,Rn 8,h 9 (.b [ZZ 0] [(0,1),(1,1),(2,1),(3,1)] 4 [.l 7,.l 5,.l 3,Y]),zv 10 4,Rd 11 1 1,h 12 l,t 13 ne [Y,O],Qb 14 39] (PL 39 5 2)) (I 4)) [O0 2])),[.t 2]⟩
def fn157:l_:=⟨4,s [bx 0 4,On 8,O0 9] (Qs [QB 2,yv 0 2,yv 1 1,RG 2,RC 3 2,Pp 4 20] (Sk 20 4) (s [lv 1,lv 3,Qg 1,RF 1024 26] (Sk 26 3)) (Pw [D 2 4,QT 219 1 3,Uq 31] (r 31 [D 2 4,QT 219 1 3,On 8,O1 9]) [On 10] (PX (s [O0 11] (Sa [lv 1,q le [.v 11,Y] 39] (x 39 0) (Pw [q eq [.v 11,.v 2] 44] (QY 44 [O0 12] (lp 2 3 [lv 3,PW 12 48] (x 48 2) (ds [mv 10,D 2 4,mv 3,mv 12,PB 4 1,d 4 0,QP 59 4,QQ,PR 6 72 7,m Y] [(1,0,0),(5,0,0)] [(10,9)]) (I 12))) [lv 1,PW 11 63] (Tl 63 10 1 11)) (I 11))) (TF 73)))),[.t 8,.t 9]⟩
def fn158:l_:=⟨3,s [On 6,O0 7] (Pw [lv 0,c 220 [.v 1,.v 2,Y],Rq 15] (r 15 [On 6,QD 4 7]) [On 8] (be [O0 9] (Sa [lv 0,PW 9 19] (x 19 0) (s [Sw [.v 9,.v 1],yv 0 9,yv 1 1,yv 2 2,f 3 ad (B 1),f 4 ge (B 3),Pp 5 31] (Tl 31 8 0 9)) (I 9)) [Pn 8 6,O0 7])),[.t 6,.t 7]⟩
def fn159:l_:=⟨4,s [On 8,O0 9] (Pw [lv 0,c 220 [.v 1,.v 2,Y],UN,yv 0 3,yv 1 0,RG 2,yv 3 2,TI,g 5 (.c 220 [.l 4,O,Y]),f 6 eq [Y,O],Pp 7 29] (Sk 29 4) [QH 158,e 0,e 1,Ps 10,m Y] (SI (On 12) [O0 13] (Sa [lv 10,q le [.v 13,Y] 40] (x 40 0) (Pw [O0 14] (lp 2 3 [Ud [.v 13,.v 3],zv 0 14,zv 1 2,t 2 lt (B 1),Qb 3 50] (x 50 2) (RB [mv 12,SP 1 14,Um [.v 0,Y],d 6 0,QQ,PR 6 72 4,O1 12]) (I 14)) [lv 10,PW 13 65] (Tl 65 12 10 13)) (I 13)) [Pn 12 8,O0 9])),[.t 8,.t 9]⟩
def fn160:l_:=⟨4,s [bx 0 4,On 8,O0 9] (Pw [lv 3,lv 1,c 220 [.v 2,.l 1,Y],Rq 20] (Sk 20 4) [On 10] (Qs [O0 11] (Sa [lv 1,PW 11 24] (x 24 0) (RB [mv 10,Pm 6 1 11,d 6 0,QQ,PR 6 72 3,O1 10]) (I 11)) (s [O0 12] (lp 2 3 [lv 3,PW 12 37] (x 37 2) (PX (Tz [D 2 4,mv 3,mv 12,PB 4 1,d 4 0,c 58 [.l 4,Y,O],m Y] [(13,6)]) (Qs [q eq [.v 13,i 6] 47] (Sk 47 6) (PX (ds [mv 1,mv 2,mv 12,Qg 1,PB 6 3,a 0,a 0,L,mv 3,mv 12,PB 4 1,a 0,L,p ne (B 5)] [(7,0,0),(12,0,0)] [(61,13)]) (Sk 61 9)) (PX (SM (q gt [.v 13,O] 63) 63 [On 8,Pn 13 9]) (Sm [mv 10,mv 2,mv 12,Qg 1,D 2 4,mv 3,mv 12,PB 4 1,d 4 0,QP 59 4,RH 6 9 6,w 6] [(4,0,0),(8,0,0)])))) (I 12))) (TF 78))),[.t 8,.t 9]⟩
def fn161:l_:=⟨2,s [bx 0 2,On 4,O0 5] (PO [D 2 2,c 157 [Y,.c .j,O,.v 1],e 0,e 1,Ps 4,O1 5]),[.t 4,.t 5]⟩
def fn162:l_:=⟨3,Pw [A 0 1,L,Pj 2,Qh,q (.s none 6 true false false) (B 2) 11,Pz 11 12,O0 13] (Ph [.v 13,.v 12] 14 (Sz [Pm 6 11 13,d 6 0,al zE 5,S 6 5] (s [A 0 5,a 0,L,n (.e (.v 0) U),TQ 22] (Tn 22))) (J 13)) [Pj 2,QW,O1 6] (lp 2 3 [q ge [.v 6,O] 27] (x 27 2) (s [A 0 1,L,Qx 6 6,a 0,a 0,L,n (.e (.v 0) U),TQ 39] (Tn 39)) (RB [mv 6,QW,O1 6])),[]⟩
def fn163:l_:=⟨1,RA (PO [c 221 [.v 1,.c (.I (.func 222) [] [])],O1 2]),[.t 2]⟩
def fn164:l_:=⟨2,Sx 9,[.t 4]⟩
def fn165:l_:=⟨2,Pw [v 0,a 1,L,PW 1 9] (.e (.v 9) (Sm [mv 0,k,a 0,L,mv 1,mv 0,k,a 2,L,Qg 4,PE 4 6,mv 0,k,a 0,L,mv 1,mv 0,k,a 1,L,Qq 4 5 4,RL 10] [(3,0,0),(8,0,0),(14,0,0),(19,0,0)]) (Sm [mv 0,k,a 0,L,mv 0,k,a 1,L,PE 4 4,mv 0,k,a 0,L,mv 0,k,a 1,L,mv 0,k,a 2,L,Qg 4,mv 1,mv 0,k,a 2,L,Qg 4,Qq 4 15 6,RL 20] [(3,0,0),(7,0,0),(12,0,0),(16,0,0),(20,0,0),(26,0,0)])) [v 0,a 1,QO (.v 1)] (Sm [mv 0,k,a 0,L,mv 1,mv 1,mv 0,k,a 2,L,Qg 4,Qq 4 7 6,n (.l zI Y)] [(3,0,0),(9,0,0)]),[]⟩
def fn166:l_:=⟨2,Pw [v 0,a 2,L,q le [.v 1,Y] 11] (Tn 11) [v 0,a 0,L,ls,RR [Y,i 2],p ad [.v 1,Y],p ad [Y,i 8],O1 4] (s [Qz 52 0,Sv 4,n (.h zI 56 Y Y),O1 5] (PX (Ti 5) (PX (Sm [mv 5,mv 0,k,a 1,L,mv 4,Qg 1,PE 4 6,mv 0,k,a 0,L,mv 0,k,a 1,L,mv 0,k,a 2,L,Qg 4,PE 4 9,RL 14] [(4,0,0),(11,0,0),(15,0,0),(19,0,0)]) (RB [v 0,a 0,QO (.v 5),v 0,a 2,QO (.v 4)])))),[]⟩
def fn167:l_:=⟨4,Rv (O0 8) (s [Pv 0 15] (PL 15 2 8)) (Pw [lv 2,lv 3,q ne (B 1) 20] (PL 20 1 8) [v 0,a 0,d 2 0,c 223 [Y,.v 1,.v 2,ff],e 0,e 1,Rf 9,Po 2 9,Ps 10] (Qs [SU 10,yv 0 2,RG 1,f 2 eq [Y,O],Pp 3 37] (r 37 [Pn 10 8]) (s [v 0,a 2,L,q (.l 0 false) [Y,.c .K] 43] (QY 43 [c 224 [O],e 0,e 1,v 0,a 2,QO (.l 3),o (.l 3) 10] (Py 10 52 8))) (Pw [v 0,a 2,L,lv 2,c 225 [.l 1,.v 1,Y,ff],O1 11] (Py 11 63 8) [D 2 9,v 0,a 0,PC 2] (be [Pn 3 69,Pz 69 70,O0 71] (Ph [.v 71,.v 70] 72 (Sz [Pm 1 69 71,L,Pn 71 12,O1 13] (s [Pn 13 76] (Qj 76 [v 0,a 2,L,SP 1 12,c 178 [.l 1,Y,tt]]))) (J 71)) [O0 8])))),[.t 8]⟩
def JJ:IC:=s [UO,e 0,e 1,Ps 9,m Y] (Pw [v 0,a 0,L,Qx 3 9,a 0,L,q eq [Y,b 2] 82] (Qj 82 [v 0,a 2,L,QW,v 0,a 2,PC 1]) [v 0,a 0,L,p (.a [ZY 0,ZX 0,ZZ 0] [(0,1),(1,1),(2,1)]) [b 1,.v 1,.v 2],p (.c 3) [.l 1,.v 9],w 3] (s [v 0,a 1,L,Qh,v 0,a 1,PC 1] RX))
def Hc:IC:=PX (s [v 0,a 1,L,q eq [Y,i 4096] 42] (PL 42 3 6)) (.f (PX (ds [mv 0,k,a 1,L,mv 0,k,a 2,L,Qg 4,Qh,p mu [i 4,Y],mv 0,k,a 0,L,ls,p mu [i 3,Y],Ue 6] [(3,0,0),(7,0,0),(14,0,0)] [(60,17)]) (Qj 60 [v 0,a 1,L,Qh,Ri 226 0])) JJ)
def fn168x:l_:=⟨3,Rv (O0 6) (PD 0 [Ru,O1 11] (Px 11 [QD 2 6] [Ud [.v 1,u 0],O1 14] (PL 14 9 6))) (.f (s [v 0,a 0,L,ls,Uq 22] (QY 22 [UO,e 0,e 1,Ps 7,O1 8] (s [Pn 8 29] (QY 29 [v 0,a 0,L,Qx 3 7,a 2,QO (.v 2)] RX)))) Hc),[.t 6]⟩
def fn169:l_:=⟨4,s [bx 0 4,Rf 8,O0 9] (s [A 0 4,a 0,d 1 0,Tu 227,e 0,e 1,Re 10,Po 1 10,Ps 11] (Pw [Pr 11 26] (r 26 [QL,S 2 8,Pn 11 9]) [A 1 4,L,UK 148,e 0,e 1,Ra 12,Po 1 12,Qw] (s [Pj 12,QT 228 3 2,e 0,e 1,Po 1 12,Ps 11] (be [A 1 4,L,SP 1 2,To [.v 3,.v 1],N (.c 229 [.l 2,.v 1,.l 1,Y]) 53] (.d 0 (.s (.v 53) [54] (RB [Ro 14,n (.g 2 (.v 14) (.v 54))]) (.d 1 (RB [Pj 12,A 0 14,L,A 1 14,L,c 182 [.l 4,.l 2,Y,tt],S 1 12])))) [D 1 10,Pj 12,c 149 [.l 1,Y,.v 11],e 0,e 1,Po 2 8,Ps 9])))),[.c 8 2 true,.t 9]⟩
def fn170:l_:=⟨4,Rv (O0 8) (s [QH 150,O1 9] (Py 9 17 8)) (Pw [QB 3,yv 0 3,yv 1 0,RZ 2,Rj 3 0,g 4 l,yv 5 2,f 6 su (B 1),RC 7 6,Pp 8 30] (PL 30 4 8) [UG 151,O1 10] (s [TV,O1 11] (s [p (.s none 1 true false false) [.v 10,.v 1],n (.q 1 (.v 11) Y)] (PX (Sm [mv 10,mv 1,PE 1 1,mv 10,mv 1,mv 2,Qg 1,PE 1 3,n (.q 1 (.l 5) Y)] []) (PX (Sm [mv 0,mv 10,mv 3,QE 1,mv 11,mv 10,mv 3,mv 0,k,a 0,L,mv 2,To (B 1),Qq 1 7 6,TB [.j] [.l 10,.l 9,Y],QP 152 14] [(10,0,0)]) (PO [O0 8])))))),[.t 8]⟩
def fn171:l_:=⟨1,SL (Of 1) [A 2 0,L,p .j U,p le [Y,i 64],Pq 0 2 0,h 1 l,Te 2 172 173,Ug,Q 4,O1 1],[.t 1]⟩
def fn172:l_:=⟨2,Qr 230,[.t 4]⟩
def fn173:l_:=⟨1,Ry,[.t 2]⟩
def fn174:l_:=⟨1,SL (Of 1) [A 3 0,L,ls,p le [Y,i 8],Pq 0 3 0,h 1 l,Te 2 175 176,Ug,Q 4,O1 1],[.t 1]⟩
def fn175:l_:=⟨2,Qr 231,[.t 4]⟩
def fn176:l_:=⟨1,QZ [UG 177,Sq,O1 2],[.t 2]⟩
def fn177:l_:=⟨1,s [Of 2] (SL (Sj 232 3) [p (.C .neq) [.v 0,.c (.f [])],zv 0 0,t 1 .j U,t 2 le [Y,i 16],Q 3,zv 0 0,zv 1 3,h 2 (.c 172 (B 1)),Ug,Q 4,O1 2]),[.t 2]⟩
def fn178:l_:=⟨3,TO (Pw [c 150 [.v 0,.v 1,i 1],O1 7] (Py 7 12 6) [QH 212] RX),[.t 6]⟩
def fn179:l_:=⟨1,UH (o (u 0) 2) [mv 0,mv 0,Uu [Y,u 30],p (.h .xor) (B 2),p mu [Y,u 13787848793156543929],O1 0] (s [mv 0,mv 0,Uu [Y,u 27],p (.h .xor) (B 2),p mu [Y,u 10723151780598845931],O1 0] (PO [Uu [.v 0,u 31],p (.h .xor) [.v 0,Y],O1 2])),[.t 2]⟩
def fn180:l_:=⟨1,QZ [Sw [.v 0,i 1],yv 0 0,Tf 1,P 2,O1 2],[.t 2]⟩
def fn181:l_:=⟨3,Ul [D 1 3,QK 204 1,e 0,e 1,Ps 8,O1 9] (PX (PD 0 [SU 9,O1 18] (Px 18 [Si,S 1 6,Pn 9 7] [QB 2,yv 0 2,Tf 1,P 2,O1 23] (Px 23 [Si,S 1 6,QD 12 7] [D 1 3,c 55 U,Uf 8,To [QV,Y],p gt [.v 2,Y],O1 31] (r 31 [Si,S 1 6,QD 13 7])))) (s [A 0 3,L,QK 233 1,e 0,e 1,Ps 10,O1 11] (s [mv 11,c 233 [Y,i 1],e 0,e 1,O1 11] (PO [c 234 [.v 10,.v 2,.v 11],Qv,S 1 6,O0 7])))),[.c 6 1 true,.t 7]⟩
def fn182:l_:=⟨4,s [On 8] (Pw [q eq [.v 1,.v 2] 15] (r 15 [Pn 0 8]) [SZ,TC (ZZ 0),O1 9] (s [Sj 235 10] (Pw [Pn 3 21] (Qj 21 [Sj 236 10]) [n (.e (.v 10) [.v 0,.v 9]),e 0,e 1,Ps 11,m Y] (UU 11 8)))),[.t 8]⟩
def fn183:l_:=⟨1,Rv (O0 2) (s [QM,RF 64 6] (TY 6 2)) (be [O0 3] (QR (TY 22 2)) [QD 1 2]),[.t 2]⟩
def fn184:l_:=⟨1,Rv (O0 2) (s [QM,UM,yv 0 0,f 1 .j U,Qo 2 16,Pp 3 12] (TY 12 2)) (be [O0 3] (Sa [QM,PW 3 16] (x 16 0) (s [SR,O1 4] (s [p ge [.v 4,b 97],zv 0 4,t 1 le [Y,b 122],Q 2,yv 0 4,f 1 ge [Y,b 48],y 2 Y,zv 0 4,t 1 le [Y,b 57],Qp 5 2,P 6,TQ 36] (TY 36 2))) (I 3)) [QD 1 2]),[.t 2]⟩
def fn185:l_:=⟨1,Qm 237,[.t 2]⟩
def fn186:l_:=⟨1,RA (PX (s [A 0 1,L,US,So 2,g 1 l,Qe 2 238,QX 3,P 4,So 3,g 1 l,RG 2,Qo 3 8,Pp 4 18] (PL 18 6 2)) (be [O0 3] (Sa [A 3 1,L,ls,PW 3 23] (x 23 0) (s [A 3 1,L,Qx 1 3,L,c 239 U,TQ 32] (PL 32 6 2)) (I 3)) [O0 2])),[.t 2]⟩
def mdE:IC:=SI (On 5) [O0 6] (lp 1 2 [A 3 3,L,ls,PW 6 36] (x 36 1) (.h [mv 5,A 1 2,L,A 3 3,L,mv 6,PB 1 1,L,A 3 2,L,D 4 3,QP 241 1,A 3 3,L,mv 6,PB 1 1,L,Rk,PU,Sh (.l 16) (.l 11) (.l 7),PU,UJ 20,m Y] [18] [] [(2,0,1),(4,0,1),(7,0,1),(9,0,0),(10,0,0),(13,0,1),(16,0,1)] [(5,22)]) (I 6)) [Pn 5 4]
def mdN:IC:=PX (.h [A 1 2,L,A 2 2,L,A 3 2,L,D 4 3,QP 241 1,p (.a zN [(0,1),(1,1),(2,1),(3,1)]) [b 1,.l 6,.l 4,Y],Ub,w 6] [9] [] [(1,0,1),(3,0,1),(5,0,0),(6,0,0)] [(7,9)]) (be [O0 8] (lp 3 4 [A 5 2,L,ls,PW 8 75] (x 75 3) (Sm [A 5 7,L,A 5 2,L,mv 8,PB 6 1,d 6 0,D 4 3,QP 187 1,UJ 7,A 5 7,w 1] [(1,0,1),(3,0,0),(6,0,0),(7,0,0)]) (I 8)) [D 6 7,PU,O1 4])
def fn187x:l_:=⟨2,s [bx 0 2,bx 1 3,On 4] (.f (s [A 0 2,N l 10] (PD 0 [PV 10 2,O1 11] (Px 11 [A 4 2,L,Rk,PU,O1 4] [PV 10 3,O1 17] (Px 17 [A 2 3,L,Rk,PU,O1 4] [PV 10 4,O1 23] (Px 23 [A 0 3,L,c 240 U,Rk,PU,O1 4] [PV 10 5,O1 30] (.e (.v 30) mdE .i)))))) mdN),[.t 4]⟩
def fn188:l_:=⟨1,Qm 189,[.t 2]⟩
def fn189:l_:=⟨1,RA (s [D 6 1,c 242 [Y,i 6],O1 3] (be [q gt [.v 3,i 64] 7] (TY 7 2) [Pn 3 2])),[.t 2]⟩
def fn190:l_:=⟨1,s [O0 2] (SI (o (u 0) 3) [O0 4] (Sa [lv 0,PW 4 8] (x 8 0) (Pw [Pm 6 0 4,a 4,L,Uq 16] (Qj 16 [mv 3,Pm 6 0 4,a 4,L,Rx,Qg 4,O1 3]) [q gt [.v 3,u 4611686018427387904] 26] (PL 26 4611686018427387905 2)) (I 4)) [p (.r .i64) [.v 3],O1 2]),[.t 2]⟩
def fn192:l_:=⟨1,RA (PO [A 0 1,L,c 243 U,O1 2]),[.t 2]⟩
def fn193:l_:=⟨1,s [Ra 2] (Pw [lv 0,Rq 8] (r 8 [TA,S 1 2]) [lv 0,n (.h zE 72 Y Y),O1 3] (be [Pn 0 13,Pz 13 14,O0 15] (Ph [.v 15,.v 14] 16 (Sz [Pm 6 13 15,d 6 0,al zE 5,Pn 15 4,S 6 5] (s [A 0 5,d 4 0,Qi,c 244 U,p (.c 4) [Y,O],d 4 0,A 0 5,w 4] (RB [D 6 5,Pm 6 3 4,w 6]))) (J 15)) [TS [.j] (.v 3),S 1 2])),[.c 2 1 true]⟩
def fn194:l_:=⟨2,RQ (.h zE 72 Y Y) (Sz [Pm 4 11 13,d 4 0,al zI 7,Pn 13 6,S 4 7] (Sm [mv 5,mv 6,D 4 7,A 0 2,L,A 1 7,L,PB 9 2,a 6,L,Uj,RH 6 10 9,w 6] [(2,0,0),(4,0,0),(6,0,0),(9,0,0)])),[.t 4]⟩
def fn195:l_:=⟨1,UH (o (.c .R) 2) [n (.s []),al [.af] 3,S 1 3] (be [Pn 0 7,Pz 7 8,O0 9] (Ph [.v 9,.v 8] 10 (Sz [Pm 6 7 9,d 6 0,al zE 5,S 6 5] (RB [Pj 3,A 0 5,a 0,L,RU (.l 3)])) (J 9)) [Qy 245 0 3,O1 2]),[.t 2]⟩
def fn196:l_:=⟨3,SL (On 4) [A 0 1,L,Pj 2,c 126 [.l 1,Y,O,.v 0],O1 4],[.t 4]⟩
def fn197:l_:=⟨5,s [On 6] (PY [A 0 1,L,Pj 2,Pj 3,UV,Pj 4,A 0 1,L,Pj 2,Pj 2,Pj 3,Qg 1,Qq 6 4 3,c 126 [.l 8,.l 7,O,Y],m Y] [(1,0,0),(2,0,0),(3,0,0),(5,0,1),(7,0,1),(8,0,1),(9,0,1),(10,0,1)] [(6,14)]),[.t 6]⟩
def fn198:l_:=⟨4,s [bx 1 5,O0 6] (PX (PX (ds [A 0 2,L,Pj 3,mv 0,Qg 1,PB 6 3,a 0,a 0,L,A 0 5,L,p ne (B 2)] [(1,0,0),(2,0,0),(8,0,0),(10,0,0)] [(18,11)]) (PL 18 9 6)) RX),[.t 6]⟩
def fn199:l_:=⟨4,SL (On 5) [A 0 1,L,Pj 2,Pj 3,ls,c 126 [.l 3,.l 2,Y,.v 0],O1 5],[.t 5]⟩
def fn200:l_:=⟨1,SL (On 2) [Pn 0 2],[.t 2]⟩
def fn201:l_:=⟨1,RA (be [A 0 1,L,US,So 2,g 1 l,Qe 2 246,QX 3,P 4,So 3,g 1 l,RG 2,Qo 3 8,P 4,So 3,g 1 l,g 2 (.c 175 [Y,.c (.I (.func 247) [] [])]),Pp 3 22] (PL 22 6 2) [O0 2]),[.t 2]⟩
def fn202:l_:=⟨2,s [bx 0 2,On 4] (SI (On 5) [Pn 1 10,Pz 10 11,O0 12] (Ph [.v 12,.v 11] 13 (Sz [Pm 6 10 12,d 6 0,al zN 7,S 6 7] (s [A 0 7,N l 17] (PD 2 [PV 17 1,O1 18] (.e (.v 18) (ds [mv 5,D 4 2,D 6 7,A 2 7,L,D 4 2,A 5 7,L,QP 202 2,RJ 249 7 6 4,PU,UJ 10,m Y] [(1,0,1),(2,0,1),(4,0,1),(5,0,0),(7,0,0)] [(5,12)]) (s [PV 17 2,O1 32] (RS 32 [mv 5,A 4 7,L,c 250 U,PU,UJ 4,O1 5] [PV 17 3,O1 40] (RS 40 [mv 5,A 0 2,a 2,L,c 250 U,PU,UJ 5,O1 5] [PV 17 4,O1 49] (RS 49 [mv 5,A 0 2,a 0,L,c 251 U,c 250 U,PU,UJ 6,O1 5] [PV 17 5,O1 59] (QY 59 [A 0 2,a 3,N l 63,Pz 63 64,O0 65] (UD 3 (QI 65 64 66) (x 66 3) (Tj 4 [Pm 1 63 65,L,O1 9] (ds [mv 5,D 4 2,D 6 7,mv 9,mv 9,c 250 U,PU,RJ 249 5 4 3,PU,UJ 8,m Y] [(1,0,2),(2,0,2)] [(5,10)]) 65))))))))))) (J 12)) [Pn 5 4]),[.t 4]⟩
def fn203:l_:=⟨1,s [bx 0 1,al [ZZ 0] 2,al [ZZ 0] 3] (UH (al [.R] 4) [QF 252 2 3 4,S 1 4] (PX (s [Pj 4,n (.e Y [.v 1,.c (ZZ 1)]),TQ 8] (r 8 [n (.g 1 (.v 2) O),n (.g 1 (.v 3) O)])) (PY [Pj 2,Pj 3,Po 1 2,Po 1 3] [(0,0,0),(1,0,1)] []))),[.c 2 1 false,.c 3 1 false]⟩
def fn204:l_:=⟨2,s [bx 0 2,O0 4,O0 5] (be [QB 1,yv 0 1,Qd 1 1 2,UR,f 3 ge (B 2),Pp 4 13] (Us 13 4) [A 0 2,L,QK 254 1,k,a 2,L,O1 4,O0 5]),[.t 4,.t 5]⟩
def fn206:l_:=⟨3,s [bx 0 3,PJ 6,PJ 7,PJ 8,O0 9] (Pw [QB 1,yv 0 2,Uy,P 2,yv 0 1,Qd 1 1 3,UR,RC 3 2,P 4,yv 0 2,Qd 1 1 3,UR,yv 3 1,TI,RC 5 4,Pp 6 29] (r 29 [PJ 6,PJ 7,PJ 8,QD 4 9]) [A 0 3,L,QK 233 1,e 0,e 1,Ps 6,O1 8] (s [mv 8,QK 233 2,e 0,e 1,Ps 7,O1 8] (PO [mv 6,mv 7,mv 8,Rz 6,Ps 7,O1 8,O0 9]))),[.t 6,.t 7,.t 8,.t 9]⟩
def fn207:l_:=⟨2,s [PJ 4] (Pw [Pv 1 8] (r 8 [Pn 0 4]) [c 233 [.v 1,i 1],e 0,e 1,Ps 5,O1 6] (PO [v 5,a 2,L,c 234 [.v 0,Y,.v 6],O1 4])),[.t 4]⟩
def fn208:l_:=⟨3,Rv (O0 6) (s [UG 255,O1 7] (Py 7 11 6)) (be [QB 1,yv 0 1,Qo 1 1073741824,P 2,yv 0 2,Uy,P 2,yv 0 2,Qo 1 1073741824,Pp 2 26] (PL 26 4 6) [O0 6]),[.t 6]⟩
def fn209:l_:=⟨3,SI (On 6) [lv 0,O1 7] (PD 0 [p ge [.v 1,.v 2],O1 16] (.e (.v 16) .i (s [p gt [.v 7,O],zv 0 0,zv 1 7,t 2 su [Y,i 1],Rd 3 2 2,Ql 4 1,h 5 l,zv 6 1,t 7 ge (B 1),Q 8,O1 20] (.e (.v 20) (RB [To [.v 7,i 1],To [.v 7,i 1],p (.c 2) [.v 0,Y],a 1,L,p .E [Y,.v 2],p (.c 2) [.v 0,.l 5],a 1,PC 1]) (RB [mv 0,SZ,TC (ZZ 0),PR 2 16 2,O1 0]))))) [Pn 0 6],[.t 6]⟩
def fn210:l_:=⟨1,s [On 2,O0 3] (be [lv 0,RF 4096 6] (r 6 [On 2,QD 3 3]) [UG 258,O1 2,O0 3]),[.t 2,.t 3]⟩
def fn211:l_:=⟨2,SL (Of 4) [RR [.v 1,i 64],v 0,a 2,UL 2,L,Qa [.v 1,i 64],Uu (B 1),p (.h .and) [Y,u 1],Ud [Y,u 1],O1 4],[.t 4]⟩
def fn212:l_:=⟨3,s [Rh 211 0 1,q (.K true) [Y,.v 2] 10] (PI (.v 10) (PX (Sm [mv 0,mv 1,RR [Y,i 64],p .e [.l 2],a 2,UL 2,L,mv 1,Qa [Y,i 64],p (.F true) [u 1,Y],p (.h .xor) (B 3),p .e [.l 10],a 2,UL 10,QO (.l 3)] [(6,0,0)]) (s [Pn 2 25] (.e (.v 25) (RB [v 0,a 1,L,Qh,v 0,a 1,PC 1]) (RB [v 0,a 1,L,QW,v 0,a 1,PC 1]))))),[]⟩
def fn213:l_:=⟨2,s [bx 0 2,O0 4,O0 5,O0 6] (Pw [QB 1,yv 0 1,Qd 1 1 2,Qe 2 55,f 3 ge (B 2),Pp 4 16] (r 16 [O0 4,O0 5,QD 4 6]) [Pn 1 5] (be [A 0 2,L,O1 7] (Qu 0 (PX (s [q (.l 0 true) [.v 7,.c .K] 21] (x 21 0)) (Sz [v 7,a 0,L,c 111 U,O1 8] (PD 2 [Sw [.v 5,.v 8],O1 47] (RS 47 [mv 7,k,a 0,L,O1 7] [v 7,a 2,L,p ad [.v 8,Y],TM 5,O1 55] (Px 55 [mv 4,v 7,a 0,L,c 243 U,Qg 4,mv 5,Uf 8,Rz 4,O1 5,O0 6] [mv 5,v 7,a 2,L,p ad [.v 8,Y],To (B 4),O1 5] (s [mv 4,v 7,a 0,L,c 243 U,Qh,Qg 5,O1 4] (RB [mv 7,k,a 1,L,O1 7])))))))) [O0 4,O0 5,QD 4 6])),[.t 4,.t 5,.t 6]⟩
def fn214:l_:=⟨2,Qr 68,[.t 4]⟩
def fn215:l_:=⟨1,s [bx 0 1,Of 2] (PO [A 4 1,L,UM,So 4,g 1 l,Tf 2,P 3,O1 2]),[.t 2]⟩
def fn216:l_:=⟨2,UH (O0 4) [O0 5,Pn 0 6] (PX (Qu 0 (PX (s [QI 5 6 11] (x 11 0)) (Sz [SP 5 6,Rx,Uu [Y,u 1],Qc,O1 7] (s [n (.e (.v 1) [.v 7]),TQ 21] (.e (.v 21) (RB [UZ 7,O1 5]) (RB [Pn 7 6])))))) (UU 5 4)),[.t 4]⟩
def fn217:l_:=⟨3,s [Of 4] (PY [Pj 1,mv 0,Qh,PB 1 2,L,Pj 2,Ue 1,m Y] [(0,0,0),(4,0,0),(5,0,0)] [(4,7)]),[.t 4]⟩
def fn218:l_:=⟨1,SI (Uv 2) [Pn 0 3] (Tv 0 (Rw 3 1 4) (Px 4 [p (.a [ZZ 0,ZZ 0,ZZ 0,ZZ 0] [(0,1),(1,1),(2,1),(3,1)]) [i 1,O,O,i 1],S 4 2] [PV 3 2,O1 8] (Px 8 [p (.a [ZZ 0,ZZ 0,ZZ 0,ZZ 0] [(0,1),(1,1),(2,1),(3,1)]) [i 1,i 1,O,O],S 4 2] [PV 3 3,O1 11] (Px 11 [p (.a [ZZ 0,ZZ 0,ZZ 0,ZZ 0] [(0,1),(1,1),(2,1),(3,1)]) [i 1,i 1,i 1,O],S 4 2] [PV 3 5,O1 14] (r 14 [p (.a [ZZ 0,ZZ 0,ZZ 0,ZZ 0] [(0,1),(1,1),(2,1),(3,1)]) [O,O,O,i 1],S 4 2]))))) [Pt [ZZ 0,ZZ 0,ZZ 0,ZZ 0],S 4 2],[.c 2 4 true]⟩
def fn219:l_:=⟨3,s [bx 0 3,O0 6] (be [O0 7] (Sa [lv 2,PW 7 12] (x 12 0) (PX (ds [mv 1,mv 2,mv 7,PB 4 1,a 0,L,QP 116 5,p ge [Y,O],m Y,yv 0 2,yv 1 7,f 2 (.s none 4 false true false) (B 1),yv 3 2,yv 4 7,f 5 (.c 4) (B 1),Rj 6 0,g 7 l,g 8 (.c 113 (B 5)),f 9 ge [Y,O],P 10,c 259 U,m Y] [(5,0,0),(16,1,1)] [(8,21)]) (PX (Tz [D 2 3,mv 2,mv 7,PB 4 1,d 4 0,mv 8,PA 58 5 1,p gt [Y,O]] [(43,7)]) (PI (.v 43) (PY [D 2 3,mv 2,mv 7,PB 4 1,d 4 0,mv 8,PA 58 5 1,m Y] [(0,0,0),(4,0,0)] [(6,7)])))) (I 7)) [O0 6]),[.t 6]⟩
def fn220:l_:=⟨3,SL (O0 6) [p ge [.v 0,O],zv 0 0,zv 1 2,t 2 le (B 1),Q 3,zv 0 1,t 1 ge [Y,O],Q 2,zv 0 1,zv 1 2,zv 2 0,t 3 su (B 1),t 4 le (B 3),Q 5,c 259 U,O1 6],[.t 6]⟩
def fn221:l_:=⟨2,s [bx 1 3,O0 4] (Pw [v 0,a 0,L,q ne [Y,b 1] 11] (TY 11 4) [al [ZZ 0] 5,n (.g 1 (.v 5) O)] (UH (al [.R] 6) [QF 260 5 3 6,S 1 6] (be [Pj 6,n (.e Y [.v 0,.c (ZZ 1)]),TQ 16] (TY 16 4) [Pj 5,O1 4]))),[.t 4]⟩
def fn222:l_:=⟨1,.i,[]⟩
def fn223:l_:=⟨4,s [bx 0 4,Rf 8,O0 9] (PX (PD 0 [QB 1,yv 0 1,Qd 1 2 4,Qe 2 121,RC 3 2,P 4,O1 16] (Px 16 [QL,S 2 8,QD 4 9] [lv 2,D 2 4,c 121 U,To [i 1024,Y],Ue 3,O1 26] (r 26 [QL,S 2 8,QD 3 9]))) (Pw [Pn 2 34,Pz 34 35,O0 36] (UD 1 (QI 36 35 37) (x 37 1) (Tj 2 [Pm 1 34 36,L,Pn 36 10,O1 11] (Pw [N (.c 180 [.v 11]) 42] (r 42 [QL,S 2 8,QD 12 9]) [UZ 10,p (.s none 1 false true false) [.v 2,Y],c 262 U,O1 12] (SM (Pr 12 50) 50 [QL,S 2 8,Pn 12 9])) 36)) [A 0 4,a 0,d 1 0,UK 263,e 0,e 1,Re 13,Po 1 13,Ps 14] (Pw [Pr 14 64] (r 64 [QL,S 2 8,Pn 14 9]) [A 1 4,L,lv 2,c 228 [.l 1,.v 1,Y],e 0,e 1,Ps 15,O1 14] (PY [D 1 13,mv 15,mv 1,mv 1,mv 2,ls,Qg 2,mv 3,RJ 182 6 5 1,mv 14,PA 149 9 1,e 0,e 1,Po 2 8,Qw] [(0,0,1)] [(9,14)])))),[.c 8 2 true,.t 9]⟩
def fn224:l_:=⟨1,s [PJ 2,O0 3] (PX (PD 0 [QB 0,O1 4] (Px 4 [PJ 2,QD 4 3] [p gt [.v 0,i 4096],O1 7] (r 7 [PJ 2,QD 3 3]))) (PO [TS [ZZ 0,ZZ 0,ZX 0,ZX 0,ZX 0,ZX 0,ZX 0,ZX 0,ZX 0,ZX 0,ZX 0,ZX 0,ZX 0,ZX 0,ZX 0,ZX 0,ZX 0,ZX 0,ZX 0,ZX 0,ZX 0,ZX 0,ZX 0,ZX 0,ZX 0,ZX 0,ZX 0,ZX 0,ZX 0,ZX 0,ZX 0,ZX 0,ZX 0,ZX 0,ZX 0,ZX 0,ZX 0,ZX 0,ZX 0,ZX 0,ZX 0,ZX 0,ZX 0,ZX 0,ZX 0,ZX 0,ZX 0,ZX 0,ZX 0,ZX 0,ZX 0,ZX 0,ZX 0,ZX 0,ZX 0,ZX 0,ZX 0,ZX 0,ZX 0,ZX 0,ZX 0,ZX 0,ZX 0,ZX 0,ZX 0,ZX 0] (.v 0),SF,O1 2,O0 3])),[.t 2,.t 3]⟩
def fn225:l_:=⟨4,s [O0 8] (Qs [c 150 [.v 0,.v 1,O],O1 9] (Py 9 17 8) (PD 0 [QB 2,O1 19] (Px 19 [QD 4 8] [v 0,a 0,L,To [i 4096,Y],p gt [.v 2,Y],O1 22] (PL 22 3 8))) (s [TV,O1 10] (Pw [Pz 10 33,O0 34] (UD 1 (QI 34 33 35) (x 35 1) (Tj 2 [Pn 34 11] (RB [Pm 1 10 11,QO (.v 3)]) 34)) [UG 151,O1 12] (PX (Sm [mv 0,mv 12,mv 1,QE 1,mv 10,mv 12,mv 1,PE 1 1,TB [.j] [.l 4,.l 3,Y],QP 152 8] []) (PO [O0 8]))))),[.t 8]⟩
def fn226:l_:=⟨2,Rv (QD 8 4) (Qu 0 (PX (s [p mu [i 2,.v 1],PW 4 13] (x 13 0)) (.d 1 (RB [mv 4,p mu [Y,i 2],O1 4])))) (s [v 0,a 0,L,O1 5] (s [n (.h [ZY 0,ZX 0,ZZ 0] 24 (.v 4) (.v 4)),v 0,a 0,PC 1] (s [v 0,a 2,n (.g 1 Y O)] (s [Pn 5 28,Pz 28 29,O0 30] (UD 2 (QI 30 29 31) (x 31 2) (Tj 3 [Pm 3 28 30,d 3 0,Ux,S 3 7] (s [A 0 7,L,q eq [Y,b 1] 36] (QY 36 [A 1 7,L,Ri 108 0,e 0,e 1,Ps 8,m Y] (UI [mv 0,k,a 0,L,mv 8,D 3 7,RH 3 2 1,w 3]))) 30)))))),[]⟩
def fn227:l_:=⟨4,s [bx 0 4,Re 8,O0 9] (s [D 1 4,UK 206,e 0,e 1,e 2,e 3,o (.l 3) 10,Rz 11,Ps 12,O1 13] (PX (s [Ud [.v 13,O],zv 0 3,t 1 lt [Y,O],z 2 Y,yv 0 3,Qd 1 1 4,UR,yv 3 2,TI,RC 5 4,Ui 9 6,Qb 10 38] (Qj 38 [QD 4 13])) (Pw [Pr 13 40] (r 40 [Si,S 1 8,Pn 13 9]) [Rh 207 10 12,QK 233 3,e 0,e 1,Ps 14,O1 15] (PO [Rh 207 14 11,QK 207 15,Qv,S 1 8,O0 9])))),[.c 8 1 true,.t 9]⟩
def fn228:l_:=⟨3,s [On 6,O0 7] (PX (s [QH 208,O1 8] (TK 18)) (Pw [lv 0,QW,O1 9] (s [p ge [.v 9,O],zv 0 0,zv 1 9,Rd 2 2 1,Ql 3 1,h 4 l,zv 5 1,t 6 gt (B 1),Q 7,zv 0 0,zv 1 9,Rd 2 2 1,Ql 3 1,h 4 l,zv 5 2,t 6 ad (B 1),t 7 gt [Y,i 1073741824],Qb 8 43] (r 43 [On 6,QD 4 7])) [On 10] (be [Pn 0 44,Pz 44 45,O0 46] (Ph [.v 46,.v 45] 47 (Sz [Pm 2 44 46,d 2 0,Ro 12,S 2 12] (s [mv 10,A 0 12,L,A 1 12,L,p .H [Y,.v 1],PA 209 5 3,O1 10] (RB [mv 10,A 0 12,L,p .E [Y,.v 1],Sv 2,A 1 12,L,Sv 2,PA 209 7 3,O1 10]))) (J 46)) [Qz 210 10,e 0,e 1,Ps 6,O1 7]))),[.t 6,.t 7]⟩
def fn229:l_:=⟨4,s [bx 0 4,bx 1 5,bx 2 6,bx 3 7,o (.c .R) 8] (PO [p (.B (.func 264) 0) [.v 4,.v 5,.v 7,.v 6],O1 8]),[.t 8]⟩
def fn230:l_:=⟨2,SL (O0 4) [c 265 [.v 0,.v 1,tt],O1 4],[.t 4]⟩
def fn231:l_:=⟨2,PZ [Pm 1 0 5,L,N (.e (.v 1) U) 16],[.t 4]⟩
def fn232:l_:=⟨1,QZ [Sw [.v 0,.c (.C .i32 97)],yv 0 0,TU 122,P 2,zv 0 0,t 1 lt [Y,.c (.C .i32 48)],z 2 Y,yv 0 0,TU 57,Ui 5 2,Q 6,O1 2],[.t 2]⟩
def fn233:l_:=⟨2,s [PJ 4,PJ 5] (PX (SM (Pv 0 8) 8 [PJ 4,PJ 5]) (Pw [v 0,a 0,L,c 243 U,O1 6] (s [q gt [.v 1,.v 6] 16] (QY 16 [v 0,a 1,L,To [.v 1,.v 6],QW,QP 233 2,e 0,e 1,Ps 4,O1 5] (.f (.h [mv 0,k,a 0,L,mv 0,k,a 2,L,mv 4,PA 234 5 1,mv 5,Qw,Qw] [] [0,1,2,3,4,5,6,7,8,9,11,10,12] [(3,0,0),(7,0,0)] [(4,11),(5,12)]) .p))) [v 0,a 0,L,QK 233 1,e 0,e 1,Ps 4,O1 5] (PY [mv 4,mv 5,mv 0,k,a 2,L,mv 0,k,a 1,L,PA 234 8 4,m (.l 10),Qw] [(5,0,0),(9,0,0)] [(4,11),(5,12)]))),[.t 4,.t 5]⟩
def fn234:l_:=⟨3,Rv (PJ 6) (PD 0 [UG 266,Qz 266 2,Qh,Ue 2,O1 7] (.e (.v 7) (PY [mv 0,k,a 0,L,mv 0,k,a 2,L,mv 0,k,a 1,L,mv 1,mv 2,PA 234 2 1,PA 267 11 7,m Y] [(3,0,1),(7,0,1),(11,0,0)] [(6,16)]) (s [Qz 266 2,UG 266,Qh,Ue 2,O1 30] (PI (.v 30) (PY [mv 0,mv 1,mv 2,k,a 0,L,PA 234 5 4,mv 2,k,a 2,L,mv 2,k,a 1,L,PA 267 8 4,m Y] [(5,0,0),(10,0,1),(14,0,1)] [(6,16)]))))) (PO [QH 268,O1 6]),[.t 6]⟩
def fn235:l_:=⟨2,Sf 270,[.t 4,.t 5]⟩
def fn236:l_:=⟨2,Sf 271,[.t 4,.t 5]⟩
def fn237:l_:=⟨1,RA (s [D 6 1,c 272 [Y,i 6],O1 3] (be [A 0 1,L,p ne [Y,b 1],yv 0 3,Qo 1 64,Pp 2 12] (TY 12 2) [Pn 3 2])),[.t 2]⟩
def fn238:l_:=⟨1,Tq [QM,RF 64 6] (Rc 6 2) [O0 3] (QR (Rc 22 2)),[.t 2]⟩
def fn239:l_:=⟨1,SI (Of 2) [O0 3] (Sa [QM,TM 3,zv 0 3,t 1 lt [Y,i 17],Qb 2 11] (x 11 0) (s [SR,Sw [Y,b 97],yv 0 0,yv 1 3,UE,Tx 3 122,P 4,zv 0 0,zv 1 3,t 2 .q (B 1),t 3 lt [Y,b 48],z 4 Y,yv 0 0,yv 1 3,UE,Tx 3 57,Ui 9 4,Qb 10 35] (Rc 35 2)) (I 3)) [QM,p ge [Y,i 1],zv 0 0,t 1 .j U,t 2 le [Y,i 16],Q 3,O1 2],[.t 2]⟩
def fn240:l_:=⟨1,SI (o (.c (.f [])) 2) [q lt [.v 0,u 10] 4] (r 4 [p ad [.v 0,u 1],p (.A true true) [.c (.f [48,49,50,51,52,53,54,55,56,57]),.v 0,Y],O1 2]) [RR [.v 0,u 10],c 240 U,Qa [.v 0,u 10],c 240 U,p (.C .add) (B 2),O1 2],[.t 2]⟩
def fn241:l_:=⟨2,s [bx 1 3,On 4] (SI (On 5) [O0 6] (Sa [lv 0,PW 6 11] (x 11 0) (s [Pm 3 0 6,a 2,L,O1 7] (UF [Pm 3 0 6,a 1,N l 23] (PD 2 [PV 23 1,O1 24] (RS 24 [A 2 3,L,O1 7] [PV 23 2,O1 28] (RS 28 [A 0 3,L,c 240 U,O1 7] [PV 23 3,O1 33] (Qj 33 [A 3 3,L,ls,Rx,c 240 U,O1 7])))) [mv 5,Pm 3 0 6,a 0,L,Tp [.f [],.f []] (.v 7),TC (.f []),PR 2 32 5,O1 5])) (I 6)) [Pn 5 4]),[.t 4]⟩
def fn242:l_:=⟨2,SY 273 242,[.t 4]⟩
def fn243:l_:=⟨1,TX 3,[.t 2]⟩
def fn244:l_:=⟨1,UH (On 2) [UG 274,O1 3] (be [Pz 3 8,O0 9] (Ph [.v 9,.v 8] 10 (Sz [Pn 9 4] (RB [Pm 4 3 4,a 3,L,c 275 U,Pm 4 3 4,a 3,PC 1])) (J 9)) [Pn 3 2]),[.t 2]⟩
def fn245:l_:=⟨3,s [bx 1 4,O0 5] (Pw [Pj 2,A 0 4,L,N (.o none (.h false) false (B 2)) 9] (PL 9 8 5) [Pj 2,A 0 4,L,RU (.l 2)] (PO [O0 5])),[.t 5]⟩
def fn246:l_:=⟨1,QZ [Tk 4 2,c 74 U,UN,O1 2],[.t 2]⟩
def fn247:l_:=⟨1,QZ [UG 248,Sq,O1 2],[.t 2]⟩
def fn248:l_:=⟨1,QZ [Tk 1 1,c 74 U,UN,O1 2],[.t 2]⟩
def fn249:l_:=⟨4,s [bx 0 4,bx 1 5,al zN 8] (PY [A 1 5,L,mv 2,D 4 4,A 3 5,L,QP 276 2,mv 3,c 277 U,Sh (.l 7) (.l 6) (.l 2),S 6 8] [(1,0,2),(3,0,0),(5,0,0)] []),[.c 8 6 true]⟩
def fn250:l_:=⟨1,SL (al zN 2) [Tk 4 2,S 6 2],[.c 2 6 true]⟩
def fn251:l_:=⟨1,UH (o (.c (.f [])) 2) [al [ZY 0,ZY 0,ZY 0,ZY 0,ZY 0,ZY 0,ZY 0,ZY 0,ZY 0,ZY 0,ZY 0,ZY 0,ZY 0,ZY 0,ZY 0,ZY 0,ZY 0,ZY 0,ZY 0,ZY 0] 3] (s [QD 20 4] (Qu 0 (Sz [mv 4,QW,O1 4] (s [Qa [.v 0,u 10],p .q [.c (.f [48,49,50,51,52,53,54,55,56,57]),Y],p (.g 20 1) [.v 3,.v 4],w 1] (s [mv 0,RR [Y,u 10],O1 0] (SM (q eq [.v 0,u 0] 15) 15 [p (.s (some 20) 1 true false false) [.v 3,.v 4],n (.j Y),O1 2])))))),[.t 2]⟩
def fn252:l_:=⟨5,UH (Of 7) [Pj 2,Qh,S 1 2] (s [Pj 3,p .E [Y,.v 1],S 1 3] (PX (s [p gt [.v 1,i 6],Uo 0,Qo 1 64,P 2,yv 0 0,Qe 1 253,QX 2,Pp 3 24] (Rc 24 7)) Qk)),[.t 7]⟩
def alC:IC:=be [v 0,a 5,N l 140,Pz 140 141,O0 142] (UD 2 (QI 142 141 143) (x 143 2) (Tj 3 [Pm 6 140 142,d 6 0,al zN 6,Pn 142 5,S 6 6] (s [A 2 6,L,Tc,zv 0 0,SC,Ql 2 5,h 3 l,zv 4 5,t 5 (.s none 6 false true false) (B 1),t 6 (.B (.func 281) 0) [.v 6],h 7 (.c 280 (B 1)),Qb 8 159] (Rc 159 2)) 142)) [o tt 2]
def alA:IC:=.f (s [v 0,a 3,N l 101,Pz 101 102,O0 103] (Ph [.v 103,.v 102] 104 (Sz [Pm 2 101 103,d 2 0,al [.f [],.f []] 4,Pn 103 3,S 2 4] (Vb [A 0 4,L,c 279 U,Sq,m Y,UP,g 1 l,Qe 2 278,QX 3,P 4,m Y,yv 0 3,f 1 gt [Y,O],y 2 Y,Pq 0 0 4,h 1 l,zv 2 0,t 3 .e U,Ql 4 3,h 5 l,zv 6 3,t 7 su [Y,i 1],Rd 8 2 2,Ql 9 0,h 10 l,t 11 (.C .leq) (B 9),Qp 15 12,P 16] [(1,0,0),(6,1,1),(15,2,2),(19,2,2),(24,2,2)] [(135,27)] 135)) (J 103))) alC
def fn253x:l_:=⟨1,Rv (Of 2) (s [v 0,a 0,L,q eq [Y,b 2] 11] (r 11 [v 0,a 4,L,c 278 U,zv 0 0,SC,Ql 2 1,h 3 l,PM 4,Q 5,zv 0 0,SC,Ql 2 2,h 3 l,PM 4,Q 5,zv 0 0,SC,Ql 2 3,h 3 l,Rn 4,RI 5,Q 6,zv 0 0,SC,Ql 2 5,h 3 l,Rn 4,RI 5,Q 6,O1 2])) (.f (s [v 0,a 0,L,p ne [Y,b 1],yv 0 0,RZ 1,Rj 2 1,g 3 l,Qe 4 279,QX 5,P 6,yv 0 0,RZ 1,Rj 2 2,g 3 l,RW 4,y 5 Y,zv 0 0,SC,Ql 2 2,h 3 l,TW 4 279,t 5 .x U,Qp 12 6,P 13,yv 0 0,RZ 1,Rj 2 4,g 3 l,RW 4,P 5,yv 0 0,RZ 1,Rj 2 3,g 3 l,RG 4,Qo 5 8,P 6,yv 0 0,RZ 1,Rj 2 5,g 3 l,RG 4,Qo 5 16,Pp 6 97] (Rc 97 2)) alA),[.t 2]⟩
def fn254:l_:=⟨2,SI (PJ 4) [v 0,a 0,L,c 243 U,O1 5] (PD 0 [Sw [.v 1,.v 5],O1 11] (Px 11 [v 0,a 0,L,QK 254 1,O1 4] [p gt [.v 1,.v 5],O1 21] (r 21 [v 0,a 1,L,To [.v 1,.v 5],QW,QP 254 2,O1 4]))) [Pn 0 4],[.t 4]⟩
def fn255:l_:=⟨1,SO (o (i (-1)) 3) (Uc [Pm 2 9 11,d 2 0,Ro 5,S 2 5] (PX (PD 2 [A 0 5,L,Sw [Y,O],PF 0 0 5,g 1 l,PF 2 1 5,g 3 l,f 4 ge (B 2),P 5,PF 0 1 5,g 1 l,Qo 2 1073741824,P 3,O1 15] (Px 15 [QD 1 2] [A 0 5,L,p le [Y,.v 3],O1 31] (PL 31 16 2))) (RB [A 1 5,L,O1 3]))),[.t 2]⟩
def fn258:l_:=⟨1,QJ 2,[.t 2]⟩
def fn259:l_:=⟨1,SI (O0 2) [Pn 0 3] (PL 3 1 2) [O0 2],[.t 2]⟩
def fn260:l_:=⟨5,UH (Of 7) [Pj 2,Qh,S 1 2] (Pw [p gt [.v 1,i 6],Uo 0,Qo 1 64,P 2,yv 0 0,Qe 1 261,QX 2,Pp 3 21] (Rc 21 7) [Pj 3,n (.e Y [.v 0])] Qk),[.t 7]⟩
def fn261:l_:=⟨1,UH (Of 2) [v 0,d 6 0,al zN 3,S 6 3] (be [v 0,a 0,N l 10] (Tv 0 (Tv 5 (Tv 4 (Tv 3 (Tv 2 (Tv 1 (Qs [PV 10 1,O1 11] (Sr 11 1) (s [PV 10 5,O1 13] (Sr 13 2)) (Qs [PV 10 2,O1 15] (Sr 15 3) (Rw 10 3 17) (Sr 17 4))) (.k 5)) (UF [v 0,a 2,L,Tc,zv 0 0,SC,Ql 2 2,h 3 l,TW 4 248,t 5 .x U,Q 6,yv 0 0,RZ 1,Rj 2 5,g 3 l,RG 4,Qo 5 16,Pp 6 40] (Rc 40 2) [A 2 3,Uz,A 5 3,QO (.c .j)])) (PX (UF [v 0,a 1,L,c 248 U,Sq,yv 0 0,RZ 1,Rj 2 3,g 3 l,Qe 4 283,QX 5,Pp 6 56] (Rc 56 2) [A 1 3,Uz,A 3 3,QO (.c .j)]) (.k 0))) (PX (UF [v 0,a 4,L,c 246 U,TQ 64] (Rc 64 2) [A 4 3,Uz]) (.k 0))) (.k 0)) (PX (PO [Of 2]) (.k 0))) [A 1 3,L,UT,Pq 0 2 3,h 1 l,PM 2,Q 3,Pq 0 4 3,h 1 l,PM 2,Q 3,Pq 0 3 3,h 1 l,Rn 2,RI 3,Q 4,Pq 0 5 3,h 1 l,Rn 2,RI 3,Q 4,O1 2]),[.t 2]⟩
def fn262:l_:=⟨1,SO (O0 3) (Uc [Pm 1 9 11,L,O1 5] (PX (PD 2 [QB 5,yv 0 5,Tf 1,P 2,O1 15] (Px 15 [QD 12 2] [To [QV,.v 3],p gt [.v 5,Y],O1 22] (PL 22 13 2))) (RB [mv 3,Sv 5,O1 3]))),[.t 2]⟩
def fn263:l_:=⟨3,Ul [D 1 3,QK 284 1,e 0,e 1,e 2,Re 8,Re 9,RP 1 8,RP 1 9,Rz 10] (Pw [Pr 10 22] (Rb 22 [.K] 10) [Qz 285 2,e 0,e 1,Re 11,Po 1 11,Ps 10] (Qs [Pr 10 31] (Rb 31 [.K] 10) (s [D 1 3,D 1 11,QP 286 1,e 0,e 1,n (.d [.K]),PC 1,Rz 13] (s [Pr 13 41] (Rb 41 [.K] 13))) (PY [A 0 8,L,A 0 11,L,QP 207 2,A 0 9,L,QP 207 2,Qv,S 1 6,m O] [(1,0,0),(3,0,0),(6,0,1)] [(7,10)]))),[.c 6 1 true,.t 7]⟩
def fn264:l_:=⟨5,s [N (.a 1 false (.v 1)) 8,Pz 8 9,O0 10] (TE [Pm 2 8 10,d 2 0,Ro 7,S 2 7] (PX (.h [A 0 7,L,Pj 2,p .E (B 1),Pj 3,Qg 1,A 1 7,L,Pj 4,p .H (B 1),Pj 3,Qg 1,A 0 7,QO (.l 7),A 1 7,QO (.l 3)] [] [0,1,2,3,4,5,6,7,8,9,12,13,10,11,14,15] [(1,0,0),(2,0,0),(4,0,0),(7,0,0),(8,0,1),(10,0,1)] []) (s [A 0 7,L,A 1 7,L,Sw (B 2),zv 0 0,h 1 (.a 2 true (.v 7)),h 2 (.e (.l 1) U),Ug,Qb 4 38] (Tn 38)))),[]⟩
def fn265:l_:=⟨3,SI (O0 6) [N (.v false (.v 0)) 10] (Qu 0 (s [N (.v true (.v 10)) 11,q (.v 0) [.v 11] 12] (PX (x 12 0) (Sz [p (.v 1) [.v 11],p (.v 2) [.v 11],Ps 7,O1 8] (s [n (.e (.v 1) [.v 8]),q (.K false) [Y,.v 2] 19] (r 19 [Pn 7 6])))))) [o (i (-1)) 6],[.t 6]⟩
def fn266:l_:=⟨1,TX 5,[.t 2]⟩
def fn267:l_:=⟨3,UA (PJ 6) [QF 287 3 4 5,O1 7] (s [QF 288 5 3 4,O1 8] (s [QF 289 3 4 5,O1 9] (Rv (Pn 7 10) (PX (ds [Pj 5,c 266 U,Pj 3,c 266 U,To (B 2),m Y] [(0,0,0),(2,0,1)] [(11,5)]) (PD 0 [p gt [.v 11,i 1],O1 21] (RS 21 [Pn 8 10] [Sw [.v 11,i (-1)],O1 25] (Qj 25 [Pn 9 10])))) (PO [n (.e (.v 10) []),O1 6])))),[.t 6]⟩
def fn268:l_:=⟨3,SL (PJ 6) [UG 243,Qz 243 2,Qg 1,Qh,UG 111,Sv 1,Qz 111 2,Qg 1,UG 266,Qz 266 2,p .E (B 1),Qh,p (.a [.K,.K,ZZ 0,ZZ 0,ZZ 0,ZZ 0] [(0,1),(1,1),(2,1),(3,1),(4,1),(5,1)]) [.v 0,.v 2,.v 1,.l 8,.l 4,Y],SF,O1 6],[.t 6]⟩
def fn269:l_:=⟨3,s [On 6,O0 7] (.j (Pw [Rh 290 0 1,O1 8] (TK 20) [On 9] (s [O0 10] (s [O0 11,O0 12] Pk))) 0 Pk),[.t 6,.t 7]⟩
def fn270:l_:=⟨2,SL (Of 4) [tv 0 .o [.v 1],tv 0 .x U,p .p [.v 0,Y,ff],O1 4],[.t 4]⟩
def fn271:l_:=⟨2,SL (Of 4) [fv 0 .o [.v 1],p .p [.v 0,tt,Y],O1 4],[.t 4]⟩
def fn272:l_:=⟨2,SY 292 272,[.t 4]⟩
def noC:IC:=be [O0 5] (lp 4 5 [A 5 1,L,ls,PW 5 119] (x 119 4) (TO (lp 6 7 [QI 6 5 124] (x 124 6) (Vb [A 5 1,L,mv 5,PB 6 1,a 2,L,Tc,m Y,Rt 5,h 1 l,zv 2 5,Rd 3 6 1,Ql 4 2,h 5 l,Pq 6 5 1,h 7 l,zv 8 6,Rd 9 6 1,Ql 10 2,h 11 l,t 12 (.C .eql) (B 6),Q 13] [(1,0,0),(5,0,0),(9,0,0),(13,0,0),(15,0,0),(19,0,0)] [(148,21)] 148) (I 6))) (I 5)) [o tt 2]
def noA:IC:=.f (s [O0 3] (Sa [A 3 1,L,ls,PW 3 76] (x 76 0) (Pw [A 3 1,L,Qx 2 3,a 0,L,c 239 U,Sq,So 3,g 1 l,yv 2 3,f 3 (.c 2) (B 1),Rj 4 1,g 5 l,Qe 6 238,QX 7,Pp 8 96] (Rc 96 2) [O0 4] (lp 2 3 [QI 4 3 99] (x 99 2) (Vb [A 3 1,L,mv 4,PB 2 1,a 0,L,A 3 1,L,mv 3,PB 2 1,a 0,L,p (.C .geq) (B 6)] [(1,0,0),(5,0,0),(7,0,0),(11,0,0)] [(114,12)] 114) (I 4))) (I 3))) noC
def fn273x:l_:=⟨1,s [bx 0 1,Of 2] (PX (s [A 0 1,L,q eq [Y,b 2] 9] (r 9 [A 4 1,L,c 238 U,Rt 1,h 1 l,PM 2,Q 3,Rt 2,h 1 l,PM 2,Q 3,Rt 3,h 1 l,Rn 2,RI 3,Q 4,Rt 5,h 1 l,Rn 2,RI 3,Q 4,O1 2])) (.f (s [A 0 1,L,p ne [Y,b 1],So 1,g 1 l,Qe 2 239,QX 3,P 4,So 2,g 1 l,RW 2,y 3 Y,Rt 2,h 1 l,TW 2 239,Ug,Qp 8 4,P 9,So 4,g 1 l,RW 2,P 3,So 3,g 1 l,RG 2,Qo 3 8,P 4,So 5,g 1 l,RG 2,Qo 3 16,Pp 4 71] (Rc 71 2)) noA)),[.t 2]⟩
def fn274:l_:=⟨1,Ta (.h zI 56 Y Y) (.q 4 (.v 3) (.v 0)),[.t 2]⟩
def fn275:l_:=⟨1,Ta (.h [.f []] 16 Y Y) (.q 1 (.v 3) (.v 0)),[.t 2]⟩
def fn276:l_:=⟨2,RQ (.h [.f [],.f []] 32 Y Y) (Sz [Pm 3 11 13,d 3 0,Tw 7,Pn 13 6,S 3 7] (Sm [mv 5,mv 6,A 0 7,L,A 2 7,L,A 0 2,a 2,L,A 0 2,a 0,L,c 251 U,A 0 2,a 3,L,ls,Rx,c 251 U,p (.a [.f [],.f [],.f [],.f []] [(0,1),(1,1),(2,1),(3,1)]) [.l 13,.l 10,.l 6,Y],A 1 7,L,p (.f 4 1 false) (B 2),p (.a [.f [],.f []] [(0,1),(1,1)]) (B 19),RH 2 23 22,w 2] [(3,0,2),(5,0,2),(8,0,2),(11,0,0),(15,0,1),(21,0,2)])),[.t 4]⟩
def fn277:l_:=⟨1,QJ 6,[.t 2]⟩
def fn278:l_:=⟨1,QZ [QM,p le [Y,i 64],zv 0 0,Te 1 230 293,t 2 lt [Y,O],Q 3,O1 2],[.t 2]⟩
def fn279:l_:=⟨1,Tq [QM,UM,yv 0 0,f 1 .j U,Qo 2 16,Pp 3 11] (Rc 11 2) [q .j [.v 0] 13,O0 14] (Ph [.v 14,.v 13] 15 (Sz [Pn 14 3] (s [SR,c 294 U,TQ 21] (Rc 21 2))) (J 14)),[.t 2]⟩
def fn280:l_:=⟨2,Qr 295,[.t 4]⟩
def fn281:l_:=⟨2,s [bx 0 2,Of 3] (PO [A 2 2,L,A 2 1,L,p (.C .eql) (B 2),O1 3]),[.t 3]⟩
def fn283:l_:=⟨1,Tq [lv 0,RF 8 7] (Rc 7 2) [Pn 0 8,Pz 8 9,O0 10] (TE [Pm 3 8 10,d 3 0,Tw 4,Pn 10 3,S 3 4] (Vb [A 0 4,L,c 248 U,Sq,m Y,UP,g 1 l,Tx 2 3,P 3,m Y,PF 0 2 4,g 1 l,Qe 2 246,QX 3,P 4,m Y,UP,g 1 l,Tx 2 0,y 3 Y,Pq 0 2 4,h 1 l,UC,Qp 7 3,P 8,m Y,yv 0 3,f 1 gt [Y,O],y 2 Y,Pq 0 0 4,h 1 l,zv 2 0,zv 3 3,t 4 su [Y,i 1],Rd 5 3 2,Ql 6 0,h 7 l,t 8 (.C .leq) (B 6),Qp 12 9,P 13] [(1,0,0),(6,1,1),(11,1,1),(17,2,2),(21,2,2),(30,2,2),(36,2,2)] [(54,39)] 54)),[.t 2]⟩
def fn284:l_:=⟨2,s [bx 0 2,Re 4,Re 5,O0 6] (Pw [QB 1,yv 0 1,Qd 1 1 2,UR,RC 3 2,Pp 4 16] (r 16 [Si,Si,Po 1 4,Po 1 5,QD 4 6]) [A 0 2,L,QK 233 1,e 0,e 1,Ps 7,O1 8] (PO [TS [.K] (.v 7),TS [.K] (.v 8),Po 1 4,Po 1 5,O0 6])),[.c 4 1 true,.c 5 1 true,.t 6]⟩
def fn285:l_:=⟨1,s [Re 2,O0 3] (be [UG 262,O1 4] (SM (Pr 4 8) 8 [Si,S 1 2,Pn 4 3]) [UG 296,Qv,S 1 2,O0 3]),[.c 2 1 true,.t 3]⟩
def fn286:l_:=⟨2,s [bx 0 2,bx 1 3,Re 4,O0 5] (PX (Tv 0 (ds [D 1 2,c 192 U,D 1 3,c 192 U,Qg 2,p gt [Y,i 4096],m Y] [(0,0,0),(2,0,1)] [(6,6)]) (.e (.v 6) (PO [Si,S 1 4,QD 3 5]) (PX (ds [D 1 2,c 55 U,D 1 3,c 55 U,To [QV,Y],Ue 3,m Y] [(0,0,0),(2,0,1)] [(14,6)]) (r 14 [Si,S 1 4,QD 13 5])))) (PO [A 0 2,L,A 0 3,L,QP 207 2,Qv,S 1 4,O0 5])),[.c 4 1 true,.t 5]⟩
def fn287:l_:=⟨3,SL (PJ 3) [Pj 0,Pj 1,Pj 2,Un 2 1,O1 3],[.t 3]⟩
def fn288:l_:=⟨3,Rv (PJ 3) (PX (Se (a 0) (a 1)) (QY 15 [Pj 0,k,a 0,L,O1 4] (PY [Pj 1,Pj 2,mv 4,k,a 0,L,Un 5 4,mv 4,k,a 2,L,mv 4,k,a 1,L,Pj 0,k,a 2,L,Pj 0,k,a 1,L,Un 8 4,Un 17 13,m Y] [(0,0,0),(1,0,0),(5,0,0),(10,0,2),(14,0,1),(15,0,1),(18,0,1),(19,0,1),(22,0,1)] [(3,25)]))) (PY [Pj 1,Pj 2,Pj 0,k,a 0,L,Un 5 4,Pj 0,k,a 2,L,Pj 0,k,a 1,L,Un 8 4,m Y] [(0,0,0),(1,0,0),(2,0,0),(5,0,0),(7,0,1),(10,0,1),(11,0,1),(14,0,1)] [(3,16)]),[.t 3]⟩
def fn289:l_:=⟨3,Rv (PJ 3) (PX (Se (a 1) (a 0)) (QY 15 [Pj 0,k,a 1,L,O1 4] (PY [Pj 0,k,a 0,L,Pj 0,k,a 2,L,mv 4,k,a 0,L,Un 8 4,mv 4,k,a 2,L,mv 4,k,a 1,L,Pj 1,Pj 2,Un 2 1,Un 11 7,m Y] [(0,0,0),(3,0,0),(4,0,0),(7,0,0),(11,0,0),(16,0,2),(20,0,1),(21,0,1),(22,0,1)] [(3,25)]))) (PY [Pj 0,k,a 0,L,Pj 0,k,a 2,L,Pj 0,k,a 1,L,Pj 1,Pj 2,Un 2 1,Un 11 7,m Y] [(0,0,1),(3,0,1),(4,0,1),(7,0,1),(8,0,0),(11,0,0),(12,0,0),(13,0,0)] [(3,16)]),[.t 3]⟩
def fn290:l_:=⟨2,SI (O0 4) [UG 255,O1 5] (Py 5 9 4) [Qz 255 1,O1 4],[.t 4]⟩
def fn291:l_:=⟨2,s [bx 0 2,O0 4] (be [A 0 2,L,q gt [Y,.v 1] 8] (r 8 [A 0 2,L,O1 4]) [A 1 2,L,O1 4]),[.t 4]⟩
def fn292:l_:=⟨1,s [bx 0 1,Of 2] (be [A 0 1,N l 4] (PD 0 [PV 4 1,O1 5] (Px 5 [A 1 1,L,c 239 U,Rt 2,h 1 l,PM 2,z 3 Y,So 2,g 1 l,Qe 2 239,Ui 7 3,Q 8,Rt 3,h 1 l,TW 2 297,Q 3,Rt 4,h 1 l,PM 2,Q 3,Rt 5,h 1 l,Rn 2,t 3 le [Y,i 16],Q 4,O1 2] [PV 4 2,O1 36] (.e (.v 36) (PO [A 4 1,L,c 238 U,Rt 1,h 1 l,PM 2,Q 3,Rt 2,h 1 l,PM 2,Q 3,Rt 3,h 1 l,Rn 2,Pq 3 5 1,h 4 l,Rn 5,t 6 ad (B 3),RI 7,Q 8,O1 2]) (PX (Rw 4 3 61) (Px 61 [A 4 1,L,UT,Rt 1,h 1 l,PM 2,Q 3,Rt 2,h 1 l,PM 2,Q 3,Rt 3,h 1 l,Rn 2,Pq 3 5 1,h 4 l,Rn 5,t 6 ad (B 3),RI 7,Q 8,O1 2] [PV 4 5,O1 87] (r 87 [A 1 1,L,c 239 U,Rt 3,h 1 l,TW 2 297,Q 3,Rt 2,h 1 l,PM 2,Q 3,Rt 4,h 1 l,PM 2,Q 3,Rt 5,h 1 l,Rn 2,RI 3,Q 4,O1 2])))))) [Of 2]),[.t 2]⟩
def fn293:l_:=⟨1,Ry,[.t 2]⟩
def fn294:l_:=⟨1,QZ [p ge [.v 0,b 97],zv 0 0,t 1 le [Y,b 122],Q 2,yv 0 0,f 1 ge [Y,b 48],y 2 Y,zv 0 0,t 1 le [Y,b 57],Qp 5 2,P 6,O1 2],[.t 2]⟩
def fn295:l_:=⟨2,Sx 6,[.t 4]⟩
def fn296:l_:=⟨1,s [PJ 2] (Pw [lv 0,Rq 6] (r 6 [PJ 2]) [lv 0,RR [Y,i 2],O1 3] (PY [mv 0,mv 3,QE 1,c 296 U,mv 0,mv 3,PB 1 1,L,mv 0,mv 3,Qh,PE 1 2,c 296 U,Un 9 5,m Y] [(7,0,2)] [(2,14)])),[.t 2]⟩
def fn297:l_:=⟨1,Tq [lv 0,RF 8 7] (Rc 7 2) [O0 3] (Sa [lv 0,PW 3 11] (x 11 0) (s [Pm 3 0 3,d 3 0,Tw 4,S 3 4] (Vb [A 0 4,L,c 239 U,Sq,m Y,UP,g 1 l,Tx 2 3,P 3,m Y,PF 0 2 4,g 1 l,Qe 2 238,QX 3,P 4,m Y,UP,g 1 l,f 2 ne [Y,b 0],y 3 Y,Pq 0 2 4,h 1 l,UC,Qp 7 3,P 8,m Y,yv 0 3,f 1 gt [Y,O],y 2 Y,zv 0 0,zv 1 3,t 2 su [Y,i 1],Rd 3 3 2,Ql 4 0,h 5 l,Pq 6 0 4,h 7 l,t 8 (.C .geq) (B 2),Qp 12 9,P 13] [(1,0,0),(6,1,1),(11,1,1),(17,2,2),(21,2,2),(34,2,2),(36,2,2)] [(57,39)] 57)) (I 3)),[.t 2]⟩
def F:T l_:=(.n (.n (.n (.n (.n (.n (.n (.n (.n .e (some fn255) .e) (some fn127) .e) (some fn63) .e) (some fn31) (.n (.n (.n .e (some fn287) .e) (some fn159) .e) (some fn95) (.n .e (some fn223) .e))) none (.n (.n (.n (.n .e (some fn271) .e) none .e) (some fn79) (.n .e (some fn207) .e)) (some fn47) (.n (.n .e (some fn175) .e) (some fn111) (.n .e (some fn239) .e)))) (some fn7x) (.n (.n (.n (.n (.n .e (some fn263) .e) (some fn135) .e) (some fn71) (.n .e (some fn199) .e)) (some fn39) (.n (.n (.n .e (some fn295) .e) (some fn167) .e) (some fn103) (.n .e (some fn231) .e))) (some fn23) (.n (.n (.n (.n .e (some fn279) .e) (some fn151) .e) (some fn87) (.n .e (some fn215) .e)) (some fn55) (.n (.n .e (some fn183) .e) none (.n .e (some fn247) .e))))) none (.n (.n (.n (.n (.n (.n .e (some fn259) .e) (some fn131) .e) (some fn67) (.n .e (some fn195) .e)) (some fn35) (.n (.n (.n .e (some fn291) .e) (some fn163) .e) (some fn99) (.n .e (some fn227) .e))) none (.n (.n (.n (.n .e (some fn275) .e) (some fn147) .e) (some fn83) (.n .e (some fn211) .e)) (some fn51) (.n (.n .e (some fn179) .e) (some fn115) (.n .e (some fn243) .e)))) (some fn11) (.n (.n (.n (.n (.n .e (some fn267) .e) (some fn139) .e) none (.n .e (some fn203) .e)) (some fn43) (.n (.n .e (some fn171) .e) (some fn107) (.n .e (some fn235) .e))) none (.n (.n (.n (.n .e (some fn283) .e) (some fn155) .e) (some fn91) (.n .e (some fn219) .e)) (some fn59) (.n (.n .e (some fn187x) .e) (some fn123) (.n .e (some fn251) .e)))))) none (.n (.n (.n (.n (.n (.n .e (some fn129) .e) (some fn65) (.n .e (some fn193) .e)) (some fn33) (.n (.n (.n .e (some fn289) .e) (some fn161) .e) (some fn97) (.n .e (some fn225) .e))) (some fn17) (.n (.n (.n (.n .e (some fn273x) .e) (some fn145) .e) (some fn81) (.n .e (some fn209) .e)) (some fn49x) (.n (.n .e (some fn177) .e) (some fn113) (.n .e (some fn241) .e)))) (some fn9) (.n (.n (.n (.n (.n .e (some fn265) .e) (some fn137) .e) (some fn73) (.n .e (some fn201) .e)) (some fn41) (.n (.n (.n .e (some fn297) .e) (some fn169) .e) (some fn105) (.n .e (some fn233) .e))) (some fn25) (.n (.n (.n (.n .e (some fn281) .e) (some fn153) .e) (some fn89) (.n .e (some fn217) .e)) (some fn57) (.n (.n .e (some fn185) .e) (some fn121) (.n .e (some fn249) .e))))) none (.n (.n (.n (.n (.n (.n .e (some fn261) .e) (some fn133) .e) (some fn69) (.n .e (some fn197) .e)) (some fn37x) (.n (.n (.n .e (some fn293) .e) (some fn165) .e) (some fn101) (.n .e (some fn229) .e))) (some fn21) (.n (.n (.n (.n .e (some fn277) .e) (some fn149) .e) (some fn85) (.n .e (some fn213) .e)) (some fn53) (.n (.n .e (some fn181) .e) (some fn117) (.n .e (some fn245) .e)))) (some fn13) (.n (.n (.n (.n (.n .e (some fn269) .e) (some fn141) .e) none .e) (some fn45) (.n (.n .e (some fn173) .e) (some fn109) (.n .e (some fn237) .e))) none (.n (.n (.n (.n .e (some fn285) .e) (some fn157) .e) (some fn93) (.n .e (some fn221) .e)) none (.n (.n .e (some fn189) .e) (some fn125) (.n .e (some fn253x) .e))))))) none (.n (.n (.n (.n (.n (.n (.n .e (some fn128) .e) (some fn64) (.n .e (some fn192) .e)) (some fn32) (.n (.n (.n .e (some fn288) .e) (some fn160) .e) (some fn96) (.n .e (some fn224) .e))) (some fn16) (.n (.n (.n (.n .e (some fn272) .e) none .e) (some fn80) (.n .e (some fn208) .e)) (some fn48) (.n (.n .e (some fn176) .e) (some fn112) (.n .e (some fn240) .e)))) (some fn8) (.n (.n (.n (.n (.n .e (some fn264) .e) (some fn136) .e) (some fn72) (.n .e (some fn200) .e)) (some fn40) (.n (.n (.n .e (some fn296) .e) (some fn168x) .e) (some fn104) (.n .e (some fn232) .e))) (some fn24) (.n (.n (.n (.n .e (some fn280) .e) (some fn152) .e) (some fn88) (.n .e (some fn216) .e)) (some fn56) (.n (.n .e (some fn184) .e) none (.n .e (some fn248) .e))))) none (.n (.n (.n (.n (.n (.n .e (some fn260) .e) (some fn132) .e) (some fn68) (.n .e (some fn196) .e)) (some fn36x) (.n (.n (.n .e (some fn292) .e) (some fn164) .e) (some fn100) (.n .e (some fn228) .e))) none (.n (.n (.n (.n .e (some fn276) .e) (some fn148) .e) (some fn84x) (.n .e (some fn212) .e)) (some fn52) (.n (.n .e (some fn180) .e) (some fn116) (.n .e (some fn244) .e)))) (some fn12) (.n (.n (.n (.n (.n .e (some fn268) .e) (some fn140) .e) (some fn76) (.n .e (some fn204) .e)) (some fn44) (.n (.n .e (some fn172) .e) (some fn108x) (.n .e (some fn236) .e))) none (.n (.n (.n (.n .e (some fn284) .e) (some fn156) .e) (some fn92) (.n .e (some fn220) .e)) none (.n (.n .e (some fn188) .e) (some fn124) (.n .e (some fn252) .e)))))) none (.n (.n (.n (.n (.n (.n (.n .e (some fn258) .e) (some fn130) .e) (some fn66) (.n .e (some fn194) .e)) (some fn34) (.n (.n (.n .e (some fn290) .e) (some fn162) .e) (some fn98) (.n .e (some fn226) .e))) none (.n (.n (.n (.n .e (some fn274) .e) none .e) (some fn82) (.n .e (some fn210) .e)) (some fn50) (.n (.n .e (some fn178) .e) (some fn114x) (.n .e (some fn242) .e)))) (some fn10) (.n (.n (.n (.n (.n .e (some fn266) .e) (some fn138) .e) (some fn74) (.n .e (some fn202) .e)) (some fn42) (.n (.n .e (some fn170) .e) (some fn106) (.n .e (some fn234) .e))) none (.n (.n (.n .e (some fn154) .e) (some fn90) (.n .e (some fn218) .e)) (some fn58) (.n (.n .e (some fn186) .e) (some fn122) (.n .e (some fn250) .e))))) none (.n (.n (.n (.n (.n (.n .e (some fn262) .e) (some fn134) .e) (some fn70) (.n .e (some fn198) .e)) (some fn38) (.n (.n (.n .e (some fn294) .e) (some fn166) .e) (some fn102) (.n .e (some fn230) .e))) (some fn22) (.n (.n (.n (.n .e (some fn278) .e) (some fn150) .e) (some fn86) (.n .e (some fn214) .e)) (some fn54) (.n (.n .e (some fn182) .e) none (.n .e (some fn246) .e)))) (some fn14) (.n (.n (.n (.n (.n .e (some fn270) .e) (some fn142) .e) (some fn78) (.n .e (some fn206) .e)) (some fn46) (.n (.n .e (some fn174) .e) (some fn110) (.n .e (some fn238) .e))) none (.n (.n (.n (.n .e (some fn286) .e) (some fn158) .e) (some fn94) (.n .e (some fn222) .e)) (some fn62) (.n (.n .e (some fn190) .e) (some fn126) (.n .e (some fn254) .e))))))))
theorem JV:F.c_ 15=none:=rfl
open Classical in
noncomputable def lov:aL:=fun f vs h=>if f=15/\vs=[]then some (.h true,h)else none
noncomputable abbrev go:aL:=ev lov F
end Go.Ev.Lay
