/- An evaluator of the program, and contracts over it: LayG to LayG. -/
import Derived.Test.YtknldhlnhobdhaaGreatDoorP04
set_option linter.unusedSimpArgs false
set_option linter.unusedVariables false
set_option linter.constructorNameAsVariable false
set_option linter.unnecessarySimpa false
namespace Go.Ev.Lay
open Go.Ev.Ab
abbrev Qv:=fun a b=>(.e a b:IC)
abbrev RI:=fun a b c=>s [a] (Qv b c)
abbrev be:=fun a b c d=>(.h 0 (.o (RI (q lt a b) (x b 0) (Qv c d))):IC)
abbrev Qk:=fun a=>s a .q
abbrev so:=fun a b c=>(.e (s a b) (Qk c):IC)
abbrev PM:=fun a=>n (.a 1 false (.v a))
abbrev QO:=fun a b=>(.h a (.o b):IC)
abbrev VB:=fun a b=>(.h a b:IC)
abbrev TL:=fun a=>p lt [.v a,Y]
abbrev RU:=fun a b c=>t a (.c b) (B c)
abbrev QL:=fun a b=>t a (.b b) U
abbrev Qr:=fun a b=>q .r [.l a,Y,ff] b
abbrev Tz:=fun a b c=>s [a] (s b c)
abbrev QD:=fun a b=>o (i a) b
abbrev QG:=fun a b c d=>Qv (s a b) (Qv c d)
abbrev Qz:=fun a b=>q lt [.v a,Y] b
abbrev Qx:=fun a b c=>(.d (.v a) (s b c) .f:IC)
abbrev PO:=fun a b c=>p (.c a) [.v b,.v c]
abbrev Ss:=fun a=>(.n a:IC)
abbrev QZ:=fun a b=>c a [Y,.v b]
abbrev TU:=fun a=>p .K (B a)
abbrev VK:=fun a b=>Ss [mv 13,PO 2 a b,d 2 0,QZ 299 10,TU 3,O1 13]
abbrev Ue:=fun a=>p eq a
abbrev Sf:=fun a=>t a .d U
abbrev QM:=fun a b=>(.d (.v a) (.k b) .f:IC)
abbrev Qf:=fun a b=>(.d (.v a) (.n b) .f:IC)
abbrev PR:=fun a b=>o (.v a) b
abbrev Uo:=fun a b=>c a [.v b]
abbrev PY:=fun a=>o (.l 1) a
abbrev PN:IC:=.e .f (Qv (QO 0 (VB 1 (Qv (QO 2 (Qv (s [lv 0,TL 11,zv 0 0,zv 1 11,RU 2 2 1,QL 3 1,h 4 l,zv 5 10,t 6 le (B 1),Qr 7 34] (x 34 2)) (VB 3 (I 11)))) (Qv (QO 4 (Qv (s [lv 1,TL 12,zv 0 1,zv 1 12,RU 2 2 1,QL 3 1,h 4 l,zv 5 10,t 6 le (B 1),Qr 7 49] (x 49 4)) (VB 5 (I 12)))) (Tz (QD 1073741824 13) [Of 14,Of 15] (QG [lv 0,Qz 11 55] (Qx 55 [PO 2 0 11,a 0,L,p le [Y,.v 10],O1 14] (VK 0 11)) (s [lv 1,Qz 12 74] (Qx 74 [PO 2 1 12,a 0,L,p le [Y,.v 10],O1 15] (VK 1 12))) (QG [lv 0,Ue [.v 11,Y],zv 0 12,zv 1 1,Sf 2,t 3 eq (B 2),Qr 4 99] (QM 99 0) (s [N (.e (.v 2) [.v 14,.v 15]) 103] (Qf 103 [mv 9,c 278 [Y,.v 10,.v 13],O1 9])) (Ss [PR 13 10])))))))) (Qk [Uo 279 9,e 0,e 1,PY 6,O1 7]))
abbrev PU:=fun a b=>q ne [.v a,O] b
abbrev PV:=fun a b c=>t a (.b b) [.v c]
abbrev PW:=fun a b=>q .r [.l a,tt,Y] b
abbrev PX:=fun a b=>n (.h a (.v b) (.l 1))
abbrev Qa:=fun a b=>q (.j 0 false) [.v a,.c .O] b
abbrev Qb:=fun a b c d=>(.e (s a b) (s c d):IC)
abbrev Qc:=fun a b c=>(.h a (s b c):IC)
abbrev Qd:=fun a b=>f 0 (.b a) [.v b]
abbrev Ql:=fun a b=>q .d [.v a] b
abbrev TE:=fun a b=>Qc 1 a b
abbrev Tj:=fun a=>o (i (-1)) a
abbrev Qe:=fun a=>s [O0 4] (so [Ql 0 7,O0 8] (be [.v 8,.v 7] 9 (TE [PR 8 5] (s a (r 16 [PR 5 4]))) (J 8)) [Tj 4])
abbrev Qg:=fun a b=>p (.c a) (B b)
abbrev Qh:=fun a=>o (.c .O) a
abbrev Qi:=fun a b c=>r a [QD b c]
abbrev Qj:=fun a b d=>c a [.l b,.l d,Y]
abbrev Qm:=fun a b=>n (.h a Y (.l b))
abbrev Qn:=fun a b c=>s [PU a b] (r b [PR a c])
abbrev Qo:=fun a=>p (.a a []) []
abbrev Qp:=fun a=>t a (.B .eql) [Y,.c (.f [])]
abbrev Qq:=fun a b=>p (.s none a true false false) (B b)
abbrev Qs:=fun a b c=>n (.i a b (.l c) Y)
abbrev Qt:=fun a=>p ad (B a)
abbrev Qu:=n (.b zN [(0,6)] 1 U)
abbrev Qw:=fun a b c d=>(.d (.v a) (Qk b) (s c d):IC)
abbrev Qy:=fun a b=>f a gt [Y,i b]
abbrev QA:=fun a b=>g a (.d b U)
abbrev QB:=fun a b c=>(.e (ds a b c) .q:IC)
abbrev QC:=fun a=>p (.e .rem) a
abbrev QE:=p (.q .i64) U
abbrev Ry:=fun a b d=>c a [.v b,.v d]
abbrev QF:=fun a=>s [Of 4] (Qk [Ry a 0 1,p ge [Y,O],O1 4])
abbrev QH:=fun a b=>s [On 2] (so [q (.j 1 false) [.v 0,.c .r] 4] (r 4 [On 2]) [n a,n b,O1 2])
abbrev QI:=p ad [Y,i 1]
abbrev QJ:=m (.l 1)
abbrev QK:=fun a b c=>p (.A (.func a) b) [.v c]
abbrev QN:=fun a=>c a [.v 0]
abbrev QP:=fun a b=>f a .r [.l b,Y,ff]
abbrev QQ:=fun a b=>p (.c a) [Y,.v b]
abbrev QR:=fun a b c=>g a (.a b true (.v c))
abbrev Un:=fun a b=>so a b [O0 2]
abbrev Tk:=fun a=>q eq [Y,O] a
abbrev QS:=fun a=>s [bx 0 1,O0 2] (Un [D 6 1,c a U,Tk 5] (Qi 5 14 2))
abbrev QT:=fun a c=>p eq [.v a,b c]
abbrev RH:=fun a=>al [.r] a
abbrev QU:=fun a=>s [bx 0 3,bx 1 4,bx 2 5,RH 6,O0 7] (Qk a)
abbrev QV:=fun a=>Qy a 2305843009213693952
abbrev Sz:=p .u U
abbrev RG:=fun a b=>r a [Of b]
abbrev QW:=so [v 0,a 5,L,q .d U 29,O0 30] (be [.v 30,.v 29] 31 (TE [PR 30 8] (Qv (ds [PM 4,mv 0,k,a 5,L,mv 8,Qg 6 1,mv 1,QI,n (.e (.l 8) (B 2)),Sz] [(0,0,0),(4,0,0)] [(43,10)]) (RG 43 7))) (J 30)) [o tt 7]
abbrev QX:=fun a c=>p (.a [.f [],ZY 0,.f []] [(0,1),(1,1)]) [.c (.f a),b c]
abbrev QY:=fun a=>p lt [.v a,O]
abbrev Ra:=fun a=>al [ZZ 0,ZZ 0] a
abbrev Rb:=fun a b c=>p (.s none a true true false) [.l b,.l c,Y]
abbrev Rc:=p (.a [.O] [(0,1)]) U
abbrev TZ:=fun a b=>r a [O0 b]
abbrev Rd:=fun a=>s [O0 2] (so [Qa 0 4] (TZ 4 2) a)
abbrev Re:=fun a=>p (.s none a false true false) (B a)
abbrev Rf:=fun a=>p (.a [ZY 0,.R] [(0,1),(1,1)]) [b a,Y]
abbrev Rg:=p (.j 0 false) [.v 0,.c .O]
abbrev Rh:=fun a=>p (.E false) [Y,u a]
abbrev Ri:=fun a b c=>q lt [.v a,.v b] c
abbrev Rj:=fun a b c d=>p (.A (.func a) 0) [.v b,.v c,.v d]
abbrev TV:=fun a b=>s [a] (Qk b)
abbrev Rk:=fun a b=>s [On 2] (Qb [lv 0,Tk 6] (r 6 [On 2]) [lv 0,n a,O1 3] (TV b [PR 3 2]))
abbrev Rl:=fun a b=>c a [.v b,Y]
abbrev Rm:=fun a=>f a .u U
abbrev Rn:=fun a=>c a [Y,.v 1,.v 2]
abbrev Ro:=i 4611686018427387904
abbrev VO:=fun a b=>p (.s none a false true true) [.v b,.l 1,Y]
abbrev Rq:=fun a=>s [On 2] (Qk [lv 0,lv 0,VO a 0,O1 2])
abbrev Rt:=fun a b=>c a (B b)
abbrev US:=N (.e (.v 1) U) 16
abbrev Ru:=fun a=>Qe [PO a 0 5,d a 0,US]
abbrev Rv:=fun a=>n (.b [ZZ 0] [(0,1)] 1 a)
abbrev Rw:=Qo [.O,.r]
abbrev Rx:=p .g [.v 0]
abbrev Rz:=p (.a zN []) []
abbrev RA:=fun a=>c a [.v 0,.v 1,.v 2]
abbrev RB:=fun a b=>p (.a [.f [],.h false,.h false,.h false,.h false,.R] [(0,1),(1,1),(2,1),(3,1),(4,1),(5,1)]) [.c a,tt,ff,ff,tt,.c b]
abbrev RC:=fun a=>n (.h 1 Y a)
abbrev RF:=fun a b=>f a (.b b) U
abbrev RJ:=fun a=>al [.O] a
abbrev RL:=p (.a zN [(0,1),(4,1)]) [b 2,Y]
abbrev RM:=fun a=>s [Of 2] (Qk a)
abbrev Ty:=p .p [.v 0,.v 3]
abbrev Vx:=f 2 .p (B 1)
abbrev UU:=fun a c=>f a gt [Y,b c]
abbrev RN:=fun a=>lp 0 1 [Rx,Qz 3 10] (x 10 0) (s [Ty,p lt [Y,b 32],yv 0 0,yv 1 3,Vx,UU 3 126,PW 4 22] a) (I 3)
abbrev RP:=fun a=>al [.O,.r] a
abbrev RQ:=p su [Y,i 1]
abbrev RR:=fun a b c=>s [a] (r b c)
abbrev RS:=fun a b c=>p (.c a) [.l b,.l c]
abbrev RT:=fun a=>PV 0 a 1
abbrev RW:=fun a=>s [bx 0 1,O0 2] a
abbrev RX:=fun a=>al [.r,ZZ 0,ZZ 0,ZZ 0,ZZ 0] a
abbrev TS:=fun a b c d=>lp 0 1 a b c d
abbrev RY:=fun a b c=>so [O0 6] (TS a b c (I 6)) [PR 5 4]
abbrev RZ:=Qo [.O]
abbrev Sa:=Qo [.r,ZZ 0,ZZ 0]
abbrev Sc:=fun a=>t a eq [Y,O]
abbrev Sd:=fun a=>o (.l 2) a
abbrev Se:=fun a b=>f a gt (B b)
abbrev Sh:=fun a=>N (.d 33 [.v 0]) a
abbrev SZ:=fun a=>p lt [.v a,i 1]
abbrev UT:=fun a b=>t a le [Y,i b]
abbrev Si:=fun a b=>Qb [SZ 1,QR 0 6 2,a,Rm 2,PW 3 13] (Qi 13 1000 4) [QD 1 5] (RY [A 5 2,L,ls,TL 6,zv 0 5,UT 1 64,Qr 2 22] (x 22 0) b)
abbrev Sj:=fun a b=>p (.a [ZZ 0,ZZ 0] [(0,1),(1,1)]) [.v a,.v b]
abbrev Sk:=fun a b c d=>(.d (.v a) (.n b) (s c d):IC)
abbrev Sm:=fun a=>p ne [.v a,O]
abbrev UL:=fun a=>f 1 gt [Y,.c (.A .i32 a)]
abbrev Sn:=RM [p lt [.v 0,.c (.A .i32 32)],yv 0 0,UL 126,P 2,O1 2]
abbrev So:=fun a=>f a .h U
abbrev Sq:=Qk [O0 6]
abbrev Sr:=fun a=>p (.e .quo) a
abbrev Su:=fun a b=>r a [O0 4,QD b 5]
abbrev Sv:=fun a b d e=>c a [.l b,.l d,.l e,Y]
abbrev Sw:=fun a=>n (.q 4 (.l a) Y)
abbrev Sx:=fun a=>f a .d U
abbrev Sy:=fun a c d=>p (.a zN [(0,1),(1,1),(a,1)]) [b c,.c (.f d),Y]
abbrev SB:=fun a=>f a (.j 0 false) [Y,.c .O]
abbrev SC:=fun a b c d=>Qv (Qc a b c) (J d)
abbrev SD:=fun a b c=>p (.l a 1) [.v b,i c]
abbrev SF:=fun a=>n (.z none [a,Y,.c (.h true)])
abbrev SG:=p (.q .u64) U
abbrev SH:=fun a b=>s [bx 0 2,On 4] (s [lv 1,n a,O1 5] (so [PR 1 11,Ql 11 12,O0 13] (be [.v 13,.v 12] 14 b (J 13)) [PR 5 4]))
abbrev SI:=fun a=>p (.e .and) a
abbrev SJ:=fun a=>p su a
abbrev SK:=p (.a [.h false,ZZ 0,.r,.R,.R] [(0,1),(4,1)]) (B 1)
abbrev SL:=fun a=>f a (.B .neq) [Y,.c (.f [])]
abbrev SM:=p (.a zO [(0,1),(2,1)]) [b 2,i 1]
abbrev SN:=fun a=>p (.a zH [(0,1),(1,1)]) a
abbrev SO:=fun a b=>be [.v 10,.v 9] 11 (TE a b) (J 10)
abbrev UE:=fun a=>p gt (B a)
abbrev SP:=fun a b=>ds [PM 0,k,a,L,c 266 U,PM 0,k,b,L,c 266 U,UE 5] [(0,0,0),(3,0,0),(5,0,1),(8,0,1)] [(15,10)]
abbrev SU:=fun a=>s [On 4,O0 5] (Qk [c 269 [.v 0,.v 1,.c (.E (.func a) [] [])],e 0,e 1,PY 4,O1 5])
abbrev SX:=fun a b c=>p (.a [.r,ZZ 0,.O,.O,.O] [(0,2),(2,1),(3,1),(4,1)]) [.l a,.l b,.l c,Y]
abbrev SY:=fun a b=>q eq [.v a,O] b
abbrev Ta:=fun a c d=>p (.a zN [(0,1),(1,1),(2,1),(3,1),(5,1)]) [b 1,a,c,d,Y]
abbrev Tc:=fun a b=>q gt [Y,i a] b
abbrev Td:=fun a b=>ds a b []
abbrev Te:=fun a=>p ad [Y,.v a]
abbrev VF:=fun a=>SJ [.v a,i 1]
abbrev Tf:=fun a b=>s [bx 0 2,O0 4] (Si (QA 1 a) (Ss [mv 5,A 5 2,L,QQ 6 6,d 6 0,VF 1,b,Qt 6,O1 5]))
abbrev Tg:=fun a b=>o (.c (.E (.func a) [] [])) b
abbrev Ti:=fun a b c=>h a (.d b c)
abbrev Tn:=fun a b=>QU [D 2 3,D 1 4,A 1 5,L,a,L,b,e 0,e 1,PX 1 6,PY 7]
abbrev To:=fun a b=>t a .r [.l b,tt,Y]
abbrev Tp:=t 1 .h U
abbrev Tq:=fun a=>p (.a zN [(0,1)]) [b a]
abbrev Ts:=fun a b=>n (.b a b 1 U)
abbrev Tt:=n (.b zI [(0,4)] 1 U)
abbrev Tu:=fun a b=>s [O0 2] (Qb [lv 0,Tc 4096 8] (Qi 8 3 2) [a] (Un [PR 0 9,Ql 9 10,O0 11] b))
abbrev Tv:=n (.r Y)
abbrev Tw:=fun a b=>p ad [.v a,.v b]
abbrev Tx:=p (.B .neq) [Y,.c (.f [])]
abbrev TA:=fun a b c=>p (.A (.func a) 0) [.v b,.v c]
abbrev TB:=fun a b c d=>RR (PU a b) b [c,d]
abbrev TC:=fun a b c d=>Qv (.i a [12] [0,1,2,3,4,5,6,7,8,9,10,13,11,12,14] [(3,0,0),(5,0,0)] b) (s c d)
abbrev TD:=f 3 ge (B 2)
abbrev TF:=fun a=>QC [Y,b a]
abbrev TH:=fun a b c=>ds [mv 0,k,a,L,A 1 3,L,A 2 3,L,A 3 3,L,b,m Y] [(3,0,0),(5,0,0),(7,0,0),(9,0,0)] [c]
abbrev TI:=fun b=>Td [mv b,mv 0,k,a 0,L,mv 0,k,a 1,L,Re 4,Sw 9] [(4,0,0),(8,0,0)]
abbrev TJ:=fun a b=>(.d a b .f:IC)
abbrev TK:=fun a=>al [.r,ZZ 0,ZZ 0] a
abbrev TM:=fun a c=>p (.a zN [(0,1),(a,1)]) [b c,.v 0]
abbrev TN:=fun a=>q .u U a
abbrev TO:=fun a b=>Td [A 0 8,L,mv 28,mv 24,mv 28,Qg 3 1,a,L,RS 6 6 5,b,Qm 1 2] [(1,0,0),(7,0,0)]
abbrev TP:=Qo [.r]
abbrev TQ:=fun a=>al [.f [],ZY 0,.f []] a
abbrev TT:=fun a=>m (.l a)
abbrev TW:=fun a b c d=>RI (Of 2) (s a b) (so c d [o tt 2])
abbrev TX:=fun a b c=>f a (.b b) [.v c]
abbrev TY:=fun a b=>RR (PU a b) b [O0 8,O0 9,PR a 10]
abbrev Ua:=fun a=>SJ [Y,.v a]
abbrev VS:=fun a b=>Qc 0 a b
abbrev Ub:=fun a=>RI (O0 6) (VS [Rg,O1 7] (Qw 7 [QD 2 6] a (Qi 10 4 6))) Sq
abbrev Uc:=fun a b=>s [bx 1 3,O0 4] (Qv a b)
abbrev Ud:=Qo [ZZ 0,ZZ 0]
abbrev Uf:=fun b=>s [bx 0 2,O0 4,O0 5] (Qk [A 0 2,a 0,d 1 0,b,e 0,e 1,PY 4,O1 5])
abbrev Ug:=fun a=>p .h [.l a]
abbrev Uh:=fun a=>p ad [.v a,i 1]
abbrev Ui:=fun a b c d=>(.h a (Qv (VB b c) (Qv d (.k 0))):IC)
abbrev Uj:=fun a=>c a [Y,.v 1,.v 2,.v 3]
abbrev Uk:=fun a b=>p (.a a [(0,1),(1,1)]) [Y,b]
abbrev Ul:=fun a=>s [bx 0 2,Of 3] (Qk a)
abbrev Um:=fun a=>p (.l 64 1) [Y,.l a]
abbrev Uq:=fun a b=>n (.b a [(0,1),(1,1),(2,1)] 3 b)
abbrev Ur:=fun a b c=>Ti a b [Y,.c (.E (.func c) [] [])]
abbrev Us:=fun a b=>s [QT a 3,O1 b] (.d (.v b) .f (Ss [QT a 4,O1 b]))
abbrev Ut:=fun a b=>q gt [.v a,O] b
abbrev Uu:=fun a=>al [.r,ZZ 0] a
abbrev Uv:=fun a b c=>Qv (s a b) (Ss c)
abbrev Uw:=fun a=>s [bx 0 2,bx 1 3,Of 4] (Qk a)
abbrev Ux:=p lt [Y,i 1]
abbrev Uy:=f 1 lt [Y,O]
abbrev Uz:=f 4 su (B 1)
abbrev UA:=n (.b zH [(0,2)] 1 U)
abbrev UB:=fun a b=>p (.a a [(0,1)]) [b]
abbrev UC:=fun a b=>so a b [PR 3 2]
abbrev UD:=fun a b c=>Qf a [mv b,Rv [.v c],Qs 1 8 1,O1 b]
abbrev UF:=fun a b=>n (.h a (.v b) (.l 2))
abbrev UG:=fun b c=>ds [b,mv 0,k,a 0,a 0,L,ls,Rt 91 6,m Y] [(0,0,0),(5,0,0)] [c]
abbrev UH:=fun a=>p ad [a,Y]
abbrev UI:=p .F [O,Y]
abbrev UJ:=Ts [ZZ 0,.h false,.h false] [(0,3)]
abbrev UK:=Ts [.f [],ZY 0,.f []] [(0,3)]
abbrev UM:=fun a b=>h a (.d b U)
abbrev UN:=fun b=>Rd [v 0,a b,L,O1 2]
abbrev UO:=fun a=>RC (.v a)
abbrev UP:=fun a b=>be [.v 11,.v 10] 12 (TE a b) (J 11)
abbrev UQ:=fun a=>p ge [.v a,O]
abbrev UR:=fun a b=>s [O0 4,O0 5] (Qv a b)
abbrev UV:=fun a b=>t a eq [Y,i b]
abbrev UW:=fun a b=>SJ [.v a,.v b]
abbrev UX:=fun a b c=>p (.a [ZZ 0,a,.h false] [(0,1),(1,1),(2,1)]) [.l b,.l c,Y]
abbrev UY:=fun a b c=>ds [mv 0,k,a,L,A 1 3,L,A 2 3,L,b,m Y] [(3,0,0),(5,0,0),(7,0,0)] [c]
abbrev UZ:=fun a=>s [O0 6] a
abbrev Va:=n (.c zN)
abbrev Vb:=Ue [Y,u 0]
abbrev Vc:=fun a=>t a .u U
abbrev Vd:=fun a b c=>QH (.b a [] 0 []) (.i b c Y (.v 0))
abbrev Ve:=n (.g [.h false] 1 (.v 2) (.v 2))
abbrev Vf:=fun a b c d=>(.i a [] b c d:IC)
abbrev Vh:=fun a=>Un [D 1 1,c 129 U,q gt [Y,Ro] a] (Qi a 13 2)
abbrev Vi:=fun a b=>r a [Rz,S 6 6,QD b 7]
abbrev Vj:=p (.a zE [(0,4),(4,1)]) (B 7)
abbrev Vk:=fun a b=>s [bx 0 3,RJ 6,O0 7] (s a b)
abbrev Vl:=fun a b=>Qj 268 a b
abbrev Vm:=fun a b=>TB 8 a b (PR 8 7)
abbrev Vn:=al [ZY 0,ZX 0,ZZ 0] 7
abbrev Vo:=fun a=>g a (.a 1 false (.v 2))
abbrev Vp:=QA 2 197
abbrev Vq:=f 1 eq [Y,O]
abbrev Vr:=RC (.c (.f []))
abbrev Vs:=n (.b zO [(0,5),(5,5)] 2 (B 1))
abbrev Vt:=fun a b c d=>QO a (RI b c d)
abbrev Vu:=fun a b=>p (.a a [(0,1),(1,1)]) (B b)
abbrev Vv:=t 2 (.B .neq) [Y,.c (.f [])]
abbrev Vw:=fun a=>n (.q a (.v 3) (.v 0))
abbrev Vy:=fun a=>Ts [a,a] [(0,2)]
abbrev Vz:=p (.B .eql) [Y,.c (.f [])]
abbrev VA:=fun a=>Td a [(3,0,0),(5,0,0)]
abbrev VC:=fun a=>s [bx 0 1,Of 2] (Qk a)
abbrev VD:=SI [Y,u 6148914691236517205]
abbrev VE:=fun a b=>Qk [PR a b]
abbrev VG:=fun a b c d=>s [a] (so b c d)
abbrev VH:=c 188 [.l 2,.l 1,Y,.c .r]
abbrev VI:=SI [Y,u 3689348814741910323]
abbrev VJ:=Qy 1 2147483648
abbrev VL:=fun a b=>s [c 17 [.v 3,u 5],e 0,e 1,PY 6,O1 7] (s a b)
abbrev VM:=p lt [Y,O]
abbrev VN:=Sr [.v 1,i 64]
abbrev VP:=fun a=>n (.e (.v 1) [.v a])
abbrev VR:=PO 3 0 6
abbrev VT:=fun a b=>PO 1 a b
abbrev VU:=fun a b=>p (.s none 1 true false false) [.v a,.v b]
abbrev VV:=fun a b c d=>Qv (ds a b c) (RG d 2)
abbrev VW:=fun a=>s [O0 4,Of 5] a
abbrev VX:=fun a b=>p (.s none a false true false) [.v 0,.v b]
def stN:IC:=so [O0 28] (lp 2 3 [lv 24,Qz 28 207] (x 207 2) (Qv (TO (a 0) (a 4)) (TO (a 1) (a 5))) (I 28)) [Ue [.v 16,.v 25],zv 0 17,zv 1 26,t 2 eq (B 1),Q 3,zv 0 11,h 1 (.a 1 true (.v 8)),Ti 2 25 (B 1),UV 3 1,Q 4,Ti 0 5 [],Q 1,O1 6]
def stM:IC:=Qv (Vf [mv 21,A 2 9,L,A 3 9,L,mv 13,A 1 12,L,mv 22,Rv [.c (ZZ 1)],Qs 1 8 1,c 27 [.l 10,.l 8,.l 6,tt,.l 5,.l 3,Y],m Y,e 0,e 1,e 2,e 3,TT 3,TT 3,TT 3,TT 3] [0,1,2,3,4,5,6,7,8,9,10,11,12,13,15,17,19,14,16,18,20] [(2,0,2),(4,0,2),(7,0,2)] [(24,17),(25,18),(26,19),(27,20)]) (Qv (s [q ne [.v 18,.v 27] 194] (RG 194 6)) (.e (RR (Ut 27 196) 196 [D 1 8,Rl 25 11,Ue [Y,i 1],Ti 0 5 [],Q 1,O1 6]) stN))
def stL:IC:=Tz (On 21) [On 22] (.e (s [O0 23] (TS [A 0 8,L,ls,Qz 23 132] (x 132 0) (Qv (ds [mv 21,A 0 8,L,mv 23,Qg 6 1,a 4,L,A 0 8,L,mv 23,Qg 6 1,a 5,L,A 0 7,L,A 0 8,L,mv 23,Qg 6 1,a 0,a 1,L,Qg 9 7,a 7,L,UX (.h false) 18 12,UJ,Qs 3 16 26,m Y] [(2,0,0),(6,0,0),(8,0,0),(12,0,0),(14,0,0),(16,0,0),(21,0,0),(24,0,0)] [(21,28)]) (ds [mv 22,D 5 9,A 0 8,L,mv 23,Qg 6 1,a 0,d 4 0,mv 10,Qj 26 7 1,Ts [ZZ 0] [(0,1)],Qs 1 8 10,m Y] [(1,0,0),(3,0,0),(7,0,0)] [(22,12)])) (I 23))) stM)
def stS:IC:=s [D 5 9,D 1 8,D 2 12,c 24 [.l 2,.l 1,Y,.v 10],e 0,e 1,TK 19,PX 3 19,PY 20] (Qv (s [q ne [.v 18,.v 20] 98] (RG 98 6)) (so [PU 20 100] (r 100 [D 1 8,Rl 25 11,Ue [Y,i 1],Ti 0 5 [],Q 1,O1 6]) [A 1 19,L,Ue [.v 16,Y],zv 0 17,PV 1 2 19,h 2 l,t 3 eq (B 2),Q 4,zv 0 11,PV 1 0 19,h 2 (.a 1 true Y),Ti 3 25 (B 2),UV 4 1,Q 5,Ti 0 5 [],Q 1,O1 6]))
def stT:IC:=s [A 2 9,L,A 3 9,L,SD 3 5 2,L,TF 2,Ue [Y,b 1],UX (ZZ 0) 6 4,al [ZZ 0,ZZ 0,.h false] 15,S 3 15] (s [D 3 15,D 2 12,c 8 [.v 11,.l 1,Y,.v 10],e 0,e 1,e 2,Sd 16,PY 17,O1 18] (.e (s [A 2 15,L,TN 87] (.d (.v 87) stS .f)) stL))
def fn4x:i_:=⟨3,s [bx 0 3,bx 1 4,bx 2 5,Of 6] (s [D 3 3,c 6 U,e 0,e 1,Uu 7,RH 8,PX 2 7,PX 1 8] (s [D 4 4,D 2 7,Rt 23 1,e 0,e 1,RX 9,PX 5 9,PY 10] (s [D 2 7,D 1 8,Rt 7 1,O1 11] (Qb [Qa 11 44] (RG 44 6) [p (.a zH []) [],al zH 12,S 2 12,Tj 13] (.e (s [A 0 8,L,ls,O1 14] (s [Ut 14 50] (Qx 50 [p (.l 3 1) [.v 5,O],L,QE,QC [Y,.v 14],O1 13] (Td [A 0 8,L,mv 13,Qg 6 1,a 0,a 0,L,SD 3 5 1,L,QE,SN (B 3),S 2 12] [(1,0,0),(6,0,0),(8,0,0)])))) stT))))),[.t 6]⟩
def fn5:i_:=⟨0,Tz (Of 0) [Tq 3,Qu,Sy 5 1 [114,111,119],al zN 1,S 6 1] (s [D 6 1,p (.a zK [(0,6),(6,1)]) [Y,i 10],D 6 1,p (.a zK [(0,6),(6,1),(7,1)]) [Y,i 6,tt],n (.b zK [(0,9),(9,9)] 2 (B 2)),Uk [.r,ZZ 0] (i 64),Uu 2,S 2 2] (s [D 2 2,c 11 U,e 0,e 1,PY 3,O1 4] (Qb [Sm 4,yv 0 3,SB 1,PW 2 38] (RG 38 0) [p (.a zI [(0,1),(2,1)]) [u 5,.c (.f [97])],p (.a zI [(0,1),(1,1),(2,1)]) [u 7,b 1,.c (.f [98])],n (.b zI [(0,4),(4,4)] 2 (B 1)),p (.a zO [(0,1),(4,1)]) [b 1,Y],Rl 18 3,O1 5] (s [c 17 [.v 3,u 7],e 0,e 1,PY 6,O1 7] (s [Uo 20 3,O1 8] (Qb [Sm 5,yv 0 6,f 1 ne [Y,i 1],P 2,yv 0 7,Rm 1,P 2,yv 0 8,SB 1,P 2,yv 0 8,QA 1 28,f 2 ne [Y,i 16],PW 3 70] (RG 70 0) [p (.a zO [(0,1),(2,1),(3,1)]) [b 3,i 1,i 1],SM,Vs,Rl 14 3,e 0,e 1,PY 9,O1 10] (VL [c 17 [.v 3,u 7],e 0,e 1,PY 11,O1 12] (Qb [p ne [.v 9,i 2],yv 0 10,f 1 ne [Y,O],P 2,yv 0 6,f 1 ne [Y,O],P 2,yv 0 7,Rm 1,P 2,yv 0 11,f 1 ne [Y,O],P 2,yv 0 12,PW 1 109] (RG 109 0) [SM,SM,Vs,Rl 14 3,e 0,e 1,PY 13,O1 14] (VL [SN [u 5,i 30],SN [u 6,i 1],n (.b zH [(0,2),(2,2)] 2 (B 1)),Rl 15 3,e 0,e 1,PY 15,O1 16] (s [SN [u 5,i 30],UA,Rl 15 3,e 0,e 1,PY 17,O1 18] (s [Uo 20 3,O1 8] (Qk [Ue [.v 13,i 1],zv 0 14,UV 1 4,Q 2,zv 0 6,Sc 1,Q 2,zv 0 7,Q 1,zv 0 15,UV 1 1,Q 2,zv 0 16,UV 1 11,Q 2,zv 0 17,UV 1 1,Q 2,zv 0 18,Sc 1,Q 2,zv 0 8,t 1 (.j 0 true) [Y,.c .O],Q 2,zv 0 8,UM 1 28,UV 2 30,Q 3,O1 0])))))))))))),[.t 0]⟩
def fn6:i_:=⟨1,s [bx 0 1,Uu 2,RH 3] (s [A 2 1,L,c 29 U,Uk [.r,ZZ 0] (i 12),Uu 4,S 2 4] (s [A 0 1,d 1 0,c 30 U,O1 5] (RI (RH 6) (s [O0 7] (TS [lv 5,Qz 7 20] (x 20 0) (Qv (Qv (ds [D 2 4,mv 5,mv 7,Qg 4 1,d 4 0,c 31 [.l 4,Y,O],p gt [Y,O]] [(0,0,0),(4,0,0)] [(29,6)]) (QM 29 1)) (Qv (.i [D 2 4,mv 5,mv 7,Qg 4 1,d 4 0,Rt 32 4,n (.c zE),w 6] [6] [] [(0,0,0),(4,0,0)] [(8,6)]) (Uv [A 0 6,L,ls,O1 9] (s [A 1 1,L,ls,TL 9,RT 1,h 1 l,zv 2 9,RU 3 1 1,h 4 l,t 5 gt [Y,b 0],Qr 6 51] (Qx 51 [A 1 1,L,QQ 1 9,L,TF 40,QE,UH (i 1),A 4 8,w 1] (Ss [A 5 8,n (.h 1 Y tt)]))) [A 0 6,L,D 6 8,n (.b zE [(0,6)] 1 U),Qs 6 72 2,A 0 6,w 1]))) (I 7))) (.e (Vf [D 2 4,D 1 6,PX 2 2,PX 1 3] [0,2,1,3] [(0,0,0),(1,0,1)] []) .q)))),[.c 2 2 true,.c 3 1 true]⟩
def fn7:i_:=⟨2,s [bx 0 2,bx 1 3,Qh 4] (s [D 2 2,c 11 U,e 0,e 1,PY 5,O1 6] (Qb [Sm 6,yv 0 5,SB 1,PW 2 22] (r 22 [Qh 4]) [p (.a zO [(0,1)]) [b 1],al zO 7,S 5 7] (s [On 8] (QG [O0 9] (TS [A 0 3,L,ls,Qz 9 28] (x 28 0) (Qv (Td [A 4 7,L,A 0 3,L,mv 9,Qg 6 1,a 0,d 4 0,Tt,Qs 4 56 7,A 4 7,w 1] [(1,0,1),(3,0,0),(7,0,0)]) (s [A 0 3,L,QQ 6 9,a 5,N l 47] (TJ (.v 47) (ds [mv 8,A 0 3,L,mv 9,Qg 6 1,a 0,a 0,L,A 0 3,L,mv 9,Qg 6 1,a 4,L,SN (B 6),UA,Qs 2 16 15,m Y] [(2,0,0),(7,0,0),(9,0,0),(13,0,0)] [(8,17)])))) (I 9)) (s [D 5 7,Rl 18 5,q ne [Y,O] 68] (r 68 [Qh 4])) (so [Ry 15 5 8,e 0,e 1,QJ,PY 11] (RR (PU 11 76) 76 [Qh 4]) [PR 5 4]))))),[.t 4]⟩
def fn8:i_:=⟨4,s [bx 0 4,bx 1 5,bx 2 6,bx 3 7,O0 8,O0 9,O0 10] (QG [PM 4,N (.d 33 U) 20] (r 20 [O0 8,O0 9,QD 2 10]) (Qv (Vf [PM 4,k,a 4,L,D 3 5,c 34 [.l 1,Y,O],m Y,e 0,e 1,QJ,QJ] [0,1,2,3,4,5,6,7,9,8,10] [(0,0,0),(3,0,0),(4,0,0)] [(12,10)]) (TY 12 31)) (Qv (s [PM 7,c 35 [Y,i 1],e 0,e 1,QJ,PY 14] (TY 14 39)) (Qb [D 2 6,c 36 U,O1 15] (TY 15 44) [Tj 16] (Qv (s [A 0 6,L,q ne [Y,u 0] 48] (TJ (.v 48) (Qv (Vf [PM 4,k,a 3,L,A 0 6,L,Rt 37 2,m Y,e 0,e 1,QJ,QJ] [0,1,2,3,4,5,6,7,8,10,9,11] [(0,0,0),(3,0,0),(5,0,0)] [(17,10),(18,11)]) (Qv (RR (q .u [.v 18] 60) 60 [O0 8,O0 9,QD 11 10]) (Ss [PR 17 16]))))) (QB [PM 4,k,a 4,L,D 3 5,mv 16,A 1 6,L,TA 39 4 7,c 38 [.l 5,.l 4,.l 3,.l 1,Y],e 0,e 1,e 2,TT 2,TT 2,TT 2] [(0,0,0),(3,0,0),(4,0,0),(7,0,0)] [(8,13),(9,14),(10,15)]))))),[.t 8,.t 9,.t 10]⟩
def fn10:i_:=⟨4,s [bx 0 4,bx 1 5,bx 2 6,O0 8] (QG [D 5 4,c 42 U,O1 9] (Qn 9 19 8) (s [A 0 4,d 2 0,D 1 5,Rt 43 1,O1 10] (Qn 10 26 8)) (QG [A 4 4,L,Rl 35 3,e 0,e 1,QJ,PY 12] (Qn 12 36 8) (s [D 2 6,c 36 U,O1 13] (Qn 13 41 8)) (so [D 1 5,A 0 6,L,Rt 44 2,e 0,e 1,QJ,PY 15] (s [A 0 6,L,p ne [Y,u 0],zv 0 15,Vc 1,Qr 2 56] (Qi 56 11 8)) [O0 8]))),[.t 8]⟩
def fn11:i_:=⟨1,s [bx 0 1,Qh 2,O0 3] (Qb [D 2 1,c 45 U,O1 4] (TB 4 12 (Qh 2) (PR 4 3)) [c 46 [.c .r],e 0,e 1,PY 5,O1 6] (Qb [PU 6 19] (r 19 [Qh 2,PR 6 3]) [A 0 1,L,c 47 U,O1 7] (Qv (s [Ql 7 25,O0 26] (be [.v 26,.v 25] 27 (TE [PR 26 8] (Ss [PO 9 7 8,a 0,d 6 0,c 48 U,PO 9 7 8,a 0,Qm 6 2])) (J 26))) (QB [mv 7,A 1 1,L,Vu [.r,ZZ 0] 2,mv 5,c 49 [],c 50 [],SX 3 2 1,Tv,m Y,m O] [(2,0,2)] [(2,9),(3,10)])))),[.t 2,.t 3]⟩
def fn14:i_:=⟨2,UR (RR (Sh 11) 11 [O0 4,QD 2 5]) (Qb [lv 1,Tc 32 14] (Su 14 3) [QN 19,O1 6] (so [PR 1 17,Ql 17 18,O0 19] (be [.v 19,.v 18] 20 (TE [PO 5 17 19,d 5 0,al zO 8,PR 19 7,S 5 8] (s [D 5 8,Rl 18 0,O1 9] (s [PU 9 28] (Qx 28 [v 6,d 5 0,v 0,w 5] (Qk [PR 7 4,PR 9 5]))))) (J 19)) [lv 1,O1 4,O0 5])),[.t 4,.t 5]⟩
def fn15:i_:=⟨2,s [O0 4,O0 5] (Qb [Sh 13] (Su 13 2) [v 0,a 4,L,c 53 U,O1 6] (so [PR 1 19,Ql 19 20,O0 21] (be [.v 21,.v 20] 22 (TE [PO 2 19 21,d 2 0,al zH 8,PR 21 7,S 2 8] (Qv (Vf [mv 0,k,a 3,L,A 0 8,L,Rt 37 2,m Y,e 0,e 1,QJ,QJ] [0,1,2,3,4,5,6,7,8,10,9,11] [(3,0,0),(5,0,0)] [(9,10),(10,11)]) (s [QD 11 11] (Qb [PR 10 36] (TJ (.v 36) (ds [mv 0,k,a 4,L,mv 9,A 1 8,L,c 54 [.l 3,.l 2,Y,tt],m Y] [(3,0,0),(6,0,0)] [(11,8)])) [PU 11 46] (Qx 46 [v 0,a 4,UO 6] (Qk [PR 7 4,PR 11 5])))))) (J 21)) [lv 1,O1 4,O0 5])),[.t 4,.t 5]⟩
def fn17:i_:=⟨2,VW (so [Sh 7] (r 7 [O0 4,Of 5]) [v 0,a 3,L,QZ 37 1,e 0,e 1,PY 4,O1 5]),[.t 4,.t 5]⟩
def fn18:i_:=⟨2,s [bx 1 3,O0 4] (QG [Sh 9] (Qi 9 2 4) (s [D 5 3,c 56 U,O1 5] (Qn 5 13 4)) (so [QK 57 1 0,Rf 1,QK 58 1 0,Rf 2,QK 59 1 0,Rf 3,QK 60 1 0,Rf 4,QK 61 1 0,Rf 5,N (.b [ZY 0,.R] [(0,2),(2,2),(4,2),(6,2),(8,2)] 5 [.l 8,.l 6,.l 4,.l 2,Y]) 30,Ql 30 31,O0 32] (be [.v 32,.v 31] 33 (TE [PO 2 30 32,d 2 0,al [ZY 0,.R] 7,S 2 7] (s [A 0 7,L,A 0 3,L,q eq (B 2) 40] (r 40 [A 1 7,L,D 5 3,n (.e (.l 1) U),O1 4]))) (J 32)) [QD 1 4])),[.t 4]⟩
def fn19:i_:=⟨1,s [Qh 2] (Qb [Sh 6] (r 6 [Qh 2]) [v 0,a 2,L,c 62 U,c 46 U,e 0,e 1,PY 3,O1 4] (Qv (RR (PU 4 17) 17 [Qh 2]) (QB [mv 0,k,a 0,d 2 0,mv 3,mv 0,k,a 3,L,c 63 U,mv 0,k,a 4,L,c 53 U,SX 11 10 5,Tv,m Y] [(3,0,2),(8,0,0),(13,0,1)] [(2,17)]))),[.t 2]⟩
def fn20:i_:=⟨1,VG (Qh 2) [Sh 4] (r 4 [Qh 2]) [v 0,a 4,L,c 53 U,O1 2],[.t 2]⟩
def fn21:i_:=⟨1,VG (O0 2) [Sh 4] (TZ 4 2) [v 0,a 2,L,c 64 U,O1 2],[.t 2]⟩
def fn22:i_:=⟨1,Tz (RH 2) [TP,RH 3,S 1 3] (Qb [QN 21,Tk 13] (r 13 [D 1 3,S 1 2]) [QN 21,n (.g zE 72 Y Y),A 0 3,w 1] (so [v 0,a 2,L,N (.d 62 U) 23,Ql 23 24,O0 25] (be [.v 25,.v 24] 26 (TE [PO 4 23 25,d 4 0,al zI 5,PR 25 4,S 4 5] (s [v 0,a 4,L,QZ 65 4,e 0,e 1,PY 6,m Y] (s [v 0,a 4,L,QZ 66 4,e 0,e 1,PY 8,m Y] (Td [A 0 3,L,mv 4,D 4 5,c 51 U,mv 6,mv 8,p (.a zE [(0,4),(4,1),(5,1)]) [.l 2,.l 1,Y],RS 6 6 5,w 6] [(1,0,1),(3,0,0)])))) (J 25)) [D 1 3,S 1 2])),[.c 2 1 true]⟩
def fn23:i_:=⟨2,s [bx 0 2,bx 1 3,RX 4,On 5] (s [D 2 3,A 0 2,a 0,L,TF 200,QE,UH (i 1),A 2 2,L,TF 4,QE,p (.a [.r,ZZ 0,ZZ 0,ZZ 0,ZZ 0] [(0,2),(2,1),(3,1),(4,1)]) [.l 10,.l 4,Y,i 1],RX 6,S 5 6] (VG (On 7) [O0 8] (TS [A 3 2,L,ls,TL 8,zv 0 8,t 1 lt [Y,i 12],Qr 2 32] (x 32 0) (Qv (ds [A 3 2,L,mv 8,Qg 2 1,p (.l 2 1) [Y,O],L,TF 12,SG,UH (u 1),A 3 2,L,mv 8,Qg 2 1,p (.l 2 1) [Y,i 1],L,TF 50,QE,UH (i 1),SN (B 9),n (.c zH),w 2] [(1,0,1),(5,0,1),(10,0,1),(14,0,1)] [(9,19)]) (s [Of 10] (Qb [O0 11] (lp 2 3 [lv 7,Qz 11 57] (x 57 2) (ds [mv 10,m Y,yv 0 7,yv 1 11,f 2 (.c 2) (B 1),RF 3 0,g 4 l,TX 5 0 9,g 6 l,f 7 eq (B 2),P 8,m Y] [(6,0,0),(8,0,0)] [(10,11)]) (I 11)) [q .u [.v 10] 72] (Qf 72 [mv 7,D 2 9,UA,Qs 2 16 2,O1 7])))) (I 8)) [D 5 6,S 5 4,PR 7 5])),[.c 4 5 true,.t 5]⟩
def slp:IC:=s [D 5 4,A 0 11,d 1 0,D 2 6,c 68 [.l 3,.l 1,Y,.v 3],e 0,e 1,e 2,A 1 11,Qm 1 3,o (.l 3) 12,Sd 13] (Qv (RR (PU 13 39) 39 [Sa,S 3 8,PR 13 9]) (so [Ut 12 43] (Qx 43 [A 2 11,L,QI,A 2 11,w 1] (.p 0)) [D 3 11,S 3 8,O0 9]))
def fn8x:i_:=⟨4,s [bx 0 4,bx 1 5,bx 2 6,TK 8,O0 9] (.j (Qb [D 5 4,D 1 5,D 2 6,c 10 [.l 2,.l 1,Y,.v 3],O1 10] (RR (PU 10 20) 20 [Sa,S 3 8,PR 10 9]) [D 5 4,D 1 5,Rt 67 1,p (.a [.r,ZZ 0,ZZ 0] [(0,1)]) U,TK 11,S 3 11] (Tz (O0 12) [O0 13] (.e .f slp))) 0 (.e .f slp)),[.c 8 3 true,.t 9]⟩
def fn25:i_:=⟨2,Uc (Qv (ds [mv 0,c 21 U,A 0 3,L,ls,p ne (B 3),m Y,yv 0 0,QA 1 22,QR 2 1 3,g 3 (.d 69 (B 1)),Rm 4,P 5] [(3,0,1),(9,1,2)] [(22,12)]) (TZ 22 4)) (s [O0 5] (Qb [O0 6] (TS [A 0 3,L,ls,Qz 6 27] (x 27 0) (s [A 0 3,L,QQ 6 6,a 0,a 0,L,Rl 17 0,e 0,e 1,PY 7,O1 8] (Uv [p ne [.v 7,.v 6],yv 0 8,Rm 1,PW 2 48] (TZ 48 4) [mv 5,A 0 3,L,QQ 6 6,a 4,L,Qt 5,O1 5])) (I 6)) [QN 20,O1 9] (Qv (Qv (ds [mv 9,p (.j 0 false) [Y,.c .O],m Y,yv 0 9,QA 1 70,TX 2 0 3,g 3 l,Sx 4,f 5 ne (B 3),P 6,m Y,yv 0 9,QA 1 28,yv 2 5,f 3 ne (B 1),P 4] [(6,0,1)] [(74,15)]) (TZ 74 4)) (Qk [QD 1 4])))),[.t 4]⟩
def fn26:i_:=⟨3,s [bx 0 3,bx 1 4,O0 6] (Qv (s [QK 72 0 4,Rl 71 2,O1 7] (RR (q ge [.v 7,O] 12) 12 [PO 2 2 7,a 1,L,O1 6])) (so [A 1 4,L,QE,A 0 3,a 0,L,ls,q lt (B 4) 25] (r 25 [A 0 3,a 0,L,A 1 4,L,Qg 9 2,a 6,L,O1 6]) [O0 6])),[.t 6]⟩
def fn27:i_:=⟨7,s [On 14,O0 15,O0 16,O0 17] (Tz (PR 0 18) [O0 19] (s [O0 20] (QO 0 (Qv (VB 1 (Qb [UQ 4,zv 0 20,Sc 1,z 2 Y,yv 0 3,Rm 1,To 5 2,Qr 6 38] (Qf 38 [Ry 73 18 4,Te 5,O1 19]) [mv 19,c 74 [.v 18,.v 1,Y],O1 19] (Tz (Of 21) [c 75 [.v 18,.v 1,.v 2,.v 19],O1 22] (Qb [O0 23] (lp 2 3 [lv 22,Qz 23 56] (x 56 2) (QG [VT 22 23,L,p (.c 3) [.v 18,Y],a 1,N l 66] (QM 66 3) (Vf [mv 18,mv 22,mv 23,Qg 1 1,L,mv 6,mv 22,mv 23,Qg 1 1,L,mv 6,ls,QC (B 2),Qg 1 7,L,c 76 [.l 14,.l 10,Y,tt],m Y,e 0,e 1,QJ,QJ] [0,1,2,3,4,5,6,7,8,9,10,11,12,13,14,15,16,17,19,18,20] [(4,0,0),(9,0,0),(14,0,0)] [(24,19),(25,20)]) (Qb [Ut 25 87] (r 87 [PR 0 14,O0 15,O0 16,PR 25 17]) [PR 24 18] (Ss [o tt 21]))) (I 23)) [q .u [.v 21] 92] (r 92 [PR 18 14,PR 19 15,PR 20 16,O0 17]))))) (I 20))))),[.t 14,.t 15,.t 16,.t 17]⟩
def fn28:i_:=⟨1,Rd [v 0,a 0,a 0,a 0,d 1 0,c 77 U,O1 2],[.t 2]⟩
def fn29:i_:=⟨1,Tz (On 2) [QX [110] 3,QX [116,101,120,116] 1,n (.b [.f [],ZY 0,.f []] [(0,3),(3,3)] 2 (B 1)),Tq 3,Qu,p (.a zN [(0,1),(1,1),(3,1),(5,1)]) [b 1,.c (.f [114,111,119]),.l 2,Y],al zN 3,S 6 3] (s [QX [105,100] 2,UK,p (.a zN [(0,1),(4,1)]) [b 2,.c (.f [35])],Tq 4,n (.b zN [(0,6),(6,6)] 2 (B 1)),Ta (.c (.f [104,101,97,100])) (.c (.f [104])) (.l 3),al zN 4,S 6 4] (s [Tq 3,Qu,p (.a zN [(0,1),(1,1),(2,1),(5,1)]) [b 1,.c (.f [98]),.c (.f [98,50]),Y],QX [111,102] 2,UK,Sy 3 5 [116,97,103],n (.b zN [(0,6),(6,6)] 2 (B 3)),Sy 5 1 [114,111,119],al zN 5,S 6 5] (Qk [D 6 3,QC [.v 0,b 7],QE,UH (i 10),QC [.v 0,b 4],QE,p (.a zK [(0,6),(6,1),(8,1)]) [.l 5,.l 2,Y],D 6 4,QC [.v 0,b 3],QE,UH (i 6),Sr [.v 0,b 4],TF 3,QE,p (.a zK [(0,6),(6,1),(7,1),(8,1)]) [.l 6,.l 3,tt,Y],D 6 5,QC [.v 0,b 16],Ue [Y,b 15],Sr [.v 0,b 8],TF 3,QE,p (.a zK [(0,6),(6,1),(7,1),(8,1)]) [.l 5,i 20,.l 3,Y],n (.b zK [(0,9),(9,9),(18,9)] 3 [.l 15,.l 7,Y]),O1 2]))),[.t 2]⟩
def fn30:i_:=⟨1,s [bx 0 1,On 2] (s [On 3] (UC [O0 4] (TS [A 0 1,L,ls,TL 4,zv 0 4,t 1 lt [Y,i 12],Qr 2 14] (x 14 0) (s [A 0 1,L,QQ 4 4,d 4 0,c 78 U,al zI 5,S 4 5] (s [A 0 5,L,Rl 79 3,q lt [Y,O] 27] (Qf 27 [mv 3,D 4 5,Tt,Qs 4 56 2,O1 3]))) (I 4)))),[.t 2]⟩
def fn31:i_:=⟨3,s [bx 0 3,bx 1 4,O0 6] (QG [D 4 4,A 0 3,L,ls,Rt 80 3,q gt [Y,O] 14] (Qi 14 6 6) (s [q eq [.v 2,i 1] 16] (Qi 16 8 6)) (Qv (.i [A 0 3,L,A 1 4,L,Qg 9 2,a 0,d 6 0,D 4 4,A 1 3,L,Qj 81 3 2,m Y,e 0,e 1,Va,Qm 6 2,TT 2] [14] [0,1,2,3,4,5,6,7,8,9,10,11,12,15,13,14,16] [(1,0,0),(3,0,0),(6,0,0),(7,0,0),(9,0,0)] [(8,16)]) (so [Ut 8 32] (Qi 32 14 6) [O0 6]))),[.t 6]⟩
def fn32:i_:=⟨2,s [bx 0 2,bx 1 3,al zE 4] (QB [D 4 3,A 0 2,L,A 1 3,L,Qg 9 2,a 6,L,Vj,S 6 4] [(0,0,0),(2,0,0),(4,0,0),(7,0,0)] []),[.c 4 6 true]⟩
def fn33:i_:=⟨1,RM [Rg,yv 0 0,So 1,RF 2 2,g 3 l,SB 4,P 5,O1 2],[.t 2]⟩
def fn34:i_:=⟨3,s [bx 1 4,O0 6,O0 7] (QG [Qa 0 9] (r 9 [O0 6,QD 2 7]) (s [D 3 4,c 82 U,TN 12] (r 12 [O0 6,QD 1 7])) (QB [mv 2,mv 0,c 28 U,A 0 4,L,Qj 83 4 2,e 0,e 1,QJ,QJ] [(4,0,1)] [(6,8),(7,9)])),[.t 6,.t 7]⟩
def fn35:i_:=⟨2,UR (VS [SZ 1,yv 0 1,QV 1,P 2,O1 10] (Qw 10 [O0 4,QD 1 5] [lv 0,p gt [Y,i 256],O1 17] (Su 17 3))) (s [c 49 [],O1 6] (so [PR 0 22,Ql 22 23,O0 24] (Vt 1 (Ri 24 23 25) (x 25 1) (SC 2 [PO 2 22 24,d 2 0,al zH 8,PR 24 7,S 2 8] (s [D 2 8,c 84 [Y,.v 1,.v 6],O1 9] (TB 9 34 (PR 7 4) (PR 9 5))) 24)) [O0 4,O0 5])),[.t 4,.t 5]⟩
def fn36:i_:=⟨1,RW (Un [A 1 1,L,VM,Qd 1 1,g 1 l,QV 2,P 3,Qd 0 1,g 1 l,f 2 eq [Y,u 0],y 3 Y,RT 1,h 1 l,t 2 gt [Y,O],QP 7 3,PW 8 20] (Qi 20 1 2)),[.t 2]⟩
def fn37:i_:=⟨2,VW (Qb [QN 85,Tk 9] (r 9 [O0 4,Of 5]) [Ry 86 0 1,e 0,e 1,PY 6,O1 5] (so [q .u [.v 5] 17] (r 17 [O0 4,Of 5]) [v 0,a 0,L,QQ 3 6,a 2,L,O1 4,o tt 5])),[.t 4,.t 5]⟩
def Cv:IC:=QG [SY 12 73] (Qf 73 [D 3 6,mv 10,c 34 [.v 0,.l 1,Y],e 0,e 1,PY 10,O1 12]) (s [SY 12 82] (Qf 82 [D 3 6,c 88 [.v 0,Y,.v 10,.v 4],e 0,e 1,PY 14,O1 12])) (Qv (s [PU 12 92] (Qx 92 [D 2 13,v 0,a 0,Qm 2 2] (Qk [mv 12,O0 10,O0 11,O1 12]))) (so [PR 14 98] (Qx 98 [mv 11,QI,O1 11] (.p 0)) [mv 10,mv 11,PY 10,O1 11,O0 12]))
def Bb:IC:=.e .f (.e (s [UQ 2,zv 0 11,Sc 1,z 2 Y,Qd 2 6,g 1 l,Rm 2,To 6 3,Qr 7 57] (Qx 57 [v 0,a 0,d 2 0,QZ 87 2,e 0,e 1,PY 10,O1 12] (s [SY 12 68] (Qf 68 [mv 10,Te 3,O1 10])))) Cv)
def fn14x:i_:=⟨5,s [bx 1 6,O0 10,O0 11,O0 12] (.j (Qv (VS [Rg,O1 15] (Qw 15 [O0 10,O0 11,QD 2 12] [D 3 6,c 82 U,Sz,yv 0 4,f 1 (.j 3 false) [Y,.c .R],P 2,O1 18] (Qw 18 [O0 10,O0 11,QD 1 12] [p lt [.v 2,i (-1)],yv 0 2,yv 1 0,QA 2 70,TD,P 4,yv 0 3,Uy,P 2,yv 0 3,QV 1,P 2,O1 26] (r 26 [O0 10,O0 11,QD 4 12])))) (s [v 0,a 0,d 2 0,RP 13,S 2 13] (s [Of 14] Bb))) 0 Bb),[.t 10,.t 11,.t 12]⟩
def fn39:i_:=⟨3,Tz (O0 4) [PM 1,k,a 2,L,QZ 40 0,e 0,e 1,al zI 5,PX 4 5,QJ] (Qv (s [PM 2,A 0 5,L,Rt 41 2,e 0,e 1,PY 7,O1 8] (RR (PR 8 25) 25 [PR 7 4])) (QB [PM 1,k,a 0,a 0,L,A 1 5,L,Qg 9 2,a 6,L,m Y] [(0,0,0),(4,0,0),(6,0,0),(9,0,0)] [(4,10)])),[.t 4]⟩
def fn40:i_:=⟨2,s [al zI 4,O0 5] (Qv (s [c 89 [.v 0,.v 1,i 1],O1 6] (s [PU 6 12] (Qx 12 [al zI 7] (Qk [D 4 7,S 4 4,PR 6 5])))) (QB [mv 0,k,a 0,L,mv 0,mv 1,Rt 90 1,Qg 4 3,d 4 0,S 4 4,m O] [(3,0,1),(8,1,1)] [(5,10)])),[.c 4 4 true,.t 5]⟩
def fn41:i_:=⟨2,VW (so [PR 0 8,Ql 8 9,O0 10] (SO [PO 2 8 10,d 2 0,al zH 7,S 2 7] (s [A 0 7,L,q eq [Y,.v 1] 17] (r 17 [A 1 7,L,O1 4,o tt 5]))) [O0 4,Of 5]),[.t 4,.t 5]⟩
def fn42:i_:=⟨1,RW (Qv (VS [A 0 1,d 2 0,c 45 U,p ne [Y,O],O1 3] (Qw 3 [QD 7 2] [A 2 1,L,Ux,Qd 2 1,g 1 l,Qy 2 2147483648,P 3,Qd 3 1,g 1 l,f 2 lt [Y,O],P 3,Qd 3 1,g 1 l,Qy 2 16,P 3,Qd 4 1,g 1 l,f 2 lt [Y,i 1],P 3,Qd 4 1,g 1 l,QV 2,P 3,O1 8] (Qi 8 1 2))) (Qk [O0 2])),[.t 2]⟩
def fn43:i_:=⟨2,s [bx 0 2,bx 1 3,O0 4] (Qv (s [D 2 2,c 45 U,O1 5] (Qn 5 15 4)) (Qb [A 0 3,L,ls,Tc 1024 20] (Qi 20 3 4) [n (.s []),O1 6] (so [A 0 3,N l 23,Ql 23 24,O0 25] (be [.v 25,.v 24] 26 (TE [PO 6 23 25,d 6 0,al zE 8,S 6 8] (Qv (s [A 0 8,d 4 0,A 0 2,L,ls,Rt 91 3,O1 9] (Qn 9 36 4)) (Qb [A 0 8,a 0,L,N (.o none (.h false) false [.v 6,Y]) 42] (Qi 42 8 4) [A 0 8,a 0,L,SF (.v 6)] (QG [D 2 2,A 0 8,d 4 0,Rt 92 2,e 0,e 1,Va,Qm 6 2,Sd 11] (s [PU 11 55] (Qi 55 14 4)) (ds [A 4 8,L,c 93 U,Sz,m Y,Qd 5 8,g 1 l,Rm 2,y 3 Y,PV 0 4 8,h 1 l,PV 2 0 2,h 3 l,PV 4 0 8,QL 5 1,h 6 l,RU 7 9 3,QL 8 6,h 9 l,t 10 ne (B 8),QP 15 11,P 16] [(1,0,0),(6,1,1),(10,1,1),(12,1,1),(15,1,1),(18,1,1)] [(77,21)]) (Qi 77 12 4))))) (J 25)) [D 1 3,c 94 U,O1 4]))),[.t 4]⟩
def fn44:i_:=⟨2,s [bx 0 2,bx 1 3,O0 4,Of 5] (s [A 0 2,L,QK 96 0 3,Rt 95 1,O1 4] (Qk [mv 4,p .F [Y,O],mv 4,p ge [Y,O],Sd 4,O1 5])),[.t 4,.t 5]⟩
def fn45:i_:=⟨1,RW (s [Tg 97 3] (Un [A 0 1,L,ls,Ux,Qd 0 1,g 1 l,Sx 2,Qy 3 8,P 4,Qd 1 1,g 1 l,f 2 lt [Y,i 1],P 3,Qd 1 1,g 1 l,Qy 2 64,P 3,Qd 0 1,g 1 l,yv 2 3,g 3 (.d 99 (B 1)),PW 4 29] (Qi 29 7 2))),[.t 2]⟩
def fn46:i_:=⟨1,s [Qh 2,O0 3] (s [Sa,Tv,O1 4] (so [c 100 [.v 4,O,.v 0],O1 5] (TB 5 12 (Qh 2) (PR 5 3)) [PR 4 2,O0 3])),[.t 2,.t 3]⟩
def fn47:i_:=⟨1,QH (.b zK [] 0 []) (.i 9 128 Y (.v 0)),[.t 2]⟩
def fn48:i_:=⟨1,s [bx 0 1,al zN 2] (s [A 3 1,L,c 101 U,A 3 1,w 1] (s [A 5 1,L,c 102 U,A 5 1,w 1] (so [A 5 1,L,q .d U 14,O0 15] (be [.v 15,.v 14] 16 (TE [PR 15 3] (Td [A 5 1,L,mv 3,A 5 1,L,mv 3,Qg 6 1,d 6 0,c 48 U,RS 6 7 6,w 6] [(1,0,1),(4,0,0),(7,0,0)])) (J 15)) [D 6 1,S 6 2]))),[.c 2 6 true]⟩
def fn49:i_:=⟨0,TV (Qh 0) [Sa,Tv,O1 0],[.t 0]⟩
def fn50:i_:=⟨0,TV (Qh 0) [Qo [.O,.r,.O],Tv,O1 0],[.t 0]⟩
def fn51:i_:=⟨1,s [bx 0 1,al zI 2] (s [A 3 1,L,c 104 U,c 103 U,A 3 1,w 1] (Qk [D 4 1,S 4 2])),[.c 2 4 true]⟩
def fn52:i_:=⟨2,s [bx 1 3,al zN 4,O0 5] (QB [mv 0,k,a 0,a 0,L,A 1 3,L,Qg 9 2,a 0,d 6 0,D 4 3,mv 0,k,a 0,a 1,L,Qj 105 6 5,e 0,e 1,PX 6 4,QJ] [(4,0,0),(6,0,0),(9,0,0),(10,0,0),(15,0,0)] [(5,20)]),[.c 4 6 true,.t 5]⟩
def fn53:i_:=⟨1,s [Qh 2] (Qb [Qa 0 5] (r 5 [Qh 2]) [v 0,a 0,d 2 0,p (.a [.O,.r,.O] [(0,2)]) U,Tv,O1 3] (UC [v 0,a 2,L,q (.j 0 true) [Y,.c .O] 16] (Qf 16 [v 0,a 2,L,c 106 U,v 3,a 2,Qm 1 2]))),[.t 2]⟩
def fn54:i_:=⟨4,s [O0 8] (Qb [Qa 0 12] (Qi 12 2 8) [v 0,a 0,d 2 0,Uj 107,e 0,e 1,RP 9,PX 2 9,PY 10] (so [SY 10 25] (Qf 25 [D 2 9,v 0,a 0,Qm 2 2]) [PR 10 8])),[.t 8]⟩
def fn56:i_:=⟨1,RW (QG [A 0 1,L,p lt [Y,b 1],Qd 0 1,g 1 l,UU 2 5,PW 3 11] (Qi 11 1 2) (.i [c 109 [],A 0 1,L,p (.f 6 6 true) (B 2),n (.c [.f [],.h false,.h false,.h false,.h false,.R]),w 6] [4] [] [(2,0,1)] [(3,4)]) (Un [A 1 3,L,Sz,RT 1,h 1 l,t 2 ne [Y,O],Q 3,Qd 2 3,g 1 l,Rm 2,y 3 Y,RT 2,h 1 l,t 2 ne [Y,O],QP 7 3,P 8,Qd 3 3,g 1 l,Rm 2,y 3 Y,RT 3,h 1 l,t 2 ne [Y,O],QP 7 3,P 8,Qd 4 3,g 1 l,Rm 2,y 3 Y,RT 4,h 1 l,Sf 2,t 3 gt [Y,O],QP 8 4,PW 9 54] (Qi 54 5 2))),[.t 2]⟩
def fn57:i_:=⟨2,s [bx 0 2,bx 1 3,O0 4] (Qv (Qv (ds [A 1 3,L,VM,m Y,Qd 1 3,g 1 l,Vo 2,QA 3 21,Se 4 2,P 5] [(1,0,0),(5,0,1),(6,0,0)] [(15,9)]) (Qi 15 4 4)) (Qv (Qv (ds [A 4 3,L,ls,PM 2,c 21 U,SJ [i 1024,Y],UE 3] [(1,0,1),(3,0,0)] [(22,6)]) (Qi 22 3 4)) (so [PM 2,A 4 3,L,QK 111 0 2,Qj 110 3 1,O1 5] (Qn 5 29 4) [PM 2,A 1 3,L,A 4 3,L,Qj 112 4 2,O1 4]))),[.t 4]⟩
def fn58:i_:=⟨2,Uc (Qv (UY (a 4) (Qj 113 4 2) (5,9)) (Qn 5 20 4)) (QG [A 2 3,N l 23,O0 24] (be [.v 24,.v 23] 25 (TE [PR 24 6] (TC [mv 0,k,a 2,L,A 1 3,L,mv 6,Qt 1,Rt 40 4,m Y,e 0,e 1,n (.c zI),Qm 4 2,TT 2] [(7,12),(8,14)] [SY 8 40] (TJ (.v 40) (VA [mv 0,k,a 3,L,A 0 7,L,Rt 114 2])))) (J 24)) (UY (a 2) (Qj 115 4 2) (9,9)) (s [A 1 3,L,Rl 116 0] (VE 9 4))),[.t 4]⟩
def fn59:i_:=⟨2,Uc (Qv (TH (a 4) (Sv 117 6 4 2) (5,11)) (Qn 5 19 4)) (Qv (TH (a 2) (Sv 118 6 4 2) (6,11)) (s [A 1 3,L,A 3 3,L,TU 2,Rl 116 0] (VE 6 4))),[.t 4]⟩
def fn60:i_:=⟨2,Uc (Qv (ds [A 1 3,L,VM,m Y,Qd 1 3,g 1 l,yv 2 0,QA 3 21,Se 4 2,P 5,m Y,Qd 4 3,g 1 l,Sx 2,yv 3 0,QA 4 21,TX 5 1 3,g 6 l,f 7 su (B 2),Se 8 5,P 9] [(1,0,0),(5,0,1),(12,1,2),(17,1,2)] [(44,20)]) (Qi 44 4 4)) (Qb [A 4 3,N l 46,Ql 46 47,O0 48] (be [.v 48,.v 47] 49 (TE [PO 4 46 48,d 4 0,al zI 6,PR 48 5,S 4 6] (Qv (Qv (UG (D 4 6) (7,8)) (Qn 7 62 4)) (Qv (TC [mv 0,k,a 2,L,A 1 3,L,mv 5,Qt 1,Rt 40 4,m Y,e 0,e 1,n (.c zI),Qm 4 2,TT 2] [(8,12)] [A 0 8,L,A 0 6,L,q ne (B 2) 80] (Qi 80 9 4)) (s [D 4 6,Rl 52 0,e 0,e 1,Va,Qm 6 2,Sd 11] (Qn 11 88 4))))) (J 48)) [A 4 3,L,Rl 119 0,e 0,e 1,PY 12,O1 13] (s [v 0,a 4,L,c 53 U,O1 14] (Qv (s [N (.b [.h false] [(0,1),(1,1)] 2 [.c (.h false),.c (.h true)]) 103,Ql 103 104,O0 105] (Vt 2 (Ri 105 104 106) (x 106 2) (SC 3 [VT 103 105,L,O1 16] (s [PR 12 109,Ql 109 110,O0 111] (Vt 4 (Ri 111 110 112) (x 112 4) (SC 5 [VT 109 111,L,PR 111 17,O1 18] (s [A 1 3,L,Te 17,Rl 65 14,e 0,e 1,PY 19,m Y] (QG [p gt [.v 18,.v 19],q (.J true) [Y,.v 16] 129] (QM 129 5) (ds [mv 0,k,a 4,L,A 1 3,L,mv 17,Qt 1,mv 18,c 54 [.l 5,.l 1,Y,ff],m Y] [(3,0,0),(5,0,0)] [(21,10)]) (s [PU 21 141] (Qx 141 [v 0,a 4,UO 14] (VE 21 4))))) 111))) 105))) (so [A 4 3,N l 150,Ql 150 151,O0 152] (Vt 6 (Ri 152 151 153) (x 153 6) (SC 7 [PO 4 150 152,d 4 0,al zI 23,PR 152 22,S 4 23] (Qv (Td [mv 0,k,a 4,L,A 1 3,L,mv 22,Qt 1,mv 13,mv 22,Qg 1 1,L,Qj 120 8 4] [(3,0,0),(5,0,0),(11,0,0)]) (Td [mv 0,k,a 2,L,A 1 3,L,mv 22,Qt 1,D 4 23,c 51 U,Qj 121 6 2] [(3,0,1),(5,0,1),(8,0,0)])) 152)) [O0 4])))),[.t 4]⟩
def fn61:i_:=⟨2,Uc (s [A 4 3,L,ls,Tc 1024 12] (Qi 12 3 4)) (Qb [A 4 3,L,c 110 [.v 0,Y,.c (.E (.func 122) [] [])],O1 5] (Qn 5 18 4) [v 0,a 0,d 2 0,c 11 U,e 0,e 1,PY 6,O1 7] (Qv (Qn 7 29 4) (Qb [A 4 3,L,c 112 [.v 6,O,Y],O1 8] (Qn 8 36 4) [v 6,d 5 0,v 0,w 5] (Qk [O0 4])))),[.t 4]⟩
def fn62:i_:=⟨1,s [On 2] (Qb [QN 64,Tk 6] (r 6 [On 2]) [QN 64,n (.g zI 56 Y Y),O1 3] (Qv (TI 3) (Qv (Td [mv 3,mv 0,k,a 1,L,Qq 4 4,mv 0,k,a 0,L,mv 0,k,a 1,L,mv 0,k,a 2,L,Qt 4,Qq 4 9,Sw 14] [(4,0,0),(9,0,0),(13,0,0),(17,0,0)]) (VE 3 2)))),[.t 2]⟩
def fn63:i_:=⟨1,RI (Qh 2) (RR (Qa 0 4) 4 [Qh 2]) (QB [mv 0,k,a 0,L,c 123 U,mv 0,k,a 1,L,mv 0,k,a 2,L,p (.a [.r,ZZ 0,ZZ 0] [(0,1),(1,1),(2,1)]) [.l 8,.l 4,Y],Tv,m Y] [(3,0,0),(8,0,1),(12,0,1)] [(2,15)]),[.t 2]⟩
def fn64:i_:=⟨1,RI (O0 2) (RR (Qa 0 4) 4 [O0 2]) (QB [mv 0,k,a 0,L,ls,mv 0,k,a 2,L,SJ (B 4),m Y] [(3,0,0),(8,0,0)] [(2,10)]),[.t 2]⟩
def fn65:i_:=⟨2,s [O0 4,O0 5] (so [Qa 0 7] (Su 7 2) [v 0,a 0,d 2 0,QZ 124 1,e 0,e 1,PY 4,O1 5]),[.t 4,.t 5]⟩
def fn66:i_:=⟨2,s [Of 4,O0 5] (so [Qa 0 7] (r 7 [Of 4,QD 2 5]) [v 0,a 0,d 2 0,QZ 125 1,e 0,e 1,PY 4,O1 5]),[.t 4,.t 5]⟩
def fn67:i_:=⟨2,s [bx 0 2,bx 1 3,RH 4] (s [A 0 2,d 2 0,D 1 3,c 126 [.l 1,Y,O,O],e 0,e 1,RH 5,PX 1 5,QJ] (Qk [D 1 5,S 1 4])),[.c 4 1 true]⟩
def fn68:i_:=⟨4,s [bx 0 4,bx 1 5,bx 2 6,O0 8,O0 9,O0 10] (s [D 1 5,A 2 4,L,D 2 6,Qj 127 3 1,e 0,e 1,PY 8,O1 10] (Qb [PU 10 24] (r 24 [mv 10,O0 8,O0 9,O1 10]) [A 0 4,d 2 0,D 1 5,A 2 4,L,A 3 4,L,c 128 [.l 5,.l 4,.v 8,.l 2,Y],e 0,e 1,PY 11,O1 10] (Qv (RR (PU 10 39) 39 [mv 10,O0 8,O0 9,O1 10]) (so [PR 11 41,Ql 41 42,O0 43] (be [.v 43,.v 42] 44 (TE [VT 41 43,L,O1 13] (s [A 0 5,L,QQ 6 13,O1 14] (Qv (Vf [mv 14,mv 14,D 5 4,mv 14,k,a 0,d 4 0,mv 3,Qj 26 5 1,Ug 8,a 4,Qm 1 2,Ug 10,a 5,n (.h 1 Y tt)] [0,11,1,2,3,4,5,6,7,8,9,10,12,13,14] [(2,0,0),(6,0,0)] []) (s [D 1 5,c 129 U,q gt [Y,Ro] 66] (r 66 [O0 8,O0 9,QD 13 10]))))) (J 43)) [mv 8,lv 11,PY 8,O1 9,O0 10])))),[.t 8,.t 9,.t 10]⟩
def fn69:i_:=⟨2,Uw [A 0 2,L,A 0 3,L,c 130 [.l 2,Y,.c (.E (.func 131) [] [])],O1 4],[.t 4]⟩
def fn70:i_:=⟨1,Rd [v 0,a 0,d 2 0,c 133 U,O1 2],[.t 2]⟩
def fn71:i_:=⟨2,Ru 2,[.t 4]⟩
def fn72:i_:=⟨2,Ul [A 0 2,L,A 0 1,L,Ue (B 2),O1 3],[.t 3]⟩
def fn73:i_:=⟨2,Tz (O0 4) [O0 5] (RY [Ri 6 1 9] (x 9 0) (Ss [mv 5,VR,a 0,L,Qt 3,O1 5])),[.t 4]⟩
def fn74:i_:=⟨3,RI (O0 6) (s [QN 134,Ua 1,q gt [.v 2,Y] 12] (Qf 12 [QN 134,Ua 1,O1 2])) (so [q lt [.v 2,O] 18] (Qf 18 [O0 2]) [PR 2 6]),[.t 6]⟩
def fn75:i_:=⟨4,Tz (On 8) [c 135 [.v 0,.v 1,.v 2,.v 3],e 0,e 1,PY 9,O1 10] (s [Ry 136 0 3,O1 11] (VG (On 12) [O0 13] (TS [lv 0,Qz 13 28] (x 28 0) (s [p ge [.v 13,.v 9],zv 0 13,zv 1 10,t 2 lt (B 1),Q 3,yv 0 13,yv 1 11,f 2 eq (B 1),PW 3 43] (UD 43 12 13)) (I 13)) [PR 12 8])),[.t 8]⟩
def fn76:i_:=⟨4,s [On 8,O0 9] (QG [QY 1,yv 0 1,yv 1 0,Sx 2,TD,PW 4 19] (r 19 [PR 0 8,QD 4 9]) (s [SZ 2,yv 0 2,QV 1,PW 2 26] (r 26 [PR 0 8,QD 12 9])) (Qv (Qv (ds [mv 2,mv 0,c 134 U,mv 0,mv 1,Qg 3 1,a 0,L,SJ (B 5),SJ [Ro,Y],UE 9] [(7,0,1)] [(38,10)]) (r 38 [PR 0 8,QD 13 9])) (s [On 10] (Qb [O0 11] (TS [lv 0,Qz 11 43] (x 43 0) (Ss [mv 10,PO 3 0 11,d 3 0,UJ,Qs 3 16 3,O1 10]) (I 11)) [PO 3 10 1,a 0,UO 2] (s [PO 3 10 1,a 1,UO 3] (Qk [PR 10 8,O0 9])))))),[.t 8,.t 9]⟩
def fn77:i_:=⟨1,RW (Qk [A 0 1,L,c 137 U,O1 2]),[.t 2]⟩
def fn78:i_:=⟨1,s [bx 0 1,al zI 2] (Qv (.i [p (.l 4 1) [.v 1,O],L,TF 60,SG,UH (u 1),SD 4 1 1,L,TF 3,n (.b [.f []] [(0,1),(1,1),(2,1),(3,1),(4,1),(5,1),(6,1),(7,1)] 8 [.c (.f []),.c (.f [97]),.c (.f [114,111,119]),.c (.f [116,119,111,32,119,111,114,100,115]),.c (.f [32,32]),.c (.f [126,33,45,44]),.c (.f [97,32,108,111,110,103,101,114,32,116,101,120,116,32,111,102,32,116,104,105,115,32,107,105,110,100]),.c (.f [57])]),SD 4 1 2,L,TF 8,Qg 1 3,L,p (.a zI [(0,1),(1,1),(2,1)]) [.l 9,.l 6,Y],n (.c zI),w 4] [8] [] [(1,0,1),(6,0,1),(10,0,1),(13,0,1)] [(3,15)]) (Qv (s [O0 4] (TS [q lt [.v 4,i 3] 21] (x 21 0) (s [SD 4 1 3,L,p (.E false) [Y,.v 4],SI [Y,b 1],q gt [Y,b 0] 29] (TJ (.v 29) (Td [A 3 3,L,Uq [.f []] [.c (.f [97]),.c (.f [98,50]),.c (.f [107,101,121])],mv 4,SD 4 1 3,L,Sr [Y,b 8],QE,Qt 4,QC [Y,i 3],Qg 1 7,L,Ts [.f []] [(0,1)],Qs 1 16 11,A 3 3,w 1] [(1,0,2),(5,0,1),(11,1,1)]))) (I 4))) (so [SD 4 1 3,L,q ge [Y,b 240] 47] (Qf 47 [A 3 3,L,n (.b [.f []] [(0,1),(1,1)] 2 [.c (.f [97]),.c (.f [97])]),Qs 1 16 1,A 3 3,w 1]) [D 4 3,S 4 2]))),[.c 2 4 true]⟩
def fn79:i_:=⟨2,VG (O0 4) [O0 5] (TS [lv 0,Qz 5 9] (x 9 0) (s [PO 4 0 5,a 0,L,q eq [Y,.v 1] 18] (r 18 [PR 5 4])) (I 5)) [Tj 4],[.t 4]⟩
def ckR:IC:=Qv (UZ (TS [A 3 2,L,ls,Qz 6 30] (x 30 0) (Ss [mv 5,A 3 2,L,QQ 1 6,L,c 139 U,p mu (B 5),O1 5]) (I 6))) (so [q eq [.v 5,i 1] 42] (TZ 42 4) [QD 6 4])
def fn114x:i_:=⟨2,s [bx 0 2,O0 4] (s [A 2 2,L,c 138 U,O1 5] (.e (s [A 0 2,L,Vb,yv 0 1,TX 1 1 2,g 2 l,f 3 (.q .i64) U,f 4 le (B 3),P 5,Qd 3 2,g 1 l,Sx 2,Qy 3 8,PW 4 25] (Qf 25 [O0 5])) ckR)),[.t 4]⟩
def fn81:i_:=⟨3,s [bx 0 3,bx 1 4,al zN 6,O0 7] (QG [SZ 2,yv 0 2,Qy 1 64,PW 2 14] (Vi 14 1) (s [D 6 3,c 140 U,q ne [Y,O] 18] (r 18 [Rz,D 6 3,c 140 U,UF 6 6,PY 7])) (Qb [D 4 4,c 141 U,q ne [Y,O] 24] (r 24 [Rz,D 4 4,c 141 U,UF 6 6,PY 7]) [D 6 3,D 4 4,Rt 142 1,p (.c 6) [Y,O],d 6 0,al zN 8,S 6 8] (so [D 6 8,c 143 U,p ne [Y,O],QR 0 6 8,QA 1 144,yv 2 2,Se 3 1,PW 4 41] (Vi 41 14) [D 6 8,S 6 6,O0 7]))),[.c 6 6 true,.t 7]⟩
def fn82:i_:=⟨1,VC [A 0 1,L,p ge [Y,i 1],RT 0,h 1 l,UT 2 2147483648,Q 3,RT 1,h 1 l,t 2 ge [Y,O],Q 3,RT 1,h 1 l,UT 2 16,Q 3,O1 2],[.t 2]⟩
def fn83:i_:=⟨3,s [O0 6,O0 7] (so [QY 1,yv 0 1,Qy 1 4611686018427387904,P 2,yv 0 2,f 1 lt [Y,i 1],P 2,yv 0 2,VJ,PW 2 21] (r 21 [O0 6,QD 1 7]) [p .F [.v 0,O],UW 1 2,UI,TU 2,O1 6,O0 7]),[.t 6,.t 7]⟩
def fn84:i_:=⟨3,s [bx 0 3,O0 6] (s [A 0 3,L,Rl 37 2,e 0,e 1,QJ,PY 8] (Qv (VS [A 0 3,L,Vb,O1 16] (Qw 16 [QD 9 6] [A 1 3,L,p lt [Y,.v 1],Qd 1 3,g 1 l,QV 2,P 3,O1 20] (Qw 20 [QD 12 6] [PR 8 30] (Qi 30 8 6)))) (Qk [A 0 3,L,c 145 [.v 2,Y,O],O1 6]))),[.t 6]⟩
def fn85:i_:=⟨1,UN 1,[.t 2]⟩
def xQ:IC:=.e .f (Qb [v 0,a 0,L,QQ 3 4,d 3 0,Vn,S 3 7] (VS [A 0 7,L,Ue [Y,b 1],PV 0 1 7,h 1 l,zv 2 1,t 3 eq (B 1),Q 4,O1 25] (Qw 25 [mv 4,O1 4,o tt 5] [A 0 7,L,Ue [Y,b 0],zv 0 6,t 1 ge [Y,O],Q 2,O1 36] (Qw 36 [PR 6 4,Of 5] [A 0 7,L,Ue [Y,b 0],O1 45] (Qw 45 [mv 4,O1 4,Of 5] [A 0 7,L,Ue [Y,b 2],zv 0 6,t 1 lt [Y,O],Q 2,O1 50] (Qf 50 [PR 4 6]))))) [mv 4,QI,v 0,a 0,L,ls,QC (B 4),O1 4] (.p 0))
def fn108x:i_:=⟨2,VW (.j (s [Tj 6] (.e (ds [mv 1,c 146 U,mv 0,k,a 0,L,ls,SG,QC (B 6),QE,m Y] [(5,0,1)] [(4,10)]) xQ)) 0 xQ),[.t 4,.t 5]⟩
def fn87:i_:=⟨2,Uf (QZ 147 1),[.t 4,.t 5]⟩
def fn88:i_:=⟨4,s [bx 1 5,Of 8,O0 9] (s [D 3 5,c 148 [.v 0,Y,.v 2],e 0,e 1,PY 10,O1 11] (Qb [PU 11 25] (r 25 [Of 8,PR 11 9]) [Of 12] (so [PR 10 27,Ql 27 28,O0 29] (be [.v 29,.v 28] 30 (TE [VT 27 29,L,O1 14] (s [v 0,a 0,d 2 0,QZ 125 14,e 0,e 1,PY 15,O1 16] (QG [PU 16 43] (r 43 [Of 8,PR 16 9]) (s [PR 15 45] (QM 45 1)) (Qv (Qv (Vf [mv 0,mv 0,k,a 0,d 2 0,mv 14,mv 3,mv 14,n (.e (.l 1) U),c 107 [.l 4,.l 3,Y,tt],m Y,e 0,e 1,Ug 12,a 0,Qm 2 3,TT 3] [0,1,2,3,4,5,6,7,8,9,10,11,15,12,13,14,16] [(4,0,1)] [(16,16)]) (TB 16 62 (Of 8) (PR 16 9))) (Ss [o tt 12]))))) (J 29)) [PR 12 8,O0 9]))),[.t 8,.t 9]⟩
def fn89:i_:=⟨3,Ub [QY 1,yv 0 2,Uy,P 2,yv 0 1,yv 1 0,QA 2 64,Se 3 2,P 4,yv 0 2,yv 1 0,QA 2 64,yv 3 1,Uz,Se 5 4,P 6,O1 10],[.t 6]⟩
def fn90:i_:=⟨2,VG (O0 4) [v 0,a 1,L,q ge [.v 1,Y] 10] (r 10 [v 0,a 2,L,UH (.v 1),O1 4]) [PR 1 4],[.t 4]⟩
def fn91:i_:=⟨2,s [bx 0 2,O0 4] (s [QK 149 0 2,O1 5] (s [QK 152 0 2,O1 6] (so [A 0 2,L,Vb,Qd 1 2,g 1 l,f 2 (.q .i64) U,yv 3 1,f 4 ge (B 1),P 5,yv 0 5,g 1 (.e Y []),Rm 2,P 3,yv 0 6,g 1 (.e Y []),Rm 2,PW 3 28] (Qi 28 6 4) [O0 4]))),[.t 4]⟩
def fn92:i_:=⟨2,s [bx 0 2,bx 1 3,al zN 4,O0 5] (QB [A 0 2,L,A 1 3,L,Qg 9 2,a 0,d 6 0,D 4 3,A 1 2,L,Qj 105 3 2,e 0,e 1,PX 6 4,QJ] [(1,0,0),(3,0,0),(6,0,0),(7,0,0),(9,0,0)] [(5,14)]),[.c 4 6 true,.t 5]⟩
def fn93:i_:=⟨1,RM [p ge [.v 0,i 1],zv 0 0,UT 1 2305843009213693952,Q 2,O1 2],[.t 2]⟩
def fn94:i_:=⟨1,RW (Vh 5),[.t 2]⟩
def fn95:i_:=⟨2,Ru 6,[.t 4]⟩
def fn96:i_:=⟨2,Ul [A 0 2,a 0,L,PM 1,Ue (B 1),O1 3],[.t 3]⟩
def fn97:i_:=⟨1,VC [A 6 1,L,c 93 U,Sz,Qd 0 1,g 1 (.a 6 true Y),QA 2 98,f 3 ne [Y,O],P 4,O1 2],[.t 2]⟩
def fn98:i_:=⟨1,QS 156,[.t 2]⟩
def fn99:i_:=⟨2,QF 157,[.t 4]⟩
def fn100:i_:=⟨3,UZ (QG [c 89 [.v 0,.v 1,O],O1 7] (Qn 7 12 6) (s [lv 2,QN 64,SJ [i 4096,Y],q gt (B 2) 19] (Qi 19 3 6)) (Qb [lv 2,Tk 22] (TZ 22 6) [Ry 158 0 1] (s [lv 2,Rl 159 0] (Qv (Td [mv 0,k,a 1,L,mv 0,k,a 0,L,mv 0,k,a 1,L,Qq 4 4,mv 2,Sw 1,Qt 11,Ug 15,a 1,Qm 1 2] [(3,0,1),(7,0,0),(11,0,0)]) (s [v 0,a 2,L,lv 2,SJ (B 1),v 0,a 2,Qm 1 2] Sq))))),[.t 6]⟩
def fn101:i_:=⟨1,Vd [.f [],ZY 0,.f []] 3 40,[.t 2]⟩
def fn102:i_:=⟨1,QH (.b zN [] 0 []) (.i 6 104 Y (.v 0)),[.t 2]⟩
def fn103:i_:=⟨1,Rq 1,[.t 2]⟩
def fn104:i_:=⟨1,Vd [.f []] 1 16,[.t 2]⟩
def fn105:i_:=⟨3,s [bx 0 3,bx 1 4,al zN 6,O0 7] (QG [SZ 2,yv 0 2,Qy 1 64,PW 2 17] (Vi 17 1) (s [D 6 3,c 98 U,O1 8] (RR (PU 8 22) 22 [Rz,S 6 6,PR 8 7])) (Qb [D 4 4,c 160 U,O1 9] (RR (PU 9 28) 28 [Rz,S 6 6,PR 9 7]) [D 4 4,p (.a zI [(0,4)]) U,D 6 3,Qu,Rt 161 2,p (.c 6) [Y,O],d 6 0,al zN 10,S 6 10] (so [D 6 10,c 162 U,O1 11] (s [Ue [.v 11,O],yv 0 11,yv 1 2,Se 2 1,PW 3 46] (Vi 46 14)) [D 6 10,S 6 6,O0 7]))),[.c 6 6 true,.t 7]⟩
def fn106:i_:=⟨1,s [Qh 2] (Qb [Qa 0 5] (r 5 [Qh 2]) [v 0,d 66 0,al [ZZ 0,ZZ 0,ZX 0,ZX 0,ZX 0,ZX 0,ZX 0,ZX 0,ZX 0,ZX 0,ZX 0,ZX 0,ZX 0,ZX 0,ZX 0,ZX 0,ZX 0,ZX 0,ZX 0,ZX 0,ZX 0,ZX 0,ZX 0,ZX 0,ZX 0,ZX 0,ZX 0,ZX 0,ZX 0,ZX 0,ZX 0,ZX 0,ZX 0,ZX 0,ZX 0,ZX 0,ZX 0,ZX 0,ZX 0,ZX 0,ZX 0,ZX 0,ZX 0,ZX 0,ZX 0,ZX 0,ZX 0,ZX 0,ZX 0,ZX 0,ZX 0,ZX 0,ZX 0,ZX 0,ZX 0,ZX 0,ZX 0,ZX 0,ZX 0,ZX 0,ZX 0,ZX 0,ZX 0,ZX 0,ZX 0,ZX 0] 3,S 66 3] (VE 3 2)),[.t 2]⟩
def fn107:i_:=⟨4,s [bx 0 4,RP 8,O0 9] (Qb [UQ 1,zv 0 1,h 1 (.a 2 true (.v 4)),UM 2 133,t 3 lt (B 2),Q 4,zv 0 2,UM 1 163,Qr 2 23] (r 23 [Rw,S 2 8,QD 12 9]) [A 0 4,a 0,d 1 0,Rn 164,e 0,e 1,RJ 10,PX 1 10,PY 11] (Qv (RR (PU 11 35) 35 [Rw,S 2 8,PR 11 9]) (QB [D 1 10,A 1 4,L,mv 1,mv 1,QI,mv 3,Sv 166 4 3 1,c 165 [.l 7,Y,O],e 0,e 1,PX 2 8,QJ] [(0,0,1),(2,0,0)] [(9,12)]))),[.c 8 2 true,.t 9]⟩
def fn108:i_:=⟨2,s [bx 0 2,O0 4,O0 5,O0 6] (Qk [A 0 2,a 0,d 1 0,QZ 167 1,e 0,e 1,e 2,Sd 4,PY 5,O1 6]),[.t 4,.t 5,.t 6]⟩
def fn109:i_:=⟨0,TV (al [.f [],.h false,.h false,.h false,.h false,.R,.f [],.h false,.h false,.h false,.h false,.R,.f [],.h false,.h false,.h false,.h false,.R,.f [],.h false,.h false,.h false,.h false,.R,.f [],.h false,.h false,.h false,.h false,.R,.f [],.h false,.h false,.h false,.h false,.R] 0) [RB (.f [105,110,115,101,114,116]) (.E (.func 168) [] []),p (.a [.f [],.h false,.h false,.h false,.h false,.R] [(0,1),(1,1),(2,1),(3,1),(4,1),(5,1)]) [.c (.f [114,101,109,111,118,101]),tt,tt,ff,ff,.c (.E (.func 170) [] [])],p (.a [.f [],.h false,.h false,.h false,.h false,.R] [(0,1),(1,1),(2,1),(3,1),(4,1),(5,1)]) [.c (.f [109,111,118,101]),tt,tt,tt,ff,.c (.E (.func 171) [] [])],RB (.f [99,104,97,110,103,101]) (.E (.func 173) [] []),p (.a [.f [],.h false,.h false,.h false,.h false,.R] [(0,1),(1,1),(2,1),(3,1),(4,1),(5,1)]) [.c (.f [114,101,115,101,116]),ff,ff,ff,tt,.c (.E (.func 175) [] [])],p (.a [.f [],.h false,.h false,.h false,.h false,.R,.f [],.h false,.h false,.h false,.h false,.R,.f [],.h false,.h false,.h false,.h false,.R,.f [],.h false,.h false,.h false,.h false,.R,.f [],.h false,.h false,.h false,.h false,.R,.f [],.h false,.h false,.h false,.h false,.R] [(6,6),(12,6),(18,6),(24,6),(30,6)]) [.l 4,.l 3,.l 2,.l 1,Y],S 36 0],[.c 0 36 true]⟩
def fn110:i_:=⟨3,Tz (O0 6) [n (.s []),O1 7] (so [PR 1 14,Ql 14 15,O0 16] (be [.v 16,.v 15] 17 (TE [PO 4 14 16,d 4 0,al zI 9,S 4 9] (Qv (Qv (UG (D 4 9) (10,8)) (Qn 10 29 6)) (Qb [A 0 9,L,n (.o none (.h false) false [.v 7,Y]),yv 0 2,TX 1 0 9,g 2 l,g 3 (.e (.l 2) U),PW 4 40] (Qi 40 8 6) [A 0 9,L,SF (.v 7)] (s [D 4 9,Rl 52 0,e 0,e 1,Va,Qm 6 2,Sd 12] (Qn 12 51 6))))) (J 16)) [O0 6]),[.t 6]⟩
def fn111:i_:=⟨2,Tz (Of 3) [PM 1,k,a 3,L,QZ 37 0,e 0,e 1,QJ,PY 5] (VE 5 3),[.t 3]⟩
def fn112:i_:=⟨3,Tz (O0 6) [Ry 119 0 2,e 0,e 1,PY 7,O1 8] (Qv (s [v 0,a 4,L,c 177 [Y,.v 1,.v 7,.v 8],O1 9] (Qn 9 28 6)) (Qb [PR 2 30,Ql 30 31,O0 32] (be [.v 32,.v 31] 33 (TE [PO 4 30 32,d 4 0,al zI 11,PR 32 10,S 4 11] (Qv (ds [mv 0,k,a 2,L,mv 1,mv 10,Qt 1,D 4 11,c 51 U,Tt,Qj 100 6 3,m Y] [(3,0,2),(7,0,0)] [(12,11)]) (Qn 12 49 6))) (J 32)) [Ry 116 0 1] Sq)),[.t 6]⟩
def fn113:i_:=⟨3,UZ (Qb [Qa 0 10] (Qi 10 2 6) [v 0,a 0,d 2 0,Rn 178,e 0,e 1,RP 7,PX 2 7,PY 8] (Qb [Sm 8,yv 0 2,Vq,PW 2 26] (r 26 [PR 8 6]) [D 2 7,v 0,a 0,Qm 2 2] (Qk [v 0,a 2,L,Rn 179,O1 6]))),[.t 6]⟩
def fn114:i_:=⟨2,s [Of 4] (Qb [QN 85,Tk 9] (RG 9 4) [Ry 86 0 1,e 0,e 1,PY 5,O1 6] (so [PR 6 16] (Qx 16 [v 0,a 0,L,UB [ZY 0,ZX 0,ZZ 0] (b 2),p (.c 3) [.l 1,.v 5],w 3] (s [v 0,a 1,L,RQ,v 0,a 1,Qm 1 2] (Ss [v 0,a 2,L,QI,v 0,a 2,Qm 1 2]))) [PR 6 4])),[.t 4]⟩
def fn115:i_:=⟨3,UZ (Qb [RA 89,O1 7] (s [Sm 7,yv 0 2,Vq,PW 2 17] (r 17 [PR 7 6])) [Ry 158 0 1] (Qv (Td [mv 0,k,a 0,L,mv 1,mv 0,k,a 2,L,Qt 4,mv 1,mv 0,k,a 2,L,Qt 4,mv 2,Qt 1,Rb 4 14 8,n (.l zI Y)] [(3,0,0),(8,0,0),(14,0,0)]) (s [v 0,a 2,L,Te 2,v 0,a 2,Qm 1 2] Sq))),[.t 6]⟩
def fn116:i_:=⟨2,TS [v 0,a 2,L,c 64 U,Qz 1 12] (x 12 0) (s [v 0,a 2,L,QZ 40 1,e 0,e 1,al zI 4,PX 4 4,PY 5] (s [SY 5 25] (TJ (.v 25) (VA [mv 0,k,a 3,L,A 0 4,L,mv 1,Qj 145 3 1])))) (I 1),[]⟩
def fn117:i_:=⟨4,s [O0 8] (Qb [Qa 0 12] (Qi 12 2 8) [v 0,a 0,d 2 0,Uj 180,e 0,e 1,RP 9,PX 2 9,PY 10] (Qb [Sm 10,yv 0 2,Vq,PW 2 29] (r 29 [PR 10 8]) [D 2 9,v 0,a 0,Qm 2 2] (Qk [v 0,a 2,L,Uj 181,O1 8]))),[.t 8]⟩
def fn118:i_:=⟨4,s [O0 8] (QG [RA 89,O1 9] (Qn 9 17 8) (s [QY 3,yv 0 3,yv 1 0,QA 2 64,yv 3 2,Uz,Se 5 4,PW 6 28] (Qi 28 4 8)) (Qb [SY 2 30] (TZ 30 8) [n (.g zI 56 (.v 2) (.v 2)),O1 10] (Qb [Ql 10 34,O0 35] (be [.v 35,.v 34] 36 (TE [PR 35 11] (Td [mv 10,mv 11,mv 0,k,a 0,L,mv 0,mv 1,mv 11,Qt 1,Rt 90 3,Qg 4 5,d 4 0,RS 4 12 11,w 4] [(5,0,1),(12,1,1)])) (J 35)) [RA 115] (Qk [c 100 [.v 0,.v 3,.v 10],O1 8])))),[.t 8]⟩
def fn119:i_:=⟨2,s [On 4,On 5] (so [PR 1 9,Ql 9 10,O0 11] (UP [PO 4 9 11,d 4 0,al zI 7,S 4 7] (Qv (ds [mv 0,k,a 0,a 0,L,A 1 7,L,Qg 9 2,d 9 0,n (.c zK),w 9] [(4,0,1),(6,0,1),(8,0,1)] [(8,9)]) (.i [mv 4,A 6 8,L,Ts [ZZ 0] [(0,1)],Qs 1 8 3,mv 5,A 7 8,L,Ts [.h false] [(0,1)],Qs 1 1 3,TT 5,QJ] [3,8] [] [(2,0,0),(7,0,1)] [(4,10),(5,11)]))) [mv 4,mv 5,PY 4,O1 5]),[.t 4,.t 5]⟩
def fn120:i_:=⟨3,RI (O0 6) (s [Qa 0 8] (Qi 8 2 6)) (so [QY 1,yv 0 1,yv 1 0,QA 2 70,TD,PW 4 16] (Qi 16 4 6) [v 0,a 2,L,Rn 182,O1 6]),[.t 6]⟩
def fn121:i_:=⟨3,s [bx 2 5,O0 6] (QG [c 89 [.v 0,.v 1,i 1],O1 7] (Qn 7 12 6) (Td [mv 0,k,a 0,L,mv 0,mv 1,Rt 90 1,D 4 5,RS 4 4 1,w 4] [(3,0,1),(7,0,1)]) Sq),[.t 6]⟩
def fn122:i_:=⟨1,RM [Of 2],[.t 2]⟩
def fn123:i_:=⟨1,Vd [ZY 0,ZX 0,ZZ 0] 3 24,[.t 2]⟩
def fn124:i_:=⟨2,Uf (QZ 183 1),[.t 4,.t 5]⟩
def fn125:i_:=⟨2,s [bx 0 2,Of 4,O0 5] (so [QY 1,yv 0 1,QR 1 2 2,QA 2 133,TD,PW 4 13] (r 13 [Of 4,QD 4 5]) [A 1 2,L,QZ 184 1,O1 4,O0 5]),[.t 4,.t 5]⟩
def fn126:i_:=⟨4,s [bx 0 4,bx 1 5,bx 2 6,bx 3 7,RH 8,O0 9] (QB [D 2 4,D 1 5,PM 6,PM 7,A 0 5,L,ls,Qj 186 4 3,Rj 187 5 6 7,SK,Qj 185 9 8,e 0,e 1,PX 1 8,QJ] [(0,0,1),(1,0,1),(2,0,0),(3,0,0),(5,0,0)] [(9,14)]),[.c 8 1 true,.t 9]⟩
def fn127:i_:=⟨3,s [bx 0 3,bx 2 5,O0 6,O0 7] (QG [D 1 3,QZ 189 1,O1 8] (Vm 16 (O0 6)) (s [D 2 5,c 36 U,O1 9] (TB 9 21 (O0 6) (PR 9 7))) (Qb [A 0 5,L,q eq [Y,u 0] 25] (r 25 [O0 6,O0 7]) [D 1 3,A 0 5,L,Rt 190 2,e 0,e 1,PY 10,O1 11] (so [q .u [.v 11] 34] (r 34 [O0 6,QD 11 7]) [D 1 3,A 1 5,L,UH (.v 10),c 191 [.l 3,.v 1,Y],e 0,e 1,PY 6,O1 7]))),[.t 6,.t 7]⟩
def fn128:i_:=⟨5,s [bx 0 5,bx 1 6,On 10,O0 11] (s [D 2 5,D 1 6,c 192 [.l 1,Y,.v 2,.v 3,.v 4],e 0,e 1,PY 12,O1 13] (so [PU 13 24] (r 24 [On 10,PR 13 11]) [QK 195 0 6,Rl 194 12,c 193 U,O1 10,O0 11])),[.t 10,.t 11]⟩
def fn129:i_:=⟨1,RW (s [O0 3] (UC [A 0 1,N l 8,Ql 8 9,O0 10] (SO [PO 6 8 10,d 6 0,al zE 5,S 6 5] (s [A 4 5,L,p .F [Y,O],O1 6] (Uv [SJ [Ro,.v 3],q gt [.v 6,Y] 20] (Qi 20 4611686018427387905 2) [mv 3,Te 6,O1 3]))))),[.t 2]⟩
def fn130:i_:=⟨3,RI (Of 6) (s [lv 0,lv 1,q ne (B 1) 14] (RG 14 6)) (so [PR 0 15,Ql 15 16,O0 17] (be [.v 17,.v 16] 18 (TE [PO 6 15 17,d 6 0,al zE 8,PR 17 7,S 6 8] (s [PO 6 1 7,d 6 0,al zE 9,S 6 9] (s [D 6 8,D 6 9,n (.e (.v 2) (B 1)),TN 30] (RG 30 6)))) (J 17)) [o tt 6]),[.t 6]⟩
def fn131:i_:=⟨2,Uw [A 4 2,L,A 4 3,L,Ue (B 2),PV 0 5 2,h 1 l,PV 2 5 3,h 3 l,t 4 (.J false) (B 2),Q 5,PV 0 0 2,h 1 (.a 4 true Y),PV 2 0 3,h 3 (.a 4 true Y),Ti 4 132 (B 2),Q 5,O1 4],[.t 4]⟩
def fn132:i_:=⟨2,Uw [A 0 2,L,A 0 3,L,Ue (B 2),PV 0 1 2,h 1 l,PV 2 1 3,h 3 l,t 4 eq (B 2),Q 5,PV 0 2 2,h 1 l,PV 2 2 3,h 3 l,t 4 (.B .eql) (B 2),Q 5,PV 0 3 2,h 1 l,PV 2 3 3,h 3 l,Ti 4 196 (B 2),Q 5,O1 4],[.t 4]⟩
def fn133:i_:=⟨1,RW (Qk [A 0 1,a 0,d 1 0,c 197 U,O1 2]),[.t 2]⟩
def fn134:i_:=⟨1,TV (O0 2) [lv 0,Rl 73 0,O1 2],[.t 2]⟩
def fn135:i_:=⟨4,s [O0 8,O0 9] (s [Tj 10,O0 11] (Qv (s [O0 12] (TS [lv 0,Qz 12 16] (x 16 0) (s [N (.d 198 [.v 0,.v 1,.v 3,.v 12]) 23] (TJ (.v 23) (Uv [q lt [.v 10,O] 25] (Qf 25 [PR 12 10]) [Uh 12,O1 11]))) (I 12))) (so [q lt [.v 10,O] 30] (r 30 [O0 8,O0 9]) [UW 10 2,UI,lv 0,Tw 11 2,TU 1,o (.l 3) 8,O1 9]))),[.t 8,.t 9]⟩
def fn136:i_:=⟨2,Tz (O0 4) [Tj 5] (RY [lv 0,Qz 6 10] (x 10 0) (s [VR,a 2,L,zv 0 0,zv 1 6,Ti 2 73 (B 1),zv 3 1,t 4 le (B 1),Qr 5 24] (Qf 24 [PR 6 5]))),[.t 4]⟩
def fn137:i_:=⟨1,UN 4,[.t 2]⟩
def fn138:i_:=⟨1,RI (O0 2) (s [Rx,Tc 64 6] (TZ 6 2)) (so [O0 3] (RN (TZ 22 2)) [QD 1 2]),[.t 2]⟩
def fn139:i_:=⟨1,RI (O0 2) (s [Rx,Ux,yv 0 0,f 1 .g U,Qy 2 16,PW 3 12] (TZ 12 2)) (so [O0 3] (TS [Rx,Qz 3 16] (x 16 0) (s [Ty,O1 4] (s [p ge [.v 4,b 97],zv 0 4,t 1 le [Y,b 122],Q 2,yv 0 4,f 1 ge [Y,b 48],y 2 Y,zv 0 4,t 1 le [Y,b 57],QP 5 2,P 6,TN 36] (TZ 36 2))) (I 3)) [QD 1 2]),[.t 2]⟩
def fn140:i_:=⟨1,QS 199,[.t 2]⟩
def fn141:i_:=⟨1,RW (Qv (s [A 0 1,L,Vb,Qd 2 1,g 1 l,QA 2 200,Rm 3,P 4,Qd 3 1,g 1 l,Sx 2,Qy 3 8,PW 4 18] (Qi 18 6 2)) (Un [O0 3] (TS [A 3 1,L,ls,Qz 3 23] (x 23 0) (s [A 3 1,L,QQ 1 3,L,c 201 U,TN 32] (Qi 32 6 2)) (I 3)))),[.t 2]⟩
def mdE:IC:=VG (On 5) [O0 6] (lp 1 2 [A 3 3,L,ls,Qz 6 36] (x 36 1) (.i [mv 5,A 1 2,L,A 3 3,L,mv 6,Qg 1 1,L,A 3 2,L,D 4 3,Rt 203 1,A 3 3,L,mv 6,Qg 1 1,L,RL,Qu,Ta (.l 16) (.l 11) (.l 7),Qu,Qs 6 104 20,m Y] [18] [] [(2,0,1),(4,0,1),(7,0,1),(9,0,0),(10,0,0),(13,0,1),(16,0,1)] [(5,22)]) (I 6)) [PR 5 4]
def mdN:IC:=Qv (.i [A 1 2,L,A 2 2,L,A 3 2,L,D 4 3,Rt 203 1,p (.a zN [(0,1),(1,1),(2,1),(3,1)]) [b 1,.l 6,.l 4,Y],Va,w 6] [9] [] [(1,0,1),(3,0,1),(5,0,0),(6,0,0)] [(7,9)]) (so [O0 8] (lp 3 4 [A 5 2,L,ls,Qz 8 75] (x 75 3) (Td [A 5 7,L,A 5 2,L,mv 8,Qg 6 1,d 6 0,D 4 3,Rt 142 1,Qs 6 104 7,A 5 7,w 1] [(1,0,1),(3,0,0),(6,0,0),(7,0,0)]) (I 8)) [D 6 7,Qu,O1 4])
def fn187x:i_:=⟨2,s [bx 0 2,bx 1 3,On 4] (.e (s [A 0 2,N l 10] (VS [QT 10 2,O1 11] (Qw 11 [A 4 2,L,RL,Qu,O1 4] [QT 10 3,O1 17] (Qw 17 [A 2 3,L,RL,Qu,O1 4] [QT 10 4,O1 23] (Qw 23 [A 0 3,L,c 202 U,RL,Qu,O1 4] [QT 10 5,O1 30] (.d (.v 30) mdE .f)))))) mdN),[.t 4]⟩
def fn143:i_:=⟨1,QS 144,[.t 2]⟩
def fn144:i_:=⟨1,RW (s [D 6 1,c 204 [Y,i 6],O1 3] (UC [q gt [.v 3,i 64] 7] (TZ 7 2))),[.t 2]⟩
def JX:IC:=s [Ry 86 0 1,e 0,e 1,PY 9,m Y] (Qb [v 0,a 0,L,QQ 3 9,a 0,L,q eq [Y,b 2] 82] (Qf 82 [v 0,a 2,L,RQ,v 0,a 2,Qm 1 2]) [v 0,a 0,L,p (.a [ZY 0,ZX 0,ZZ 0] [(0,1),(1,1),(2,1)]) [b 1,.v 1,.v 2],p (.c 3) [.l 1,.v 9],w 3] (s [v 0,a 1,L,QI,v 0,a 1,Qm 1 2] Sq))
def Hl:IC:=Qv (s [v 0,a 1,L,q eq [Y,i 4096] 42] (Qi 42 3 6)) (.e (Qv (ds [mv 0,k,a 1,L,mv 0,k,a 2,L,Qt 4,QI,p mu [i 4,Y],mv 0,k,a 0,L,ls,p mu [i 3,Y],UE 6] [(3,0,0),(7,0,0),(14,0,0)] [(60,17)]) (Qf 60 [v 0,a 1,L,QI,Rl 205 0])) JX)
def fn168x:i_:=⟨3,RI (O0 6) (VS [Rg,O1 11] (Qw 11 [QD 2 6] [Ue [.v 1,u 0],O1 14] (Qi 14 9 6))) (.e (s [v 0,a 0,L,ls,q gt [Y,O] 22] (Qx 22 [Ry 86 0 1,e 0,e 1,PY 7,O1 8] (s [PR 8 29] (Qx 29 [v 0,a 0,L,QQ 3 7,a 2,UO 2] Sq)))) Hl),[.t 6]⟩
def fn146:i_:=⟨1,Tz (o (u 0) 2) [mv 0,mv 0,Rh 30,p (.e .xor) (B 2),p mu [Y,u 13787848793156543929],O1 0] (s [mv 0,mv 0,Rh 27,p (.e .xor) (B 2),p mu [Y,u 10723151780598845931],O1 0] (Qk [p (.E false) [.v 0,u 31],p (.e .xor) [.v 0,Y],O1 2])),[.t 2]⟩
def fn147:i_:=⟨2,s [bx 0 2,O0 4,O0 5] (Qb [QY 1,yv 0 1,QR 1 1 2,Vp,Se 3 2,PW 4 16] (Su 16 4) [O0 6] (so [A 0 2,L,O1 7] (QO 0 (Qv (s [p (.j 0 true) [.v 7,.c .O],zv 0 1,t 1 gt [Y,O],Qr 2 24] (x 24 0)) (TE [v 7,a 0,L,c 206 U,O1 8] (QG [q le [.v 1,.v 8] 32] (Qx 32 [mv 7,k,a 0,L,O1 7] (.k 1)) (ds [mv 6,mv 7,k,a 0,L,c 137 U,mv 7,k,a 2,L,Qt 4,Qt 10,m Y] [(4,0,0),(9,0,1)] [(6,12)]) (s [mv 1,Uh 8,SJ (B 1),O1 1] (Ss [mv 7,k,a 1,L,O1 7])))))) [PR 6 4,O0 5])),[.t 4,.t 5]⟩
def fn148:i_:=⟨3,s [bx 1 4,On 6,O0 7] (s [D 3 4,c 207 [.v 0,Y,.v 2],e 0,e 1,e 2,Sd 8,PY 9,O1 10] (Qb [Sm 10,yv 0 9,Vq,PW 2 29] (r 29 [On 6,PR 10 7]) [Ry 208 0 2,e 0,e 1,PY 11,O1 10] (Qb [Sm 10,zv 0 10,t 1 ne [Y,i 11],Qr 2 42] (r 42 [On 6,PR 10 7]) [Ue [.v 10,O],zv 0 11,zv 1 8,t 2 lt (B 1),Q 3,O1 12] (s [UW 9 8,O1 13] (Qb [PR 12 54] (TJ (.v 54) (I 13)) [n (.g [ZZ 0] 8 (.c (ZZ 0)) (.v 13)),O1 14] (Qv (s [PR 12 59] (UD 59 14 11)) (so [PR 8 15] (TS [Ri 15 9 67] (x 67 0) (Ss [mv 14,Rv [.v 15],Qs 1 8 1,O1 14]) (I 15)) [PR 14 6,O0 7]))))))),[.t 6,.t 7]⟩
def fn149:i_:=⟨1,TV (Of 1) [A 2 0,L,p .g U,p le [Y,i 64],PV 0 2 0,h 1 l,Ur 2 150 151,Vc 3,Q 4,O1 1],[.t 1]⟩
def fn150:i_:=⟨2,QF 209,[.t 4]⟩
def fn151:i_:=⟨1,Sn,[.t 2]⟩
def fn152:i_:=⟨1,TV (Of 1) [A 3 0,L,ls,p le [Y,i 8],PV 0 3 0,h 1 l,Ur 2 153 154,Vc 3,Q 4,O1 1],[.t 1]⟩
def fn153:i_:=⟨2,QF 210,[.t 4]⟩
def fn154:i_:=⟨1,RM [QN 155,Sz,O1 2],[.t 2]⟩
def fn155:i_:=⟨1,Tz (Of 2) [Tg 211 3] (Qk [p (.B .neq) [.v 0,.c (.f [])],zv 0 0,t 1 .g U,UT 2 16,Q 3,zv 0 0,zv 1 3,Ti 2 150 (B 1),Vc 3,Q 4,O1 2]),[.t 2]⟩
def fn156:i_:=⟨1,RW (Qk [c 212 [.v 1,.c (.E (.func 213) [] [])],O1 2]),[.t 2]⟩
def fn157:i_:=⟨2,Ru 9,[.t 4]⟩
def fn158:i_:=⟨2,Qb [v 0,a 1,L,Qz 1 9] (.d (.v 9) (Td [mv 0,k,a 0,L,mv 1,mv 0,k,a 2,L,Qt 4,Qq 4 6,mv 0,k,a 0,L,mv 1,mv 0,k,a 1,L,Rb 4 5 4,Sw 10] [(3,0,0),(8,0,0),(14,0,0),(19,0,0)]) (Td [mv 0,k,a 0,L,mv 0,k,a 1,L,Qq 4 4,mv 0,k,a 0,L,mv 0,k,a 1,L,mv 0,k,a 2,L,Qt 4,mv 1,mv 0,k,a 2,L,Qt 4,Rb 4 15 6,Sw 20] [(3,0,0),(7,0,0),(12,0,0),(16,0,0),(20,0,0),(26,0,0)])) [v 0,a 1,UO 1] (Td [mv 0,k,a 0,L,mv 1,mv 1,mv 0,k,a 2,L,Qt 4,Rb 4 7 6,n (.l zI Y)] [(3,0,0),(9,0,0)]),[]⟩
def fn159:i_:=⟨2,Qb [v 0,a 2,L,q le [.v 1,Y] 11] (.d (.v 11) .q .f) [v 0,a 0,L,ls,Sr [Y,i 2],UH (.v 1),p ad [Y,i 8],O1 4] (s [QN 64,Te 4,n (.g zI 56 Y Y),O1 5] (Qv (TI 5) (Qv (Td [mv 5,mv 0,k,a 1,L,mv 4,Qt 1,Qq 4 6,mv 0,k,a 0,L,mv 0,k,a 1,L,mv 0,k,a 2,L,Qt 4,Qq 4 9,Sw 14] [(4,0,0),(11,0,0),(15,0,0),(19,0,0)]) (Ss [v 0,a 0,UO 5,v 0,a 2,UO 4])))),[]⟩
def fn160:i_:=⟨1,RW (Un [A 0 1,L,Vb,Qd 2 1,g 1 l,QA 2 214,Rm 3,P 4,Qd 3 1,g 1 l,Sx 2,Qy 3 8,P 4,Qd 3 1,g 1 l,g 2 (.d 153 [Y,.c (.E (.func 215) [] [])]),PW 3 22] (Qi 22 6 2)),[.t 2]⟩
def fn161:i_:=⟨2,s [bx 0 2,On 4] (VG (On 5) [PR 1 10,Ql 10 11,O0 12] (be [.v 12,.v 11] 13 (TE [PO 6 10 12,d 6 0,al zN 7,S 6 7] (s [A 0 7,N l 17] (Qc 2 [QT 17 1,O1 18] (.d (.v 18) (ds [mv 5,D 4 2,D 6 7,A 2 7,L,D 4 2,A 5 7,L,Rt 161 2,Sv 217 7 6 4,Qu,Qs 6 104 10,m Y] [(1,0,1),(2,0,1),(4,0,1),(5,0,0),(7,0,0)] [(5,12)]) (s [QT 17 2,O1 32] (Sk 32 [mv 5,A 4 7,L,c 218 U,Qu,Qs 6 104 4,O1 5] [QT 17 3,O1 40] (Sk 40 [mv 5,A 0 2,a 2,L,c 218 U,Qu,Qs 6 104 5,O1 5] [QT 17 4,O1 49] (Sk 49 [mv 5,A 0 2,a 0,L,c 219 U,c 218 U,Qu,Qs 6 104 6,O1 5] [QT 17 5,O1 59] (Qx 59 [A 0 2,a 3,N l 63,Ql 63 64,O0 65] (Vt 3 (Ri 65 64 66) (x 66 3) (SC 4 [VT 63 65,L,O1 9] (ds [mv 5,D 4 2,D 6 7,mv 9,mv 9,c 218 U,Qu,Sv 217 5 4 3,Qu,Qs 6 104 8,m Y] [(1,0,2),(2,0,2)] [(5,10)]) 65))))))))))) (J 12)) [PR 5 4]),[.t 4]⟩
def fn162:i_:=⟨1,RW (s [D 6 1,c 220 U,e 0,e 1,PY 3,m Y] (VE 3 2)),[.t 2]⟩
def fn163:i_:=⟨1,RM [SZ 0,yv 0 0,QV 1,P 2,O1 2],[.t 2]⟩
def fn164:i_:=⟨3,Vk [D 1 3,QZ 183 1,e 0,e 1,PY 8,O1 9] (Qv (VS [Sm 9,O1 18] (Qw 18 [RZ,S 1 6,PR 9 7] [QY 2,yv 0 2,QV 1,P 2,O1 23] (Qw 23 [RZ,S 1 6,QD 12 7] [D 1 3,c 77 U,Ua 8,SJ [Ro,Y],p gt [.v 2,Y],O1 31] (r 31 [RZ,S 1 6,QD 13 7])))) (s [A 0 3,L,QZ 221 1,e 0,e 1,PY 10,O1 11] (s [mv 11,c 221 [Y,i 1],e 0,e 1,O1 11] (Qk [c 222 [.v 10,.v 2,.v 11],Rc,S 1 6,O0 7])))),[.c 6 1 true,.t 7]⟩
def fn165:i_:=⟨3,s [bx 0 3,RP 6,O0 7] (so [PU 2 9] (r 9 [Rw,S 2 6,PR 2 7]) [D 1 3,Rc,Uk [.O,.r] (.v 1),S 2 6,O0 7]),[.c 6 2 true,.t 7]⟩
def fn166:i_:=⟨4,s [On 8] (Qb [q eq [.v 1,.v 2] 15] (r 15 [PR 0 8]) [Sj 1 2,Vy (ZZ 0),O1 9] (s [Tg 223 10] (Qb [PR 3 21] (Qf 21 [Tg 224 10]) [n (.e (.v 10) [.v 0,.v 9]),e 0,e 1,PY 11,m Y] (VE 11 8)))),[.t 8]⟩
def fn167:i_:=⟨2,s [bx 0 2,O0 4,O0 5,O0 6] (Qb [QY 1,yv 0 1,QR 1 1 2,QA 2 77,TD,PW 4 16] (r 16 [O0 4,O0 5,QD 4 6]) [PR 1 5] (so [A 0 2,L,O1 7] (QO 0 (Qv (s [q (.j 0 true) [.v 7,.c .O] 21] (x 21 0)) (TE [v 7,a 0,L,c 137 U,O1 8] (Qc 2 [p lt [.v 5,.v 8],O1 47] (Sk 47 [mv 7,k,a 0,L,O1 7] [v 7,a 2,L,UH (.v 8),TL 5,O1 55] (Qw 55 [mv 4,v 7,a 0,L,c 206 U,Qt 4,mv 5,Ua 8,Sd 4,O1 5,O0 6] [mv 5,v 7,a 2,L,UH (.v 8),SJ (B 4),O1 5] (s [mv 4,v 7,a 0,L,c 206 U,QI,Qt 5,O1 4] (Ss [mv 7,k,a 1,L,O1 7])))))))) [O0 4,O0 5,QD 4 6])),[.t 4,.t 5,.t 6]⟩
def fn168:i_:=⟨3,Tn (A 4 5) (Sv 169 5 4 2),[.c 6 1 true,.t 7]⟩
def fn169:i_:=⟨4,s [bx 0 4,bx 1 5,bx 2 6,RH 8,O0 9] (QB [D 2 4,D 1 5,PM 6,A 0 5,L,ls,c 186 [.l 3,O,Y],A 0 5,L,ls,mv 3,ls,Qt 2,mv 3,A 0 5,L,c 225 U,TA 226 5 6,p (.a [.h false,ZZ 0,.r,.R,.R] [(0,1),(1,1),(2,1),(3,1),(4,1)]) [.l 11,.l 5,.l 4,.l 1,Y],Qj 185 18 17,e 0,e 1,PX 1 8,QJ] [(0,0,2),(1,0,2),(2,0,0),(4,0,0),(8,0,2),(15,0,1)] [(9,23)]),[.c 8 1 true,.t 9]⟩
def fn170:i_:=⟨3,Tn (A 2 5) (Sv 126 5 4 2),[.c 6 1 true,.t 7]⟩
def fn171:i_:=⟨3,QU [D 2 3,D 1 4,A 1 5,L,A 2 5,L,A 3 5,L,c 172 [.l 7,.l 6,.l 4,.l 2,Y],e 0,e 1,PX 1 6,PY 7],[.c 6 1 true,.t 7]⟩
def fn172:i_:=⟨5,s [bx 0 5,bx 1 6,bx 2 7,bx 3 8,bx 4 9,RH 10,O0 11] (s [PM 7,PM 8,A 0 6,L,ls,Qj 186 4 3,O1 12] (QB [D 2 5,D 1 6,mv 12,m Y,h 0 (.a 1 false (.v 9)),PV 1 0 6,h 2 l,Sf 3,h 4 (.a 1 false (.v 8)),t 5 su (B 1),Ti 6 186 [.l 5,O,Y],Q 7,p (.A (.func 227) 0) [.v 6,.v 7,.v 8,.v 9],SK,Qj 185 13 12,e 0,e 1,PX 1 10,QJ] [(0,0,1),(1,0,1),(4,0,0),(6,0,0),(8,0,0)] [(11,18)])),[.c 10 1 true,.t 11]⟩
def fn173:i_:=⟨3,Tn (A 4 5) (Sv 174 5 4 2),[.c 6 1 true,.t 7]⟩
def fn174:i_:=⟨4,s [bx 0 4,bx 1 5,bx 2 6,bx 3 7,RH 8,O0 9] (s [TA 228 5 6,O1 10] (QB [D 2 4,D 1 5,PM 6,PM 7,ls,A 0 5,L,ls,Qj 186 5 3,PM 7,mv 10,Rj 229 5 6 7,p (.a [.h false,ZZ 0,.r,.R,.R] [(0,1),(1,1),(2,1),(3,1),(4,1)]) [.l 3,O,.l 2,.l 1,Y],Qj 185 12 11,e 0,e 1,PX 1 8,QJ] [(0,0,1),(1,0,1),(2,0,0),(3,0,0),(6,0,0),(9,0,1)] [(9,17)])),[.c 8 1 true,.t 9]⟩
def fn175:i_:=⟨3,QU [D 2 3,D 1 4,A 4 5,L,Qj 176 3 2,e 0,e 1,PX 1 6,PY 7],[.c 6 1 true,.t 7]⟩
def fn176:i_:=⟨3,s [bx 0 3,bx 1 4,RH 6,O0 7] (QB [D 2 3,D 1 4,mv 2,ls,mv 2,c 225 [.c .r],p (.a [.h false,ZZ 0,.r,.R,.R] [(0,1),(1,1),(2,1),(3,1),(4,1)]) [tt,.l 2,.l 1,Y,.c (.E (.func 230) [] [])],Qj 185 6 5,e 0,e 1,PX 1 6,QJ] [(0,0,1),(1,0,1)] [(7,11)]),[.c 6 1 true,.t 7]⟩
def fn177:i_:=⟨4,RI (O0 8) (s [Qa 0 15] (Qi 15 2 8)) (Qb [lv 2,lv 3,q ne (B 1) 20] (Qi 20 1 8) [v 0,a 0,d 2 0,c 231 [Y,.v 1,.v 2,ff],e 0,e 1,RP 9,PX 2 9,PY 10] (QG [Sm 10,yv 0 2,Sx 1,f 2 eq [Y,O],PW 3 37] (r 37 [PR 10 8]) (s [v 0,a 2,L,q (.j 0 false) [Y,.c .O] 43] (Qx 43 [c 232 [O],e 0,e 1,v 0,a 2,Qm 1 3,o (.l 3) 10] (Qn 10 52 8))) (Qb [v 0,a 2,L,lv 2,c 233 [.l 1,.v 1,Y,ff],O1 11] (Qn 11 63 8) [D 2 9,v 0,a 0,Qm 2 2] (so [PR 3 69,Ql 69 70,O0 71] (be [.v 71,.v 70] 72 (TE [VT 69 71,L,PR 71 12,O1 13] (s [PR 13 76] (Qf 76 [v 0,a 2,L,Tw 1 12,c 182 [.l 1,Y,tt]]))) (J 71)) [O0 8])))),[.t 8]⟩
def fn178:i_:=⟨3,s [bx 0 3,RP 6,O0 7] (s [A 0 3,a 0,d 1 0,Rn 234,e 0,e 1,RJ 8,PX 1 8,PY 9] (Qb [PU 9 21] (r 21 [Rw,S 2 6,PR 9 7]) [A 1 3,L,Rn 235,e 0,e 1,PY 10,O1 9] (Qk [D 1 8,c 165 [Y,.v 10,.v 9],e 0,e 1,PX 2 6,PY 7]))),[.c 6 2 true,.t 7]⟩
def fn179:i_:=⟨3,UZ (Qb [RA 236,O1 7] (Qn 7 14 6) [QN 237,O1 8] (Qv (Td [mv 0,mv 8,mv 1,Re 1,mv 8,mv 1,mv 2,Qt 1,Qq 1 3,n (.b [.r] [(0,1),(1,1)] 2 (B 5)),Rt 238 9] []) Sq)),[.t 6]⟩
def fn180:i_:=⟨4,s [bx 0 4,RP 8,O0 9] (s [A 0 4,a 0,d 1 0,Uj 239,e 0,e 1,RJ 10,PX 1 10,PY 11] (Qb [PU 11 26] (r 26 [Rw,S 2 8,PR 11 9]) [A 1 4,L,Rn 235,e 0,e 1,RH 12,PX 1 12,QJ] (s [PM 12,c 240 [Y,.v 3,.v 2],e 0,e 1,PX 1 12,PY 11] (so [A 1 4,L,Tw 1 2,UW 3 1,N (.d 241 [.l 2,.v 1,.l 1,Y]) 53] (VB 0 (.u (.v 53) [54] (Ss [Ra 14,n (.h 2 (.v 14) (.v 54))]) (VB 1 (Ss [PM 12,A 0 14,L,A 1 14,L,c 166 [.l 4,.l 2,Y,tt],S 1 12])))) [D 1 10,PM 12,c 165 [.l 1,Y,.v 11],e 0,e 1,PX 2 8,PY 9])))),[.c 8 2 true,.t 9]⟩
def fn181:i_:=⟨4,RI (O0 8) (s [RA 236,O1 9] (Qn 9 17 8)) (Qb [QY 3,yv 0 3,yv 1 0,So 2,RF 3 0,g 4 l,yv 5 2,f 6 su (B 1),Se 7 6,PW 8 30] (Qi 30 4 8) [QN 237,O1 10] (s [Ve,O1 11] (s [VU 10 1,n (.q 1 (.v 11) Y)] (Qv (Td [mv 10,mv 1,Qq 1 1,mv 10,mv 1,mv 2,Qt 1,Qq 1 3,n (.q 1 (.l 5) Y)] []) (Qv (Td [mv 0,mv 10,mv 3,Re 1,mv 11,mv 10,mv 3,mv 0,k,a 0,L,mv 2,SJ (B 1),Rb 1 7 6,Uq [.r] [.l 10,.l 9,Y],Rt 238 14] [(10,0,0)]) (Qk [O0 8])))))),[.t 8]⟩
def fn182:i_:=⟨3,UZ (Qb [c 236 [.v 0,.v 1,i 1],O1 7] (Qn 7 12 6) [RA 242] Sq),[.t 6]⟩
def fn183:i_:=⟨2,s [bx 0 2,O0 4,O0 5] (so [QY 1,yv 0 1,QR 1 1 2,Vp,TD,PW 4 13] (Su 13 4) [A 0 2,L,QZ 243 1,k,a 2,L,O1 4,O0 5]),[.t 4,.t 5]⟩
def fn184:i_:=⟨2,s [bx 1 3,Of 4] (Qk [QN 244,Ue [Y,O],zv 0 0,t 1 (.A (.func 246) 0) [.v 3],Ti 2 245 (B 1),Q 3,O1 4]),[.t 4]⟩
def fn185:i_:=⟨3,s [bx 0 3,bx 1 4,bx 2 5,RH 6,O0 7] (QG [D 2 3,D 1 4,Rt 43 1,O1 8] (RR (PU 8 18) 18 [TP,S 1 6,PR 8 7]) (VS [A 0 5,L,Sz,O1 21] (Qw 21 [TP,S 1 6,QD 4 7] [A 1 5,L,p gt [Y,i 1024],O1 26] (r 26 [TP,S 1 6,QD 3 7]))) (QG [A 2 5,N l 32,Ql 32 33,O0 34] (Vt 1 (Ri 34 33 35) (x 35 1) (SC 2 [PO 4 32 34,d 4 0,al zI 10,PR 34 9,S 4 10] (s [D 4 10,A 0 3,L,ls,Rt 91 3,O1 11] (Qv (s [SY 11 45] (Qf 45 [A 3 5,L,D 4 10,n (.e (.l 1) [.v 9,Y]),O1 11])) (Qb [SY 11 52] (Qf 52 [D 2 3,D 4 10,Rt 92 1,e 0,e 1,O1 11]) [PU 11 60] (r 60 [TP,S 1 6,PR 11 7])))) 34)) (.i [A 4 5,L,D 2 3,A 2 5,L,Rt 248 2,n (.e (.l 4) U),c 247 U,n (.c [.r]),w 1] [8] [] [(1,0,1),(2,0,0),(4,0,0)] [(12,8)]) (so [D 1 12,c 94 U,O1 13] (RR (PU 13 75) 75 [TP,S 1 6,PR 13 7]) [D 1 12,S 1 6,O0 7]))),[.c 6 1 true,.t 7]⟩
def fn186:i_:=⟨3,TV (Of 6) [UQ 0,zv 0 0,zv 1 2,t 2 le (B 1),Q 3,zv 0 1,t 1 ge [Y,O],Q 2,zv 0 1,zv 1 2,zv 2 0,t 3 su (B 1),t 4 le (B 3),Q 5,O1 6],[.t 6]⟩
def fn187:i_:=⟨4,TV (On 5) [A 0 1,L,PM 2,PM 3,VH,O1 5],[.t 5]⟩
def fn188:i_:=⟨4,Tz (On 8) [lv 0,Ua 2,lv 3,Qt 1,n (.g zE 72 (.c (ZZ 0)) Y),O1 9] (s [mv 9,VX 6 1,Qs 6 72 1,O1 9] (s [mv 9,n (.i 6 72 Y (.v 3)),O1 9] (Qk [Tw 1 2,p (.s none 6 true false false) [.v 0,Y],n (.i 6 72 (.v 9) Y),O1 8]))),[.t 8]⟩
def fn189:i_:=⟨2,s [bx 0 2,O0 4] (Qv (s [D 1 2,c 249 U,O1 5] (Qn 5 9 4)) (so [SZ 1,yv 0 1,VJ,PW 2 16] (Qi 16 1 4) [O0 4])),[.t 4]⟩
def fn190:i_:=⟨2,s [bx 0 2,O0 4,Of 5] (s [D 1 2,QZ 44 1,e 0,e 1,PY 6,O1 7] (s [D 1 2,c 250 U,e 0,e 1,PY 8,m Y] (Qk [VT 8 6,L,O1 4,PR 7 5]))),[.t 4,.t 5]⟩
def fn191:i_:=⟨3,s [bx 0 3,O0 6,O0 7] (so [D 1 3,QZ 189 1,O1 8] (Vm 13 (O0 6)) [D 1 3,c 129 U,Ua 1,p .K [.v 2,Y],UI,O1 6,O0 7]),[.t 6,.t 7]⟩
def fn192:i_:=⟨5,s [bx 0 5,bx 1 6,On 10,O0 11] (Qb [D 2 5,D 1 6,Rt 43 1,O1 12] (TB 12 22 (On 10) (PR 12 11)) [D 1 6,c 251 [Y,.v 2,.v 3,.v 4],e 0,e 1,Ra 13,PX 2 13,PY 14] (Qb [PU 14 33] (r 33 [On 10,PR 14 11]) [A 1 13,L,A 0 13,L,SJ (B 2),QI,n (.g [ZZ 0] 8 (.c (ZZ 0)) Y),O1 15] (Qv (s [D 2 5,D 1 6,c 252 [.l 1,Y,.v 2],O1 16] (s [UQ 16,zv 0 16,PV 1 0 13,h 2 l,t 3 lt (B 2),Qr 4 53] (UD 53 15 16))) (so [A 0 13,L,O1 17] (TS [A 1 13,L,Qz 17 63] (x 63 0) (Ss [mv 15,Rv [.v 17],Qs 1 8 1,O1 15]) (I 17)) [lv 15,lv 15,VO 1 15,c 193 U,O1 10,O0 11])))),[.t 10,.t 11]⟩
def fn193:i_:=⟨1,Rk (.g [ZZ 0] 8 Y Y) (Vw 1),[.t 2]⟩
def fn194:i_:=⟨2,Tz (On 4) [Ry 253 0 1,O1 5] (Qv (RR (q eq [.v 5,i (-1)] 12) 12 [PR 0 4]) (Qb [Uh 5,O1 6] (TS [lv 0,Qz 6 19] (x 19 0) (s [VT 0 6,L,O1 7] (s [VP 7,TN 29] (Qx 29 [VT 0 5,UO 7] (I 5)))) (I 6)) [VU 0 5,n (.l [ZZ 0] Y)] (Qk [VX 1 5,O1 4]))),[.t 4]⟩
def fn195:i_:=⟨2,TV (Of 3) [A 0 1,L,QQ 6 0,a 5,L,O1 3],[.t 3]⟩
def fn196:i_:=⟨2,RI (Of 4) (s [lv 0,lv 1,q ne (B 1) 10] (RG 10 4)) (so [Ql 0 12,O0 13] (be [.v 13,.v 12] 14 (TE [PR 13 5] (Qv (ds [mv 0,mv 5,Qg 1 1,L,mv 1,mv 5,Qg 1 1,L,p (.B .neq) (B 4)] [(3,0,0),(7,0,0)] [(24,8)]) (RG 24 4))) (J 13)) [o tt 4]),[.t 4]⟩
def fn197:i_:=⟨1,RW (Qk [A 0 1,L,c 206 U,O1 2]),[.t 2]⟩
def fn198:i_:=⟨4,s [Of 8] (QB [mv 0,mv 3,Rt 73 1,mv 2,mv 1,Qt 1,p lt (B 3),m Y,zv 0 0,zv 1 3,Ti 2 73 (B 1),zv 3 0,zv 4 3,RU 5 3 1,QL 6 0,h 7 l,t 8 ad (B 5),zv 9 2,t 10 gt (B 1),Q 11,m Y] [(15,1,2)] [(8,20)]),[.t 8]⟩
def fn199:i_:=⟨1,RW (s [D 6 1,c 254 [Y,i 6],O1 3] (UC [A 0 1,L,p ne [Y,b 1],yv 0 3,Qy 1 64,PW 2 12] (TZ 12 2))),[.t 2]⟩
def fn200:i_:=⟨1,TW [Rx,Tc 64 6] (RG 6 2) [O0 3] (RN (RG 22 2)),[.t 2]⟩
def fn201:i_:=⟨1,VG (Of 2) [O0 3] (TS [Rx,TL 3,zv 0 3,t 1 lt [Y,i 17],Qr 2 11] (x 11 0) (s [Ty,p lt [Y,b 97],yv 0 0,yv 1 3,Vx,UU 3 122,P 4,zv 0 0,zv 1 3,t 2 .p (B 1),t 3 lt [Y,b 48],z 4 Y,yv 0 0,yv 1 3,Vx,UU 3 57,To 9 4,Qr 10 35] (RG 35 2)) (I 3)) [Rx,p ge [Y,i 1],zv 0 0,t 1 .g U,UT 2 16,Q 3,O1 2],[.t 2]⟩
def fn202:i_:=⟨1,VG (o (.c (.f [])) 2) [q lt [.v 0,u 10] 4] (r 4 [p ad [.v 0,u 1],p (.C true true) [.c (.f [48,49,50,51,52,53,54,55,56,57]),.v 0,Y],O1 2]) [Sr [.v 0,u 10],c 202 U,QC [.v 0,u 10],c 202 U,p (.B .add) (B 2),O1 2],[.t 2]⟩
def fn203:i_:=⟨2,s [bx 1 3,On 4] (s [On 5] (RY [lv 0,Qz 6 11] (x 11 0) (s [VR,a 2,L,O1 7] (Uv [VR,a 1,N l 23] (Qc 2 [QT 23 1,O1 24] (Sk 24 [A 2 3,L,O1 7] [QT 23 2,O1 28] (Sk 28 [A 0 3,L,c 202 U,O1 7] [QT 23 3,O1 33] (Qf 33 [A 3 3,L,ls,SG,c 202 U,O1 7])))) [mv 5,VR,a 0,L,Uk [.f [],.f []] (.v 7),Vy (.f []),Qs 2 32 5,O1 5])))),[.t 4]⟩
def fn204:i_:=⟨2,Tf 255 (Rt 204 1),[.t 4]⟩
def fn205:i_:=⟨2,RI (QD 8 4) (QO 0 (Qv (s [p mu [i 2,.v 1],Qz 4 13] (x 13 0)) (VB 1 (Ss [mv 4,p mu [Y,i 2],O1 4])))) (s [v 0,a 0,L,O1 5] (s [n (.g [ZY 0,ZX 0,ZZ 0] 24 (.v 4) (.v 4)),v 0,a 0,Qm 1 2] (s [v 0,a 2,n (.h 1 Y O)] (s [PR 5 28,Ql 28 29,O0 30] (Vt 2 (Ri 30 29 31) (x 31 2) (SC 3 [PO 3 28 30,d 3 0,Vn,S 3 7] (s [A 0 7,L,q eq [Y,b 1] 36] (Qx 36 [A 1 7,L,Rl 86 0,e 0,e 1,PY 8,m Y] (VA [mv 0,k,a 0,L,mv 8,D 3 7,RS 3 2 1,w 3]))) 30)))))),[]⟩
def fn206:i_:=⟨1,UN 3,[.t 2]⟩
def fn207:i_:=⟨3,s [bx 1 4,O0 6,O0 7,O0 8] (s [D 3 4,c 34 [.v 0,Y,.v 2],e 0,e 1,PY 9,O1 8] (QG [PU 8 22] (r 22 [mv 8,O0 6,O0 7,O1 8]) (RR (q ne [.v 9,.v 2] 26) 26 [O0 6,O0 7,QD 4 8]) (Qb [QN 70,Tk 29] (r 29 [O0 6,O0 7,O0 8]) [v 0,a 0,d 2 0,QZ 108 2,e 0,e 1,e 2,Sd 10,QJ,PY 8] (Qb [PU 8 41] (r 41 [mv 8,O0 6,O0 7,O1 8]) [QN 70,RQ,O1 12] (Qv (s [A 0 4,L,UH (.v 2),RQ,O1 13] (s [QN 28,Qz 13 54] (Qx 54 [v 0,a 0,d 2 0,QZ 108 13,e 0,e 1,e 2,Sd 12,O1 8] (RR (PU 8 66) 66 [mv 8,O0 6,O0 7,O1 8])))) (QB [mv 10,A 1 4,L,SJ (B 2),UI,mv 0,c 70 U,mv 12,QI,A 1 4,L,Qt 2,TU 5,TT 8,QJ,m O] [(2,0,1),(10,0,1)] [(6,13),(7,14),(8,15)])))))),[.t 6,.t 7,.t 8]⟩
def fn208:i_:=⟨2,UR (RR (Qa 0 11) 11 [O0 4,QD 2 5]) (Qb [QN 70,Ue [Y,O],zv 0 1,Sc 1,Qr 2 18] (Su 18 11) [v 0,a 0,d 2 0,QZ 108 1,e 0,e 1,e 2,Sd 6,QJ,PY 8] (Qb [PU 8 30] (r 30 [O0 4,PR 8 5]) [v 0,a 2,L,Uh 6,Rt 256 1,e 0,e 1,PY 9,O1 8] (Qv (TB 8 43 (O0 4) (PR 8 5)) (so [SY 9 46] (Su 46 11) [v 0,a 2,L,VF 9,Rt 257 1,e 0,e 1,PY 4,O1 5])))),[.t 4,.t 5]⟩
def fn209:i_:=⟨2,TV (O0 4) [c 258 [.v 0,.v 1,tt],O1 4],[.t 4]⟩
def fn210:i_:=⟨2,Qe [VT 0 5,L,US],[.t 4]⟩
def fn211:i_:=⟨1,RM [p lt [.v 0,.c (.A .i32 97)],yv 0 0,UL 122,P 2,zv 0 0,t 1 lt [Y,.c (.A .i32 48)],z 2 Y,yv 0 0,UL 57,To 5 2,Q 6,O1 2],[.t 2]⟩
def fn212:i_:=⟨2,s [bx 1 3,O0 4] (Qb [v 0,a 0,L,q ne [Y,b 1] 11] (TZ 11 4) [al [ZZ 0] 5,n (.h 1 (.v 5) O)] (Tz (al [.R] 6) [Rj 259 5 3 6,S 1 6] (so [PM 6,n (.e Y [.v 0,.c (ZZ 1)]),TN 16] (TZ 16 4) [PM 5,O1 4]))),[.t 4]⟩
def fn213:i_:=⟨1,.f,[]⟩
def fn214:i_:=⟨1,RM [TM 4 2,c 261 U,Ue [Y,O],O1 2],[.t 2]⟩
def fn215:i_:=⟨1,RM [QN 216,Sz,O1 2],[.t 2]⟩
def fn216:i_:=⟨1,RM [TM 1 1,c 261 U,Ue [Y,O],O1 2],[.t 2]⟩
def fn217:i_:=⟨4,s [bx 0 4,bx 1 5,al zN 8] (QB [A 1 5,L,mv 2,D 4 4,A 3 5,L,Rt 262 2,mv 3,c 263 U,Ta (.l 7) (.l 6) (.l 2),S 6 8] [(1,0,2),(3,0,0),(5,0,0)] []),[.c 8 6 true]⟩
def fn218:i_:=⟨1,TV (al zN 2) [TM 4 2,S 6 2],[.c 2 6 true]⟩
def fn219:i_:=⟨1,Tz (o (.c (.f [])) 2) [al [ZY 0,ZY 0,ZY 0,ZY 0,ZY 0,ZY 0,ZY 0,ZY 0,ZY 0,ZY 0,ZY 0,ZY 0,ZY 0,ZY 0,ZY 0,ZY 0,ZY 0,ZY 0,ZY 0,ZY 0] 3] (s [QD 20 4] (QO 0 (TE [mv 4,RQ,O1 4] (s [QC [.v 0,u 10],p .p [.c (.f [48,49,50,51,52,53,54,55,56,57]),Y],p (.l 20 1) [.v 3,.v 4],w 1] (s [mv 0,Sr [Y,u 10],O1 0] (RR (q eq [.v 0,u 0] 15) 15 [p (.s (some 20) 1 true false false) [.v 3,.v 4],n (.j Y),O1 2])))))),[.t 2]⟩
def fn220:i_:=⟨1,s [bx 0 1,al [ZZ 0] 2,al [ZZ 0] 3] (Tz (al [.R] 4) [Rj 264 2 3 4,S 1 4] (Qv (s [PM 4,n (.e Y [.v 1,.c (ZZ 1)]),TN 8] (r 8 [n (.h 1 (.v 2) O),n (.h 1 (.v 3) O)])) (QB [PM 2,PM 3,PX 1 2,PX 1 3] [(0,0,0),(1,0,1)] []))),[.c 2 1 false,.c 3 1 false]⟩
def fn221:i_:=⟨2,s [Qh 4,Qh 5] (Qv (RR (Qa 0 8) 8 [Qh 4,Qh 5]) (Qb [v 0,a 0,L,c 206 U,O1 6] (s [q gt [.v 1,.v 6] 16] (Qx 16 [v 0,a 1,L,UW 1 6,RQ,Rt 221 2,e 0,e 1,PY 4,O1 5] (.e (Vf [mv 0,k,a 0,L,mv 0,k,a 2,L,mv 4,Qj 222 5 1,mv 5,QJ,QJ] [0,1,2,3,4,5,6,7,8,9,11,10,12] [(3,0,0),(7,0,0)] [(4,11),(5,12)]) .q))) [v 0,a 0,L,QZ 221 1,e 0,e 1,PY 4,O1 5] (QB [mv 4,mv 5,mv 0,k,a 2,L,mv 0,k,a 1,L,Qj 222 8 4,TT 10,QJ] [(5,0,0),(9,0,0)] [(4,11),(5,12)]))),[.t 4,.t 5]⟩
def fn222:i_:=⟨3,RI (Qh 6) (VS [QN 266,Uo 266 2,QI,UE 2,O1 7] (.d (.v 7) (QB [mv 0,k,a 0,L,mv 0,k,a 2,L,mv 0,k,a 1,L,mv 1,mv 2,Qj 222 2 1,Qj 267 11 7,m Y] [(3,0,1),(7,0,1),(11,0,0)] [(6,16)]) (s [Uo 266 2,QN 266,QI,UE 2,O1 30] (TJ (.v 30) (QB [mv 0,mv 1,mv 2,k,a 0,L,Qj 222 5 4,mv 2,k,a 2,L,mv 2,k,a 1,L,Qj 267 8 4,m Y] [(5,0,0),(10,0,1),(14,0,1)] [(6,16)]))))) (Qk [RA 268,O1 6]),[.t 6]⟩
def fn223:i_:=⟨2,SU 270,[.t 4,.t 5]⟩
def fn224:i_:=⟨2,SU 271,[.t 4,.t 5]⟩
def fn225:i_:=⟨1,Tz (o (.c .R) 2) [n (.s []),al [.nilm] 3,S 1 3] (so [PR 0 7,Ql 7 8,O0 9] (be [.v 9,.v 8] 10 (TE [PO 6 7 9,d 6 0,al zE 5,S 6 5] (Ss [PM 3,A 0 5,a 0,L,SF (.l 3)])) (J 9)) [QK 272 0 3,O1 2]),[.t 2]⟩
def fn226:i_:=⟨3,TV (On 4) [A 0 1,L,PM 2,c 188 [.l 1,Y,O,.v 0],O1 4],[.t 4]⟩
def fn227:i_:=⟨5,s [On 6] (QB [A 0 1,L,PM 2,PM 3,VH,PM 4,A 0 1,L,PM 2,PM 2,PM 3,Qt 1,Rb 6 4 3,c 188 [.l 8,.l 7,O,Y],m Y] [(1,0,0),(2,0,0),(3,0,0),(5,0,1),(7,0,1),(8,0,1),(9,0,1),(10,0,1)] [(6,14)]),[.t 6]⟩
def fn228:i_:=⟨4,s [bx 1 5,O0 6] (Qv (Qv (ds [A 0 2,L,PM 3,mv 0,Qt 1,Qg 6 3,a 0,a 0,L,A 0 5,L,p ne (B 2)] [(1,0,0),(2,0,0),(8,0,0),(10,0,0)] [(18,11)]) (Qi 18 9 6)) Sq),[.t 6]⟩
def fn229:i_:=⟨4,TV (On 5) [A 0 1,L,PM 2,PM 3,ls,c 188 [.l 3,.l 2,Y,.v 0],O1 5],[.t 5]⟩
def fn230:i_:=⟨1,TV (On 2) [PR 0 2],[.t 2]⟩
def fn231:i_:=⟨4,s [bx 0 4,RP 8,O0 9] (Qv (VS [QY 1,yv 0 1,QR 1 2 4,QA 2 133,Se 3 2,P 4,O1 16] (Qw 16 [Rw,S 2 8,QD 4 9] [lv 2,D 2 4,c 133 U,SJ [i 1024,Y],UE 3,O1 26] (r 26 [Rw,S 2 8,QD 3 9]))) (Qb [PR 2 34,Ql 34 35,O0 36] (Vt 1 (Ri 36 35 37) (x 37 1) (SC 2 [VT 34 36,L,PR 36 10,O1 11] (Qb [N (.d 163 [.v 11]) 42] (r 42 [Rw,S 2 8,QD 12 9]) [Uh 10,p (.s none 1 false true false) [.v 2,Y],c 273 U,O1 12] (RR (PU 12 50) 50 [Rw,S 2 8,PR 12 9])) 36)) [A 0 4,a 0,d 1 0,Rn 274,e 0,e 1,RJ 13,PX 1 13,PY 14] (Qb [PU 14 64] (r 64 [Rw,S 2 8,PR 14 9]) [A 1 4,L,lv 2,c 240 [.l 1,.v 1,Y],e 0,e 1,PY 15,O1 14] (QB [D 1 13,mv 15,mv 1,mv 1,mv 2,ls,Qt 2,mv 3,Sv 166 6 5 1,mv 14,Qj 165 9 1,e 0,e 1,PX 2 8,QJ] [(0,0,1)] [(9,14)])))),[.c 8 2 true,.t 9]⟩
def fn232:i_:=⟨1,s [Qh 2,O0 3] (Qv (VS [QY 0,O1 4] (Qw 4 [Qh 2,QD 4 3] [p gt [.v 0,i 4096],O1 7] (r 7 [Qh 2,QD 3 3]))) (Qk [UB [ZZ 0,ZZ 0,ZX 0,ZX 0,ZX 0,ZX 0,ZX 0,ZX 0,ZX 0,ZX 0,ZX 0,ZX 0,ZX 0,ZX 0,ZX 0,ZX 0,ZX 0,ZX 0,ZX 0,ZX 0,ZX 0,ZX 0,ZX 0,ZX 0,ZX 0,ZX 0,ZX 0,ZX 0,ZX 0,ZX 0,ZX 0,ZX 0,ZX 0,ZX 0,ZX 0,ZX 0,ZX 0,ZX 0,ZX 0,ZX 0,ZX 0,ZX 0,ZX 0,ZX 0,ZX 0,ZX 0,ZX 0,ZX 0,ZX 0,ZX 0,ZX 0,ZX 0,ZX 0,ZX 0,ZX 0,ZX 0,ZX 0,ZX 0,ZX 0,ZX 0,ZX 0,ZX 0,ZX 0,ZX 0,ZX 0,ZX 0] (.v 0),Tv,O1 2,O0 3])),[.t 2,.t 3]⟩
def fn233:i_:=⟨4,s [O0 8] (QG [c 236 [.v 0,.v 1,O],O1 9] (Qn 9 17 8) (VS [QY 2,O1 19] (Qw 19 [QD 4 8] [v 0,a 0,L,SJ [i 4096,Y],p gt [.v 2,Y],O1 22] (Qi 22 3 8))) (s [Ve,O1 10] (Qb [Ql 10 33,O0 34] (Vt 1 (Ri 34 33 35) (x 35 1) (SC 2 [PR 34 11] (Ss [VT 10 11,UO 3]) 34)) [QN 237,O1 12] (Qv (Td [mv 0,mv 12,mv 1,Re 1,mv 10,mv 12,mv 1,Qq 1 1,Uq [.r] [.l 4,.l 3,Y],Rt 238 8] []) (Qk [O0 8]))))),[.t 8]⟩
def fn234:i_:=⟨3,Vk [D 1 3,Rn 275,e 0,e 1,e 2,e 3,o (.l 3) 8,TT 2,Sd 10,PY 11] (so [PU 11 22] (r 22 [RZ,S 1 6,PR 11 7]) [Ry 276 8 10,Rc,S 1 6,O0 7]),[.c 6 1 true,.t 7]⟩
def fn235:i_:=⟨3,s [On 6,O0 7] (Qb [RA 277,O1 8] (Vm 17 (On 6)) [On 9] (so [PR 0 19,Ql 19 20,O0 21] (be [.v 21,.v 20] 22 (TE [PO 2 19 21,d 2 0,Ra 11,S 2 11] (s [mv 9,A 0 11,L,A 1 11,L,p .K [Y,.v 1],Qj 278 5 3,O1 9] (Ss [mv 9,A 0 11,L,Tw 1 2,p .F (B 1),Ua 2,A 1 11,L,Ua 2,Qj 278 8 3,O1 9]))) (J 21)) [Uo 279 9,e 0,e 1,PY 6,O1 7])),[.t 6,.t 7]⟩
def fn236:i_:=⟨3,Ub [QY 1,yv 0 2,Uy,P 2,yv 0 1,yv 1 0,So 2,RF 3 0,g 4 l,Se 5 4,P 6,yv 0 2,yv 1 0,So 2,RF 3 0,g 4 l,yv 5 1,f 6 su (B 1),Se 7 6,P 8,O1 10],[.t 6]⟩
def fn237:i_:=⟨1,Tz (On 2) [v 0,a 0,L,n (.g [.h false] 1 Y Y),O1 3] (UC [Ql 3 11,O0 12] (be [.v 12,.v 11] 13 (TE [PR 12 4] (Ss [Ry 280 0 4,VT 3 4,w 1])) (J 12))),[.t 2]⟩
def fn238:i_:=⟨2,s [Qo [ZZ 0,ZZ 0,ZX 0,ZX 0,ZX 0,ZX 0,ZX 0,ZX 0,ZX 0,ZX 0,ZX 0,ZX 0,ZX 0,ZX 0,ZX 0,ZX 0,ZX 0,ZX 0,ZX 0,ZX 0,ZX 0,ZX 0,ZX 0,ZX 0,ZX 0,ZX 0,ZX 0,ZX 0,ZX 0,ZX 0,ZX 0,ZX 0,ZX 0,ZX 0,ZX 0,ZX 0,ZX 0,ZX 0,ZX 0,ZX 0,ZX 0,ZX 0,ZX 0,ZX 0,ZX 0,ZX 0,ZX 0,ZX 0,ZX 0,ZX 0,ZX 0,ZX 0,ZX 0,ZX 0,ZX 0,ZX 0,ZX 0,ZX 0,ZX 0,ZX 0,ZX 0,ZX 0,ZX 0,ZX 0,ZX 0,ZX 0],v 0,w 66] (Qb [PR 1 14,Ql 14 15,O0 16] (be [.v 16,.v 15] 17 (TE [VT 14 16,L,O1 5] (Ss [v 0,a 0,L,lv 5,Qt 1,v 0,a 0,Qm 1 2])) (J 16)) [O0 6] (s [PR 1 30,Ql 30 31,O0 32] (Vt 2 (Ri 32 31 33) (x 33 2) (SC 3 [VT 30 32,L,O1 8] (s [PR 8 36,Ql 36 37,O0 38] (Vt 4 (Ri 38 37 39) (x 39 4) (SC 5 [VT 36 38,L,O1 10] (s [c 242 [.v 0,.v 6,.v 10]] (I 6)) 38))) 32)))),[]⟩
def fn239:i_:=⟨4,s [bx 0 4,RJ 8,O0 9] (s [D 1 4,Rn 275,e 0,e 1,e 2,e 3,o (.l 3) 10,Sd 11,PY 12,O1 13] (Qv (s [Ue [.v 13,O],zv 0 3,t 1 lt [Y,O],z 2 Y,yv 0 3,QR 1 1 4,Vp,yv 3 2,Uz,Se 5 4,To 9 6,Qr 10 38] (Qf 38 [QD 4 13])) (Qb [PU 13 40] (r 40 [RZ,S 1 8,PR 13 9]) [Ry 276 10 12,QZ 221 3,e 0,e 1,PY 14,O1 15] (Qk [Ry 276 14 11,QZ 276 15,Rc,S 1 8,O0 9])))),[.c 8 1 true,.t 9]⟩
def fn240:i_:=⟨3,s [On 6,O0 7] (Qv (s [RA 277,O1 8] (Vm 18 (On 6))) (Qb [lv 0,RQ,O1 9] (s [UQ 9,zv 0 0,zv 1 9,RU 2 2 1,QL 3 1,h 4 l,zv 5 1,t 6 gt (B 1),Q 7,zv 0 0,zv 1 9,RU 2 2 1,QL 3 1,h 4 l,zv 5 2,t 6 ad (B 1),t 7 gt [Y,i 1073741824],Qr 8 43] (r 43 [On 6,QD 4 7])) [On 10] (so [PR 0 44,Ql 44 45,O0 46] (be [.v 46,.v 45] 47 (TE [PO 2 44 46,d 2 0,Ra 12,S 2 12] (s [mv 10,A 0 12,L,A 1 12,L,p .K [Y,.v 1],Qj 278 5 3,O1 10] (Ss [mv 10,A 0 12,L,p .F [Y,.v 1],Te 2,A 1 12,L,Te 2,Qj 278 7 3,O1 10]))) (J 46)) [Uo 279 10,e 0,e 1,PY 6,O1 7]))),[.t 6,.t 7]⟩
def fn241:i_:=⟨4,s [bx 0 4,bx 1 5,bx 2 6,bx 3 7,o (.c .R) 8] (Qk [p (.A (.func 281) 0) [.v 4,.v 5,.v 7,.v 6],O1 8]),[.t 8]⟩
def fn242:i_:=⟨3,s [Ry 280 0 1,q (.J true) [Y,.v 2] 10] (TJ (.v 10) (Qv (Td [mv 0,mv 1,Sr [Y,i 64],Ug 2,a 2,Um 2,L,mv 1,QC [Y,i 64],p (.E true) [u 1,Y],p (.e .xor) (B 3),Ug 10,a 2,Um 10,Qm 1 3] [(6,0,0)]) (s [PR 2 25] (.d (.v 25) (Ss [v 0,a 1,L,QI,v 0,a 1,Qm 1 2]) (Ss [v 0,a 1,L,RQ,v 0,a 1,Qm 1 2]))))),[]⟩
def fn243:i_:=⟨2,VG (Qh 4) [v 0,a 0,L,c 206 U,O1 5] (VS [p lt [.v 1,.v 5],O1 11] (Qw 11 [v 0,a 0,L,QZ 243 1,O1 4] [p gt [.v 1,.v 5],O1 21] (r 21 [v 0,a 1,L,UW 1 5,RQ,Rt 243 2,O1 4]))) [PR 0 4],[.t 4]⟩
def fn244:i_:=⟨1,Tu (Tj 3) (UP [PO 2 9 11,d 2 0,Ra 5,S 2 5] (Qv (Qc 2 [A 0 5,L,VM,Qd 0 5,g 1 l,TX 2 1 5,g 3 l,f 4 ge (B 2),P 5,Qd 1 5,g 1 l,Qy 2 1073741824,P 3,O1 15] (Qw 15 [QD 1 2] [A 0 5,L,p le [Y,.v 3],O1 31] (Qi 31 16 2))) (Ss [A 1 5,L,O1 3]))),[.t 2]⟩
def fn245:i_:=⟨2,QF 282,[.t 4]⟩
def fn246:i_:=⟨2,Ul [A 0 2,L,PM 1,p le (B 1),h 0 (.a 1 false (.v 1)),PV 1 1 2,h 2 l,t 3 lt (B 2),Q 4,O1 3],[.t 3]⟩
def fn247:i_:=⟨1,s [RH 2] (Qb [lv 0,Tk 8] (r 8 [TP,S 1 2]) [lv 0,n (.g zE 72 Y Y),O1 3] (so [PR 0 13,Ql 13 14,O0 15] (be [.v 15,.v 14] 16 (TE [PO 6 13 15,d 6 0,al zE 5,PR 15 4,S 6 5] (s [A 0 5,d 4 0,Tt,c 283 U,p (.c 4) [Y,O],d 4 0,A 0 5,w 4] (Ss [D 6 5,PO 6 3 4,w 6]))) (J 15)) [UB [.r] (.v 3),S 1 2])),[.c 2 1 true]⟩
def fn248:i_:=⟨2,SH (.g zE 72 Y Y) (TE [PO 4 11 13,d 4 0,al zI 7,PR 13 6,S 4 7] (Td [mv 5,mv 6,D 4 7,A 0 2,L,A 1 7,L,Qg 9 2,a 6,L,Vj,RS 6 10 9,w 6] [(2,0,0),(4,0,0),(6,0,0),(9,0,0)])),[.t 4]⟩
def fn249:i_:=⟨1,RW (QG [A 0 1,L,ls,Tc 1024 6] (Qi 6 3 2) (s [A 0 1,L,N (.d 284 [Y,.c (.E (.func 285) [] [])]) 9] (Qi 9 12 2)) (Vh 12)),[.t 2]⟩
def fn250:i_:=⟨1,s [bx 0 1,On 2,O0 3] (Qb [D 1 1,c 249 U,O1 4] (TB 4 10 (On 2) (PR 4 3)) [A 0 1,L,ls,QI,n (.g [ZZ 0] 8 Y Y),O1 5] (so [A 0 1,L,q .d U 19,O0 20] (be [.v 20,.v 19] 21 (TE [PR 20 6] (Td [mv 5,mv 6,QI,mv 5,mv 6,Qg 1 1,L,A 0 1,L,mv 6,Qg 6 1,a 4,L,Qt 6,RS 1 13 11,w 1] [(6,0,0),(8,0,0),(12,0,0)])) (J 20)) [PR 5 2,O0 3])),[.t 2,.t 3]⟩
def fn251:i_:=⟨4,s [bx 0 4,Ra 8,O0 9] (s [D 1 4,Rn 286,e 0,e 1,e 2,Sd 10,PY 11,O1 12] (Qv (VS [Sm 12,O1 22] (Qw 22 [Ud,S 2 8,PR 12 9] [QY 3,yv 0 3,Qy 1 16,P 2,O1 27] (r 27 [Ud,S 2 8,QD 1 9]))) (s [Sj 10 11,Ra 13,S 2 13] (so [D 2 13,Ud,q (.I false [0,0]) (B 1) 40] (r 40 [D 2 13,S 2 8,O0 9]) [UW 10 3,UI,A 0 4,L,ls,Tw 11 3,TU 1,Vu [ZZ 0,ZZ 0] 5,S 2 8,O0 9])))),[.c 8 2 true,.t 9]⟩
def fn252:i_:=⟨3,s [bx 0 3,bx 1 4,O0 6] (s [D 1 4,c 250 U,e 0,e 1,PY 7,m Y] (VG (Tj 9) [A 0 4,N l 18,Ql 18 19,O0 20] (be [.v 20,.v 19] 21 (TE [PO 6 18 20,d 6 0,al zE 11,PR 20 10,S 6 11] (Qb [VT 7 10,L,q gt [Y,.v 2] 30] (QM 30 0) [A 0 3,L,A 0 11,a 1,L,Qg 9 3,a 7,N l 38] (Qf 38 [PR 10 9]))) (J 20)) [PR 9 6])),[.t 6]⟩
def fn253:i_:=⟨2,Qe [VT 0 5,L,US],[.t 4]⟩
def fn254:i_:=⟨2,Tf 287 (Rt 254 1),[.t 4]⟩
def noC:IC:=so [O0 5] (lp 4 5 [A 5 1,L,ls,Qz 5 119] (x 119 4) (UZ (lp 6 7 [Ri 6 5 124] (x 124 6) (VV [A 5 1,L,mv 5,Qg 6 1,a 2,L,Tx,m Y,RT 5,h 1 l,zv 2 5,RU 3 6 1,QL 4 2,h 5 l,PV 6 5 1,h 7 l,zv 8 6,RU 9 6 1,QL 10 2,h 11 l,t 12 (.B .eql) (B 6),Q 13] [(1,0,0),(5,0,0),(9,0,0),(13,0,0),(15,0,0),(19,0,0)] [(148,21)] 148) (I 6))) (I 5)) [o tt 2]
def noA:IC:=.e (s [O0 3] (TS [A 3 1,L,ls,Qz 3 76] (x 76 0) (Qb [A 3 1,L,QQ 2 3,a 0,L,c 201 U,Sz,Qd 3 1,g 1 l,yv 2 3,f 3 (.c 2) (B 1),RF 4 1,g 5 l,QA 6 200,Rm 7,PW 8 96] (RG 96 2) [O0 4] (lp 2 3 [Ri 4 3 99] (x 99 2) (VV [A 3 1,L,mv 4,Qg 2 1,a 0,L,A 3 1,L,mv 3,Qg 2 1,a 0,L,p (.B .geq) (B 6)] [(1,0,0),(5,0,0),(7,0,0),(11,0,0)] [(114,12)] 114) (I 4))) (I 3))) noC
def fn273x:i_:=⟨1,s [bx 0 1,Of 2] (Qv (s [A 0 1,L,q eq [Y,b 2] 9] (r 9 [A 4 1,L,c 200 U,RT 1,h 1 l,Qp 2,Q 3,RT 2,h 1 l,Qp 2,Q 3,RT 3,h 1 l,Sf 2,Sc 3,Q 4,RT 5,h 1 l,Sf 2,Sc 3,Q 4,O1 2])) (.e (s [A 0 1,L,p ne [Y,b 1],Qd 1 1,g 1 l,QA 2 201,Rm 3,P 4,Qd 2 1,g 1 l,SL 2,y 3 Y,RT 2,h 1 l,UM 2 201,Vc 3,QP 8 4,P 9,Qd 4 1,g 1 l,SL 2,P 3,Qd 3 1,g 1 l,Sx 2,Qy 3 8,P 4,Qd 5 1,g 1 l,Sx 2,Qy 3 16,PW 4 71] (RG 71 2)) noA)),[.t 2]⟩
def fn256:i_:=⟨2,s [O0 4,O0 5] (Qb [c 236 [.v 0,.v 1,O],O1 6] (TB 6 15 (O0 4) (PR 6 5)) [O0 7] (Qv (s [v 0,a 2,VN,q (.s (some 64) 1 false true false) (B 1) 22,Ql 22 23,O0 24] (be [.v 24,.v 23] 25 (TE [VT 22 24,L,O1 9] (Ss [mv 7,Uo 288 9,Qt 1,O1 7])) (J 24))) (so [QC [.v 1,i 64],O1 10] (s [Ut 10 36] (Qf 36 [mv 7,VN,v 0,a 2,Um 2,L,SJ [i 64,.v 10],p (.E true) (B 1),c 288 U,Qt 8,O1 7])) [PR 7 4,O0 5]))),[.t 4,.t 5]⟩
def fn257:i_:=⟨2,UR (VS [Rg,O1 9] (Qw 9 [O0 4,QD 2 5] [QY 1,yv 0 1,yv 1 0,So 2,RF 3 1,g 4 l,f 5 ge (B 4),P 6,O1 12] (Su 12 11))) (so [v 0,a 2,N (.a 64 true Y) 26,O0 27] (Vt 1 (q lt [.v 27,i 64] 28) (x 28 1) (SC 2 [p (.f 64 1 false) [.v 26,.v 27],PR 27 6,O1 7] (s [Uo 288 7,O1 8] (QG [q ge [.v 1,.v 8] 35] (Qx 35 [mv 1,Ua 8,O1 1] (.k 2)) (lp 3 4 [Ut 1 40] (x 40 3) (Ss [mv 7,mv 7,SJ [Y,u 1],SI (B 2),O1 7]) (Ss [mv 1,RQ,O1 1])) (Qk [p mu [.v 6,i 64],Uo 289 7,Qt 1,O1 4,O0 5]))) 27)) [O0 4,QD 11 5]),[.t 4,.t 5]⟩
def fn258:i_:=⟨3,UZ (so [N (.v false (.v 0)) 10] (QO 0 (s [N (.v true (.v 10)) 11,q (.v 0) [.v 11] 12] (Qv (x 12 0) (TE [p (.v 1) [.v 11],p (.v 2) [.v 11],PY 7,O1 8] (s [VP 8,q (.J false) [Y,.v 2] 19] (r 19 [PR 7 6])))))) [Tj 6]),[.t 6]⟩
def fn259:i_:=⟨5,Tz (Of 7) [PM 2,QI,S 1 2] (Qb [p gt [.v 1,i 6],Vo 0,Qy 1 64,P 2,yv 0 0,QA 1 260,Rm 2,PW 3 21] (RG 21 7) [PM 3,n (.e Y [.v 0])] QW),[.t 7]⟩
def fn260:i_:=⟨1,Tz (Of 2) [v 0,d 6 0,al zN 3,S 6 3] (so [v 0,a 0,N l 10] (Ui 0 5 (Qv (Ui 4 3 (Qv (VB 2 (Qv (VB 1 (Qv (QG [QT 10 1,O1 11] (QM 11 1) (s [QT 10 5,O1 13] (QM 13 2)) (QG [QT 10 2,O1 15] (QM 15 3) (Us 10 17) (QM 17 4))) (.k 5))) (Uv [v 0,a 2,L,Tx,zv 0 0,Tp,QL 2 2,h 3 l,UM 4 216,Vc 5,Q 6,yv 0 0,So 1,RF 2 5,g 3 l,Sx 4,Qy 5 16,PW 6 40] (RG 40 2) [A 2 3,Vr,A 5 3,RC (.c .r)]))) (Qv (Uv [v 0,a 1,L,c 216 U,Sz,yv 0 0,So 1,RF 2 3,g 3 l,QA 4 290,Rm 5,PW 6 56] (RG 56 2) [A 1 3,Vr,A 3 3,RC (.c .r)]) (.k 0))) (Uv [v 0,a 4,L,c 214 U,TN 64] (RG 64 2) [A 4 3,Vr])) (.k 0)) (Qk [Of 2])) [A 1 3,L,Vz,PV 0 2 3,h 1 l,Qp 2,Q 3,PV 0 4 3,h 1 l,Qp 2,Q 3,PV 0 3 3,h 1 l,Sf 2,Sc 3,Q 4,PV 0 5 3,h 1 l,Sf 2,Sc 3,Q 4,O1 2]),[.t 2]⟩
def fn261:i_:=⟨1,QS 162,[.t 2]⟩
def fn262:i_:=⟨2,SH (.g [.f [],.f []] 32 Y Y) (TE [PO 3 11 13,d 3 0,TQ 7,PR 13 6,S 3 7] (Td [mv 5,mv 6,A 0 7,L,A 2 7,L,A 0 2,a 2,L,A 0 2,a 0,L,c 219 U,A 0 2,a 3,L,ls,SG,c 219 U,p (.a [.f [],.f [],.f [],.f []] [(0,1),(1,1),(2,1),(3,1)]) [.l 13,.l 10,.l 6,Y],A 1 7,L,p (.f 4 1 false) (B 2),Vu [.f [],.f []] 19,RS 2 23 22,w 2] [(3,0,2),(5,0,2),(8,0,2),(11,0,0),(15,0,1),(21,0,2)])),[.t 4]⟩
def fn263:i_:=⟨1,Rq 6,[.t 2]⟩
def fn264:i_:=⟨5,Tz (Of 7) [PM 2,QI,S 1 2] (s [PM 3,p .F [Y,.v 1],S 1 3] (Qv (s [p gt [.v 1,i 6],Vo 0,Qy 1 64,P 2,yv 0 0,QA 1 265,Rm 2,PW 3 24] (RG 24 7)) QW)),[.t 7]⟩
def alC:IC:=so [v 0,a 5,N l 140,Ql 140 141,O0 142] (Vt 2 (Ri 142 141 143) (x 143 2) (SC 3 [PO 6 140 142,d 6 0,al zN 6,PR 142 5,S 6 6] (s [A 2 6,L,Tx,zv 0 0,Tp,QL 2 5,h 3 l,zv 4 5,t 5 (.s none 6 false true false) (B 1),t 6 (.A (.func 294) 0) [.v 6],Ti 7 293 (B 1),Qr 8 159] (RG 159 2)) 142)) [o tt 2]
def alA:IC:=.e (s [v 0,a 3,N l 101,Ql 101 102,O0 103] (be [.v 103,.v 102] 104 (TE [PO 2 101 103,d 2 0,al [.f [],.f []] 4,PR 103 3,S 2 4] (VV [A 0 4,L,c 292 U,Sz,m Y,Qd 1 4,g 1 l,QA 2 291,Rm 3,P 4,m Y,yv 0 3,f 1 gt [Y,O],y 2 Y,PV 0 0 4,h 1 l,zv 2 0,t 3 .h U,QL 4 3,h 5 l,zv 6 3,t 7 su [Y,i 1],RU 8 2 2,QL 9 0,h 10 l,t 11 (.B .leq) (B 9),QP 15 12,P 16] [(1,0,0),(6,1,1),(15,2,2),(19,2,2),(24,2,2)] [(135,27)] 135)) (J 103))) alC
def fn253x:i_:=⟨1,RI (Of 2) (s [v 0,a 0,L,q eq [Y,b 2] 11] (r 11 [v 0,a 4,L,c 291 U,zv 0 0,Tp,QL 2 1,h 3 l,Qp 4,Q 5,zv 0 0,Tp,QL 2 2,h 3 l,Qp 4,Q 5,zv 0 0,Tp,QL 2 3,h 3 l,Sf 4,Sc 5,Q 6,zv 0 0,Tp,QL 2 5,h 3 l,Sf 4,Sc 5,Q 6,O1 2])) (.e (s [v 0,a 0,L,p ne [Y,b 1],yv 0 0,So 1,RF 2 1,g 3 l,QA 4 292,Rm 5,P 6,yv 0 0,So 1,RF 2 2,g 3 l,SL 4,y 5 Y,zv 0 0,Tp,QL 2 2,h 3 l,UM 4 292,Vc 5,QP 12 6,P 13,yv 0 0,So 1,RF 2 4,g 3 l,SL 4,P 5,yv 0 0,So 1,RF 2 3,g 3 l,Sx 4,Qy 5 8,P 6,yv 0 0,So 1,RF 2 5,g 3 l,Sx 4,Qy 5 16,PW 6 97] (RG 97 2)) alA),[.t 2]⟩
def fn266:i_:=⟨1,UN 5,[.t 2]⟩
def fn267:i_:=⟨3,s [bx 0 3,bx 1 4,bx 2 5,Qh 6] (s [Rj 295 3 4 5,O1 7] (s [Rj 296 5 3 4,O1 8] (s [Rj 297 3 4 5,O1 9] (RI (PR 7 10) (Qv (ds [PM 5,c 266 U,PM 3,c 266 U,SJ (B 2),m Y] [(0,0,0),(2,0,1)] [(11,5)]) (VS [p gt [.v 11,i 1],O1 21] (Sk 21 [PR 8 10] [p lt [.v 11,i (-1)],O1 25] (Qf 25 [PR 9 10])))) (Qk [n (.e (.v 10) []),O1 6]))))),[.t 6]⟩
def fn268:i_:=⟨3,TV (Qh 6) [QN 206,Uo 206 2,Qt 1,QI,QN 137,Te 1,Uo 137 2,Qt 1,QN 266,Uo 266 2,p .F (B 1),QI,p (.a [.O,.O,ZZ 0,ZZ 0,ZZ 0,ZZ 0] [(0,1),(1,1),(2,1),(3,1),(4,1),(5,1)]) [.v 0,.v 2,.v 1,.l 8,.l 4,Y],Tv,O1 6],[.t 6]⟩
def fn269:i_:=⟨3,s [On 6,O0 7] (.j (Qb [Ry 298 0 1,O1 8] (Vm 20 (On 6)) [On 9] (s [O0 10] (s [O0 11,O0 12] PN))) 0 PN),[.t 6,.t 7]⟩
def fn270:i_:=⟨2,TV (Of 4) [tv 0 .o [.v 1],tv 0 .u U,p .r [.v 0,Y,ff],O1 4],[.t 4]⟩
def fn271:i_:=⟨2,TV (Of 4) [fv 0 .o [.v 1],p .r [.v 0,tt,Y],O1 4],[.t 4]⟩
def fn272:i_:=⟨3,s [bx 1 4,O0 5] (Qb [PM 2,A 0 4,L,N (.o none (.h false) false (B 2)) 9] (Qi 9 8 5) [PM 2,A 0 4,L,SF (.l 2)] (Qk [O0 5])),[.t 5]⟩
def fn273:i_:=⟨1,Tu (O0 3) (UP [VT 9 11,L,O1 5] (Qv (Qc 2 [QY 5,yv 0 5,QV 1,P 2,O1 15] (Qw 15 [QD 12 2] [SJ [Ro,.v 3],p gt [.v 5,Y],O1 22] (Qi 22 13 2))) (Ss [mv 3,Te 5,O1 3]))),[.t 2]⟩
def fn274:i_:=⟨3,Vk [D 1 3,QZ 300 1,e 0,e 1,e 2,RJ 8,RJ 9,UF 1 8,UF 1 9,Sd 10] (Qb [PU 10 22] (r 22 [RZ,S 1 6,PR 10 7]) [Uo 301 2,e 0,e 1,RJ 11,PX 1 11,PY 10] (QG [PU 10 31] (r 31 [RZ,S 1 6,PR 10 7]) (s [D 1 3,D 1 11,Rt 302 1,e 0,e 1,n (.c [.O]),Qm 1 2,Sd 13] (RR (PU 13 41) 41 [RZ,S 1 6,PR 13 7])) (QB [A 0 8,L,A 0 11,L,Rt 276 2,A 0 9,L,Rt 276 2,Rc,S 1 6,m O] [(1,0,0),(3,0,0),(6,0,1)] [(7,10)]))),[.c 6 1 true,.t 7]⟩
def fn275:i_:=⟨3,s [bx 0 3,Qh 6,Qh 7,Qh 8,O0 9] (Qb [QY 1,yv 0 2,Uy,P 2,yv 0 1,QR 1 1 3,Vp,Se 3 2,P 4,yv 0 2,QR 1 1 3,Vp,yv 3 1,Uz,Se 5 4,PW 6 29] (r 29 [Qh 6,Qh 7,Qh 8,QD 4 9]) [A 0 3,L,QZ 221 1,e 0,e 1,PY 6,O1 8] (s [mv 8,QZ 221 2,e 0,e 1,PY 7,O1 8] (Qk [mv 6,mv 7,mv 8,Sd 6,PY 7,O1 8,O0 9]))),[.t 6,.t 7,.t 8,.t 9]⟩
def fn276:i_:=⟨2,s [Qh 4] (Qb [Qa 1 8] (r 8 [PR 0 4]) [c 221 [.v 1,i 1],e 0,e 1,PY 5,O1 6] (Qk [v 5,a 2,L,c 222 [.v 0,Y,.v 6],O1 4])),[.t 4]⟩
def fn277:i_:=⟨3,RI (O0 6) (s [QN 244,O1 7] (Qn 7 11 6)) (so [QY 1,yv 0 1,Qy 1 1073741824,P 2,yv 0 2,Uy,P 2,yv 0 2,Qy 1 1073741824,PW 2 26] (Qi 26 4 6) [O0 6]),[.t 6]⟩
def fn278:i_:=⟨3,VG (On 6) [lv 0,O1 7] (VS [p ge [.v 1,.v 2],O1 16] (.d (.v 16) .f (s [p gt [.v 7,O],zv 0 0,zv 1 7,t 2 su [Y,i 1],RU 3 2 2,QL 4 1,h 5 l,zv 6 1,t 7 ge (B 1),Q 8,O1 20] (.d (.v 20) (Ss [VF 7,VF 7,p (.c 2) [.v 0,Y],a 1,L,p .F [Y,.v 2],p (.c 2) [.v 0,.l 5],a 1,Qm 1 2]) (Ss [mv 0,Sj 1 2,Vy (ZZ 0),Qs 2 16 2,O1 0]))))) [PR 0 6],[.t 6]⟩
def fn279:i_:=⟨1,s [On 2,O0 3] (so [lv 0,Tc 4096 6] (r 6 [On 2,QD 3 3]) [QN 303,O1 2,O0 3]),[.t 2,.t 3]⟩
def fn280:i_:=⟨2,TV (Of 4) [VN,v 0,a 2,Um 2,L,QC [.v 1,i 64],p (.E false) (B 1),SI [Y,u 1],Ue [Y,u 1],O1 4],[.t 4]⟩
def fn281:i_:=⟨5,s [N (.a 1 false (.v 1)) 8,Ql 8 9,O0 10] (SO [PO 2 8 10,d 2 0,Ra 7,S 2 7] (Qv (Vf [A 0 7,L,PM 2,p .F (B 1),PM 3,Qt 1,A 1 7,L,PM 4,TU 1,PM 3,Qt 1,A 0 7,Qm 1 7,A 1 7,Qm 1 3] [0,1,2,3,4,5,6,7,8,9,12,13,10,11,14,15] [(1,0,0),(2,0,0),(4,0,0),(7,0,0),(8,0,1),(10,0,1)] []) (s [A 0 7,L,A 1 7,L,p lt (B 2),zv 0 0,h 1 (.a 2 true (.v 7)),h 2 (.e (.l 1) U),Vc 3,Qr 4 38] (.d (.v 38) .q .f)))),[]⟩
def fn282:i_:=⟨2,Ru 2,[.t 4]⟩
def fn283:i_:=⟨1,Tz (On 2) [QN 304,O1 3] (UC [Ql 3 8,O0 9] (be [.v 9,.v 8] 10 (TE [PR 9 4] (Ss [PO 4 3 4,a 3,L,c 305 U,PO 4 3 4,a 3,Qm 1 2])) (J 9))),[.t 2]⟩
def fn284:i_:=⟨2,QF 95,[.t 4]⟩
def fn285:i_:=⟨1,VC [A 4 1,L,Ux,Qd 4 1,g 1 l,QV 2,P 3,O1 2],[.t 2]⟩
def fn286:i_:=⟨3,s [bx 0 3,O0 6,O0 7,O0 8] (Qb [D 1 3,Rn 306,O1 9] (RR (PU 9 18) 18 [O0 6,O0 7,PR 9 8]) [D 1 3,c 250 U,e 0,e 1,PY 10,m Y] (Qb [lv 10,q eq [Y,i 1] 27] (r 27 [O0 6,O0 7,O0 8]) [Tw 1 2,lv 10,RQ,p (.c 1) [.v 10,Y],L,TU 4,O1 12] (Qk [Ry 307 10 1,VF 12,Rl 307 10,QI,o (.l 3) 6,O1 7,O0 8]))),[.t 6,.t 7,.t 8]⟩
def fn287:i_:=⟨1,s [bx 0 1,Of 2] (so [A 0 1,N l 4] (VS [QT 4 1,O1 5] (Qw 5 [A 1 1,L,c 201 U,RT 2,h 1 l,Qp 2,z 3 Y,Qd 2 1,g 1 l,QA 2 201,To 7 3,Q 8,RT 3,h 1 l,UM 2 308,Q 3,RT 4,h 1 l,Qp 2,Q 3,RT 5,h 1 l,Sf 2,UT 3 16,Q 4,O1 2] [QT 4 2,O1 36] (.d (.v 36) (Qk [A 4 1,L,c 200 U,RT 1,h 1 l,Qp 2,Q 3,RT 2,h 1 l,Qp 2,Q 3,RT 3,h 1 l,Sf 2,PV 3 5 1,h 4 l,Sf 5,t 6 ad (B 3),Sc 7,Q 8,O1 2]) (Qv (Us 4 61) (Qw 61 [A 4 1,L,Vz,RT 1,h 1 l,Qp 2,Q 3,RT 2,h 1 l,Qp 2,Q 3,RT 3,h 1 l,Sf 2,PV 3 5 1,h 4 l,Sf 5,t 6 ad (B 3),Sc 7,Q 8,O1 2] [QT 4 5,O1 87] (r 87 [A 1 1,L,c 201 U,RT 3,h 1 l,UM 2 308,Q 3,RT 2,h 1 l,Qp 2,Q 3,RT 4,h 1 l,Qp 2,Q 3,RT 5,h 1 l,Sf 2,Sc 3,Q 4,O1 2])))))) [Of 2]),[.t 2]⟩
def fn288:i_:=⟨1,Tz (O0 2) [mv 0,Rh 1,VD,mv 0,VD,Qt 2,O1 0] (s [mv 0,Rh 2,VI,mv 0,VI,Qt 2,O1 0] (s [mv 0,Rh 4,mv 0,Qt 1,SI [Y,u 1085102592571150095],O1 0] (s [mv 0,mv 0,Rh 8,Qt 2,O1 0] (s [mv 0,mv 0,Rh 16,Qt 2,O1 0] (s [mv 0,mv 0,Rh 32,Qt 2,O1 0] (Qk [p (.q .i64) [.v 0],SI [Y,i 127],O1 2])))))),[.t 2]⟩
def fn289:i_:=⟨1,VG (O0 2) [q eq [.v 0,u 0] 4] (Qi 4 64 2) [p .G [.v 0],SI [.v 0,Y],p mu [Y,u 285870213051353865],Rh 58,p (.l 64 1) [.g 0,Y],L,QE,O1 2],[.t 2]⟩
def fn290:i_:=⟨1,TW [lv 0,Tc 8 7] (RG 7 2) [PR 0 8,Ql 8 9,O0 10] (SO [PO 3 8 10,d 3 0,TQ 4,PR 10 3,S 3 4] (VV [A 0 4,L,c 216 U,Sz,m Y,Qd 1 4,g 1 l,UU 2 3,P 3,m Y,Qd 2 4,g 1 l,QA 2 214,Rm 3,P 4,m Y,Qd 1 4,g 1 l,UU 2 0,y 3 Y,PV 0 2 4,h 1 l,Vv,QP 7 3,P 8,m Y,yv 0 3,f 1 gt [Y,O],y 2 Y,PV 0 0 4,h 1 l,zv 2 0,zv 3 3,t 4 su [Y,i 1],RU 5 3 2,QL 6 0,h 7 l,t 8 (.B .leq) (B 6),QP 12 9,P 13] [(1,0,0),(6,1,1),(11,1,1),(17,2,2),(21,2,2),(30,2,2),(36,2,2)] [(54,39)] 54)),[.t 2]⟩
def fn291:i_:=⟨1,RM [Rx,p le [Y,i 64],zv 0 0,Ur 1 209 309,t 2 lt [Y,O],Q 3,O1 2],[.t 2]⟩
def fn292:i_:=⟨1,TW [Rx,Ux,yv 0 0,f 1 .g U,Qy 2 16,PW 3 11] (RG 11 2) [q .g [.v 0] 13,O0 14] (be [.v 14,.v 13] 15 (TE [PR 14 3] (s [Ty,c 310 U,TN 21] (RG 21 2))) (J 14)),[.t 2]⟩
def fn293:i_:=⟨2,QF 311,[.t 4]⟩
def fn294:i_:=⟨2,Ul [A 2 2,L,A 2 1,L,p (.B .eql) (B 2),O1 3],[.t 3]⟩
def fn295:i_:=⟨3,TV (Qh 3) [PM 0,PM 1,PM 2,Vl 2 1,O1 3],[.t 3]⟩
def fn296:i_:=⟨3,RI (Qh 3) (Qv (SP (a 0) (a 1)) (Qx 15 [PM 0,k,a 0,L,O1 4] (QB [PM 1,PM 2,mv 4,k,a 0,L,Vl 5 4,mv 4,k,a 2,L,mv 4,k,a 1,L,PM 0,k,a 2,L,PM 0,k,a 1,L,Vl 8 4,Vl 17 13,m Y] [(0,0,0),(1,0,0),(5,0,0),(10,0,2),(14,0,1),(15,0,1),(18,0,1),(19,0,1),(22,0,1)] [(3,25)]))) (QB [PM 1,PM 2,PM 0,k,a 0,L,Vl 5 4,PM 0,k,a 2,L,PM 0,k,a 1,L,Vl 8 4,m Y] [(0,0,0),(1,0,0),(2,0,0),(5,0,0),(7,0,1),(10,0,1),(11,0,1),(14,0,1)] [(3,16)]),[.t 3]⟩
def fn297:i_:=⟨3,RI (Qh 3) (Qv (SP (a 1) (a 0)) (Qx 15 [PM 0,k,a 1,L,O1 4] (QB [PM 0,k,a 0,L,PM 0,k,a 2,L,mv 4,k,a 0,L,Vl 8 4,mv 4,k,a 2,L,mv 4,k,a 1,L,PM 1,PM 2,Vl 2 1,Vl 11 7,m Y] [(0,0,0),(3,0,0),(4,0,0),(7,0,0),(11,0,0),(16,0,2),(20,0,1),(21,0,1),(22,0,1)] [(3,25)]))) (QB [PM 0,k,a 0,L,PM 0,k,a 2,L,PM 0,k,a 1,L,PM 1,PM 2,Vl 2 1,Vl 11 7,m Y] [(0,0,1),(3,0,1),(4,0,1),(7,0,1),(8,0,0),(11,0,0),(12,0,0),(13,0,0)] [(3,16)]),[.t 3]⟩
def fn298:i_:=⟨2,VG (O0 4) [QN 244,O1 5] (Qn 5 9 4) [Uo 244 1,O1 4],[.t 4]⟩
def fn299:i_:=⟨2,s [bx 0 2,O0 4] (so [A 0 2,L,q gt [Y,.v 1] 8] (r 8 [A 0 2,L,O1 4]) [A 1 2,L,O1 4]),[.t 4]⟩
def fn300:i_:=⟨2,s [bx 0 2,RJ 4,RJ 5,O0 6] (Qb [QY 1,yv 0 1,QR 1 1 2,Vp,Se 3 2,PW 4 16] (r 16 [RZ,RZ,PX 1 4,PX 1 5,QD 4 6]) [A 0 2,L,QZ 221 1,e 0,e 1,PY 7,O1 8] (Qk [UB [.O] (.v 7),UB [.O] (.v 8),PX 1 4,PX 1 5,O0 6])),[.c 4 1 true,.c 5 1 true,.t 6]⟩
def fn301:i_:=⟨1,s [RJ 2,O0 3] (so [QN 273,O1 4] (RR (PU 4 8) 8 [RZ,S 1 2,PR 4 3]) [QN 312,Rc,S 1 2,O0 3]),[.c 2 1 true,.t 3]⟩
def fn302:i_:=⟨2,s [bx 0 2,bx 1 3,RJ 4,O0 5] (Qv (VB 0 (Qv (ds [D 1 2,c 197 U,D 1 3,c 197 U,Qt 2,p gt [Y,i 4096],m Y] [(0,0,0),(2,0,1)] [(6,6)]) (.d (.v 6) (Qk [RZ,S 1 4,QD 3 5]) (Qv (ds [D 1 2,c 77 U,D 1 3,c 77 U,SJ [Ro,Y],UE 3,m Y] [(0,0,0),(2,0,1)] [(14,6)]) (r 14 [RZ,S 1 4,QD 13 5]))))) (Qk [A 0 2,L,A 0 3,L,Rt 276 2,Rc,S 1 4,O0 5])),[.c 4 1 true,.t 5]⟩
def fn303:i_:=⟨1,Rq 2,[.t 2]⟩
def fn304:i_:=⟨1,Rk (.g zI 56 Y Y) (Vw 4),[.t 2]⟩
def fn305:i_:=⟨1,Rk (.g [.f []] 16 Y Y) (Vw 1),[.t 2]⟩
def fn306:i_:=⟨3,s [bx 0 3,O0 6] (QG [D 1 3,c 249 U,O1 7] (Qn 7 11 6) (VS [SZ 2,yv 0 2,VJ,P 2,O1 13] (Qw 13 [QD 1 6] [QY 1,yv 0 1,QR 1 1 3,QA 2 129,yv 3 2,Uz,f 5 .F [O,Y],Se 6 5,P 7,O1 20] (Qi 20 4 6))) Sq),[.t 6]⟩
def fn307:i_:=⟨2,s [bx 0 2,bx 1 3,O0 4] (Qk [PM 2,ls,RQ,TA 314 2 3,Rt 313 1,O1 4]),[.t 4]⟩
def fn308:i_:=⟨1,TW [lv 0,Tc 8 7] (RG 7 2) [O0 3] (TS [lv 0,Qz 3 11] (x 11 0) (s [PO 3 0 3,d 3 0,TQ 4,S 3 4] (VV [A 0 4,L,c 201 U,Sz,m Y,Qd 1 4,g 1 l,UU 2 3,P 3,m Y,Qd 2 4,g 1 l,QA 2 200,Rm 3,P 4,m Y,Qd 1 4,g 1 l,f 2 ne [Y,b 0],y 3 Y,PV 0 2 4,h 1 l,Vv,QP 7 3,P 8,m Y,yv 0 3,f 1 gt [Y,O],y 2 Y,zv 0 0,zv 1 3,t 2 su [Y,i 1],RU 3 3 2,QL 4 0,h 5 l,PV 6 0 4,h 7 l,t 8 (.B .geq) (B 2),QP 12 9,P 13] [(1,0,0),(6,1,1),(11,1,1),(17,2,2),(21,2,2),(34,2,2),(36,2,2)] [(57,39)] 57)) (I 3)),[.t 2]⟩
def fn309:i_:=⟨1,Sn,[.t 2]⟩
def fn310:i_:=⟨1,RM [p ge [.v 0,b 97],zv 0 0,t 1 le [Y,b 122],Q 2,yv 0 0,f 1 ge [Y,b 48],y 2 Y,zv 0 0,t 1 le [Y,b 57],QP 5 2,P 6,O1 2],[.t 2]⟩
def fn311:i_:=⟨2,Ru 6,[.t 4]⟩
def fn312:i_:=⟨1,s [Qh 2] (Qb [lv 0,Tk 6] (r 6 [Qh 2]) [lv 0,Sr [Y,i 2],O1 3] (QB [mv 0,mv 3,Re 1,c 312 U,mv 0,mv 3,Qg 1 1,L,mv 0,mv 3,QI,Qq 1 2,c 312 U,Vl 9 5,m Y] [(7,0,2)] [(2,14)])),[.t 2]⟩
def fn313:i_:=⟨2,Tz (O0 4) [O0 5,PR 0 6] (Qv (QO 0 (Qv (s [Ri 5 6 11] (x 11 0)) (TE [Tw 5 6,SG,Rh 1,QE,O1 7] (s [VP 7,TN 21] (.d (.v 21) (Ss [Uh 7,O1 5]) (Ss [PR 7 6])))))) (VE 5 4)),[.t 4]⟩
def fn314:i_:=⟨3,s [Of 4] (QB [PM 1,mv 0,QI,Qg 1 2,L,PM 2,UE 1,m Y] [(0,0,0),(4,0,0),(5,0,0)] [(4,7)]),[.t 4]⟩
def F:T i_:=(.n (.n (.n (.n (.n (.n (.n (.n (.n .e (some fn273x) .e) (some fn127) .e) (some fn63) (.n .e (some fn191) .e)) (some fn31) (.n (.n (.n .e (some fn287) .e) (some fn159) .e) (some fn95) (.n .e (some fn223) .e))) (some fn15) (.n (.n (.n (.n .e (some fn271) .e) (some fn143) .e) (some fn79) (.n .e (some fn207) .e)) (some fn47) (.n (.n (.n .e (some fn303) .e) (some fn175) .e) (some fn111) (.n .e (some fn239) .e)))) (some fn7) (.n (.n (.n (.n (.n .e (some fn263) .e) (some fn135) .e) (some fn71) (.n .e (some fn199) .e)) (some fn39) (.n (.n (.n .e (some fn295) .e) (some fn167) .e) (some fn103) (.n .e (some fn231) .e))) (some fn23) (.n (.n (.n (.n .e (some fn279) .e) (some fn151) .e) (some fn87) (.n .e (some fn215) .e)) none (.n (.n (.n .e (some fn311) .e) (some fn183) .e) (some fn119) (.n .e (some fn247) .e))))) none (.n (.n (.n (.n (.n (.n .e (some fn259) .e) (some fn131) .e) (some fn67) (.n .e (some fn195) .e)) (some fn35) (.n (.n (.n .e (some fn291) .e) (some fn163) .e) (some fn99) (.n .e (some fn227) .e))) (some fn19) (.n (.n (.n (.n .e (some fn275) .e) (some fn147) .e) (some fn83) (.n .e (some fn211) .e)) (some fn51) (.n (.n (.n .e (some fn307) .e) (some fn179) .e) (some fn115) (.n .e (some fn243) .e)))) (some fn11) (.n (.n (.n (.n (.n .e (some fn267) .e) (some fn139) .e) (some fn75) (.n .e (some fn203) .e)) (some fn43) (.n (.n (.n .e (some fn299) .e) (some fn171) .e) (some fn107) (.n .e (some fn235) .e))) (some fn27) (.n (.n (.n (.n .e (some fn283) .e) (some fn155) .e) (some fn91) (.n .e (some fn219) .e)) (some fn59) (.n (.n .e (some fn187) .e) (some fn123) (.n .e (some fn251) .e)))))) none (.n (.n (.n (.n (.n (.n (.n .e (some fn257) .e) (some fn129) .e) (some fn65) (.n .e (some fn193) .e)) (some fn33) (.n (.n (.n .e (some fn289) .e) (some fn161) .e) (some fn97) (.n .e (some fn225) .e))) (some fn17) (.n (.n (.n (.n .e (some fn273) .e) (some fn168x) .e) (some fn81) (.n .e (some fn209) .e)) (some fn49) (.n (.n (.n .e (some fn305) .e) (some fn177) .e) (some fn113) (.n .e (some fn241) .e)))) none (.n (.n (.n (.n (.n .e (some fn253x) .e) (some fn137) .e) (some fn73) (.n .e (some fn201) .e)) (some fn41) (.n (.n (.n .e (some fn297) .e) (some fn169) .e) (some fn105) (.n .e (some fn233) .e))) (some fn25) (.n (.n (.n (.n .e (some fn281) .e) (some fn153) .e) (some fn89) (.n .e (some fn217) .e)) (some fn57) (.n (.n (.n .e (some fn313) .e) (some fn185) .e) (some fn121) (.n .e (some fn249) .e))))) none (.n (.n (.n (.n (.n (.n .e (some fn261) .e) (some fn133) .e) (some fn69) (.n .e (some fn197) .e)) (some fn37) (.n (.n (.n .e (some fn293) .e) (some fn165) .e) (some fn101) (.n .e (some fn229) .e))) (some fn21) (.n (.n (.n (.n .e (some fn277) .e) (some fn149) .e) (some fn85) (.n .e (some fn213) .e)) (some fn53) (.n (.n (.n .e (some fn309) .e) (some fn181) .e) (some fn117) (.n .e (some fn245) .e)))) none (.n (.n (.n (.n (.n .e (some fn269) .e) (some fn141) .e) (some fn77) (.n .e (some fn205) .e)) (some fn45) (.n (.n (.n .e (some fn301) .e) (some fn173) .e) (some fn109) (.n .e (some fn237) .e))) (some fn29) (.n (.n (.n (.n .e (some fn285) .e) (some fn157) .e) (some fn93) (.n .e (some fn221) .e)) (some fn61) (.n (.n .e (some fn189) .e) (some fn125) (.n .e (some fn253) .e))))))) none (.n (.n (.n (.n (.n (.n (.n (.n .e (some fn256) .e) (some fn128) .e) (some fn64) (.n .e (some fn192) .e)) (some fn32) (.n (.n (.n .e (some fn288) .e) (some fn160) .e) (some fn96) (.n .e (some fn224) .e))) none (.n (.n (.n (.n .e (some fn272) .e) (some fn144) .e) (some fn114x) (.n .e (some fn208) .e)) (some fn48) (.n (.n (.n .e (some fn304) .e) (some fn176) .e) (some fn112) (.n .e (some fn240) .e)))) (some fn8) (.n (.n (.n (.n (.n .e (some fn264) .e) (some fn136) .e) (some fn72) (.n .e (some fn200) .e)) (some fn40) (.n (.n (.n .e (some fn296) .e) (some fn168) .e) (some fn104) (.n .e (some fn232) .e))) (some fn8x) (.n (.n (.n (.n .e (some fn280) .e) (some fn152) .e) (some fn88) (.n .e (some fn216) .e)) (some fn56) (.n (.n (.n .e (some fn312) .e) (some fn184) .e) (some fn120) (.n .e (some fn248) .e))))) (some fn4x) (.n (.n (.n (.n (.n (.n .e (some fn260) .e) (some fn132) .e) (some fn68) (.n .e (some fn196) .e)) (some fn36) (.n (.n (.n .e (some fn292) .e) (some fn164) .e) (some fn100) (.n .e (some fn228) .e))) (some fn20) (.n (.n (.n (.n .e (some fn276) .e) (some fn148) .e) (some fn84) (.n .e (some fn212) .e)) (some fn52) (.n (.n (.n .e (some fn308) .e) (some fn180) .e) (some fn116) (.n .e (some fn244) .e)))) none (.n (.n (.n (.n (.n .e (some fn268) .e) (some fn140) .e) (some fn76) (.n .e (some fn204) .e)) (some fn44) (.n (.n (.n .e (some fn300) .e) (some fn172) .e) (some fn108) (.n .e (some fn236) .e))) (some fn28) (.n (.n (.n (.n .e (some fn284) .e) (some fn156) .e) (some fn92) (.n .e (some fn220) .e)) (some fn60) (.n (.n .e (some fn188) .e) (some fn124) (.n .e (some fn252) .e)))))) none (.n (.n (.n (.n (.n (.n (.n .e (some fn258) .e) (some fn130) .e) (some fn66) (.n .e (some fn194) .e)) (some fn34) (.n (.n (.n .e (some fn290) .e) (some fn162) .e) (some fn98) (.n .e (some fn226) .e))) (some fn18) (.n (.n (.n (.n .e (some fn274) .e) (some fn146) .e) (some fn82) (.n .e (some fn210) .e)) (some fn50) (.n (.n (.n .e (some fn306) .e) (some fn178) .e) (some fn114) (.n .e (some fn242) .e)))) (some fn10) (.n (.n (.n (.n (.n .e (some fn266) .e) (some fn138) .e) (some fn74) (.n .e (some fn202) .e)) (some fn42) (.n (.n (.n .e (some fn298) .e) (some fn170) .e) (some fn106) (.n .e (some fn234) .e))) (some fn26) (.n (.n (.n (.n .e (some fn282) .e) (some fn154) .e) (some fn90) (.n .e (some fn218) .e)) (some fn58) (.n (.n (.n .e (some fn314) .e) (some fn186) .e) (some fn122) (.n .e (some fn250) .e))))) (some fn6) (.n (.n (.n (.n (.n (.n .e (some fn262) .e) (some fn134) .e) (some fn70) (.n .e (some fn198) .e)) (some fn14x) (.n (.n (.n .e (some fn294) .e) (some fn166) .e) (some fn102) (.n .e (some fn230) .e))) (some fn22) (.n (.n (.n (.n .e (some fn278) .e) (some fn150) .e) (some fn108x) (.n .e (some fn214) .e)) (some fn54) (.n (.n (.n .e (some fn310) .e) (some fn182) .e) (some fn118) (.n .e (some fn246) .e)))) (some fn14) (.n (.n (.n (.n (.n .e (some fn270) .e) (some fn187x) .e) (some fn78) (.n .e (some fn206) .e)) (some fn46) (.n (.n (.n .e (some fn302) .e) (some fn174) .e) (some fn110) (.n .e (some fn238) .e))) (some fn30) (.n (.n (.n (.n .e (some fn286) .e) (some fn158) .e) (some fn94) (.n .e (some fn222) .e)) (some fn62) (.n (.n .e (some fn190) .e) (some fn126) (.n .e (some fn254) .e))))))))
theorem J7:F.c_ 5=none:=rfl
open Classical in
noncomputable def lov:aI:=fun f vs h=>if f=5/\vs=[]/\Pl h 0 gq then some (.h true,h)else none
noncomputable abbrev go:aI:=ev lov F
end Go.Ev.Lay
