/- An evaluator of the program, and contracts over it: LayG to LayG. -/
import Derived.Test.YtdbfhmneijcjbaaGreatP04
set_option linter.unusedSimpArgs false
set_option linter.unusedVariables false
set_option linter.constructorNameAsVariable false
set_option linter.unnecessarySimpa false
namespace Go.Ev.Lay
open Go.Ev.Ab
abbrev Nh:=fun a b=>(.seq a b:IC)
abbrev OR:=fun a b c=>s [a] (Nh b c)
abbrev be:=fun a b c d=>(.block 0 (.loop (OR (q lt a b) (x b 0) (Nh c d))):IC)
abbrev Na:=fun a=>s a .ret
abbrev MB:=fun a b c=>(.seq (s a b) (Na c):IC)
abbrev MC:=fun a=>n (.ld 1 false (.v a))
abbrev Pz:=fun a b=>(.block a b:IC)
abbrev RJ:=fun a b=>Pz a (.loop b)
abbrev QS:=fun a=>p lt [.v a,Y]
abbrev OD:=fun a b c=>t a (.ixs b) (B c)
abbrev Nw:=fun a b=>t a (.faddr b) U
abbrev Nm:=fun a b=>q .pick [.l a,Y,ff] b
abbrev Rx:=fun a b c=>s [a] (s b c)
abbrev NY:=fun a b=>o (i a) b
abbrev Nu:=fun a b c d=>Nh (s a b) (Nh c d)
abbrev Nl:=fun a b=>q lt [.v a,Y] b
abbrev Nf:=fun a b=>(.cond a b .skip:IC)
abbrev OC:=fun a b c=>Nf (.v a) (s b c)
abbrev MF:=fun a b c=>p (.ixs a) [.v b,.v c]
abbrev Qe:=fun a=>(.ops a:IC)
abbrev Ok:=fun a b=>c a [Y,.v b]
abbrev QP:=fun a b=>Qe [mv 13,MF 2 a b,d 2 0,Ok 291 10,p .mn (B 3),O1 13]
abbrev Re:=fun a=>p eq a
abbrev OE:=fun a=>t a .lenS U
abbrev Pt:=fun a b=>Nf (.v a) (.exit b)
abbrev Nv:=fun a b=>Nf (.v a) (.ops b)
abbrev MQ:=fun a b=>o (.v a) b
abbrev QE:=fun a b=>c a [.v b]
abbrev MN:=fun a=>o (.l 1) a
abbrev ME:IC:=.seq .skip (Nh (RJ 0 (Pz 1 (Nh (RJ 2 (Nh (s [lv 0,QS 11,zv 0 0,zv 1 11,OD 2 2 1,Nw 3 1,h 4 l,zv 5 10,t 6 le (B 1),Nm 7 34] (x 34 2)) (Pz 3 (I 11)))) (Nh (RJ 4 (Nh (s [lv 1,QS 12,zv 0 1,zv 1 12,OD 2 2 1,Nw 3 1,h 4 l,zv 5 10,t 6 le (B 1),Nm 7 49] (x 49 4)) (Pz 5 (I 12)))) (Rx (NY 1073741824 13) [Of 14,Of 15] (Nu [lv 0,Nl 11 55] (OC 55 [MF 2 0 11,a 0,L,p le [Y,.v 10],O1 14] (QP 0 11)) (s [lv 1,Nl 12 74] (OC 74 [MF 2 1 12,a 0,L,p le [Y,.v 10],O1 15] (QP 1 12))) (Nu [lv 0,Re [.v 11,Y],zv 0 12,zv 1 1,OE 2,t 3 eq (B 2),Nm 4 99] (Pt 99 0) (s [N (.cv (.v 2) [.v 14,.v 15]) 103] (Nv 103 [mv 9,c 209 [Y,.v 10,.v 13],O1 9])) (Qe [MQ 13 10])))))))) (Na [QE 210 9,e 0,e 1,MN 6,O1 7]))
abbrev Nb:=fun a b=>q ne [.v a,O] b
abbrev MG:=fun a b c=>s [Nb a b] (r b [MQ a c])
abbrev MH:=fun a b c=>n (.st a (.v b) (.l c))
abbrev MI:=fun a b c=>t a (.faddr b) [.v c]
abbrev MJ:=fun a b=>q .pick [.l a,tt,Y] b
abbrev ML:=fun a=>p (.build a []) []
abbrev MM:=fun a=>q (.nil 0 false) [.v 0,.c .nilp] a
abbrev MO:=fun a b=>q .lenS [.v a] b
abbrev MP:=fun a b c d=>(.seq (s a b) (s c d):IC)
abbrev MR:=fun a b=>f 0 (.faddr a) [.v b]
abbrev MT:=fun a=>o (.c .nilp) a
abbrev MU:=fun a b d=>c a [.l b,.l d,Y]
abbrev MV:=fun a=>n (.st a Y (.l 2))
abbrev MW:=fun a=>t a (.sb .eql) [Y,.c (.str [])]
abbrev MX:=fun a b c=>r a [NY b c]
abbrev MY:=fun a b=>p (.sl none a true false false) (B b)
abbrev MZ:=fun a b c=>(.block a (s b c):IC)
abbrev PF:=fun a b=>MZ 1 a b
abbrev Nc:=fun a=>s [O0 4] (MB [MO 0 7,O0 8] (be [.v 8,.v 7] 9 (PF [MQ 8 5] (s a (r 16 [MQ 5 4]))) (J 8)) [o (i (-1)) 4])
abbrev Nd:=fun a b=>p (.ixs a) (B b)
abbrev Ng:=fun a b=>g a (.cf b U)
abbrev Ni:=fun a b c=>(.seq (ds a b c) .ret:IC)
abbrev Nj:=n (.bs zN [(0,6)] 1 U)
abbrev Nk:=fun a b c=>n (.ap a b (.l c) Y)
abbrev Nn:=fun a b c d=>(.cond (.v a) (Na b) (s c d):IC)
abbrev No:=fun a b=>s [On 2] (MB [q (.nil 1 false) [.v 0,.c .nils] 4] (r 4 [On 2]) [n a,n b,O1 2])
abbrev NN:=p ad [Y,i 1]
abbrev Pq:=p .not U
abbrev Oc:=fun a b=>r a [Of b]
abbrev Np:=MB [v 0,a 5,L,q .lenS U 29,O0 30] (be [.v 30,.v 29] 31 (PF [MQ 30 8] (Nh (ds [MC 4,mv 0,k,a 5,L,mv 8,Nd 6 1,mv 1,NN,n (.cv (.l 8) (B 2)),Pq] [(0,0,0),(4,0,0)] [(43,10)]) (Oc 43 7))) (J 30)) [o tt 7]
abbrev Nq:=fun a=>p ad (B a)
abbrev Rm:=fun a b=>MB a b [O0 2]
abbrev ON:=fun a=>q eq [Y,O] a
abbrev Nr:=fun a=>s [bx 0 1,O0 2] (Rm [D 6 1,c a U,ON 5] (MX 5 14 2))
abbrev NZ:=fun a=>al [.nils] a
abbrev Ns:=fun a=>s [bx 0 3,bx 1 4,bx 2 5,NZ 6,O0 7] (Na a)
abbrev Nx:=fun a c=>p eq [.v a,b c]
abbrev Ny:=fun a b=>f a gt [Y,i b]
abbrev Nz:=fun a b=>p (.ixs a) [Y,.v b]
abbrev NB:=fun a b=>f a .pick [.l b,Y,ff]
abbrev NC:=fun a b c=>g a (.ld b true (.v c))
abbrev ND:=fun a b c=>p (.sl none a true true false) [.l b,.l c,Y]
abbrev OI:=fun a b d=>c a [.v b,.v d]
abbrev NE:=fun a=>s [Of 4] (Na [OI a 0 1,p ge [Y,O],O1 4])
abbrev NF:=p (.build [.nilp] [(0,1)]) U
abbrev NG:=fun a=>p (.sl none a false true false) (B a)
abbrev NI:=fun a b c d=>(.block a (.loop (OR b c d)):IC)
abbrev NJ:=fun a=>p (.ib .rem) a
abbrev NK:=fun a=>c a [.v 0]
abbrev Pu:=fun a b=>r a [O0 b]
abbrev NM:=fun a=>s [O0 2] (MB [MM 4] (Pu 4 2) a)
abbrev NO:=fun a b c d=>p (.mkf (.func a) 0) [.v b,.v c,.v d]
abbrev NP:=fun a b c=>p (.mkf (.func a) b) [.v c]
abbrev Ol:=p .lenStr [.v 0]
abbrev PR:=p .ixstr [.v 0,.v 3]
abbrev RE:=fun a=>p lt a
abbrev Rw:=f 2 .ixstr (B 1)
abbrev QU:=fun a c=>f a gt [Y,b c]
abbrev NS:=fun a=>lp 0 1 [Ol,Nl 3 10] (x 10 0) (s [PR,RE [Y,b 32],yv 0 0,yv 1 3,Rw,QU 3 126,MJ 4 22] a) (I 3)
abbrev NU:=fun a=>s [On 2] (Na [lv 0,lv 0,p (.sl none a false true true) [.v 0,.l 1,Y],O1 2])
abbrev NW:=fun a=>p (.nil 0 false) [.v a,.c .nilp]
abbrev NX:=fun a c=>p (.build [.str [],ZY 0,.str []] [(0,1),(1,1)]) [.c (.str a),b c]
abbrev Oa:=ML [.nilp,.nils]
abbrev Ob:=fun a=>n (.st 1 Y a)
abbrev Od:=fun a=>f a .not U
abbrev Oe:=p (.build zN []) []
abbrev Og:=fun a=>c a [.v 0,.v 1,.v 2]
abbrev Oh:=fun a b=>p (.build [.str [],.bool false,.bool false,.bool false,.bool false,.nilf] [(0,1),(1,1),(2,1),(3,1),(4,1),(5,1)]) [.c a,tt,ff,ff,tt,.c b]
abbrev Oi:=fun a b=>f a (.faddr b) U
abbrev Oj:=fun a=>p lt [.v a,O]
abbrev Om:=fun a=>p (.build [ZY 0,.nilf] [(0,1),(1,1)]) [b a,Y]
abbrev Oo:=m (.l 1)
abbrev Oq:=fun a=>c a [Y,.v 1,.v 2]
abbrev Or:=fun a b=>c a [.v b,Y]
abbrev Ot:=fun a=>al [.nilp] a
abbrev Ou:=fun a b c=>r a [ML b,S 1 6,MQ c 7]
abbrev Ov:=fun a=>MH 1 a 1
abbrev Ow:=fun a b c=>q lt [.v a,.v b] c
abbrev Ox:=fun a=>al [.nilp,.nils] a
abbrev Oy:=p (.build zN [(0,1),(4,1)]) [b 2,Y]
abbrev Oz:=p (.conv .i64) U
abbrev OA:=fun a=>s [Of 2] (Na a)
abbrev Qa:=fun a b d e=>c a [.l b,.l d,.l e,Y]
abbrev OB:=fun a b=>Ns [D 2 3,D 1 4,A 1 5,L,A a 5,L,Qa b 5 4 2,e 0,e 1,Ov 6,MN 7]
abbrev OF:=fun a=>MI 0 a 1
abbrev OG:=fun a b=>c a (B b)
abbrev OH:=fun a=>al [ZZ 0,ZZ 0] a
abbrev OJ:=fun a b=>s [bx 0 2,On 4] (s [lv 1,n a,O1 5] (MB [MQ 1 11,MO 11 12,O0 13] (be [.v 13,.v 12] 14 b (J 13)) [MQ 5 4]))
abbrev OK:=fun a b=>q gt [Y,i a] b
abbrev OL:=fun a=>N (.cf 44 [.v 0]) a
abbrev QF:=fun a=>f 1 gt [Y,.c (.int .i32 a)]
abbrev OM:=OA [RE [.v 0,.c (.int .i32 32)],yv 0 0,QF 126,P 2,O1 2]
abbrev OO:=fun a b=>f a gt (B b)
abbrev QJ:=fun a b c d=>lp 0 1 a b c d
abbrev OP:=fun a=>MB [O0 6] (QJ [A 5 2,L,ls,QS 6,zv 0 5,t 1 le [Y,i 64],Nm 2 22] (x 22 0) (.ops a) (I 6)) [MQ 5 4]
abbrev OS:=fun a=>n (.cp 4 (.l a) Y)
abbrev OT:=fun a c d=>p (.build zN [(0,1),(1,1),(a,1)]) [b c,.c (.str d),Y]
abbrev OU:=fun a=>n (.mu none [a,Y,.c (.bool true)])
abbrev OW:=fun a=>s [bx 0 1,O0 2] a
abbrev OY:=fun a=>f a .lenS U
abbrev OZ:=fun a b c d=>(.cond (.v a) (.ops b) (s c d):IC)
abbrev Pa:=p (.build [.bool false,ZZ 0,.nils,.nilf,.nilf] [(0,1),(4,1)]) (B 1)
abbrev Pb:=fun a=>f a (.nil 0 false) [Y,.c .nilp]
abbrev Pc:=fun a=>f a (.sb .neq) [Y,.c (.str [])]
abbrev Pd:=fun a=>p (.ib .quo) a
abbrev Pe:=Na [O0 6]
abbrev Pf:=fun a=>t a eq [Y,O]
abbrev Pg:=p (.build zO [(0,1),(2,1)]) [b 2,i 1]
abbrev Ph:=fun a=>f a .nilck U
abbrev Pj:=fun a b=>s [bx 0 2,O0 4] (MP [RE [.v 1,i 1],NC 0 6 2,a,Od 2,MJ 3 13] (MX 13 1000 4) [NY 1 5] (OP b))
abbrev Rq:=fun a=>p gt a
abbrev Pk:=fun a b=>ds [MC 0,k,a,L,c 266 U,MC 0,k,b,L,c 266 U,Rq (B 5)] [(0,0,0),(3,0,0),(5,0,1),(8,0,1)] [(15,10)]
abbrev Pm:=fun a=>s [On 4,O0 5] (Na [c 269 [.v 0,.v 1,.c (.func (.func a) [] [])],e 0,e 1,MN 4,O1 5])
abbrev Pn:=fun a b=>ds a b []
abbrev Po:=fun a b c=>p (.build [.nils,ZZ 0,.nilp,.nilp,.nilp] [(0,2),(2,1),(3,1),(4,1)]) [.l a,.l b,.l c,Y]
abbrev Pp:=fun a c d=>p (.build zN [(0,1),(1,1),(2,1),(3,1),(5,1)]) [b 1,a,c,d,Y]
abbrev Pr:=ML [.nilp]
abbrev Ps:=fun a b=>o (.c (.func (.func a) [] [])) b
abbrev Pv:=p su [Y,i 1]
abbrev Pw:=fun a=>Nc [MF a 0 5,d a 0,N (.cv (.v 1) U) 16]
abbrev Px:=fun a b c=>p (.ixs a) [.l b,.l c]
abbrev Py:=fun a=>p (.ixa 4 1) [.v 1,i a]
abbrev PA:=p (.build [ZZ 0,ZZ 0] [(0,1),(1,1)]) [.v 1,.v 2]
abbrev PB:=n (.bs zI [(0,4)] 1 U)
abbrev PC:=fun a=>p (.build zN [(0,1)]) [b a]
abbrev PD:=fun a b=>s [bx 1 3,O0 4] (Nh a b)
abbrev PE:=n (.bx Y)
abbrev PI:=t 1 .nilck U
abbrev PJ:=fun a b=>s [Nb a b] (Ou b [.nils] a)
abbrev PX:=fun a b=>s [a] (Na b)
abbrev PL:=fun a b=>s [On 2] (MP [lv 0,ON 6] (r 6 [On 2]) [lv 0,n a,O1 3] (PX b [MQ 3 2]))
abbrev Ri:=fun a=>p su a
abbrev PM:=fun a b=>Pj (Ng 1 a) [mv 5,A 5 2,L,Nz 6 6,d 6 0,Ri [.v 1,i 1],OG b 1,Nq 6,O1 5]
abbrev PN:=fun a b c d=>Nh (MZ a b c) (J d)
abbrev PO:=fun a b=>s [O0 2] (MP [lv 0,OK 4096 8] (MX 8 3 2) [a] (Rm [MQ 0 9,MO 9 10,O0 11] b))
abbrev PU:=fun a=>p ne [.v a,O]
abbrev PV:=fun a b c=>h a (.cf b [Y,.c (.func (.func c) [] [])])
abbrev PW:=fun a c=>p (.build zN [(0,1),(a,1)]) [b c,.v 0]
abbrev PY:=i 4611686018427387904
abbrev PZ:=fun a b c d=>Nh (.dops a [12] [0,1,2,3,4,5,6,7,8,9,10,13,11,12,14] [(3,0,0),(5,0,0)] b) (s c d)
abbrev Qb:=fun b=>Pn [mv b,mv 0,k,a 0,L,mv 0,k,a 1,L,NG 4,OS 9] [(4,0,0),(8,0,0)]
abbrev Qc:=ML [.nils]
abbrev Qd:=fun a=>al [.str [],ZY 0,.str []] a
abbrev Qf:=fun a b c=>ds [mv 0,k,a,L,A 1 3,L,A 2 3,L,A 3 3,L,b,m Y] [(3,0,0),(5,0,0),(7,0,0),(9,0,0)] [c]
abbrev Qg:=fun a=>OR (O0 6) (MZ 0 [NW 0,O1 7] (Nn 7 [NY 2 6] a (MX 10 4 6))) Pe
abbrev Qh:=fun a b c=>s [bx 0 3,bx 1 4,bx 2 5,NZ 6,O0 7] (Nu [D 2 3,D 1 4,OG 63 1,O1 8] a b c)
abbrev Qj:=n (.bs [.str [],ZY 0,.str []] [(0,3)] 1 U)
abbrev Qk:=fun a=>s [Nb 8 a] (r a [On 6,MQ 8 7])
abbrev Ql:=fun a b=>p (.build a [(0,1),(1,1)]) [Y,b]
abbrev Qm:=p (.sb .neq) [Y,.c (.str [])]
abbrev Qo:=fun a=>o (.l 2) a
abbrev Qp:=fun a=>c a [Y,.v 1,.v 2,.v 3]
abbrev Qq:=Ny 1 2305843009213693952
abbrev Qr:=fun b c=>MB [MM 7] (r 7 [b,NY 2 5]) [v 0,a 0,d 2 0,Ok c 1,e 0,e 1,MN 4,O1 5]
abbrev Qs:=fun a b c d=>OR (Of 2) (s a b) (MB c d [o tt 2])
abbrev Qt:=fun a=>p ad [Y,.v a]
abbrev Qu:=fun a=>n (.bs [a,a] [(0,2)] 1 U)
abbrev Qv:=fun a b=>p (.build zH [(0,1),(1,1)]) [u a,i b]
abbrev Qw:=p (.conv .u64) U
abbrev Qx:=fun a=>s [bx 0 2,bx 1 3,Of 4] (Na a)
abbrev Qy:=fun a b=>n (.bs a [(0,1),(1,1),(2,1)] 3 b)
abbrev Qz:=fun a b=>s [Nx a 3,O1 b] (.cond (.v b) .skip (Qe [Nx a 4,O1 b]))
abbrev QA:=fun a b=>q eq [.v a,O] b
abbrev QB:=fun a=>al [.nils,ZZ 0] a
abbrev QC:=fun a=>s [O0 6] a
abbrev QD:=fun a b=>be [.v 10,.v 9] 11 (PF a b) (J 10)
abbrev QG:=fun a b=>h a (.cf b U)
abbrev QH:=fun b=>NM [v 0,a b,L,O1 2]
abbrev QI:=fun a b=>p (.build a [(0,1)]) [b]
abbrev QK:=fun b c=>ds [b,mv 0,k,a 0,a 0,L,ls,OG 102 6,m Y] [(0,0,0),(5,0,0)] [c]
abbrev QL:=n (.mk [.bool false] 1 (.v 2) (.v 2))
abbrev QM:=fun a b c=>f a (.faddr b) [.v c]
abbrev QN:=fun a b c=>ds [mv 0,k,a,L,A 1 3,L,A 2 3,L,b,m Y] [(3,0,0),(5,0,0),(7,0,0)] [c]
abbrev QO:=fun a b c d=>r a [Oa,S 2 b,MQ c d]
abbrev QQ:=n (.al zN)
abbrev QR:=fun a b=>be [.v 11,.v 10] 12 (PF a b) (J 11)
abbrev QT:=fun a=>p (.sh false) a
abbrev QV:=t 3 .not U
abbrev QW:=fun a b=>r a [Oe,S 6 6,NY b 7]
abbrev QX:=fun a b=>t a .pick [.l b,tt,Y]
abbrev QY:=p (.build zE [(0,4),(4,1)]) (B 7)
abbrev QZ:=fun a b c=>No (.bs a [] 0 []) (.ap b c Y (.v 0))
abbrev Ra:=fun a b c=>Nh (s a b) (Qe c)
abbrev Rb:=fun a b=>s [bx 0 3,Ot 6,O0 7] (s a b)
abbrev Rc:=fun a b=>MU 268 a b
abbrev Rd:=fun a=>g a (.ld 1 false (.v 2))
abbrev Rf:=fun a=>f a su (B 1)
abbrev Rg:=n (.bs zO [(0,5),(5,5)] 2 (B 1))
abbrev Rh:=al [ZY 0,ZX 0,ZZ 0] 7
abbrev Rj:=fun a=>f a eq [Y,O]
abbrev Rk:=f 1 lt [Y,O]
abbrev Rl:=Ob (.c (.str []))
abbrev Rn:=fun a b=>MB a b [MQ 3 2]
abbrev Ro:=ML [.nils,ZZ 0,ZZ 0]
abbrev Rt:=t 2 (.sb .neq) [Y,.c (.str [])]
abbrev Ru:=fun a b c d=>Pz a (Nh (Pz b c) (Nh d (.exit 0)))
abbrev Rv:=p ad [.v 1,.v 2]
abbrev Ry:=fun a=>Pn a [(3,0,0),(5,0,0)]
abbrev Rz:=fun a=>r a [MT 2]
abbrev RA:=fun a=>Nk 6 104 a
abbrev RB:=fun a=>MH 2 a 1
abbrev RC:=fun a=>p (.ixa 64 1) [Y,.l a]
abbrev RF:=OI 108 0 1
abbrev RG:=Ng 2 192
abbrev RH:=p (.sb .eql) [Y,.c (.str [])]
abbrev RI:=fun a b=>s [On 5] (MB a b [MQ 5 4])
abbrev RL:=c 126 [.l 2,.l 1,Y,.c .nils]
abbrev RM:=fun a=>q .not U a
abbrev RN:=fun a b=>s [c 10 [.v 3,u 5],e 0,e 1,MN 6,O1 7] (s a b)
abbrev RP:=fun a=>n (.bs a [(0,1)] 1 U)
abbrev RQ:=Re [Y,u 0]
abbrev RR:=m (.l 2)
abbrev RS:=p (.ixarr 6 6 true) (B 2)
abbrev RT:=fun a b c d=>Nh (ds a b c) (Oc d 2)
def apB:IC:=Nh (s [MF 5 1 15,d 5 0,Or 9 11,q ne [Y,.v 17] 103] (Oc 103 4)) (MP [QA 17 105] (Nv 105 [D 1 16,S 1 14]) [D 1 14,Or 19 11,ON 110] (Oc 110 4))
def apZ:IC:=MB [O0 15] (QJ [lv 1,Nl 15 83] (x 83 0) (.seq (.dops [D 2 5,D 1 14,mv 1,mv 15,Nd 5 1,d 5 0,MU 24 5 4,m Y,e 0,e 1,n (.al [.nils]),MV 1,RR] [10] [0,1,2,3,4,5,6,7,8,11,9,10,12] [(0,0,0),(1,0,0),(5,0,0)] [(16,10),(17,12)]) apB) (I 15)) [c 15 [],O1 4]
def apK:IC:=Nh (s [D 1 8,Or 19 7,Re [Y,O],yv 0 11,NC 1 1 6,g 2 (.cf 19 (B 1)),Rj 3,MJ 4 78] (Oc 78 4)) (s [D 1 6,NZ 14,S 1 14] apZ)
def fn5x:IFn:=⟨2,s [bx 0 2,Of 4] (MP [QE 20 1,ON 20] (r 20 [c 15 [],O1 4]) [D 3 2,c 16 U,e 0,e 1,QB 5,NZ 6,RB 5,Ov 6] (s [D 2 5,D 1 6,OG 17 1,O1 7] (MP [NW 7,yv 0 7,NC 1 1 6,g 2 (.cf 19 (B 1)),Rj 3,MJ 4 37] (Oc 37 4) [D 2 5,D 1 6,c 21 [.l 1,Y,.v 1],e 0,e 1,e 2,NZ 8,MH 1 8 2,Qo 9,MN 10] (s [QE 22 7,O1 11] (s [OI 23 7 1,e 0,e 1,MN 12,O1 13] (Nh (s [NW 11,yv 0 10,yv 1 13,f 2 ne (B 1),P 3,yv 0 9,yv 1 12,f 2 ne (B 1),MJ 3 65] (Oc 65 4)) (.seq (s [Nb 10 67] (Nv 67 [D 1 6,S 1 8])) apK))))))),[.t 4]⟩
def fn8:IFn:=⟨1,s [bx 0 1,MT 2,O0 3] (MP [D 2 1,c 38 U,O1 4] (s [Nb 4 12] (r 12 [MT 2,MQ 4 3])) [c 39 [.c .nils],e 0,e 1,MN 5,O1 6] (MP [Nb 6 19] (r 19 [MT 2,MQ 6 3]) [A 0 1,L,c 40 U,O1 7] (Nh (s [MO 7 25,O0 26] (be [.v 26,.v 25] 27 (PF [MQ 26 8] (Qe [MF 9 7 8,a 0,d 6 0,c 41 U,MF 9 7 8,a 0,MV 6])) (J 26))) (Ni [mv 7,A 1 1,L,p (.build [.nils,ZZ 0] [(0,1),(1,1)]) (B 2),mv 5,c 42 [],c 43 [],Po 3 2 1,PE,m Y,m O] [(2,0,2)] [(2,9),(3,10)])))),[.t 2,.t 3]⟩
def fn9:IFn:=⟨2,s [bx 1 3,O0 4] (Nu [OL 9] (MX 9 2 4) (s [D 5 3,c 45 U,O1 5] (MG 5 13 4)) (MB [NP 46 1 0,Om 1,NP 47 1 0,Om 2,NP 48 1 0,Om 3,NP 49 1 0,Om 4,NP 50 1 0,Om 5,N (.bs [ZY 0,.nilf] [(0,2),(2,2),(4,2),(6,2),(8,2)] 5 [.l 8,.l 6,.l 4,.l 2,Y]) 30,MO 30 31,O0 32] (be [.v 32,.v 31] 33 (PF [MF 2 30 32,d 2 0,al [ZY 0,.nilf] 7,S 2 7] (s [A 0 7,L,A 0 3,L,q eq (B 2) 40] (r 40 [A 1 7,L,D 5 3,n (.cv (.l 1) U),O1 4]))) (J 32)) [NY 1 4])),[.t 4]⟩
def fn10:IFn:=⟨2,s [O0 4,Of 5] (MB [OL 7] (r 7 [O0 4,Of 5]) [v 0,a 3,L,Ok 51 1,e 0,e 1,MN 4,O1 5]),[.t 4,.t 5]⟩
def fn11:IFn:=⟨1,s [O0 2] (MB [OL 4] (Pu 4 2) [v 0,a 2,L,c 52 U,O1 2]),[.t 2]⟩
def fn12:IFn:=⟨2,s [O0 4,O0 5] (MP [OL 13] (r 13 [O0 4,NY 2 5]) [v 0,a 4,L,c 53 U,O1 6] (MB [MQ 1 19,MO 19 20,O0 21] (be [.v 21,.v 20] 22 (PF [MF 2 19 21,d 2 0,al zH 8,MQ 21 7,S 2 8] (Nh (.dops [mv 0,k,a 3,L,A 0 8,L,OG 51 2,m Y,e 0,e 1,Oo,Oo] [] [0,1,2,3,4,5,6,7,8,10,9,11] [(3,0,0),(5,0,0)] [(9,10),(10,11)]) (s [NY 11 11] (MP [MQ 10 36] (Nf (.v 36) (ds [mv 0,k,a 4,L,mv 9,A 1 8,L,c 54 [.l 3,.l 2,Y,tt],m Y] [(3,0,0),(6,0,0)] [(11,8)])) [Nb 11 46] (OC 46 [v 0,a 4,Ob (.v 6)] (Na [MQ 7 4,MQ 11 5])))))) (J 21)) [lv 1,O1 4,O0 5])),[.t 4,.t 5]⟩
def fn13:IFn:=⟨1,s [MT 2] (MB [OL 4] (Rz 4) [v 0,a 4,L,c 53 U,O1 2]),[.t 2]⟩
def fn14:IFn:=⟨1,NM [v 0,a 0,a 0,a 0,d 1 0,c 55 U,O1 2],[.t 2]⟩
def fn15:IFn:=⟨0,Rx (Of 0) [PC 3,Nj,OT 5 1 [114,111,119],al zN 1,S 6 1] (s [D 6 1,p (.build zK [(0,6),(6,1)]) [Y,i 10],D 6 1,p (.build zK [(0,6),(6,1),(7,1)]) [Y,i 6,tt],n (.bs zK [(0,9),(9,9)] 2 (B 2)),Ql [.nils,ZZ 0] (i 64),QB 2,S 2 2] (s [D 2 2,c 8 U,e 0,e 1,MN 3,O1 4] (MP [PU 4,yv 0 3,Pb 1,MJ 2 38] (Oc 38 0) [p (.build zI [(0,1),(2,1)]) [u 5,.c (.str [97])],p (.build zI [(0,1),(1,1),(2,1)]) [u 7,b 1,.c (.str [98])],n (.bs zI [(0,4),(4,4)] 2 (B 1)),p (.build zO [(0,1),(4,1)]) [b 1,Y],Or 9 3,O1 5] (s [c 10 [.v 3,u 7],e 0,e 1,MN 6,O1 7] (s [QE 13 3,O1 8] (MP [PU 5,yv 0 6,f 1 ne [Y,i 1],P 2,yv 0 7,Od 1,P 2,yv 0 8,Pb 1,P 2,yv 0 8,Ng 1 14,f 2 ne [Y,i 16],MJ 3 70] (Oc 70 0) [p (.build zO [(0,1),(2,1),(3,1)]) [b 3,i 1,i 1],Pg,Rg,Or 23 3,e 0,e 1,MN 9,O1 10] (RN [c 10 [.v 3,u 7],e 0,e 1,MN 11,O1 12] (MP [p ne [.v 9,i 2],yv 0 10,f 1 ne [Y,O],P 2,yv 0 6,f 1 ne [Y,O],P 2,yv 0 7,Od 1,P 2,yv 0 11,f 1 ne [Y,O],P 2,yv 0 12,MJ 1 109] (Oc 109 0) [Pg,Pg,Rg,Or 23 3,e 0,e 1,MN 13,O1 14] (RN [Qv 5 30,Qv 6 1,n (.bs zH [(0,2),(2,2)] 2 (B 1)),Or 12 3,e 0,e 1,MN 15,O1 16] (s [Qv 5 30,n (.bs zH [(0,2)] 1 U),Or 12 3,e 0,e 1,MN 17,O1 18] (s [QE 13 3,O1 8] (Na [Re [.v 13,i 1],zv 0 14,t 1 eq [Y,i 4],Q 2,zv 0 6,Pf 1,Q 2,zv 0 7,Q 1,zv 0 15,t 1 eq [Y,i 1],Q 2,zv 0 16,t 1 eq [Y,i 11],Q 2,zv 0 17,t 1 eq [Y,i 1],Q 2,zv 0 18,Pf 1,Q 2,zv 0 8,t 1 (.nil 0 true) [Y,.c .nilp],Q 2,zv 0 8,QG 1 14,t 2 eq [Y,i 30],Q 3,O1 0])))))))))))),[.t 0]⟩
def fn16:IFn:=⟨1,s [bx 0 1,QB 2,NZ 3] (s [A 2 1,L,c 56 U,Ql [.nils,ZZ 0] (i 12),QB 4,S 2 4] (s [A 0 1,d 1 0,c 57 U,O1 5] (OR (NZ 6) (s [O0 7] (QJ [lv 5,Nl 7 20] (x 20 0) (Nh (Nh (ds [D 2 4,mv 5,mv 7,Nd 4 1,d 4 0,c 58 [.l 4,Y,O],Rq [Y,O]] [(0,0,0),(4,0,0)] [(29,6)]) (Pt 29 1)) (Nh (.dops [D 2 4,mv 5,mv 7,Nd 4 1,d 4 0,OG 59 4,n (.al zE),w 6] [6] [] [(0,0,0),(4,0,0)] [(8,6)]) (Ra [A 0 6,L,ls,O1 9] (s [A 1 1,L,ls,QS 9,OF 1,h 1 l,zv 2 9,OD 3 1 1,h 4 l,t 5 gt [Y,b 0],Nm 6 51] (OC 51 [A 1 1,L,Nz 1 9,L,NJ [Y,b 40],Oz,p ad [i 1,Y],A 4 8,w 1] (Qe [A 5 8,n (.st 1 Y tt)]))) [A 0 6,L,D 6 8,n (.bs zE [(0,6)] 1 U),Nk 6 72 2,A 0 6,w 1]))) (I 7))) (.seq (.dops [D 2 4,D 1 6,RB 2,Ov 3] [] [0,2,1,3] [(0,0,0),(1,0,1)] []) .ret)))),[.c 2 2 true,.c 3 1 true]⟩
def fn17:IFn:=⟨2,s [bx 0 2,bx 1 3,MT 4] (s [D 2 2,c 8 U,e 0,e 1,MN 5,O1 6] (MP [PU 6,yv 0 5,Pb 1,MJ 2 22] (r 22 [MT 4]) [p (.build zO [(0,1)]) [b 1],al zO 7,S 5 7] (s [On 8] (Nu [O0 9] (QJ [A 0 3,L,ls,Nl 9 28] (x 28 0) (Nh (Pn [A 4 7,L,A 0 3,L,mv 9,Nd 6 1,a 0,d 4 0,PB,Nk 4 56 7,A 4 7,w 1] [(1,0,1),(3,0,0),(7,0,0)]) (s [A 0 3,L,Nz 6 9,a 5,N l 47] (Nf (.v 47) (ds [mv 8,A 0 3,L,mv 9,Nd 6 1,a 0,a 0,L,A 0 3,L,mv 9,Nd 6 1,a 4,L,p (.build zH [(0,1),(1,1)]) (B 6),n (.bs zH [(0,2)] 1 U),Nk 2 16 15,m Y] [(2,0,0),(7,0,0),(9,0,0),(13,0,0)] [(8,17)])))) (I 9)) (s [D 5 7,Or 9 5,q ne [Y,O] 68] (r 68 [MT 4])) (MB [OI 12 5 8,e 0,e 1,Oo,MN 11] (s [Nb 11 76] (r 76 [MT 4])) [MQ 5 4]))))),[.t 4]⟩
def fn19:IFn:=⟨2,PD (Nh (ds [mv 0,c 11 U,A 0 3,L,ls,p ne (B 3),m Y,yv 0 0,Ng 1 30,NC 2 1 3,g 3 (.cf 61 (B 1)),Od 4,P 5] [(3,0,1),(9,1,2)] [(22,12)]) (Pu 22 4)) (s [O0 5] (MP [O0 6] (QJ [A 0 3,L,ls,Nl 6 27] (x 27 0) (s [A 0 3,L,Nz 6 6,a 0,a 0,L,Or 10 0,e 0,e 1,MN 7,O1 8] (Ra [p ne [.v 7,.v 6],yv 0 8,Od 1,MJ 2 48] (Pu 48 4) [mv 5,A 0 3,L,Nz 6 6,a 4,L,Nq 5,O1 5])) (I 6)) [NK 13,O1 9] (Nh (Nh (ds [mv 9,p (.nil 0 false) [Y,.c .nilp],m Y,yv 0 9,Ng 1 62,QM 2 0 3,g 3 l,OY 4,f 5 ne (B 3),P 6,m Y,yv 0 9,Ng 1 14,yv 2 5,f 3 ne (B 1),P 4] [(6,0,1)] [(74,15)]) (Pu 74 4)) (Na [NY 1 4])))),[.t 4]⟩
def fn20:IFn:=⟨1,s [O0 2] (OR (O0 3) (s [O0 4] (QJ [lv 0,Nl 4 9] (x 9 0) (s [mv 3,MF 5 0 4,a 4,L,ls,Nq 4,O1 3] (MP [O0 5] (lp 2 3 [MF 5 0 4,a 4,L,ls,Nl 5 27] (x 27 2) (s [MF 5 0 4,a 4,L,Nz 4 5,a 2,L,p .lenStr U,Rq [Y,i 70],yv 0 0,yv 1 4,f 2 (.ixs 5) (B 1),Oi 3 4,g 4 l,yv 5 5,f 6 (.ixs 4) (B 1),Oi 7 3,g 8 l,OY 9,Ny 10 12,MJ 11 53] (Pu 53 2)) (I 5)) [q gt [.v 3,i 60] 55] (Pu 55 2))) (I 4))) (MB [lv 0,OK 40 58] (Pu 58 2) [NY 1 2])),[.t 2]⟩
def fn21:IFn:=⟨3,s [bx 0 3,bx 1 4,NZ 6,O0 7,O0 8] (Nh (s [D 2 3,D 1 4,OG 63 1,O1 9] (s [Nb 9 16] (r 16 [Qc,S 1 6,O0 7,MQ 9 8]))) (MP [lv 2,OK 32 21] (r 21 [Qc,S 1 6,O0 7,NY 3 8]) [D 2 3,D 1 4,c 64 [.l 1,Y,O,O],e 0,e 1,Ov 6,MN 8] (MB [MQ 2 29,MO 29 30,O0 31] (be [.v 31,.v 30] 32 (PF [MF 5 29 31,d 5 0,al zO 11,MQ 31 10,S 5 11] (s [D 2 3,D 1 6,D 5 11,MU 24 2 1,e 0,e 1,Ov 6,MN 8] (s [Nb 8 44] (r 44 [Qc,mv 8,Ov 6,MQ 10 7,MN 8])))) (J 31)) [D 1 6,lv 2,mv 8,MH 1 6 2,Qo 7,MN 8]))),[.c 6 1 true,.t 7,.t 8]⟩
def fn22:IFn:=⟨1,s [MT 2] (MP [OL 6] (Rz 6) [v 0,a 2,L,c 65 U,c 39 U,e 0,e 1,MN 3,O1 4] (Nh (s [Nb 4 17] (Rz 17)) (Ni [mv 0,k,a 0,d 2 0,mv 3,mv 0,k,a 3,L,c 66 U,mv 0,k,a 4,L,c 53 U,Po 11 10 5,PE,m Y] [(3,0,2),(8,0,0),(13,0,1)] [(2,17)]))),[.t 2]⟩
def fn23:IFn:=⟨2,s [O0 4,O0 5] (Nh (s [OL 11] (r 11 [O0 4,NY 2 5])) (MP [lv 1,OK 32 14] (r 14 [O0 4,NY 3 5]) [NK 22,O1 6] (MB [MQ 1 17,MO 17 18,O0 19] (be [.v 19,.v 18] 20 (PF [MF 5 17 19,d 5 0,al zO 8,MQ 19 7,S 5 8] (s [D 5 8,Or 9 0,O1 9] (s [Nb 9 28] (OC 28 [v 6,d 5 0,v 0,w 5] (Na [MQ 7 4,MQ 9 5]))))) (J 19)) [lv 1,O1 4,O0 5]))),[.t 4,.t 5]⟩
def fn24:IFn:=⟨3,Qh (PJ 8 14) (s [D 5 5,c 45 U,O1 9] (PJ 9 20)) (Ni [c 67 [],A 0 5,L,RS,p (.field 5 1 false) U,D 2 3,D 1 4,D 5 5,n (.cv (.l 3) [.l 2,.l 1,Y]),e 0,e 1,Ov 6,Oo] [(2,0,1),(5,0,1),(6,0,1),(7,0,1)] [(7,12)]),[.c 6 1 true,.t 7]⟩
def fn30:IFn:=⟨1,Rx (NZ 2) [Qc,NZ 3,S 1 3] (MP [NK 11,ON 13] (r 13 [D 1 3,S 1 2]) [NK 11,n (.mk zE 72 Y Y),A 0 3,w 1] (MB [v 0,a 2,L,N (.cf 65 U) 23,MO 23 24,O0 25] (be [.v 25,.v 24] 26 (PF [MF 4 23 25,d 4 0,al zI 5,MQ 25 4,S 4 5] (s [v 0,a 4,L,Ok 76 4,e 0,e 1,MN 6,m Y] (s [v 0,a 4,L,Ok 77 4,e 0,e 1,MN 8,m Y] (Pn [A 0 3,L,mv 4,D 4 5,c 71 U,mv 6,mv 8,p (.build zE [(0,4),(4,1),(5,1)]) [.l 2,.l 1,Y],Px 6 6 5,w 6] [(1,0,1),(3,0,0)])))) (J 25)) [D 1 3,S 1 2])),[.c 2 1 true]⟩
def fn31:IFn:=⟨3,QC (MP [MM 10] (MX 10 2 6) [v 0,a 0,d 2 0,Oq 78,e 0,e 1,Ox 7,RB 7,MN 8] (MP [PU 8,yv 0 2,Rj 1,MJ 2 26] (r 26 [MQ 8 6]) [D 2 7,v 0,a 0,MV 2] (Na [v 0,a 2,L,Oq 79,O1 6]))),[.t 6]⟩
def fn38:IFn:=⟨1,OW (s [Ps 87 3] (Rm [A 0 1,L,ls,RE [Y,i 1],MR 0 1,g 1 l,OY 2,Ny 3 8,P 4,MR 1 1,g 1 l,f 2 lt [Y,i 1],P 3,MR 1 1,g 1 l,Ny 2 64,P 3,MR 0 1,g 1 l,yv 2 3,g 3 (.cf 90 (B 1)),MJ 4 29] (MX 29 7 2))),[.t 2]⟩
def fn39:IFn:=⟨1,s [MT 2,O0 3] (s [Ro,PE,O1 4] (MB [c 91 [.v 4,O,.v 0],O1 5] (s [Nb 5 12] (r 12 [MT 2,MQ 5 3])) [MQ 4 2,O0 3])),[.t 2,.t 3]⟩
def fn40:IFn:=⟨1,No (.bs zK [] 0 []) (.ap 9 128 Y (.v 0)),[.t 2]⟩
def fn41:IFn:=⟨1,s [bx 0 1,al zN 2] (s [A 3 1,L,c 92 U,A 3 1,w 1] (s [A 5 1,L,c 93 U,A 5 1,w 1] (MB [A 5 1,L,q .lenS U 14,O0 15] (be [.v 15,.v 14] 16 (PF [MQ 15 3] (Pn [A 5 1,L,mv 3,A 5 1,L,mv 3,Nd 6 1,d 6 0,c 41 U,Px 6 7 6,w 6] [(1,0,1),(4,0,0),(7,0,0)])) (J 15)) [D 6 1,S 6 2]))),[.c 2 6 true]⟩
def fn42:IFn:=⟨0,PX (MT 0) [Ro,PE,O1 0],[.t 0]⟩
def fn43:IFn:=⟨0,PX (MT 0) [ML [.nilp,.nils,.nilp],PE,O1 0],[.t 0]⟩
def fn44:IFn:=⟨1,OA [NW 0,yv 0 0,Ph 1,Oi 2 2,g 3 l,Pb 4,P 5,O1 2],[.t 2]⟩
def fn45:IFn:=⟨1,OW (Nu [A 0 1,L,RE [Y,b 1],MR 0 1,g 1 l,QU 2 5,MJ 3 11] (MX 11 1 2) (.dops [c 67 [],A 0 1,L,RS,n (.al [.str [],.bool false,.bool false,.bool false,.bool false,.nilf]),w 6] [4] [] [(2,0,1)] [(3,4)]) (Rm [A 1 3,L,Pq,OF 1,h 1 l,t 2 ne [Y,O],Q 3,MR 2 3,g 1 l,Od 2,y 3 Y,OF 2,h 1 l,t 2 ne [Y,O],NB 7 3,P 8,MR 3 3,g 1 l,Od 2,y 3 Y,OF 3,h 1 l,t 2 ne [Y,O],NB 7 3,P 8,MR 4 3,g 1 l,Od 2,y 3 Y,OF 4,h 1 l,OE 2,t 3 gt [Y,O],NB 8 4,MJ 9 54] (MX 54 5 2))),[.t 2]⟩
def fn46:IFn:=⟨2,s [bx 0 2,bx 1 3,O0 4] (Nh (Nh (ds [A 1 3,L,RE [Y,O],m Y,MR 1 3,g 1 l,Rd 2,Ng 3 11,OO 4 2,P 5] [(1,0,0),(5,0,1),(6,0,0)] [(15,9)]) (MX 15 4 4)) (Nh (Nh (ds [A 4 3,L,ls,MC 2,c 11 U,Ri [i 1024,Y],Rq (B 3)] [(1,0,1),(3,0,0)] [(22,6)]) (MX 22 3 4)) (MB [MC 2,A 4 3,L,NP 95 0 2,MU 94 3 1,O1 5] (MG 5 29 4) [MC 2,A 1 3,L,A 4 3,L,MU 96 4 2,O1 4]))),[.t 4]⟩
def fn47:IFn:=⟨2,PD (Nh (QN (a 4) (MU 31 4 2) (5,9)) (MG 5 20 4)) (Nu [A 2 3,N l 23,O0 24] (be [.v 24,.v 23] 25 (PF [MQ 24 6] (PZ [mv 0,k,a 2,L,A 1 3,L,mv 6,Nq 1,OG 70 4,m Y,e 0,e 1,n (.al zI),MV 4,RR] [(7,12),(8,14)] [QA 8 40] (Nf (.v 40) (Ry [mv 0,k,a 3,L,A 0 7,L,OG 97 2])))) (J 24)) (QN (a 2) (MU 98 4 2) (9,9)) (s [A 1 3,L,Or 99 0] (Na [MQ 9 4]))),[.t 4]⟩
def fn48:IFn:=⟨2,PD (Nh (Qf (a 4) (Qa 100 6 4 2) (5,11)) (MG 5 19 4)) (Nh (Qf (a 2) (Qa 101 6 4 2) (6,11)) (s [A 1 3,L,A 3 3,L,p .mn (B 2),Or 99 0] (Na [MQ 6 4]))),[.t 4]⟩
def chI:IC:=s [MQ 12 109,MO 109 110,O0 111] (NI 4 (Ow 111 110 112) (x 112 4) (PN 5 [MF 1 109 111,L,MQ 111 17,O1 18] (s [A 1 3,L,Qt 17,Or 76 14,e 0,e 1,MN 19,m Y] (Nu [Rq [.v 18,.v 19],q (.bb true) [Y,.v 16] 129] (Pt 129 5) (ds [mv 0,k,a 4,L,A 1 3,L,mv 17,Nq 1,mv 18,c 54 [.l 5,.l 1,Y,ff],m Y] [(3,0,0),(5,0,0)] [(21,10)]) (s [Nb 21 141] (OC 141 [v 0,a 4,Ob (.v 14)] (Na [MQ 21 4]))))) 111))
def chC:IC:=MB [A 4 3,N l 150,MO 150 151,O0 152] (NI 6 (Ow 152 151 153) (x 153 6) (PN 7 [MF 4 150 152,d 4 0,al zI 23,MQ 152 22,S 4 23] (Nh (Pn [mv 0,k,a 4,L,A 1 3,L,mv 22,Nq 1,mv 13,mv 22,Nd 1 1,L,MU 104 8 4] [(3,0,0),(5,0,0),(11,0,0)]) (Pn [mv 0,k,a 2,L,A 1 3,L,mv 22,Nq 1,D 4 23,c 71 U,MU 105 6 2] [(3,0,1),(5,0,1),(8,0,0)])) 152)) [O0 4]
def chB:IC:=s [A 4 3,L,Or 103 0,e 0,e 1,MN 12,O1 13] (s [v 0,a 4,L,c 53 U,O1 14] (.seq (s [N (.bs [.bool false] [(0,1),(1,1)] 2 [.c (.bool false),.c (.bool true)]) 103,MO 103 104,O0 105] (NI 2 (Ow 105 104 106) (x 106 2) (Nh (Pz 3 (s [MF 1 103 105,L,O1 16] chI)) (J 105)))) chC))
def fn49x:IFn:=⟨2,PD (Nh (ds [A 1 3,L,RE [Y,O],m Y,MR 1 3,g 1 l,yv 2 0,Ng 3 11,OO 4 2,P 5,m Y,MR 4 3,g 1 l,OY 2,yv 3 0,Ng 4 11,QM 5 1 3,g 6 l,f 7 su (B 2),OO 8 5,P 9] [(1,0,0),(5,0,1),(12,1,2),(17,1,2)] [(44,20)]) (MX 44 4 4)) (.seq (s [A 4 3,N l 46,MO 46 47,O0 48] (be [.v 48,.v 47] 49 (PF [MF 4 46 48,d 4 0,al zI 6,MQ 48 5,S 4 6] (Nh (Nh (QK (D 4 6) (7,8)) (MG 7 62 4)) (Nh (PZ [mv 0,k,a 2,L,A 1 3,L,mv 5,Nq 1,OG 70 4,m Y,e 0,e 1,n (.al zI),MV 4,RR] [(8,12)] [A 0 8,L,A 0 6,L,q ne (B 2) 80] (MX 80 9 4)) (s [D 4 6,Or 72 0,e 0,e 1,QQ,MV 6,Qo 11] (MG 11 88 4))))) (J 48))) chB),[.t 4]⟩
def fn50:IFn:=⟨2,PD (s [A 4 3,L,ls,OK 1024 12] (MX 12 3 4)) (MP [A 4 3,L,c 94 [.v 0,Y,.c (.func (.func 106) [] [])],O1 5] (MG 5 18 4) [v 0,a 0,d 2 0,c 8 U,e 0,e 1,MN 6,O1 7] (Nh (MG 7 29 4) (MP [A 4 3,L,c 96 [.v 6,O,Y],O1 8] (MG 8 36 4) [v 6,d 5 0,v 0,w 5] (Na [O0 4])))),[.t 4]⟩
def fn51:IFn:=⟨2,s [O0 4,Of 5] (MP [NK 107,ON 9] (r 9 [O0 4,Of 5]) [RF,e 0,e 1,MN 6,O1 5] (MB [q .not [.v 5] 17] (r 17 [O0 4,Of 5]) [v 0,a 0,L,Nz 3 6,a 2,L,O1 4,o tt 5])),[.t 4,.t 5]⟩
def fn52:IFn:=⟨1,OR (O0 2) (s [MM 4] (Pu 4 2)) (Ni [mv 0,k,a 0,L,ls,mv 0,k,a 2,L,Ri (B 4),m Y] [(3,0,0),(8,0,0)] [(2,10)]),[.t 2]⟩
def fn53:IFn:=⟨1,s [MT 2] (MP [MM 5] (Rz 5) [v 0,a 0,d 2 0,p (.build [.nilp,.nils,.nilp] [(0,2)]) U,PE,O1 3] (Rn [v 0,a 2,L,q (.nil 0 true) [Y,.c .nilp] 16] (Nv 16 [v 0,a 2,L,c 109 U,v 3,a 2,MV 1]))),[.t 2]⟩
def fn54:IFn:=⟨4,s [O0 8] (MP [MM 12] (MX 12 2 8) [v 0,a 0,d 2 0,Qp 110,e 0,e 1,Ox 9,RB 9,MN 10] (MB [QA 10 25] (Nv 25 [D 2 9,v 0,a 0,MV 2]) [MQ 10 8])),[.t 8]⟩
def fn55:IFn:=⟨1,OW (Na [A 0 1,L,c 111 U,O1 2]),[.t 2]⟩
def fn56:IFn:=⟨1,Rx (On 2) [NX [110] 3,NX [116,101,120,116] 1,n (.bs [.str [],ZY 0,.str []] [(0,3),(3,3)] 2 (B 1)),PC 3,Nj,p (.build zN [(0,1),(1,1),(3,1),(5,1)]) [b 1,.c (.str [114,111,119]),.l 2,Y],al zN 3,S 6 3] (s [NX [105,100] 2,Qj,p (.build zN [(0,1),(4,1)]) [b 2,.c (.str [35])],PC 4,n (.bs zN [(0,6),(6,6)] 2 (B 1)),Pp (.c (.str [104,101,97,100])) (.c (.str [104])) (.l 3),al zN 4,S 6 4] (s [PC 3,Nj,p (.build zN [(0,1),(1,1),(2,1),(5,1)]) [b 1,.c (.str [98]),.c (.str [98,50]),Y],NX [111,102] 2,Qj,OT 3 5 [116,97,103],n (.bs zN [(0,6),(6,6)] 2 (B 3)),OT 5 1 [114,111,119],al zN 5,S 6 5] (Na [D 6 3,NJ [.v 0,b 7],Oz,p ad [i 10,Y],NJ [.v 0,b 4],Oz,p (.build zK [(0,6),(6,1),(8,1)]) [.l 5,.l 2,Y],D 6 4,NJ [.v 0,b 3],Oz,p ad [i 6,Y],Pd [.v 0,b 4],NJ [Y,b 3],Oz,p (.build zK [(0,6),(6,1),(7,1),(8,1)]) [.l 6,.l 3,tt,Y],D 6 5,NJ [.v 0,b 16],Re [Y,b 15],Pd [.v 0,b 8],NJ [Y,b 3],Oz,p (.build zK [(0,6),(6,1),(7,1),(8,1)]) [.l 5,i 20,.l 3,Y],n (.bs zK [(0,9),(9,9),(18,9)] 3 [.l 15,.l 7,Y]),O1 2]))),[.t 2]⟩
def fn57:IFn:=⟨1,s [bx 0 1,On 2] (s [On 3] (Rn [O0 4] (QJ [A 0 1,L,ls,QS 4,zv 0 4,t 1 lt [Y,i 12],Nm 2 14] (x 14 0) (s [A 0 1,L,Nz 4 4,d 4 0,c 112 U,al zI 5,S 4 5] (s [A 0 5,L,Or 113 3,q lt [Y,O] 27] (Nv 27 [mv 3,D 4 5,PB,Nk 4 56 2,O1 3]))) (I 4)))),[.t 2]⟩
def fn58:IFn:=⟨3,s [bx 0 3,bx 1 4,O0 6] (Nu [D 4 4,A 0 3,L,ls,OG 114 3,q gt [Y,O] 14] (MX 14 6 6) (s [q eq [.v 2,i 1] 16] (MX 16 8 6)) (Nh (.dops [A 0 3,L,A 1 4,L,Nd 9 2,a 0,d 6 0,D 4 4,A 1 3,L,MU 115 3 2,m Y,e 0,e 1,QQ,MV 6,RR] [14] [0,1,2,3,4,5,6,7,8,9,10,11,12,15,13,14,16] [(1,0,0),(3,0,0),(6,0,0),(7,0,0),(9,0,0)] [(8,16)]) (MB [q gt [.v 8,O] 32] (MX 32 14 6) [O0 6]))),[.t 6]⟩
def fn59:IFn:=⟨2,s [bx 0 2,bx 1 3,al zE 4] (Ni [D 4 3,A 0 2,L,A 1 3,L,Nd 9 2,a 6,L,QY,S 6 4] [(0,0,0),(2,0,0),(4,0,0),(7,0,0)] []),[.c 4 6 true]⟩
def fn61:IFn:=⟨2,Qx [A 0 2,L,A 0 3,L,c 118 [.l 2,Y,.c (.func (.func 119) [] [])],O1 4],[.t 4]⟩
def fn62:IFn:=⟨1,NM [v 0,a 0,d 2 0,c 121 U,O1 2],[.t 2]⟩
def fn63:IFn:=⟨2,s [bx 0 2,bx 1 3,O0 4] (Nh (s [D 2 2,c 38 U,O1 5] (MG 5 15 4)) (MP [A 0 3,L,ls,OK 1024 20] (MX 20 3 4) [n (.mm []),O1 6] (MB [A 0 3,N l 23,MO 23 24,O0 25] (be [.v 25,.v 24] 26 (PF [MF 6 23 25,d 6 0,al zE 8,S 6 8] (Nh (s [A 0 8,d 4 0,A 0 2,L,ls,OG 102 3,O1 9] (MG 9 36 4)) (MP [A 0 8,a 0,L,N (.lk none (.bool false) false [.v 6,Y]) 42] (MX 42 8 4) [A 0 8,a 0,L,OU (.v 6)] (Nu [D 2 2,A 0 8,d 4 0,OG 73 2,e 0,e 1,QQ,MV 6,Qo 11] (s [Nb 11 55] (MX 55 14 4)) (ds [A 4 8,L,c 88 U,Pq,m Y,MR 5 8,g 1 l,Od 2,y 3 Y,MI 0 4 8,h 1 l,MI 2 0 2,h 3 l,MI 4 0 8,Nw 5 1,h 6 l,OD 7 9 3,Nw 8 6,h 9 l,t 10 ne (B 8),NB 15 11,P 16] [(1,0,0),(6,1,1),(10,1,1),(12,1,1),(15,1,1),(18,1,1)] [(77,21)]) (MX 77 12 4))))) (J 25)) [D 1 3,c 122 U,O1 4]))),[.t 4]⟩
def fn64:IFn:=⟨4,s [bx 0 4,bx 1 5,bx 2 6,bx 3 7,NZ 8,O0 9] (Ni [D 2 4,D 1 5,MC 6,MC 7,A 0 5,L,ls,MU 124 4 3,NO 125 5 6 7,Pa,MU 123 9 8,e 0,e 1,Ov 8,Oo] [(0,0,1),(1,0,1),(2,0,0),(3,0,0),(5,0,0)] [(9,14)]),[.c 8 1 true,.t 9]⟩
def fn65:IFn:=⟨1,s [On 2] (MP [NK 52,ON 6] (r 6 [On 2]) [NK 52,n (.mk zI 56 Y Y),O1 3] (Nh (Qb 3) (Nh (Pn [mv 3,mv 0,k,a 1,L,MY 4 4,mv 0,k,a 0,L,mv 0,k,a 1,L,mv 0,k,a 2,L,Nq 4,MY 4 9,OS 14] [(4,0,0),(9,0,0),(13,0,0),(17,0,0)]) (Na [MQ 3 2])))),[.t 2]⟩
def fn66:IFn:=⟨1,OR (MT 2) (s [MM 4] (Rz 4)) (Ni [mv 0,k,a 0,L,c 127 U,mv 0,k,a 1,L,mv 0,k,a 2,L,p (.build [.nils,ZZ 0,ZZ 0] [(0,1),(1,1),(2,1)]) [.l 8,.l 4,Y],PE,m Y] [(3,0,0),(8,0,1),(12,0,1)] [(2,15)]),[.t 2]⟩
def fn67:IFn:=⟨0,PX (al [.str [],.bool false,.bool false,.bool false,.bool false,.nilf,.str [],.bool false,.bool false,.bool false,.bool false,.nilf,.str [],.bool false,.bool false,.bool false,.bool false,.nilf,.str [],.bool false,.bool false,.bool false,.bool false,.nilf,.str [],.bool false,.bool false,.bool false,.bool false,.nilf,.str [],.bool false,.bool false,.bool false,.bool false,.nilf] 0) [Oh (.str [105,110,115,101,114,116]) (.func (.func 128) [] []),p (.build [.str [],.bool false,.bool false,.bool false,.bool false,.nilf] [(0,1),(1,1),(2,1),(3,1),(4,1),(5,1)]) [.c (.str [114,101,109,111,118,101]),tt,tt,ff,ff,.c (.func (.func 130) [] [])],p (.build [.str [],.bool false,.bool false,.bool false,.bool false,.nilf] [(0,1),(1,1),(2,1),(3,1),(4,1),(5,1)]) [.c (.str [109,111,118,101]),tt,tt,tt,ff,.c (.func (.func 131) [] [])],Oh (.str [99,104,97,110,103,101]) (.func (.func 133) [] []),p (.build [.str [],.bool false,.bool false,.bool false,.bool false,.nilf] [(0,1),(1,1),(2,1),(3,1),(4,1),(5,1)]) [.c (.str [114,101,115,101,116]),ff,ff,ff,tt,.c (.func (.func 135) [] [])],p (.build [.str [],.bool false,.bool false,.bool false,.bool false,.nilf,.str [],.bool false,.bool false,.bool false,.bool false,.nilf,.str [],.bool false,.bool false,.bool false,.bool false,.nilf,.str [],.bool false,.bool false,.bool false,.bool false,.nilf,.str [],.bool false,.bool false,.bool false,.bool false,.nilf,.str [],.bool false,.bool false,.bool false,.bool false,.nilf] [(6,6),(12,6),(18,6),(24,6),(30,6)]) [.l 4,.l 3,.l 2,.l 1,Y],S 36 0],[.c 0 36 true]⟩
def fn70:IFn:=⟨2,s [al zI 4,O0 5] (Nh (s [c 137 [.v 0,.v 1,i 1],O1 6] (s [Nb 6 12] (OC 12 [al zI 7] (Na [D 4 7,S 4 4,MQ 6 5])))) (Ni [mv 0,k,a 0,L,mv 0,mv 1,OG 138 1,Nd 4 3,d 4 0,S 4 4,m O] [(3,0,1),(8,1,1)] [(5,10)])),[.c 4 4 true,.t 5]⟩
def fn71:IFn:=⟨1,s [bx 0 1,al zI 2] (s [A 3 1,L,c 140 U,c 139 U,A 3 1,w 1] (Na [D 4 1,S 4 2])),[.c 2 4 true]⟩
def fn72:IFn:=⟨2,s [bx 1 3,al zN 4,O0 5] (Ni [mv 0,k,a 0,a 0,L,A 1 3,L,Nd 9 2,a 0,d 6 0,D 4 3,mv 0,k,a 0,a 1,L,MU 141 6 5,e 0,e 1,MH 6 4 1,Oo] [(4,0,0),(6,0,0),(9,0,0),(10,0,0),(15,0,0)] [(5,20)]),[.c 4 6 true,.t 5]⟩
def fn73:IFn:=⟨2,s [bx 0 2,bx 1 3,al zN 4,O0 5] (Ni [A 0 2,L,A 1 3,L,Nd 9 2,a 0,d 6 0,D 4 3,A 1 2,L,MU 141 3 2,e 0,e 1,MH 6 4 1,Oo] [(1,0,0),(3,0,0),(6,0,0),(7,0,0),(9,0,0)] [(5,14)]),[.c 4 6 true,.t 5]⟩
def fn74:IFn:=⟨1,Nr 142,[.t 2]⟩
def fn76:IFn:=⟨2,s [O0 4,O0 5] (Qr (O0 4) 145),[.t 4,.t 5]⟩
def fn77:IFn:=⟨2,s [Of 4,O0 5] (Qr (Of 4) 146),[.t 4,.t 5]⟩
def fn78:IFn:=⟨3,s [bx 0 3,Ox 6,O0 7] (s [A 0 3,a 0,d 1 0,Oq 147,e 0,e 1,Ot 8,Ov 8,MN 9] (MP [Nb 9 21] (QO 21 6 9 7) [A 1 3,L,Oq 148,e 0,e 1,MN 10,O1 9] (Na [D 1 8,c 149 [Y,.v 10,.v 9],e 0,e 1,RB 6,MN 7]))),[.c 6 2 true,.t 7]⟩
def fn79:IFn:=⟨3,QC (MP [Og 150,O1 7] (MG 7 14 6) [NK 151,O1 8] (Nh (Pn [mv 0,mv 8,mv 1,NG 1,mv 8,mv 1,mv 2,Nq 1,MY 1 3,n (.bs [.nils] [(0,1),(1,1)] 2 (B 5)),OG 152 9] []) Pe)),[.t 6]⟩
def fn82:IFn:=⟨1,OW (s [O0 3] (Rn [A 0 1,N l 8,MO 8 9,O0 10] (QD [MF 6 8 10,d 6 0,al zE 5,S 6 5] (s [A 4 5,L,p .mx [Y,O],O1 6] (Ra [Ri [PY,.v 3],q gt [.v 6,Y] 20] (MX 20 4611686018427387905 2) [mv 3,Qt 6,O1 3]))))),[.t 2]⟩
def fn87:IFn:=⟨1,s [bx 0 1,Of 2] (Na [A 6 1,L,c 88 U,Pq,MR 0 1,g 1 (.ld 6 true Y),Ng 2 89,f 3 ne [Y,O],P 4,O1 2]),[.t 2]⟩
def fn88:IFn:=⟨1,OA [p ge [.v 0,i 1],zv 0 0,t 1 le [Y,i 2305843009213693952],Q 2,O1 2],[.t 2]⟩
def fn89:IFn:=⟨1,Nr 163,[.t 2]⟩
def fn90:IFn:=⟨2,NE 164,[.t 4]⟩
def fn91:IFn:=⟨3,QC (Nu [c 137 [.v 0,.v 1,O],O1 7] (MG 7 12 6) (s [lv 2,NK 52,Ri [i 4096,Y],q gt (B 2) 19] (MX 19 3 6)) (MP [lv 2,ON 22] (Pu 22 6) [OI 165 0 1] (s [lv 2,Or 166 0] (Nh (Pn [mv 0,k,a 1,L,mv 0,k,a 0,L,mv 0,k,a 1,L,MY 4 4,mv 2,OS 1,Nq 11,p .nilck [.l 15],a 1,MV 1] [(3,0,1),(7,0,0),(11,0,0)]) (s [v 0,a 2,L,lv 2,Ri (B 1),v 0,a 2,MV 1] Pe))))),[.t 6]⟩
def fn92:IFn:=⟨1,QZ [.str [],ZY 0,.str []] 3 40,[.t 2]⟩
def fn93:IFn:=⟨1,No (.bs zN [] 0 []) (.ap 6 104 Y (.v 0)),[.t 2]⟩
def fn94:IFn:=⟨3,QC (s [n (.mm []),O1 7] (MB [MQ 1 14,MO 14 15,O0 16] (be [.v 16,.v 15] 17 (PF [MF 4 14 16,d 4 0,al zI 9,S 4 9] (Nh (Nh (QK (D 4 9) (10,8)) (MG 10 29 6)) (MP [A 0 9,L,n (.lk none (.bool false) false [.v 7,Y]),yv 0 2,QM 1 0 9,g 2 l,g 3 (.cv (.l 2) U),MJ 4 40] (MX 40 8 6) [A 0 9,L,OU (.v 7)] (s [D 4 9,Or 72 0,e 0,e 1,QQ,MV 6,Qo 12] (MG 12 51 6))))) (J 16)) [O0 6])),[.t 6]⟩
def fn95:IFn:=⟨2,Rx (Of 3) [MC 1,k,a 3,L,Ok 51 0,e 0,e 1,Oo,MN 5] (Na [MQ 5 3]),[.t 3]⟩
def fn96:IFn:=⟨3,QC (s [OI 103 0 2,e 0,e 1,MN 7,O1 8] (Nh (s [v 0,a 4,L,c 167 [Y,.v 1,.v 7,.v 8],O1 9] (MG 9 28 6)) (MP [MQ 2 30,MO 30 31,O0 32] (be [.v 32,.v 31] 33 (PF [MF 4 30 32,d 4 0,al zI 11,MQ 32 10,S 4 11] (Nh (ds [mv 0,k,a 2,L,mv 1,mv 10,Nq 1,D 4 11,c 71 U,PB,MU 91 6 3,m Y] [(3,0,2),(7,0,0)] [(12,11)]) (MG 12 49 6))) (J 32)) [OI 99 0 1] Pe))),[.t 6]⟩
def fn97:IFn:=⟨2,s [Of 4] (MP [NK 107,ON 9] (Oc 9 4) [RF,e 0,e 1,MN 5,O1 6] (MB [MQ 6 16] (OC 16 [v 0,a 0,L,QI [ZY 0,ZX 0,ZZ 0] (b 2),p (.ixs 3) [.l 1,.v 5],w 3] (s [v 0,a 1,L,Pv,v 0,a 1,MV 1] (Qe [v 0,a 2,L,NN,v 0,a 2,MV 1]))) [MQ 6 4])),[.t 4]⟩
def fn98:IFn:=⟨3,QC (MP [Og 137,O1 7] (s [PU 7,yv 0 2,Rj 1,MJ 2 17] (r 17 [MQ 7 6])) [OI 165 0 1] (Nh (Pn [mv 0,k,a 0,L,mv 1,mv 0,k,a 2,L,Nq 4,mv 1,mv 0,k,a 2,L,Nq 4,mv 2,Nq 1,ND 4 14 8,n (.clr zI Y)] [(3,0,0),(8,0,0),(14,0,0)]) (s [v 0,a 2,L,Qt 2,v 0,a 2,MV 1] Pe))),[.t 6]⟩
def fn99:IFn:=⟨2,QJ [v 0,a 2,L,c 52 U,Nl 1 12] (x 12 0) (s [v 0,a 2,L,Ok 70 1,e 0,e 1,al zI 4,MH 4 4 1,MN 5] (s [QA 5 25] (Nf (.v 25) (Ry [mv 0,k,a 3,L,A 0 4,L,mv 1,MU 168 3 1])))) (I 1),[]⟩
def fn100:IFn:=⟨4,s [O0 8] (MP [MM 12] (MX 12 2 8) [v 0,a 0,d 2 0,Qp 169,e 0,e 1,Ox 9,RB 9,MN 10] (MP [PU 10,yv 0 2,Rj 1,MJ 2 29] (r 29 [MQ 10 8]) [D 2 9,v 0,a 0,MV 2] (Na [v 0,a 2,L,Qp 170,O1 8]))),[.t 8]⟩
def fn101:IFn:=⟨4,s [O0 8] (Nu [Og 137,O1 9] (MG 9 17 8) (s [Oj 3,yv 0 3,yv 1 0,Ng 2 52,yv 3 2,Rf 4,OO 5 4,MJ 6 28] (MX 28 4 8)) (MP [QA 2 30] (Pu 30 8) [n (.mk zI 56 (.v 2) (.v 2)),O1 10] (MP [MO 10 34,O0 35] (be [.v 35,.v 34] 36 (PF [MQ 35 11] (Pn [mv 10,mv 11,mv 0,k,a 0,L,mv 0,mv 1,mv 11,Nq 1,OG 138 3,Nd 4 5,d 4 0,Px 4 12 11,w 4] [(5,0,1),(12,1,1)])) (J 35)) [Og 98] (Na [c 91 [.v 0,.v 3,.v 10],O1 8])))),[.t 8]⟩
def fn102:IFn:=⟨2,s [bx 0 2,O0 4] (s [NP 171 0 2,O1 5] (s [NP 174 0 2,O1 6] (MB [A 0 2,L,RQ,MR 1 2,g 1 l,f 2 (.conv .i64) U,yv 3 1,f 4 ge (B 1),P 5,yv 0 5,g 1 (.cv Y []),Od 2,P 3,yv 0 6,g 1 (.cv Y []),Od 2,MJ 3 28] (MX 28 6 4) [O0 4]))),[.t 4]⟩
def fn103:IFn:=⟨2,s [On 4,On 5] (MB [MQ 1 9,MO 9 10,O0 11] (QR [MF 4 9 11,d 4 0,al zI 7,S 4 7] (Nh (ds [mv 0,k,a 0,a 0,L,A 1 7,L,Nd 9 2,d 9 0,n (.al zK),w 9] [(4,0,1),(6,0,1),(8,0,1)] [(8,9)]) (.dops [mv 4,A 6 8,L,RP [ZZ 0],Nk 1 8 3,mv 5,A 7 8,L,RP [.bool false],Nk 1 1 3,m (.l 5),Oo] [3,8] [] [(2,0,0),(7,0,1)] [(4,10),(5,11)]))) [mv 4,mv 5,MN 4,O1 5]),[.t 4,.t 5]⟩
def fn104:IFn:=⟨3,OR (O0 6) (s [MM 8] (MX 8 2 6)) (MB [Oj 1,yv 0 1,yv 1 0,Ng 2 62,f 3 ge (B 2),MJ 4 16] (MX 16 4 6) [v 0,a 2,L,Oq 178,O1 6]),[.t 6]⟩
def fn105:IFn:=⟨3,s [bx 2 5,O0 6] (Nu [c 137 [.v 0,.v 1,i 1],O1 7] (MG 7 12 6) (Pn [mv 0,k,a 0,L,mv 0,mv 1,OG 138 1,D 4 5,Px 4 4 1,w 4] [(3,0,1),(7,0,1)]) Pe),[.t 6]⟩
def fn106:IFn:=⟨1,OA [Of 2],[.t 2]⟩
def fn107:IFn:=⟨1,QH 1,[.t 2]⟩
def wP:IC:=.seq .skip (MP [v 0,a 0,L,Nz 3 4,d 3 0,Rh,S 3 7] (MZ 0 [A 0 7,L,Re [Y,b 1],MI 0 1 7,h 1 l,zv 2 1,t 3 eq (B 1),Q 4,O1 25] (Nn 25 [mv 4,O1 4,o tt 5] [A 0 7,L,Re [Y,b 0],zv 0 6,t 1 ge [Y,O],Q 2,O1 36] (Nn 36 [MQ 6 4,Of 5] [A 0 7,L,Re [Y,b 0],O1 45] (Nn 45 [mv 4,O1 4,Of 5] [A 0 7,L,Re [Y,b 2],zv 0 6,t 1 lt [Y,O],Q 2,O1 50] (Nv 50 [MQ 4 6]))))) [mv 4,NN,v 0,a 0,L,ls,NJ (B 4),O1 4] (.goto 0))
def fn108x:IFn:=⟨2,s [O0 4,Of 5] (.scope (s [o (i (-1)) 6] (.seq (ds [mv 1,c 179 U,mv 0,k,a 0,L,ls,Qw,NJ (B 6),Oz,m Y] [(5,0,1)] [(4,10)]) wP)) 0 wP),[.t 4,.t 5]⟩
def fn109:IFn:=⟨1,s [MT 2] (MP [MM 5] (Rz 5) [v 0,d 66 0,al [ZZ 0,ZZ 0,ZX 0,ZX 0,ZX 0,ZX 0,ZX 0,ZX 0,ZX 0,ZX 0,ZX 0,ZX 0,ZX 0,ZX 0,ZX 0,ZX 0,ZX 0,ZX 0,ZX 0,ZX 0,ZX 0,ZX 0,ZX 0,ZX 0,ZX 0,ZX 0,ZX 0,ZX 0,ZX 0,ZX 0,ZX 0,ZX 0,ZX 0,ZX 0,ZX 0,ZX 0,ZX 0,ZX 0,ZX 0,ZX 0,ZX 0,ZX 0,ZX 0,ZX 0,ZX 0,ZX 0,ZX 0,ZX 0,ZX 0,ZX 0,ZX 0,ZX 0,ZX 0,ZX 0,ZX 0,ZX 0,ZX 0,ZX 0,ZX 0,ZX 0,ZX 0,ZX 0,ZX 0,ZX 0,ZX 0,ZX 0] 3,S 66 3] (Na [MQ 3 2])),[.t 2]⟩
def fn110:IFn:=⟨4,s [bx 0 4,Ox 8,O0 9] (MP [p ge [.v 1,O],zv 0 1,h 1 (.ld 2 true (.v 4)),QG 2 121,t 3 lt (B 2),Q 4,zv 0 2,QG 1 180,Nm 2 23] (r 23 [Oa,S 2 8,NY 12 9]) [A 0 4,a 0,d 1 0,Oq 181,e 0,e 1,Ot 10,Ov 10,MN 11] (Nh (s [Nb 11 35] (QO 35 8 11 9)) (Ni [D 1 10,A 1 4,L,mv 1,mv 1,NN,mv 3,Qa 182 4 3 1,c 149 [.l 7,Y,O],e 0,e 1,RB 8,Oo] [(0,0,1),(2,0,0)] [(9,12)]))),[.c 8 2 true,.t 9]⟩
def fn111:IFn:=⟨1,QH 4,[.t 2]⟩
def fn112:IFn:=⟨1,s [bx 0 1,al zI 2] (Nh (.dops [p (.ixa 4 1) [.v 1,O],L,NJ [Y,b 60],Qw,p ad [u 1,Y],Py 1,L,NJ [Y,b 3],n (.bs [.str []] [(0,1),(1,1),(2,1),(3,1),(4,1),(5,1),(6,1),(7,1)] 8 [.c (.str []),.c (.str [97]),.c (.str [114,111,119]),.c (.str [116,119,111,32,119,111,114,100,115]),.c (.str [32,32]),.c (.str [126,33,45,44]),.c (.str [97,32,108,111,110,103,101,114,32,116,101,120,116,32,111,102,32,116,104,105,115,32,107,105,110,100]),.c (.str [57])]),Py 2,L,NJ [Y,b 8],Nd 1 3,L,p (.build zI [(0,1),(1,1),(2,1)]) [.l 9,.l 6,Y],n (.al zI),w 4] [8] [] [(1,0,1),(6,0,1),(10,0,1),(13,0,1)] [(3,15)]) (Nh (s [O0 4] (QJ [q lt [.v 4,i 3] 21] (x 21 0) (s [Py 3,L,QT [Y,.v 4],p (.ib .and) [Y,b 1],q gt [Y,b 0] 29] (Nf (.v 29) (Pn [A 3 3,L,Qy [.str []] [.c (.str [97]),.c (.str [98,50]),.c (.str [107,101,121])],mv 4,Py 3,L,Pd [Y,b 8],Oz,Nq 4,NJ [Y,i 3],Nd 1 7,L,RP [.str []],Nk 1 16 11,A 3 3,w 1] [(1,0,2),(5,0,1),(11,1,1)]))) (I 4))) (MB [Py 3,L,q ge [Y,b 240] 47] (Nv 47 [A 3 3,L,n (.bs [.str []] [(0,1),(1,1)] 2 [.c (.str [97]),.c (.str [97])]),Nk 1 16 1,A 3 3,w 1]) [D 4 3,S 4 2]))),[.c 2 4 true]⟩
def fn113:IFn:=⟨2,s [O0 4] (MB [O0 5] (QJ [lv 0,Nl 5 9] (x 9 0) (s [MF 4 0 5,a 0,L,q eq [Y,.v 1] 18] (r 18 [MQ 5 4])) (I 5)) [o (i (-1)) 4]),[.t 4]⟩
def ckR:IC:=Nh (QC (QJ [A 3 2,L,ls,Nl 6 30] (x 30 0) (Qe [mv 5,A 3 2,L,Nz 1 6,L,c 184 U,p mu (B 5),O1 5]) (I 6))) (MB [q eq [.v 5,i 1] 42] (Pu 42 4) [NY 6 4])
def fn114x:IFn:=⟨2,s [bx 0 2,O0 4] (s [A 2 2,L,c 183 U,O1 5] (.seq (s [A 0 2,L,RQ,yv 0 1,QM 1 1 2,g 2 l,f 3 (.conv .i64) U,f 4 le (B 3),P 5,MR 3 2,g 1 l,OY 2,Ny 3 8,MJ 4 25] (Nv 25 [O0 5])) ckR)),[.t 4]⟩
def fn115:IFn:=⟨3,s [bx 0 3,bx 1 4,al zN 6,O0 7] (Nu [RE [.v 2,i 1],yv 0 2,Ny 1 64,MJ 2 14] (QW 14 1) (s [D 6 3,c 185 U,q ne [Y,O] 18] (r 18 [Oe,D 6 3,c 185 U,MH 6 6 2,MN 7])) (MP [D 4 4,c 186 U,q ne [Y,O] 24] (r 24 [Oe,D 4 4,c 186 U,MH 6 6 2,MN 7]) [D 6 3,D 4 4,OG 187 1,p (.ixs 6) [Y,O],d 6 0,al zN 8,S 6 8] (MB [D 6 8,c 188 U,p ne [Y,O],NC 0 6 8,Ng 1 189,yv 2 2,OO 3 1,MJ 4 41] (QW 41 14) [D 6 8,S 6 6,O0 7]))),[.c 6 6 true,.t 7]⟩
def fn118:IFn:=⟨3,OR (Of 6) (s [lv 0,lv 1,q ne (B 1) 14] (Oc 14 6)) (MB [MQ 0 15,MO 15 16,O0 17] (be [.v 17,.v 16] 18 (PF [MF 6 15 17,d 6 0,al zE 8,MQ 17 7,S 6 8] (s [MF 6 1 7,d 6 0,al zE 9,S 6 9] (s [D 6 8,D 6 9,n (.cv (.v 2) (B 1)),RM 30] (Oc 30 6)))) (J 17)) [o tt 6]),[.t 6]⟩
def fn119:IFn:=⟨2,Qx [A 4 2,L,A 4 3,L,Re (B 2),MI 0 5 2,h 1 l,MI 2 5 3,h 3 l,t 4 (.bb false) (B 2),Q 5,MI 0 0 2,h 1 (.ld 4 true Y),MI 2 0 3,h 3 (.ld 4 true Y),h 4 (.cf 120 (B 2)),Q 5,O1 4],[.t 4]⟩
def fn120:IFn:=⟨2,Qx [A 0 2,L,A 0 3,L,Re (B 2),MI 0 1 2,h 1 l,MI 2 1 3,h 3 l,t 4 eq (B 2),Q 5,MI 0 2 2,h 1 l,MI 2 2 3,h 3 l,t 4 (.sb .eql) (B 2),Q 5,MI 0 3 2,h 1 l,MI 2 3 3,h 3 l,h 4 (.cf 191 (B 2)),Q 5,O1 4],[.t 4]⟩
def fn121:IFn:=⟨1,OW (Na [A 0 1,a 0,d 1 0,c 192 U,O1 2]),[.t 2]⟩
def fn122:IFn:=⟨1,OW (Rm [D 1 1,c 82 U,OK 4611686018427387904 5] (MX 5 13 2)),[.t 2]⟩
def fn123:IFn:=⟨3,Qh (PJ 8 18) (MZ 0 [A 0 5,L,Pq,O1 21] (Nn 21 [Qc,S 1 6,NY 4 7] [A 1 5,L,Rq [Y,i 1024],O1 26] (r 26 [Qc,S 1 6,NY 3 7]))) (Nu [A 2 5,N l 32,MO 32 33,O0 34] (NI 1 (Ow 34 33 35) (x 35 1) (PN 2 [MF 4 32 34,d 4 0,al zI 10,MQ 34 9,S 4 10] (s [D 4 10,A 0 3,L,ls,OG 102 3,O1 11] (Nh (s [QA 11 45] (Nv 45 [A 3 5,L,D 4 10,n (.cv (.l 1) [.v 9,Y]),O1 11])) (MP [QA 11 52] (Nv 52 [D 2 3,D 4 10,OG 73 1,e 0,e 1,O1 11]) [Nb 11 60] (Ou 60 [.nils] 11)))) 34)) (.dops [A 4 5,L,D 2 3,A 2 5,L,OG 194 2,n (.cv (.l 4) U),c 193 U,n (.al [.nils]),w 1] [8] [] [(1,0,1),(2,0,0),(4,0,0)] [(12,8)]) (MB [D 1 12,c 122 U,O1 13] (PJ 13 75) [D 1 12,S 1 6,O0 7])),[.c 6 1 true,.t 7]⟩
def fn124:IFn:=⟨3,PX (Of 6) [p ge [.v 0,O],zv 0 0,zv 1 2,t 2 le (B 1),Q 3,zv 0 1,t 1 ge [Y,O],Q 2,zv 0 1,zv 1 2,zv 2 0,t 3 su (B 1),t 4 le (B 3),Q 5,O1 6],[.t 6]⟩
def fn125:IFn:=⟨4,PX (On 5) [A 0 1,L,MC 2,MC 3,RL,O1 5],[.t 5]⟩
def fn126:IFn:=⟨4,Rx (On 8) [lv 0,Ri [Y,.v 2],lv 3,Nq 1,n (.mk zE 72 (.c (ZZ 0)) Y),O1 9] (s [mv 9,p (.sl none 6 false true false) [.v 0,.v 1],Nk 6 72 1,O1 9] (s [mv 9,n (.ap 6 72 Y (.v 3)),O1 9] (Na [Rv,p (.sl none 6 true false false) [.v 0,Y],n (.ap 6 72 (.v 9) Y),O1 8]))),[.t 8]⟩
def fn127:IFn:=⟨1,QZ [ZY 0,ZX 0,ZZ 0] 3 24,[.t 2]⟩
def fn128:IFn:=⟨3,OB 4 129,[.c 6 1 true,.t 7]⟩
def fn129:IFn:=⟨4,s [bx 0 4,bx 1 5,bx 2 6,NZ 8,O0 9] (Ni [D 2 4,D 1 5,MC 6,A 0 5,L,ls,c 124 [.l 3,O,Y],A 0 5,L,ls,mv 3,ls,Nq 2,mv 3,A 0 5,L,c 195 U,p (.mkf (.func 196) 0) [.v 5,.v 6],p (.build [.bool false,ZZ 0,.nils,.nilf,.nilf] [(0,1),(1,1),(2,1),(3,1),(4,1)]) [.l 11,.l 5,.l 4,.l 1,Y],MU 123 18 17,e 0,e 1,Ov 8,Oo] [(0,0,2),(1,0,2),(2,0,0),(4,0,0),(8,0,2),(15,0,1)] [(9,23)]),[.c 8 1 true,.t 9]⟩
def fn130:IFn:=⟨3,OB 2 64,[.c 6 1 true,.t 7]⟩
def fn131:IFn:=⟨3,Ns [D 2 3,D 1 4,A 1 5,L,A 2 5,L,A 3 5,L,c 132 [.l 7,.l 6,.l 4,.l 2,Y],e 0,e 1,Ov 6,MN 7],[.c 6 1 true,.t 7]⟩
def fn132:IFn:=⟨5,s [bx 0 5,bx 1 6,bx 2 7,bx 3 8,bx 4 9,NZ 10,O0 11] (s [MC 7,MC 8,A 0 6,L,ls,MU 124 4 3,O1 12] (Ni [D 2 5,D 1 6,mv 12,m Y,h 0 (.ld 1 false (.v 9)),MI 1 0 6,h 2 l,OE 3,h 4 (.ld 1 false (.v 8)),t 5 su (B 1),h 6 (.cf 124 [.l 5,O,Y]),Q 7,p (.mkf (.func 197) 0) [.v 6,.v 7,.v 8,.v 9],Pa,MU 123 13 12,e 0,e 1,Ov 10,Oo] [(0,0,1),(1,0,1),(4,0,0),(6,0,0),(8,0,0)] [(11,18)])),[.c 10 1 true,.t 11]⟩
def fn133:IFn:=⟨3,OB 4 134,[.c 6 1 true,.t 7]⟩
def fn134:IFn:=⟨4,s [bx 0 4,bx 1 5,bx 2 6,bx 3 7,NZ 8,O0 9] (s [p (.mkf (.func 198) 0) [.v 5,.v 6],O1 10] (Ni [D 2 4,D 1 5,MC 6,MC 7,ls,A 0 5,L,ls,MU 124 5 3,MC 7,mv 10,NO 199 5 6 7,p (.build [.bool false,ZZ 0,.nils,.nilf,.nilf] [(0,1),(1,1),(2,1),(3,1),(4,1)]) [.l 3,O,.l 2,.l 1,Y],MU 123 12 11,e 0,e 1,Ov 8,Oo] [(0,0,1),(1,0,1),(2,0,0),(3,0,0),(6,0,0),(9,0,1)] [(9,17)])),[.c 8 1 true,.t 9]⟩
def fn135:IFn:=⟨3,Ns [D 2 3,D 1 4,A 4 5,L,MU 136 3 2,e 0,e 1,Ov 6,MN 7],[.c 6 1 true,.t 7]⟩
def fn136:IFn:=⟨3,s [bx 0 3,bx 1 4,NZ 6,O0 7] (Ni [D 2 3,D 1 4,mv 2,ls,mv 2,c 195 [.c .nils],p (.build [.bool false,ZZ 0,.nils,.nilf,.nilf] [(0,1),(1,1),(2,1),(3,1),(4,1)]) [tt,.l 2,.l 1,Y,.c (.func (.func 200) [] [])],MU 123 6 5,e 0,e 1,Ov 6,Oo] [(0,0,1),(1,0,1)] [(7,11)]),[.c 6 1 true,.t 7]⟩
def fn137:IFn:=⟨3,Qg [Oj 1,yv 0 2,Rk,P 2,yv 0 1,yv 1 0,Ng 2 52,OO 3 2,P 4,yv 0 2,yv 1 0,Ng 2 52,yv 3 1,Rf 4,OO 5 4,P 6,O1 10],[.t 6]⟩
def fn138:IFn:=⟨2,s [O0 4] (MB [v 0,a 1,L,q ge [.v 1,Y] 10] (r 10 [v 0,a 2,L,p ad [.v 1,Y],O1 4]) [MQ 1 4]),[.t 4]⟩
def fn139:IFn:=⟨1,NU 1,[.t 2]⟩
def fn140:IFn:=⟨1,QZ [.str []] 1 16,[.t 2]⟩
def fn141:IFn:=⟨3,s [bx 0 3,bx 1 4,al zN 6,O0 7] (Nu [RE [.v 2,i 1],yv 0 2,Ny 1 64,MJ 2 17] (QW 17 1) (s [D 6 3,c 89 U,O1 8] (s [Nb 8 22] (r 22 [Oe,S 6 6,MQ 8 7]))) (MP [D 4 4,c 201 U,O1 9] (s [Nb 9 28] (r 28 [Oe,S 6 6,MQ 9 7])) [D 4 4,p (.build zI [(0,4)]) U,D 6 3,Nj,OG 202 2,p (.ixs 6) [Y,O],d 6 0,al zN 10,S 6 10] (MB [D 6 10,c 142 U,O1 11] (s [Re [.v 11,O],yv 0 11,yv 1 2,OO 2 1,MJ 3 46] (QW 46 14)) [D 6 10,S 6 6,O0 7]))),[.c 6 6 true,.t 7]⟩
def fn142:IFn:=⟨1,OW (s [D 6 1,c 203 U,e 0,e 1,MN 3,m Y] (Na [MQ 3 2])),[.t 2]⟩
def fn145:IFn:=⟨2,s [bx 0 2,O0 4,O0 5] (Na [A 0 2,a 0,d 1 0,Ok 204 1,e 0,e 1,MN 4,O1 5]),[.t 4,.t 5]⟩
def fn146:IFn:=⟨2,s [bx 0 2,Of 4,O0 5] (MB [Oj 1,yv 0 1,NC 1 2 2,Ng 2 121,f 3 ge (B 2),MJ 4 13] (r 13 [Of 4,NY 4 5]) [A 1 2,L,Ok 205 1,O1 4,O0 5]),[.t 4,.t 5]⟩
def fn147:IFn:=⟨3,Rb [D 1 3,Oq 206,e 0,e 1,e 2,e 3,o (.l 3) 8,RR,Qo 10,MN 11] (MB [Nb 11 22] (Ou 22 [.nilp] 11) [OI 207 8 10,NF,S 1 6,O0 7]),[.c 6 1 true,.t 7]⟩
def fn148:IFn:=⟨3,s [On 6,O0 7] (MP [Og 208,O1 8] (Qk 17) [On 9] (MB [MQ 0 19,MO 19 20,O0 21] (be [.v 21,.v 20] 22 (PF [MF 2 19 21,d 2 0,OH 11,S 2 11] (s [mv 9,A 0 11,L,A 1 11,L,p .mn [Y,.v 1],MU 209 5 3,O1 9] (Qe [mv 9,A 0 11,L,Rv,p .mx (B 1),Ri [Y,.v 2],A 1 11,L,Ri [Y,.v 2],MU 209 8 3,O1 9]))) (J 21)) [QE 210 9,e 0,e 1,MN 6,O1 7])),[.t 6,.t 7]⟩
def fn149:IFn:=⟨3,s [bx 0 3,Ox 6,O0 7] (MB [Nb 2 9] (QO 9 6 2 7) [D 1 3,NF,Ql [.nilp,.nils] (.v 1),S 2 6,O0 7]),[.c 6 2 true,.t 7]⟩
def fn150:IFn:=⟨3,Qg [Oj 1,yv 0 2,Rk,P 2,yv 0 1,yv 1 0,Ph 2,Oi 3 0,g 4 l,OO 5 4,P 6,yv 0 2,yv 1 0,Ph 2,Oi 3 0,g 4 l,yv 5 1,Rf 6,OO 7 6,P 8,O1 10],[.t 6]⟩
def fn151:IFn:=⟨1,Rx (On 2) [v 0,a 0,L,n (.mk [.bool false] 1 Y Y),O1 3] (Rn [MO 3 11,O0 12] (be [.v 12,.v 11] 13 (PF [MQ 12 4] (Qe [OI 211 0 4,MF 1 3 4,w 1])) (J 12))),[.t 2]⟩
def fn152:IFn:=⟨2,s [ML [ZZ 0,ZZ 0,ZX 0,ZX 0,ZX 0,ZX 0,ZX 0,ZX 0,ZX 0,ZX 0,ZX 0,ZX 0,ZX 0,ZX 0,ZX 0,ZX 0,ZX 0,ZX 0,ZX 0,ZX 0,ZX 0,ZX 0,ZX 0,ZX 0,ZX 0,ZX 0,ZX 0,ZX 0,ZX 0,ZX 0,ZX 0,ZX 0,ZX 0,ZX 0,ZX 0,ZX 0,ZX 0,ZX 0,ZX 0,ZX 0,ZX 0,ZX 0,ZX 0,ZX 0,ZX 0,ZX 0,ZX 0,ZX 0,ZX 0,ZX 0,ZX 0,ZX 0,ZX 0,ZX 0,ZX 0,ZX 0,ZX 0,ZX 0,ZX 0,ZX 0,ZX 0,ZX 0,ZX 0,ZX 0,ZX 0,ZX 0],v 0,w 66] (MP [MQ 1 14,MO 14 15,O0 16] (be [.v 16,.v 15] 17 (PF [MF 1 14 16,L,O1 5] (Qe [v 0,a 0,L,lv 5,Nq 1,v 0,a 0,MV 1])) (J 16)) [O0 6] (s [MQ 1 30,MO 30 31,O0 32] (NI 2 (Ow 32 31 33) (x 33 2) (PN 3 [MF 1 30 32,L,O1 8] (s [MQ 8 36,MO 36 37,O0 38] (NI 4 (Ow 38 37 39) (x 39 4) (PN 5 [MF 1 36 38,L,O1 10] (s [c 212 [.v 0,.v 6,.v 10]] (I 6)) 38))) 32)))),[]⟩
def fn163:IFn:=⟨1,OW (Na [c 221 [.v 1,.c (.func (.func 222) [] [])],O1 2]),[.t 2]⟩
def fn164:IFn:=⟨2,Pw 9,[.t 4]⟩
def fn165:IFn:=⟨2,MP [v 0,a 1,L,Nl 1 9] (.cond (.v 9) (Pn [mv 0,k,a 0,L,mv 1,mv 0,k,a 2,L,Nq 4,MY 4 6,mv 0,k,a 0,L,mv 1,mv 0,k,a 1,L,ND 4 5 4,OS 10] [(3,0,0),(8,0,0),(14,0,0),(19,0,0)]) (Pn [mv 0,k,a 0,L,mv 0,k,a 1,L,MY 4 4,mv 0,k,a 0,L,mv 0,k,a 1,L,mv 0,k,a 2,L,Nq 4,mv 1,mv 0,k,a 2,L,Nq 4,ND 4 15 6,OS 20] [(3,0,0),(7,0,0),(12,0,0),(16,0,0),(20,0,0),(26,0,0)])) [v 0,a 1,Ob (.v 1)] (Pn [mv 0,k,a 0,L,mv 1,mv 1,mv 0,k,a 2,L,Nq 4,ND 4 7 6,n (.clr zI Y)] [(3,0,0),(9,0,0)]),[]⟩
def fn166:IFn:=⟨2,MP [v 0,a 2,L,q le [.v 1,Y] 11] (.cond (.v 11) .ret .skip) [v 0,a 0,L,ls,Pd [Y,i 2],p ad [.v 1,Y],p ad [Y,i 8],O1 4] (s [NK 52,Qt 4,n (.mk zI 56 Y Y),O1 5] (Nh (Qb 5) (Nh (Pn [mv 5,mv 0,k,a 1,L,mv 4,Nq 1,MY 4 6,mv 0,k,a 0,L,mv 0,k,a 1,L,mv 0,k,a 2,L,Nq 4,MY 4 9,OS 14] [(4,0,0),(11,0,0),(15,0,0),(19,0,0)]) (Qe [v 0,a 0,Ob (.v 5),v 0,a 2,Ob (.v 4)])))),[]⟩
def fn167:IFn:=⟨4,OR (O0 8) (s [MM 15] (MX 15 2 8)) (MP [lv 2,lv 3,q ne (B 1) 20] (MX 20 1 8) [v 0,a 0,d 2 0,c 223 [Y,.v 1,.v 2,ff],e 0,e 1,Ox 9,RB 9,MN 10] (Nu [PU 10,yv 0 2,OY 1,Rj 2,MJ 3 37] (r 37 [MQ 10 8]) (s [v 0,a 2,L,q (.nil 0 false) [Y,.c .nilp] 43] (OC 43 [c 224 [O],e 0,e 1,v 0,a 2,Ob (.l 3),o (.l 3) 10] (MG 10 52 8))) (MP [v 0,a 2,L,lv 2,c 225 [.l 1,.v 1,Y,ff],O1 11] (MG 11 63 8) [D 2 9,v 0,a 0,MV 2] (MB [MQ 3 69,MO 69 70,O0 71] (be [.v 71,.v 70] 72 (PF [MF 1 69 71,L,MQ 71 12,O1 13] (s [MQ 13 76] (Nv 76 [v 0,a 2,L,p ad [.v 1,.v 12],c 178 [.l 1,Y,tt]]))) (J 71)) [O0 8])))),[.t 8]⟩
def HU:IC:=s [RF,e 0,e 1,MN 9,m Y] (MP [v 0,a 0,L,Nz 3 9,a 0,L,q eq [Y,b 2] 82] (Nv 82 [v 0,a 2,L,Pv,v 0,a 2,MV 1]) [v 0,a 0,L,p (.build [ZY 0,ZX 0,ZZ 0] [(0,1),(1,1),(2,1)]) [b 1,.v 1,.v 2],p (.ixs 3) [.l 1,.v 9],w 3] (s [v 0,a 1,L,NN,v 0,a 1,MV 1] Pe))
def Es:IC:=Nh (s [v 0,a 1,L,q eq [Y,i 4096] 42] (MX 42 3 6)) (.seq (Nh (ds [mv 0,k,a 1,L,mv 0,k,a 2,L,Nq 4,NN,p mu [i 4,Y],mv 0,k,a 0,L,ls,p mu [i 3,Y],Rq (B 6)] [(3,0,0),(7,0,0),(14,0,0)] [(60,17)]) (Nv 60 [v 0,a 1,L,NN,Or 226 0])) HU)
def fn168x:IFn:=⟨3,OR (O0 6) (MZ 0 [NW 0,O1 11] (Nn 11 [NY 2 6] [Re [.v 1,u 0],O1 14] (MX 14 9 6))) (.seq (s [v 0,a 0,L,ls,q gt [Y,O] 22] (OC 22 [RF,e 0,e 1,MN 7,O1 8] (s [MQ 8 29] (OC 29 [v 0,a 0,L,Nz 3 7,a 2,Ob (.v 2)] Pe)))) Es),[.t 6]⟩
def fn169:IFn:=⟨4,s [bx 0 4,Ox 8,O0 9] (s [A 0 4,a 0,d 1 0,Qp 227,e 0,e 1,Ot 10,Ov 10,MN 11] (MP [Nb 11 26] (QO 26 8 11 9) [A 1 4,L,Oq 148,e 0,e 1,NZ 12,Ov 12,Oo] (s [MC 12,c 228 [Y,.v 3,.v 2],e 0,e 1,Ov 12,MN 11] (MB [A 1 4,L,Rv,Ri [.v 3,.v 1],N (.cf 229 [.l 2,.v 1,.l 1,Y]) 53] (Pz 0 (.rf (.v 53) [54] (Qe [OH 14,n (.st 2 (.v 14) (.v 54))]) (Pz 1 (Qe [MC 12,A 0 14,L,A 1 14,L,c 182 [.l 4,.l 2,Y,tt],S 1 12])))) [D 1 10,MC 12,c 149 [.l 1,Y,.v 11],e 0,e 1,RB 8,MN 9])))),[.c 8 2 true,.t 9]⟩
def fn170:IFn:=⟨4,OR (O0 8) (s [Og 150,O1 9] (MG 9 17 8)) (MP [Oj 3,yv 0 3,yv 1 0,Ph 2,Oi 3 0,g 4 l,yv 5 2,Rf 6,OO 7 6,MJ 8 30] (MX 30 4 8) [NK 151,O1 10] (s [QL,O1 11] (s [p (.sl none 1 true false false) [.v 10,.v 1],n (.cp 1 (.v 11) Y)] (Nh (Pn [mv 10,mv 1,MY 1 1,mv 10,mv 1,mv 2,Nq 1,MY 1 3,n (.cp 1 (.l 5) Y)] []) (Nh (Pn [mv 0,mv 10,mv 3,NG 1,mv 11,mv 10,mv 3,mv 0,k,a 0,L,mv 2,Ri (B 1),ND 1 7 6,Qy [.nils] [.l 10,.l 9,Y],OG 152 14] [(10,0,0)]) (Na [O0 8])))))),[.t 8]⟩
def fn171:IFn:=⟨1,PX (Of 1) [A 2 0,L,p .lenStr U,p le [Y,i 64],MI 0 2 0,h 1 l,PV 2 172 173,QV,Q 4,O1 1],[.t 1]⟩
def fn172:IFn:=⟨2,NE 230,[.t 4]⟩
def fn173:IFn:=⟨1,OM,[.t 2]⟩
def fn174:IFn:=⟨1,PX (Of 1) [A 3 0,L,ls,p le [Y,i 8],MI 0 3 0,h 1 l,PV 2 175 176,QV,Q 4,O1 1],[.t 1]⟩
def fn175:IFn:=⟨2,NE 231,[.t 4]⟩
def fn176:IFn:=⟨1,OA [NK 177,Pq,O1 2],[.t 2]⟩
def fn177:IFn:=⟨1,s [Of 2] (PX (Ps 232 3) [p (.sb .neq) [.v 0,.c (.str [])],zv 0 0,t 1 .lenStr U,t 2 le [Y,i 16],Q 3,zv 0 0,zv 1 3,h 2 (.cf 172 (B 1)),QV,Q 4,O1 2]),[.t 2]⟩
def fn178:IFn:=⟨3,QC (MP [c 150 [.v 0,.v 1,i 1],O1 7] (MG 7 12 6) [Og 212] Pe),[.t 6]⟩
def fn179:IFn:=⟨1,Rx (o (u 0) 2) [mv 0,mv 0,QT [Y,u 30],p (.ib .xor) (B 2),p mu [Y,u 13787848793156543929],O1 0] (s [mv 0,mv 0,QT [Y,u 27],p (.ib .xor) (B 2),p mu [Y,u 10723151780598845931],O1 0] (Na [QT [.v 0,u 31],p (.ib .xor) [.v 0,Y],O1 2])),[.t 2]⟩
def fn180:IFn:=⟨1,OA [RE [.v 0,i 1],yv 0 0,Qq,P 2,O1 2],[.t 2]⟩
def fn181:IFn:=⟨3,Rb [D 1 3,Ok 204 1,e 0,e 1,MN 8,O1 9] (Nh (MZ 0 [PU 9,O1 18] (Nn 18 [Pr,S 1 6,MQ 9 7] [Oj 2,yv 0 2,Qq,P 2,O1 23] (Nn 23 [Pr,S 1 6,NY 12 7] [D 1 3,c 55 U,Ri [Y,.v 8],Ri [PY,Y],Rq [.v 2,Y],O1 31] (r 31 [Pr,S 1 6,NY 13 7])))) (s [A 0 3,L,Ok 233 1,e 0,e 1,MN 10,O1 11] (s [mv 11,c 233 [Y,i 1],e 0,e 1,O1 11] (Na [c 234 [.v 10,.v 2,.v 11],NF,S 1 6,O0 7])))),[.c 6 1 true,.t 7]⟩
def fn182:IFn:=⟨4,s [On 8] (MP [q eq [.v 1,.v 2] 15] (r 15 [MQ 0 8]) [PA,Qu (ZZ 0),O1 9] (s [Ps 235 10] (MP [MQ 3 21] (Nv 21 [Ps 236 10]) [n (.cv (.v 10) [.v 0,.v 9]),e 0,e 1,MN 11,m Y] (Na [MQ 11 8])))),[.t 8]⟩
def fn183:IFn:=⟨1,OR (O0 2) (s [Ol,OK 64 6] (Pu 6 2)) (MB [O0 3] (NS (Pu 22 2)) [NY 1 2]),[.t 2]⟩
def fn184:IFn:=⟨1,OR (O0 2) (s [Ol,RE [Y,i 1],yv 0 0,f 1 .lenStr U,Ny 2 16,MJ 3 12] (Pu 12 2)) (MB [O0 3] (QJ [Ol,Nl 3 16] (x 16 0) (s [PR,O1 4] (s [p ge [.v 4,b 97],zv 0 4,t 1 le [Y,b 122],Q 2,yv 0 4,f 1 ge [Y,b 48],y 2 Y,zv 0 4,t 1 le [Y,b 57],NB 5 2,P 6,RM 36] (Pu 36 2))) (I 3)) [NY 1 2]),[.t 2]⟩
def fn185:IFn:=⟨1,Nr 237,[.t 2]⟩
def fn186:IFn:=⟨1,OW (Nh (s [A 0 1,L,RQ,MR 2 1,g 1 l,Ng 2 238,Od 3,P 4,MR 3 1,g 1 l,OY 2,Ny 3 8,MJ 4 18] (MX 18 6 2)) (Rm [O0 3] (QJ [A 3 1,L,ls,Nl 3 23] (x 23 0) (s [A 3 1,L,Nz 1 3,L,c 239 U,RM 32] (MX 32 6 2)) (I 3)))),[.t 2]⟩
def mdE:IC:=RI [O0 6] (lp 1 2 [A 3 3,L,ls,Nl 6 36] (x 36 1) (.dops [mv 5,A 1 2,L,A 3 3,L,mv 6,Nd 1 1,L,A 3 2,L,D 4 3,OG 241 1,A 3 3,L,mv 6,Nd 1 1,L,Oy,Nj,Pp (.l 16) (.l 11) (.l 7),Nj,RA 20,m Y] [18] [] [(2,0,1),(4,0,1),(7,0,1),(9,0,0),(10,0,0),(13,0,1),(16,0,1)] [(5,22)]) (I 6))
def mdN:IC:=Nh (.dops [A 1 2,L,A 2 2,L,A 3 2,L,D 4 3,OG 241 1,p (.build zN [(0,1),(1,1),(2,1),(3,1)]) [b 1,.l 6,.l 4,Y],QQ,w 6] [9] [] [(1,0,1),(3,0,1),(5,0,0),(6,0,0)] [(7,9)]) (MB [O0 8] (lp 3 4 [A 5 2,L,ls,Nl 8 75] (x 75 3) (Pn [A 5 7,L,A 5 2,L,mv 8,Nd 6 1,d 6 0,D 4 3,OG 187 1,RA 7,A 5 7,w 1] [(1,0,1),(3,0,0),(6,0,0),(7,0,0)]) (I 8)) [D 6 7,Nj,O1 4])
def fn187x:IFn:=⟨2,s [bx 0 2,bx 1 3,On 4] (.seq (s [A 0 2,N l 10] (MZ 0 [Nx 10 2,O1 11] (Nn 11 [A 4 2,L,Oy,Nj,O1 4] [Nx 10 3,O1 17] (Nn 17 [A 2 3,L,Oy,Nj,O1 4] [Nx 10 4,O1 23] (Nn 23 [A 0 3,L,c 240 U,Oy,Nj,O1 4] [Nx 10 5,O1 30] (.cond (.v 30) mdE .skip)))))) mdN),[.t 4]⟩
def fn188:IFn:=⟨1,Nr 189,[.t 2]⟩
def fn189:IFn:=⟨1,OW (s [D 6 1,c 242 [Y,i 6],O1 3] (Rn [q gt [.v 3,i 64] 7] (Pu 7 2))),[.t 2]⟩
def fn191:IFn:=⟨2,OR (Of 4) (s [lv 0,lv 1,q ne (B 1) 10] (Oc 10 4)) (MB [MO 0 12,O0 13] (be [.v 13,.v 12] 14 (PF [MQ 13 5] (Nh (ds [mv 0,mv 5,Nd 1 1,L,mv 1,mv 5,Nd 1 1,L,p (.sb .neq) (B 4)] [(3,0,0),(7,0,0)] [(24,8)]) (Oc 24 4))) (J 13)) [o tt 4]),[.t 4]⟩
def fn192:IFn:=⟨1,OW (Na [A 0 1,L,c 243 U,O1 2]),[.t 2]⟩
def fn193:IFn:=⟨1,s [NZ 2] (MP [lv 0,ON 8] (r 8 [Qc,S 1 2]) [lv 0,n (.mk zE 72 Y Y),O1 3] (MB [MQ 0 13,MO 13 14,O0 15] (be [.v 15,.v 14] 16 (PF [MF 6 13 15,d 6 0,al zE 5,MQ 15 4,S 6 5] (s [A 0 5,d 4 0,PB,c 244 U,p (.ixs 4) [Y,O],d 4 0,A 0 5,w 4] (Qe [D 6 5,MF 6 3 4,w 6]))) (J 15)) [QI [.nils] (.v 3),S 1 2])),[.c 2 1 true]⟩
def fn194:IFn:=⟨2,OJ (.mk zE 72 Y Y) (PF [MF 4 11 13,d 4 0,al zI 7,MQ 13 6,S 4 7] (Pn [mv 5,mv 6,D 4 7,A 0 2,L,A 1 7,L,Nd 9 2,a 6,L,QY,Px 6 10 9,w 6] [(2,0,0),(4,0,0),(6,0,0),(9,0,0)])),[.t 4]⟩
def fn195:IFn:=⟨1,Rx (o (.c .nilf) 2) [n (.mm []),al [.nilm] 3,S 1 3] (MB [MQ 0 7,MO 7 8,O0 9] (be [.v 9,.v 8] 10 (PF [MF 6 7 9,d 6 0,al zE 5,S 6 5] (Qe [MC 3,A 0 5,a 0,L,OU (.l 3)])) (J 9)) [NP 245 0 3,O1 2]),[.t 2]⟩
def fn196:IFn:=⟨3,PX (On 4) [A 0 1,L,MC 2,c 126 [.l 1,Y,O,.v 0],O1 4],[.t 4]⟩
def fn197:IFn:=⟨5,s [On 6] (Ni [A 0 1,L,MC 2,MC 3,RL,MC 4,A 0 1,L,MC 2,MC 2,MC 3,Nq 1,ND 6 4 3,c 126 [.l 8,.l 7,O,Y],m Y] [(1,0,0),(2,0,0),(3,0,0),(5,0,1),(7,0,1),(8,0,1),(9,0,1),(10,0,1)] [(6,14)]),[.t 6]⟩
def fn198:IFn:=⟨4,s [bx 1 5,O0 6] (Nh (Nh (ds [A 0 2,L,MC 3,mv 0,Nq 1,Nd 6 3,a 0,a 0,L,A 0 5,L,p ne (B 2)] [(1,0,0),(2,0,0),(8,0,0),(10,0,0)] [(18,11)]) (MX 18 9 6)) Pe),[.t 6]⟩
def fn199:IFn:=⟨4,PX (On 5) [A 0 1,L,MC 2,MC 3,ls,c 126 [.l 3,.l 2,Y,.v 0],O1 5],[.t 5]⟩
def fn200:IFn:=⟨1,PX (On 2) [MQ 0 2],[.t 2]⟩
def fn201:IFn:=⟨1,OW (Rm [A 0 1,L,RQ,MR 2 1,g 1 l,Ng 2 246,Od 3,P 4,MR 3 1,g 1 l,OY 2,Ny 3 8,P 4,MR 3 1,g 1 l,g 2 (.cf 175 [Y,.c (.func (.func 247) [] [])]),MJ 3 22] (MX 22 6 2)),[.t 2]⟩
def fn202:IFn:=⟨2,s [bx 0 2,On 4] (RI [MQ 1 10,MO 10 11,O0 12] (be [.v 12,.v 11] 13 (PF [MF 6 10 12,d 6 0,al zN 7,S 6 7] (s [A 0 7,N l 17] (MZ 2 [Nx 17 1,O1 18] (.cond (.v 18) (ds [mv 5,D 4 2,D 6 7,A 2 7,L,D 4 2,A 5 7,L,OG 202 2,Qa 249 7 6 4,Nj,RA 10,m Y] [(1,0,1),(2,0,1),(4,0,1),(5,0,0),(7,0,0)] [(5,12)]) (s [Nx 17 2,O1 32] (OZ 32 [mv 5,A 4 7,L,c 250 U,Nj,RA 4,O1 5] [Nx 17 3,O1 40] (OZ 40 [mv 5,A 0 2,a 2,L,c 250 U,Nj,RA 5,O1 5] [Nx 17 4,O1 49] (OZ 49 [mv 5,A 0 2,a 0,L,c 251 U,c 250 U,Nj,RA 6,O1 5] [Nx 17 5,O1 59] (OC 59 [A 0 2,a 3,N l 63,MO 63 64,O0 65] (NI 3 (Ow 65 64 66) (x 66 3) (PN 4 [MF 1 63 65,L,O1 9] (ds [mv 5,D 4 2,D 6 7,mv 9,mv 9,c 250 U,Nj,Qa 249 5 4 3,Nj,RA 8,m Y] [(1,0,2),(2,0,2)] [(5,10)]) 65))))))))))) (J 12))),[.t 4]⟩
def fn203:IFn:=⟨1,s [bx 0 1,al [ZZ 0] 2,al [ZZ 0] 3] (Rx (al [.nilf] 4) [NO 252 2 3 4,S 1 4] (Nh (s [MC 4,n (.cv Y [.v 1,.c (ZZ 1)]),RM 8] (r 8 [n (.st 1 (.v 2) O),n (.st 1 (.v 3) O)])) (Ni [MC 2,MC 3,Ov 2,Ov 3] [(0,0,0),(1,0,1)] []))),[.c 2 1 false,.c 3 1 false]⟩
def fn204:IFn:=⟨2,s [bx 0 2,O0 4,O0 5] (MB [Oj 1,yv 0 1,NC 1 1 2,RG,f 3 ge (B 2),MJ 4 13] (r 13 [O0 4,NY 4 5]) [A 0 2,L,Ok 254 1,k,a 2,L,O1 4,O0 5]),[.t 4,.t 5]⟩
def fn205:IFn:=⟨2,s [bx 1 3,Of 4] (Na [NK 255,Re [Y,O],zv 0 0,t 1 (.mkf (.func 257) 0) [.v 3],h 2 (.cf 256 (B 1)),Q 3,O1 4]),[.t 4]⟩
def fn206:IFn:=⟨3,s [bx 0 3,MT 6,MT 7,MT 8,O0 9] (MP [Oj 1,yv 0 2,Rk,P 2,yv 0 1,NC 1 1 3,RG,OO 3 2,P 4,yv 0 2,NC 1 1 3,RG,yv 3 1,Rf 4,OO 5 4,MJ 6 29] (r 29 [MT 6,MT 7,MT 8,NY 4 9]) [A 0 3,L,Ok 233 1,e 0,e 1,MN 6,O1 8] (s [mv 8,Ok 233 2,e 0,e 1,MN 7,O1 8] (Na [mv 6,mv 7,mv 8,Qo 6,MN 7,O1 8,O0 9]))),[.t 6,.t 7,.t 8,.t 9]⟩
def fn207:IFn:=⟨2,s [MT 4] (MP [q (.nil 0 false) [.v 1,.c .nilp] 8] (r 8 [MQ 0 4]) [c 233 [.v 1,i 1],e 0,e 1,MN 5,O1 6] (Na [v 5,a 2,L,c 234 [.v 0,Y,.v 6],O1 4])),[.t 4]⟩
def fn208:IFn:=⟨3,OR (O0 6) (s [NK 255,O1 7] (MG 7 11 6)) (MB [Oj 1,yv 0 1,Ny 1 1073741824,P 2,yv 0 2,Rk,P 2,yv 0 2,Ny 1 1073741824,MJ 2 26] (MX 26 4 6) [O0 6]),[.t 6]⟩
def fn209:IFn:=⟨3,s [On 6] (MB [lv 0,O1 7] (MZ 0 [p ge [.v 1,.v 2],O1 16] (.cond (.v 16) .skip (s [Rq [.v 7,O],zv 0 0,zv 1 7,t 2 su [Y,i 1],OD 3 2 2,Nw 4 1,h 5 l,zv 6 1,t 7 ge (B 1),Q 8,O1 20] (.cond (.v 20) (Qe [Ri [.v 7,i 1],Ri [.v 7,i 1],p (.ixs 2) [.v 0,Y],a 1,L,p .mx [Y,.v 2],p (.ixs 2) [.v 0,.l 5],a 1,MV 1]) (Qe [mv 0,PA,Qu (ZZ 0),Nk 2 16 2,O1 0]))))) [MQ 0 6]),[.t 6]⟩
def fn210:IFn:=⟨1,s [On 2,O0 3] (MB [lv 0,OK 4096 6] (r 6 [On 2,NY 3 3]) [NK 258,O1 2,O0 3]),[.t 2,.t 3]⟩
def fn211:IFn:=⟨2,PX (Of 4) [Pd [.v 1,i 64],v 0,a 2,RC 2,L,NJ [.v 1,i 64],QT (B 1),p (.ib .and) [Y,u 1],Re [Y,u 1],O1 4],[.t 4]⟩
def fn212:IFn:=⟨3,s [OI 211 0 1,q (.bb true) [Y,.v 2] 10] (Nf (.v 10) (Nh (Pn [mv 0,mv 1,Pd [Y,i 64],p .nilck [.l 2],a 2,RC 2,L,mv 1,NJ [Y,i 64],p (.sh true) [u 1,Y],p (.ib .xor) (B 3),p .nilck [.l 10],a 2,RC 10,Ob (.l 3)] [(6,0,0)]) (s [MQ 2 25] (.cond (.v 25) (Qe [v 0,a 1,L,NN,v 0,a 1,MV 1]) (Qe [v 0,a 1,L,Pv,v 0,a 1,MV 1]))))),[]⟩
def fn221:IFn:=⟨2,s [bx 1 3,O0 4] (MP [v 0,a 0,L,q ne [Y,b 1] 11] (Pu 11 4) [al [ZZ 0] 5,n (.st 1 (.v 5) O)] (Rx (al [.nilf] 6) [NO 260 5 3 6,S 1 6] (MB [MC 6,n (.cv Y [.v 0,.c (ZZ 1)]),RM 16] (Pu 16 4) [MC 5,O1 4]))),[.t 4]⟩
def fn222:IFn:=⟨1,.skip,[]⟩
def fn223:IFn:=⟨4,s [bx 0 4,Ox 8,O0 9] (Nh (MZ 0 [Oj 1,yv 0 1,NC 1 2 4,Ng 2 121,OO 3 2,P 4,O1 16] (Nn 16 [Oa,S 2 8,NY 4 9] [lv 2,D 2 4,c 121 U,Ri [i 1024,Y],Rq (B 3),O1 26] (r 26 [Oa,S 2 8,NY 3 9]))) (MP [MQ 2 34,MO 34 35,O0 36] (NI 1 (Ow 36 35 37) (x 37 1) (PN 2 [MF 1 34 36,L,MQ 36 10,O1 11] (MP [N (.cf 180 [.v 11]) 42] (r 42 [Oa,S 2 8,NY 12 9]) [p ad [.v 10,i 1],p (.sl none 1 false true false) [.v 2,Y],c 262 U,O1 12] (s [Nb 12 50] (QO 50 8 12 9))) 36)) [A 0 4,a 0,d 1 0,Oq 263,e 0,e 1,Ot 13,Ov 13,MN 14] (MP [Nb 14 64] (QO 64 8 14 9) [A 1 4,L,lv 2,c 228 [.l 1,.v 1,Y],e 0,e 1,MN 15,O1 14] (Ni [D 1 13,mv 15,mv 1,mv 1,mv 2,ls,Nq 2,mv 3,Qa 182 6 5 1,mv 14,MU 149 9 1,e 0,e 1,RB 8,Oo] [(0,0,1)] [(9,14)])))),[.c 8 2 true,.t 9]⟩
def fn224:IFn:=⟨1,s [MT 2,O0 3] (Nh (MZ 0 [Oj 0,O1 4] (Nn 4 [MT 2,NY 4 3] [Rq [.v 0,i 4096],O1 7] (r 7 [MT 2,NY 3 3]))) (Na [QI [ZZ 0,ZZ 0,ZX 0,ZX 0,ZX 0,ZX 0,ZX 0,ZX 0,ZX 0,ZX 0,ZX 0,ZX 0,ZX 0,ZX 0,ZX 0,ZX 0,ZX 0,ZX 0,ZX 0,ZX 0,ZX 0,ZX 0,ZX 0,ZX 0,ZX 0,ZX 0,ZX 0,ZX 0,ZX 0,ZX 0,ZX 0,ZX 0,ZX 0,ZX 0,ZX 0,ZX 0,ZX 0,ZX 0,ZX 0,ZX 0,ZX 0,ZX 0,ZX 0,ZX 0,ZX 0,ZX 0,ZX 0,ZX 0,ZX 0,ZX 0,ZX 0,ZX 0,ZX 0,ZX 0,ZX 0,ZX 0,ZX 0,ZX 0,ZX 0,ZX 0,ZX 0,ZX 0,ZX 0,ZX 0,ZX 0,ZX 0] (.v 0),PE,O1 2,O0 3])),[.t 2,.t 3]⟩
def fn225:IFn:=⟨4,s [O0 8] (Nu [c 150 [.v 0,.v 1,O],O1 9] (MG 9 17 8) (MZ 0 [Oj 2,O1 19] (Nn 19 [NY 4 8] [v 0,a 0,L,Ri [i 4096,Y],Rq [.v 2,Y],O1 22] (MX 22 3 8))) (s [QL,O1 10] (MP [MO 10 33,O0 34] (NI 1 (Ow 34 33 35) (x 35 1) (PN 2 [MQ 34 11] (Qe [MF 1 10 11,Ob (.v 3)]) 34)) [NK 151,O1 12] (Nh (Pn [mv 0,mv 12,mv 1,NG 1,mv 10,mv 12,mv 1,MY 1 1,Qy [.nils] [.l 4,.l 3,Y],OG 152 8] []) (Na [O0 8]))))),[.t 8]⟩
def fn226:IFn:=⟨2,OR (NY 8 4) (RJ 0 (Nh (s [p mu [i 2,.v 1],Nl 4 13] (x 13 0)) (Pz 1 (Qe [mv 4,p mu [Y,i 2],O1 4])))) (s [v 0,a 0,L,O1 5] (s [n (.mk [ZY 0,ZX 0,ZZ 0] 24 (.v 4) (.v 4)),v 0,a 0,MV 1] (s [v 0,a 2,n (.st 1 Y O)] (s [MQ 5 28,MO 28 29,O0 30] (NI 2 (Ow 30 29 31) (x 31 2) (PN 3 [MF 3 28 30,d 3 0,Rh,S 3 7] (s [A 0 7,L,q eq [Y,b 1] 36] (OC 36 [A 1 7,L,Or 108 0,e 0,e 1,MN 8,m Y] (Ry [mv 0,k,a 0,L,mv 8,D 3 7,Px 3 2 1,w 3]))) 30)))))),[]⟩
def fn227:IFn:=⟨4,s [bx 0 4,Ot 8,O0 9] (s [D 1 4,Oq 206,e 0,e 1,e 2,e 3,o (.l 3) 10,Qo 11,MN 12,O1 13] (Nh (s [Re [.v 13,O],zv 0 3,t 1 lt [Y,O],z 2 Y,yv 0 3,NC 1 1 4,RG,yv 3 2,Rf 4,OO 5 4,QX 9 6,Nm 10 38] (Nv 38 [NY 4 13])) (MP [Nb 13 40] (r 40 [Pr,S 1 8,MQ 13 9]) [OI 207 10 12,Ok 233 3,e 0,e 1,MN 14,O1 15] (Na [OI 207 14 11,Ok 207 15,NF,S 1 8,O0 9])))),[.c 8 1 true,.t 9]⟩
def fn228:IFn:=⟨3,s [On 6,O0 7] (Nh (s [Og 208,O1 8] (Qk 18)) (MP [lv 0,Pv,O1 9] (s [p ge [.v 9,O],zv 0 0,zv 1 9,OD 2 2 1,Nw 3 1,h 4 l,zv 5 1,t 6 gt (B 1),Q 7,zv 0 0,zv 1 9,OD 2 2 1,Nw 3 1,h 4 l,zv 5 2,t 6 ad (B 1),t 7 gt [Y,i 1073741824],Nm 8 43] (r 43 [On 6,NY 4 7])) [On 10] (MB [MQ 0 44,MO 44 45,O0 46] (be [.v 46,.v 45] 47 (PF [MF 2 44 46,d 2 0,OH 12,S 2 12] (s [mv 10,A 0 12,L,A 1 12,L,p .mn [Y,.v 1],MU 209 5 3,O1 10] (Qe [mv 10,A 0 12,L,p .mx [Y,.v 1],Qt 2,A 1 12,L,Qt 2,MU 209 7 3,O1 10]))) (J 46)) [QE 210 10,e 0,e 1,MN 6,O1 7]))),[.t 6,.t 7]⟩
def fn229:IFn:=⟨4,s [bx 0 4,bx 1 5,bx 2 6,bx 3 7,o (.c .nilf) 8] (Na [p (.mkf (.func 264) 0) [.v 4,.v 5,.v 7,.v 6],O1 8]),[.t 8]⟩
def fn230:IFn:=⟨2,PX (O0 4) [c 265 [.v 0,.v 1,tt],O1 4],[.t 4]⟩
def fn231:IFn:=⟨2,Nc [MF 1 0 5,L,N (.cv (.v 1) U) 16],[.t 4]⟩
def fn232:IFn:=⟨1,OA [RE [.v 0,.c (.int .i32 97)],yv 0 0,QF 122,P 2,zv 0 0,t 1 lt [Y,.c (.int .i32 48)],z 2 Y,yv 0 0,QF 57,QX 5 2,Q 6,O1 2],[.t 2]⟩
def fn233:IFn:=⟨2,s [MT 4,MT 5] (Nh (s [MM 8] (r 8 [MT 4,MT 5])) (MP [v 0,a 0,L,c 243 U,O1 6] (s [q gt [.v 1,.v 6] 16] (OC 16 [v 0,a 1,L,Ri [.v 1,.v 6],Pv,OG 233 2,e 0,e 1,MN 4,O1 5] (.seq (.dops [mv 0,k,a 0,L,mv 0,k,a 2,L,mv 4,MU 234 5 1,mv 5,Oo,Oo] [] [0,1,2,3,4,5,6,7,8,9,11,10,12] [(3,0,0),(7,0,0)] [(4,11),(5,12)]) .ret))) [v 0,a 0,L,Ok 233 1,e 0,e 1,MN 4,O1 5] (Ni [mv 4,mv 5,mv 0,k,a 2,L,mv 0,k,a 1,L,MU 234 8 4,m (.l 10),Oo] [(5,0,0),(9,0,0)] [(4,11),(5,12)]))),[.t 4,.t 5]⟩
def fn234:IFn:=⟨3,OR (MT 6) (MZ 0 [NK 266,QE 266 2,NN,Rq (B 2),O1 7] (.cond (.v 7) (Ni [mv 0,k,a 0,L,mv 0,k,a 2,L,mv 0,k,a 1,L,mv 1,mv 2,MU 234 2 1,MU 267 11 7,m Y] [(3,0,1),(7,0,1),(11,0,0)] [(6,16)]) (s [QE 266 2,NK 266,NN,Rq (B 2),O1 30] (Nf (.v 30) (Ni [mv 0,mv 1,mv 2,k,a 0,L,MU 234 5 4,mv 2,k,a 2,L,mv 2,k,a 1,L,MU 267 8 4,m Y] [(5,0,0),(10,0,1),(14,0,1)] [(6,16)]))))) (Na [Og 268,O1 6]),[.t 6]⟩
def fn235:IFn:=⟨2,Pm 270,[.t 4,.t 5]⟩
def fn236:IFn:=⟨2,Pm 271,[.t 4,.t 5]⟩
def fn237:IFn:=⟨1,OW (s [D 6 1,c 272 [Y,i 6],O1 3] (Rn [A 0 1,L,p ne [Y,b 1],yv 0 3,Ny 1 64,MJ 2 12] (Pu 12 2))),[.t 2]⟩
def fn238:IFn:=⟨1,Qs [Ol,OK 64 6] (Oc 6 2) [O0 3] (NS (Oc 22 2)),[.t 2]⟩
def fn239:IFn:=⟨1,s [Of 2] (MB [O0 3] (QJ [Ol,QS 3,zv 0 3,t 1 lt [Y,i 17],Nm 2 11] (x 11 0) (s [PR,RE [Y,b 97],yv 0 0,yv 1 3,Rw,QU 3 122,P 4,zv 0 0,zv 1 3,t 2 .ixstr (B 1),t 3 lt [Y,b 48],z 4 Y,yv 0 0,yv 1 3,Rw,QU 3 57,QX 9 4,Nm 10 35] (Oc 35 2)) (I 3)) [Ol,p ge [Y,i 1],zv 0 0,t 1 .lenStr U,t 2 le [Y,i 16],Q 3,O1 2]),[.t 2]⟩
def fn240:IFn:=⟨1,s [o (.c (.str [])) 2] (MB [q lt [.v 0,u 10] 4] (r 4 [p ad [.v 0,u 1],p (.slstr true true) [.c (.str [48,49,50,51,52,53,54,55,56,57]),.v 0,Y],O1 2]) [Pd [.v 0,u 10],c 240 U,NJ [.v 0,u 10],c 240 U,p (.sb .add) (B 2),O1 2]),[.t 2]⟩
def fn241:IFn:=⟨2,s [bx 1 3,On 4] (RI [O0 6] (QJ [lv 0,Nl 6 11] (x 11 0) (s [MF 3 0 6,a 2,L,O1 7] (Ra [MF 3 0 6,a 1,N l 23] (MZ 2 [Nx 23 1,O1 24] (OZ 24 [A 2 3,L,O1 7] [Nx 23 2,O1 28] (OZ 28 [A 0 3,L,c 240 U,O1 7] [Nx 23 3,O1 33] (Nv 33 [A 3 3,L,ls,Qw,c 240 U,O1 7])))) [mv 5,MF 3 0 6,a 0,L,Ql [.str [],.str []] (.v 7),Qu (.str []),Nk 2 32 5,O1 5])) (I 6))),[.t 4]⟩
def fn242:IFn:=⟨2,PM 273 242,[.t 4]⟩
def fn243:IFn:=⟨1,QH 3,[.t 2]⟩
def fn244:IFn:=⟨1,Rx (On 2) [NK 274,O1 3] (Rn [MO 3 8,O0 9] (be [.v 9,.v 8] 10 (PF [MQ 9 4] (Qe [MF 4 3 4,a 3,L,c 275 U,MF 4 3 4,a 3,MV 1])) (J 9))),[.t 2]⟩
def fn245:IFn:=⟨3,s [bx 1 4,O0 5] (MP [MC 2,A 0 4,L,N (.lk none (.bool false) false (B 2)) 9] (MX 9 8 5) [MC 2,A 0 4,L,OU (.l 2)] (Na [O0 5])),[.t 5]⟩
def fn246:IFn:=⟨1,OA [PW 4 2,c 74 U,Re [Y,O],O1 2],[.t 2]⟩
def fn247:IFn:=⟨1,OA [NK 248,Pq,O1 2],[.t 2]⟩
def fn248:IFn:=⟨1,OA [PW 1 1,c 74 U,Re [Y,O],O1 2],[.t 2]⟩
def fn249:IFn:=⟨4,s [bx 0 4,bx 1 5,al zN 8] (Ni [A 1 5,L,mv 2,D 4 4,A 3 5,L,OG 276 2,mv 3,c 277 U,Pp (.l 7) (.l 6) (.l 2),S 6 8] [(1,0,2),(3,0,0),(5,0,0)] []),[.c 8 6 true]⟩
def fn250:IFn:=⟨1,PX (al zN 2) [PW 4 2,S 6 2],[.c 2 6 true]⟩
def fn251:IFn:=⟨1,Rx (o (.c (.str [])) 2) [al [ZY 0,ZY 0,ZY 0,ZY 0,ZY 0,ZY 0,ZY 0,ZY 0,ZY 0,ZY 0,ZY 0,ZY 0,ZY 0,ZY 0,ZY 0,ZY 0,ZY 0,ZY 0,ZY 0,ZY 0] 3] (s [NY 20 4] (RJ 0 (PF [mv 4,Pv,O1 4] (s [NJ [.v 0,u 10],p .ixstr [.c (.str [48,49,50,51,52,53,54,55,56,57]),Y],p (.ixa 20 1) [.v 3,.v 4],w 1] (s [mv 0,Pd [Y,u 10],O1 0] (s [q eq [.v 0,u 0] 15] (r 15 [p (.sl (some 20) 1 true false false) [.v 3,.v 4],n (.b2s Y),O1 2]))))))),[.t 2]⟩
def fn252:IFn:=⟨5,Rx (Of 7) [MC 2,NN,S 1 2] (s [MC 3,p .mx [Y,.v 1],S 1 3] (Nh (s [Rq [.v 1,i 6],Rd 0,Ny 1 64,P 2,yv 0 0,Ng 1 253,Od 2,MJ 3 24] (Oc 24 7)) Np)),[.t 7]⟩
def alC:IC:=MB [v 0,a 5,N l 140,MO 140 141,O0 142] (NI 2 (Ow 142 141 143) (x 143 2) (PN 3 [MF 6 140 142,d 6 0,al zN 6,MQ 142 5,S 6 6] (s [A 2 6,L,Qm,zv 0 0,PI,Nw 2 5,h 3 l,zv 4 5,t 5 (.sl none 6 false true false) (B 1),t 6 (.mkf (.func 281) 0) [.v 6],h 7 (.cf 280 (B 1)),Nm 8 159] (Oc 159 2)) 142)) [o tt 2]
def alA:IC:=.seq (s [v 0,a 3,N l 101,MO 101 102,O0 103] (be [.v 103,.v 102] 104 (PF [MF 2 101 103,d 2 0,al [.str [],.str []] 4,MQ 103 3,S 2 4] (RT [A 0 4,L,c 279 U,Pq,m Y,MR 1 4,g 1 l,Ng 2 278,Od 3,P 4,m Y,yv 0 3,f 1 gt [Y,O],y 2 Y,MI 0 0 4,h 1 l,zv 2 0,t 3 .nilck U,Nw 4 3,h 5 l,zv 6 3,t 7 su [Y,i 1],OD 8 2 2,Nw 9 0,h 10 l,t 11 (.sb .leq) (B 9),NB 15 12,P 16] [(1,0,0),(6,1,1),(15,2,2),(19,2,2),(24,2,2)] [(135,27)] 135)) (J 103))) alC
def fn253x:IFn:=⟨1,OR (Of 2) (s [v 0,a 0,L,q eq [Y,b 2] 11] (r 11 [v 0,a 4,L,c 278 U,zv 0 0,PI,Nw 2 1,h 3 l,MW 4,Q 5,zv 0 0,PI,Nw 2 2,h 3 l,MW 4,Q 5,zv 0 0,PI,Nw 2 3,h 3 l,OE 4,Pf 5,Q 6,zv 0 0,PI,Nw 2 5,h 3 l,OE 4,Pf 5,Q 6,O1 2])) (.seq (s [v 0,a 0,L,p ne [Y,b 1],yv 0 0,Ph 1,Oi 2 1,g 3 l,Ng 4 279,Od 5,P 6,yv 0 0,Ph 1,Oi 2 2,g 3 l,Pc 4,y 5 Y,zv 0 0,PI,Nw 2 2,h 3 l,QG 4 279,t 5 .not U,NB 12 6,P 13,yv 0 0,Ph 1,Oi 2 4,g 3 l,Pc 4,P 5,yv 0 0,Ph 1,Oi 2 3,g 3 l,OY 4,Ny 5 8,P 6,yv 0 0,Ph 1,Oi 2 5,g 3 l,OY 4,Ny 5 16,MJ 6 97] (Oc 97 2)) alA),[.t 2]⟩
def fn254:IFn:=⟨2,s [MT 4] (MB [v 0,a 0,L,c 243 U,O1 5] (MZ 0 [RE [.v 1,.v 5],O1 11] (Nn 11 [v 0,a 0,L,Ok 254 1,O1 4] [Rq [.v 1,.v 5],O1 21] (r 21 [v 0,a 1,L,Ri [.v 1,.v 5],Pv,OG 254 2,O1 4]))) [MQ 0 4]),[.t 4]⟩
def fn255:IFn:=⟨1,PO (o (i (-1)) 3) (QR [MF 2 9 11,d 2 0,OH 5,S 2 5] (Nh (MZ 2 [A 0 5,L,RE [Y,O],MR 0 5,g 1 l,QM 2 1 5,g 3 l,f 4 ge (B 2),P 5,MR 1 5,g 1 l,Ny 2 1073741824,P 3,O1 15] (Nn 15 [NY 1 2] [A 0 5,L,p le [Y,.v 3],O1 31] (MX 31 16 2))) (Qe [A 1 5,L,O1 3]))),[.t 2]⟩
def fn256:IFn:=⟨2,NE 282,[.t 4]⟩
def fn257:IFn:=⟨2,s [bx 0 2,Of 3] (Na [A 0 2,L,MC 1,p le (B 1),h 0 (.ld 1 false (.v 1)),MI 1 1 2,h 2 l,t 3 lt (B 2),Q 4,O1 3]),[.t 3]⟩
def fn258:IFn:=⟨1,NU 2,[.t 2]⟩
def fn260:IFn:=⟨5,Rx (Of 7) [MC 2,NN,S 1 2] (MP [Rq [.v 1,i 6],Rd 0,Ny 1 64,P 2,yv 0 0,Ng 1 261,Od 2,MJ 3 21] (Oc 21 7) [MC 3,n (.cv Y [.v 0])] Np),[.t 7]⟩
def fn261:IFn:=⟨1,Rx (Of 2) [v 0,d 6 0,al zN 3,S 6 3] (MB [v 0,a 0,N l 10] (Ru 0 5 (Nh (Ru 4 3 (Nh (Pz 2 (Nh (Pz 1 (Nh (Nu [Nx 10 1,O1 11] (Pt 11 1) (s [Nx 10 5,O1 13] (Pt 13 2)) (Nu [Nx 10 2,O1 15] (Pt 15 3) (Qz 10 17) (Pt 17 4))) (.exit 5))) (Ra [v 0,a 2,L,Qm,zv 0 0,PI,Nw 2 2,h 3 l,QG 4 248,t 5 .not U,Q 6,yv 0 0,Ph 1,Oi 2 5,g 3 l,OY 4,Ny 5 16,MJ 6 40] (Oc 40 2) [A 2 3,Rl,A 5 3,Ob (.c .nils)]))) (Nh (Ra [v 0,a 1,L,c 248 U,Pq,yv 0 0,Ph 1,Oi 2 3,g 3 l,Ng 4 283,Od 5,MJ 6 56] (Oc 56 2) [A 1 3,Rl,A 3 3,Ob (.c .nils)]) (.exit 0))) (Ra [v 0,a 4,L,c 246 U,RM 64] (Oc 64 2) [A 4 3,Rl])) (.exit 0)) (Na [Of 2])) [A 1 3,L,RH,MI 0 2 3,h 1 l,MW 2,Q 3,MI 0 4 3,h 1 l,MW 2,Q 3,MI 0 3 3,h 1 l,OE 2,Pf 3,Q 4,MI 0 5 3,h 1 l,OE 2,Pf 3,Q 4,O1 2]),[.t 2]⟩
def fn262:IFn:=⟨1,PO (O0 3) (QR [MF 1 9 11,L,O1 5] (Nh (MZ 2 [Oj 5,yv 0 5,Qq,P 2,O1 15] (Nn 15 [NY 12 2] [Ri [PY,.v 3],Rq [.v 5,Y],O1 22] (MX 22 13 2))) (Qe [mv 3,Qt 5,O1 3]))),[.t 2]⟩
def fn263:IFn:=⟨3,Rb [D 1 3,Ok 284 1,e 0,e 1,e 2,Ot 8,Ot 9,MH 1 8 2,MH 1 9 2,Qo 10] (MP [Nb 10 22] (Ou 22 [.nilp] 10) [QE 285 2,e 0,e 1,Ot 11,Ov 11,MN 10] (Nu [Nb 10 31] (Ou 31 [.nilp] 10) (s [D 1 3,D 1 11,OG 286 1,e 0,e 1,n (.al [.nilp]),MV 1,Qo 13] (s [Nb 13 41] (Ou 41 [.nilp] 13))) (Ni [A 0 8,L,A 0 11,L,OG 207 2,A 0 9,L,OG 207 2,NF,S 1 6,m O] [(1,0,0),(3,0,0),(6,0,1)] [(7,10)]))),[.c 6 1 true,.t 7]⟩
def fn264:IFn:=⟨5,s [N (.ld 1 false (.v 1)) 8,MO 8 9,O0 10] (QD [MF 2 8 10,d 2 0,OH 7,S 2 7] (Nh (.dops [A 0 7,L,MC 2,p .mx (B 1),MC 3,Nq 1,A 1 7,L,MC 4,p .mn (B 1),MC 3,Nq 1,A 0 7,Ob (.l 7),A 1 7,Ob (.l 3)] [] [0,1,2,3,4,5,6,7,8,9,12,13,10,11,14,15] [(1,0,0),(2,0,0),(4,0,0),(7,0,0),(8,0,1),(10,0,1)] []) (s [A 0 7,L,A 1 7,L,RE (B 2),zv 0 0,h 1 (.ld 2 true (.v 7)),h 2 (.cv (.l 1) U),QV,Nm 4 38] (.cond (.v 38) .ret .skip)))),[]⟩
def fn265:IFn:=⟨3,QC (MB [N (.it false (.v 0)) 10] (RJ 0 (s [N (.it true (.v 10)) 11,q (.ext 0) [.v 11] 12] (Nh (x 12 0) (PF [p (.ext 1) [.v 11],p (.ext 2) [.v 11],MN 7,O1 8] (s [n (.cv (.v 1) [.v 8]),q (.bb false) [Y,.v 2] 19] (r 19 [MQ 7 6])))))) [o (i (-1)) 6]),[.t 6]⟩
def fn266:IFn:=⟨1,QH 5,[.t 2]⟩
def fn267:IFn:=⟨3,s [bx 0 3,bx 1 4,bx 2 5,MT 6] (s [NO 287 3 4 5,O1 7] (s [NO 288 5 3 4,O1 8] (s [NO 289 3 4 5,O1 9] (OR (MQ 7 10) (Nh (ds [MC 5,c 266 U,MC 3,c 266 U,Ri (B 2),m Y] [(0,0,0),(2,0,1)] [(11,5)]) (MZ 0 [Rq [.v 11,i 1],O1 21] (OZ 21 [MQ 8 10] [RE [.v 11,i (-1)],O1 25] (Nv 25 [MQ 9 10])))) (Na [n (.cv (.v 10) []),O1 6]))))),[.t 6]⟩
def fn268:IFn:=⟨3,PX (MT 6) [NK 243,QE 243 2,Nq 1,NN,NK 111,Qt 1,QE 111 2,Nq 1,NK 266,QE 266 2,p .mx (B 1),NN,p (.build [.nilp,.nilp,ZZ 0,ZZ 0,ZZ 0,ZZ 0] [(0,1),(1,1),(2,1),(3,1),(4,1),(5,1)]) [.v 0,.v 2,.v 1,.l 8,.l 4,Y],PE,O1 6],[.t 6]⟩
def fn269:IFn:=⟨3,s [On 6,O0 7] (.scope (MP [OI 290 0 1,O1 8] (Qk 20) [On 9] (s [O0 10] (s [O0 11,O0 12] ME))) 0 ME),[.t 6,.t 7]⟩
def fn270:IFn:=⟨2,PX (Of 4) [tv 0 .mv [.v 1],tv 0 .not U,p .pick [.v 0,Y,ff],O1 4],[.t 4]⟩
def fn271:IFn:=⟨2,PX (Of 4) [fv 0 .mv [.v 1],p .pick [.v 0,tt,Y],O1 4],[.t 4]⟩
def fn272:IFn:=⟨2,PM 292 272,[.t 4]⟩
def noC:IC:=MB [O0 5] (lp 4 5 [A 5 1,L,ls,Nl 5 119] (x 119 4) (QC (lp 6 7 [Ow 6 5 124] (x 124 6) (RT [A 5 1,L,mv 5,Nd 6 1,a 2,L,Qm,m Y,OF 5,h 1 l,zv 2 5,OD 3 6 1,Nw 4 2,h 5 l,MI 6 5 1,h 7 l,zv 8 6,OD 9 6 1,Nw 10 2,h 11 l,t 12 (.sb .eql) (B 6),Q 13] [(1,0,0),(5,0,0),(9,0,0),(13,0,0),(15,0,0),(19,0,0)] [(148,21)] 148) (I 6))) (I 5)) [o tt 2]
def noA:IC:=.seq (s [O0 3] (QJ [A 3 1,L,ls,Nl 3 76] (x 76 0) (MP [A 3 1,L,Nz 2 3,a 0,L,c 239 U,Pq,MR 3 1,g 1 l,yv 2 3,f 3 (.ixs 2) (B 1),Oi 4 1,g 5 l,Ng 6 238,Od 7,MJ 8 96] (Oc 96 2) [O0 4] (lp 2 3 [Ow 4 3 99] (x 99 2) (RT [A 3 1,L,mv 4,Nd 2 1,a 0,L,A 3 1,L,mv 3,Nd 2 1,a 0,L,p (.sb .geq) (B 6)] [(1,0,0),(5,0,0),(7,0,0),(11,0,0)] [(114,12)] 114) (I 4))) (I 3))) noC
def fn273x:IFn:=⟨1,s [bx 0 1,Of 2] (Nh (s [A 0 1,L,q eq [Y,b 2] 9] (r 9 [A 4 1,L,c 238 U,OF 1,h 1 l,MW 2,Q 3,OF 2,h 1 l,MW 2,Q 3,OF 3,h 1 l,OE 2,Pf 3,Q 4,OF 5,h 1 l,OE 2,Pf 3,Q 4,O1 2])) (.seq (s [A 0 1,L,p ne [Y,b 1],MR 1 1,g 1 l,Ng 2 239,Od 3,P 4,MR 2 1,g 1 l,Pc 2,y 3 Y,OF 2,h 1 l,QG 2 239,QV,NB 8 4,P 9,MR 4 1,g 1 l,Pc 2,P 3,MR 3 1,g 1 l,OY 2,Ny 3 8,P 4,MR 5 1,g 1 l,OY 2,Ny 3 16,MJ 4 71] (Oc 71 2)) noA)),[.t 2]⟩
def fn274:IFn:=⟨1,PL (.mk zI 56 Y Y) (n (.cp 4 (.v 3) (.v 0))),[.t 2]⟩
def fn275:IFn:=⟨1,PL (.mk [.str []] 16 Y Y) (n (.cp 1 (.v 3) (.v 0))),[.t 2]⟩
def fn276:IFn:=⟨2,OJ (.mk [.str [],.str []] 32 Y Y) (PF [MF 3 11 13,d 3 0,Qd 7,MQ 13 6,S 3 7] (Pn [mv 5,mv 6,A 0 7,L,A 2 7,L,A 0 2,a 2,L,A 0 2,a 0,L,c 251 U,A 0 2,a 3,L,ls,Qw,c 251 U,p (.build [.str [],.str [],.str [],.str []] [(0,1),(1,1),(2,1),(3,1)]) [.l 13,.l 10,.l 6,Y],A 1 7,L,p (.ixarr 4 1 false) (B 2),p (.build [.str [],.str []] [(0,1),(1,1)]) (B 19),Px 2 23 22,w 2] [(3,0,2),(5,0,2),(8,0,2),(11,0,0),(15,0,1),(21,0,2)])),[.t 4]⟩
def fn277:IFn:=⟨1,NU 6,[.t 2]⟩
def fn278:IFn:=⟨1,OA [Ol,p le [Y,i 64],zv 0 0,PV 1 230 293,t 2 lt [Y,O],Q 3,O1 2],[.t 2]⟩
def fn279:IFn:=⟨1,Qs [Ol,RE [Y,i 1],yv 0 0,f 1 .lenStr U,Ny 2 16,MJ 3 11] (Oc 11 2) [q .lenStr [.v 0] 13,O0 14] (be [.v 14,.v 13] 15 (PF [MQ 14 3] (s [PR,c 294 U,RM 21] (Oc 21 2))) (J 14)),[.t 2]⟩
def fn280:IFn:=⟨2,NE 295,[.t 4]⟩
def fn281:IFn:=⟨2,s [bx 0 2,Of 3] (Na [A 2 2,L,A 2 1,L,p (.sb .eql) (B 2),O1 3]),[.t 3]⟩
def fn282:IFn:=⟨2,Pw 2,[.t 4]⟩
def fn283:IFn:=⟨1,Qs [lv 0,OK 8 7] (Oc 7 2) [MQ 0 8,MO 8 9,O0 10] (QD [MF 3 8 10,d 3 0,Qd 4,MQ 10 3,S 3 4] (RT [A 0 4,L,c 248 U,Pq,m Y,MR 1 4,g 1 l,QU 2 3,P 3,m Y,MR 2 4,g 1 l,Ng 2 246,Od 3,P 4,m Y,MR 1 4,g 1 l,QU 2 0,y 3 Y,MI 0 2 4,h 1 l,Rt,NB 7 3,P 8,m Y,yv 0 3,f 1 gt [Y,O],y 2 Y,MI 0 0 4,h 1 l,zv 2 0,zv 3 3,t 4 su [Y,i 1],OD 5 3 2,Nw 6 0,h 7 l,t 8 (.sb .leq) (B 6),NB 12 9,P 13] [(1,0,0),(6,1,1),(11,1,1),(17,2,2),(21,2,2),(30,2,2),(36,2,2)] [(54,39)] 54)),[.t 2]⟩
def fn284:IFn:=⟨2,s [bx 0 2,Ot 4,Ot 5,O0 6] (MP [Oj 1,yv 0 1,NC 1 1 2,RG,OO 3 2,MJ 4 16] (r 16 [Pr,Pr,Ov 4,Ov 5,NY 4 6]) [A 0 2,L,Ok 233 1,e 0,e 1,MN 7,O1 8] (Na [QI [.nilp] (.v 7),QI [.nilp] (.v 8),Ov 4,Ov 5,O0 6])),[.c 4 1 true,.c 5 1 true,.t 6]⟩
def fn285:IFn:=⟨1,s [Ot 2,O0 3] (MB [NK 262,O1 4] (s [Nb 4 8] (r 8 [Pr,S 1 2,MQ 4 3])) [NK 296,NF,S 1 2,O0 3]),[.c 2 1 true,.t 3]⟩
def fn286:IFn:=⟨2,s [bx 0 2,bx 1 3,Ot 4,O0 5] (Nh (Pz 0 (Nh (ds [D 1 2,c 192 U,D 1 3,c 192 U,Nq 2,Rq [Y,i 4096],m Y] [(0,0,0),(2,0,1)] [(6,6)]) (.cond (.v 6) (Na [Pr,S 1 4,NY 3 5]) (Nh (ds [D 1 2,c 55 U,D 1 3,c 55 U,Ri [PY,Y],Rq (B 3),m Y] [(0,0,0),(2,0,1)] [(14,6)]) (r 14 [Pr,S 1 4,NY 13 5]))))) (Na [A 0 2,L,A 0 3,L,OG 207 2,NF,S 1 4,O0 5])),[.c 4 1 true,.t 5]⟩
def fn287:IFn:=⟨3,PX (MT 3) [MC 0,MC 1,MC 2,Rc 2 1,O1 3],[.t 3]⟩
def fn288:IFn:=⟨3,OR (MT 3) (Nh (Pk (a 0) (a 1)) (OC 15 [MC 0,k,a 0,L,O1 4] (Ni [MC 1,MC 2,mv 4,k,a 0,L,Rc 5 4,mv 4,k,a 2,L,mv 4,k,a 1,L,MC 0,k,a 2,L,MC 0,k,a 1,L,Rc 8 4,Rc 17 13,m Y] [(0,0,0),(1,0,0),(5,0,0),(10,0,2),(14,0,1),(15,0,1),(18,0,1),(19,0,1),(22,0,1)] [(3,25)]))) (Ni [MC 1,MC 2,MC 0,k,a 0,L,Rc 5 4,MC 0,k,a 2,L,MC 0,k,a 1,L,Rc 8 4,m Y] [(0,0,0),(1,0,0),(2,0,0),(5,0,0),(7,0,1),(10,0,1),(11,0,1),(14,0,1)] [(3,16)]),[.t 3]⟩
def fn289:IFn:=⟨3,OR (MT 3) (Nh (Pk (a 1) (a 0)) (OC 15 [MC 0,k,a 1,L,O1 4] (Ni [MC 0,k,a 0,L,MC 0,k,a 2,L,mv 4,k,a 0,L,Rc 8 4,mv 4,k,a 2,L,mv 4,k,a 1,L,MC 1,MC 2,Rc 2 1,Rc 11 7,m Y] [(0,0,0),(3,0,0),(4,0,0),(7,0,0),(11,0,0),(16,0,2),(20,0,1),(21,0,1),(22,0,1)] [(3,25)]))) (Ni [MC 0,k,a 0,L,MC 0,k,a 2,L,MC 0,k,a 1,L,MC 1,MC 2,Rc 2 1,Rc 11 7,m Y] [(0,0,1),(3,0,1),(4,0,1),(7,0,1),(8,0,0),(11,0,0),(12,0,0),(13,0,0)] [(3,16)]),[.t 3]⟩
def fn290:IFn:=⟨2,s [O0 4] (MB [NK 255,O1 5] (MG 5 9 4) [QE 255 1,O1 4]),[.t 4]⟩
def fn291:IFn:=⟨2,s [bx 0 2,O0 4] (MB [A 0 2,L,q gt [Y,.v 1] 8] (r 8 [A 0 2,L,O1 4]) [A 1 2,L,O1 4]),[.t 4]⟩
def fn292:IFn:=⟨1,s [bx 0 1,Of 2] (MB [A 0 1,N l 4] (MZ 0 [Nx 4 1,O1 5] (Nn 5 [A 1 1,L,c 239 U,OF 2,h 1 l,MW 2,z 3 Y,MR 2 1,g 1 l,Ng 2 239,QX 7 3,Q 8,OF 3,h 1 l,QG 2 297,Q 3,OF 4,h 1 l,MW 2,Q 3,OF 5,h 1 l,OE 2,t 3 le [Y,i 16],Q 4,O1 2] [Nx 4 2,O1 36] (.cond (.v 36) (Na [A 4 1,L,c 238 U,OF 1,h 1 l,MW 2,Q 3,OF 2,h 1 l,MW 2,Q 3,OF 3,h 1 l,OE 2,MI 3 5 1,h 4 l,OE 5,t 6 ad (B 3),Pf 7,Q 8,O1 2]) (Nh (Qz 4 61) (Nn 61 [A 4 1,L,RH,OF 1,h 1 l,MW 2,Q 3,OF 2,h 1 l,MW 2,Q 3,OF 3,h 1 l,OE 2,MI 3 5 1,h 4 l,OE 5,t 6 ad (B 3),Pf 7,Q 8,O1 2] [Nx 4 5,O1 87] (r 87 [A 1 1,L,c 239 U,OF 3,h 1 l,QG 2 297,Q 3,OF 2,h 1 l,MW 2,Q 3,OF 4,h 1 l,MW 2,Q 3,OF 5,h 1 l,OE 2,Pf 3,Q 4,O1 2])))))) [Of 2]),[.t 2]⟩
def fn293:IFn:=⟨1,OM,[.t 2]⟩
def fn294:IFn:=⟨1,OA [p ge [.v 0,b 97],zv 0 0,t 1 le [Y,b 122],Q 2,yv 0 0,f 1 ge [Y,b 48],y 2 Y,zv 0 0,t 1 le [Y,b 57],NB 5 2,P 6,O1 2],[.t 2]⟩
def fn295:IFn:=⟨2,Pw 6,[.t 4]⟩
def fn296:IFn:=⟨1,s [MT 2] (MP [lv 0,ON 6] (Rz 6) [lv 0,Pd [Y,i 2],O1 3] (Ni [mv 0,mv 3,NG 1,c 296 U,mv 0,mv 3,Nd 1 1,L,mv 0,mv 3,NN,MY 1 2,c 296 U,Rc 9 5,m Y] [(7,0,2)] [(2,14)])),[.t 2]⟩
def fn297:IFn:=⟨1,Qs [lv 0,OK 8 7] (Oc 7 2) [O0 3] (QJ [lv 0,Nl 3 11] (x 11 0) (s [MF 3 0 3,d 3 0,Qd 4,S 3 4] (RT [A 0 4,L,c 239 U,Pq,m Y,MR 1 4,g 1 l,QU 2 3,P 3,m Y,MR 2 4,g 1 l,Ng 2 238,Od 3,P 4,m Y,MR 1 4,g 1 l,f 2 ne [Y,b 0],y 3 Y,MI 0 2 4,h 1 l,Rt,NB 7 3,P 8,m Y,yv 0 3,f 1 gt [Y,O],y 2 Y,zv 0 0,zv 1 3,t 2 su [Y,i 1],OD 3 3 2,Nw 4 0,h 5 l,MI 6 0 4,h 7 l,t 8 (.sb .geq) (B 2),NB 12 9,P 13] [(1,0,0),(6,1,1),(11,1,1),(17,2,2),(21,2,2),(34,2,2),(36,2,2)] [(57,39)] 57)) (I 3)),[.t 2]⟩
def F:T IFn:=(.n (.n (.n (.n (.n (.n (.n (.n (.n .e (some fn255) .e) (some fn127) .e) (some fn63) (.n .e (some fn191) .e)) (some fn31) (.n (.n (.n .e (some fn287) .e) none .e) (some fn95) (.n .e (some fn223) .e))) none (.n (.n (.n (.n .e (some fn271) .e) none .e) (some fn79) (.n .e (some fn207) .e)) (some fn47) (.n (.n .e (some fn175) .e) (some fn111) (.n .e (some fn239) .e)))) none (.n (.n (.n (.n (.n .e (some fn263) .e) (some fn135) .e) (some fn71) (.n .e (some fn199) .e)) (some fn39) (.n (.n (.n .e (some fn295) .e) (some fn167) .e) (some fn103) (.n .e (some fn231) .e))) (some fn23) (.n (.n (.n (.n .e (some fn279) .e) (some fn151) .e) (some fn87) .e) (some fn55) (.n (.n .e (some fn183) .e) (some fn119) (.n .e (some fn247) .e))))) none (.n (.n (.n (.n (.n .e (some fn131) .e) (some fn67) (.n .e (some fn195) .e)) none (.n (.n (.n .e (some fn291) .e) (some fn163) .e) (some fn99) (.n .e (some fn227) .e))) (some fn19) (.n (.n (.n (.n .e (some fn275) .e) (some fn147) .e) none (.n .e (some fn211) .e)) (some fn51) (.n (.n .e (some fn179) .e) (some fn115) (.n .e (some fn243) .e)))) (some fn11) (.n (.n (.n (.n (.n .e (some fn267) .e) (some fn139) .e) none (.n .e (some fn203) .e)) (some fn43) (.n (.n .e (some fn171) .e) (some fn107) (.n .e (some fn235) .e))) none (.n (.n (.n (.n .e (some fn283) .e) none .e) (some fn91) .e) (some fn59) (.n (.n .e (some fn187x) .e) (some fn123) (.n .e (some fn251) .e)))))) none (.n (.n (.n (.n (.n (.n (.n .e (some fn257) .e) (some fn129) .e) (some fn65) (.n .e (some fn193) .e)) none (.n (.n (.n .e (some fn289) .e) none .e) (some fn97) (.n .e (some fn225) .e))) (some fn17) (.n (.n (.n (.n .e (some fn273x) .e) (some fn145) .e) none (.n .e (some fn209) .e)) (some fn49x) (.n (.n .e (some fn177) .e) (some fn113) (.n .e (some fn241) .e)))) (some fn9) (.n (.n (.n (.n (.n .e (some fn265) .e) (some fn137) .e) (some fn73) (.n .e (some fn201) .e)) (some fn41) (.n (.n (.n .e (some fn297) .e) (some fn169) .e) (some fn105) (.n .e (some fn233) .e))) none (.n (.n (.n (.n .e (some fn281) .e) none .e) (some fn89) .e) (some fn57) (.n (.n .e (some fn185) .e) (some fn121) (.n .e (some fn249) .e))))) (some fn5x) (.n (.n (.n (.n (.n (.n .e (some fn261) .e) (some fn133) .e) none (.n .e (some fn197) .e)) none (.n (.n (.n .e (some fn293) .e) (some fn165) .e) (some fn101) (.n .e (some fn229) .e))) (some fn21) (.n (.n (.n (.n .e (some fn277) .e) (some fn149) .e) none .e) (some fn53) (.n (.n .e (some fn181) .e) none (.n .e (some fn245) .e)))) (some fn13) (.n (.n (.n (.n (.n .e (some fn269) .e) (some fn141) .e) (some fn77) (.n .e (some fn205) .e)) (some fn45) (.n (.n .e (some fn173) .e) (some fn109) (.n .e (some fn237) .e))) none (.n (.n (.n (.n .e (some fn285) .e) none .e) (some fn93) (.n .e (some fn221) .e)) (some fn61) (.n (.n .e (some fn189) .e) (some fn125) (.n .e (some fn253x) .e))))))) none (.n (.n (.n (.n (.n (.n (.n (.n .e (some fn256) .e) (some fn128) .e) (some fn64) (.n .e (some fn192) .e)) none (.n (.n (.n .e (some fn288) .e) none .e) (some fn96) (.n .e (some fn224) .e))) (some fn16) (.n (.n (.n (.n .e (some fn272) .e) none .e) none (.n .e (some fn208) .e)) (some fn48) (.n (.n .e (some fn176) .e) (some fn112) (.n .e (some fn240) .e)))) (some fn8) (.n (.n (.n (.n (.n .e (some fn264) .e) (some fn136) .e) (some fn72) (.n .e (some fn200) .e)) (some fn40) (.n (.n (.n .e (some fn296) .e) (some fn168x) .e) (some fn104) (.n .e (some fn232) .e))) (some fn24) (.n (.n (.n (.n .e (some fn280) .e) (some fn152) .e) (some fn88) .e) (some fn56) (.n (.n .e (some fn184) .e) (some fn120) (.n .e (some fn248) .e))))) none (.n (.n (.n (.n (.n (.n .e (some fn260) .e) (some fn132) .e) none (.n .e (some fn196) .e)) none (.n (.n (.n .e (some fn292) .e) (some fn164) .e) (some fn100) (.n .e (some fn228) .e))) (some fn20) (.n (.n (.n (.n .e (some fn276) .e) (some fn148) .e) none (.n .e (some fn212) .e)) (some fn52) (.n (.n .e (some fn180) .e) none (.n .e (some fn244) .e)))) (some fn12) (.n (.n (.n (.n (.n .e (some fn268) .e) (some fn140) .e) (some fn76) (.n .e (some fn204) .e)) (some fn44) (.n (.n .e (some fn172) .e) (some fn108x) (.n .e (some fn236) .e))) none (.n (.n (.n (.n .e (some fn284) .e) none .e) (some fn92) .e) none (.n (.n .e (some fn188) .e) (some fn124) (.n .e (some fn252) .e)))))) none (.n (.n (.n (.n (.n (.n (.n .e (some fn258) .e) (some fn130) .e) (some fn66) (.n .e (some fn194) .e)) none (.n (.n (.n .e (some fn290) .e) none .e) (some fn98) (.n .e (some fn226) .e))) none (.n (.n (.n (.n .e (some fn274) .e) (some fn146) .e) (some fn82) (.n .e (some fn210) .e)) (some fn50) (.n (.n .e (some fn178) .e) (some fn114x) (.n .e (some fn242) .e)))) (some fn10) (.n (.n (.n (.n (.n .e (some fn266) .e) (some fn138) .e) (some fn74) (.n .e (some fn202) .e)) (some fn42) (.n (.n .e (some fn170) .e) (some fn106) (.n .e (some fn234) .e))) none (.n (.n (.n (.n .e (some fn282) .e) none .e) (some fn90) .e) (some fn58) (.n (.n .e (some fn186) .e) (some fn122) (.n .e (some fn250) .e))))) none (.n (.n (.n (.n (.n (.n .e (some fn262) .e) (some fn134) .e) (some fn70) (.n .e (some fn198) .e)) (some fn38) (.n (.n (.n .e (some fn294) .e) (some fn166) .e) (some fn102) (.n .e (some fn230) .e))) (some fn22) (.n (.n (.n (.n .e (some fn278) .e) (some fn150) .e) none .e) (some fn54) (.n (.n .e (some fn182) .e) (some fn118) (.n .e (some fn246) .e)))) (some fn14) (.n (.n (.n (.n (.n .e (some fn270) .e) (some fn142) .e) (some fn78) (.n .e (some fn206) .e)) (some fn46) (.n (.n .e (some fn174) .e) (some fn110) (.n .e (some fn238) .e))) (some fn30) (.n (.n (.n (.n .e (some fn286) .e) none .e) (some fn94) (.n .e (some fn222) .e)) (some fn62) (.n .e (some fn126) (.n .e (some fn254) .e))))))))
theorem H8:F.get 15=none:=rfl
open Classical in
noncomputable def lov:aI:=fun f vs h=>if f=15/\vs=[]then some (.bool true,h)else none
noncomputable abbrev go:aI:=ev lov F
end Go.Ev.Lay
