/- Part 3 of what the walks and the law rest on: a library over any program, and the mathematics of the law. No condition. -/
import Derived.Test.YtpckofngkabgbaaGreatM2
import Derived.Shelf.SlSortCmp.WholeK
import Derived.Shelf.SlSortCmp.NoneTotal
import Derived.Shelf.Sort.Plain
import Derived.Shelf.Slices.In.SortNone
import Derived.Shelf.Small.Strs
import Derived.Deep.AppendSrc
import Derived.Lib.AppendZerosOnto
import Derived.Lib.Overlaps
set_option linter.unusedVariables false
set_option linter.unusedSimpArgs false
namespace Go.Taq
open Go
structure Qe where
 W:Int
 H:Int
 D:Int
 Ac:List Int
 Ah:List Int
deriving DecidableEq,Inhabited
structure Kf where
 Aa:Int
 To:Int
deriving DecidableEq,Inhabited
structure K7 where
 Ag:ByteArray
 A5:List Int
 Ap:Int
 Ab:Int
 Am:List Kf
deriving DecidableEq,Inhabited
structure Qp where
 A:ByteArray
 B:ByteArray
deriving DecidableEq,Inhabited
structure K4 where
 A4:Int
 A7:ByteArray
deriving DecidableEq,Inhabited
structure QV where
 A4:Int
 A6:Int
deriving DecidableEq,Inhabited
structure Q5 where
 A9:Qe
 Au:List K7
 A3:List Qp
 Al:List K4
 Ak:List QV
deriving DecidableEq,Inhabited
structure Qu where
 Aa:Int
 To:Int
deriving DecidableEq,Inhabited
structure Qq where
 s:Q5
 Bj:List Qu
 Bh:Int
 Ax:List Int
 B6:Int
deriving DecidableEq,Inhabited
structure Q1 where
 cell:Int
 Ba:Int
 B4:Bool
deriving DecidableEq,Inhabited
structure Q0 where
 e0:Q1
 e1:Q1
 e2:Q1
 e3:Q1
deriving DecidableEq,Inhabited
structure Qm where
 e0:Int
 e1:Int
 e2:Int
 e3:Int
deriving DecidableEq,Inhabited
structure Qb where
 Az:Int
 B5:Q0
 Aw:Qm
deriving DecidableEq,Inhabited
structure KV where
 Av:Int
 Bi:Q1
deriving DecidableEq,Inhabited
structure KX where
 x:Int
 y:Int
 z:Int
deriving DecidableEq,Inhabited
structure YR where
 e0:KX
 e1:KX
 e2:KX
 e3:KX
 e4:KX
 e5:KX
deriving DecidableEq,Inhabited
structure X5 where
 Bb:Int
 cell:Int
 Bh:Int
deriving DecidableEq,Inhabited
structure Qw where
 B5:Q1
 Av:Int
deriving DecidableEq,Inhabited
structure K6 where
 Ay:List (X5×Bool)
 B9:List (List Int)
deriving DecidableEq,Inhabited
structure Zt where
 a:Int
 b:Int
 Bh:Int
 cell:Int
deriving DecidableEq,Inhabited
structure KI where
 e0:Bool
 e1:Bool
deriving DecidableEq,Inhabited
structure Qc where
 Bf:Q5
 Bc:List (Int×Int)
 Bb:List (Int×Bool)
 Bk:List (Int×Bool)
 B7:List (ByteArray×Int)
 B8:List (Int×Bool)
 Be:List Int
 Bl:List Int
deriving DecidableEq,Inhabited
structure G9 where
 A4:Int
 Ao:Kf
deriving DecidableEq,Inhabited
structure WB where
 Bf:Q5
 Bh:Int
 Ax:List Int
 Bg:List (Int×List Kf)
deriving DecidableEq,Inhabited
structure Kz where
 cell:Int
 Ba:Int
deriving DecidableEq,Inhabited
structure Q2 where
 A4:Int
 Ae:Int
 A6:Int
 Aj:Int
 Af:Int
 A8:Bool
deriving DecidableEq,Inhabited
structure Qd where
 A4:Int
 Ad:Int
deriving DecidableEq,Inhabited
structure Q7 where
 Ar:Int
 Al:List Int
 Ak:List Q2
 Ai:List Int
 A8:List Int
 Aq:List Qd
deriving DecidableEq,Inhabited
structure Kk where
 Ac:Int
 A:Int
 N:Int
deriving DecidableEq,Inhabited
structure Q4E (x:Qe):Prop where
 W:I64 x.W
 H:I64 x.H
 D:I64 x.D
 Ac:(OkL I64) x.Ac
 Ah:(OkL I64) x.Ah
structure Q40 (x:Kf):Prop where
 Aa:I64 x.Aa
 To:I64 x.To
structure Q3s (x:K7):Prop where
 Ag:OkS x.Ag
 A5:(OkL I64) x.A5
 Ap:I64 x.Ap
 Ab:I64 x.Ab
 Am:(OkL Q40) x.Am
structure Q2L (x:Qp):Prop where
 A:OkS x.A
 B:OkS x.B
structure Q2h (x:K4):Prop where
 A4:I64 x.A4
 A7:OkS x.A7
structure Q2D (x:QV):Prop where
 A4:I64 x.A4
 A6:I64 x.A6
structure QF (x:Q5):Prop where
 A9:Q4E x.A9
 Au:(OkL Q3s) x.Au
 A3:(OkL Q2L) x.A3
 Al:(OkL Q2h) x.Al
 Ak:(OkL Q2D) x.Ak
structure Q3M (x:Qu):Prop where
 Aa:I64 x.Aa
 To:I64 x.To
structure Q8g (x:Q2):Prop where
 A4:I64 x.A4
 Ae:I64 x.Ae
 A6:I64 x.A6
 Aj:I64 x.Aj
 Af:I64 x.Af
 A8:(λ(_:Bool)=>True) x.A8
structure Q89 (x:Qd):Prop where
 A4:I64 x.A4
 Ad:I64 x.Ad
structure KK (x:Q7):Prop where
 Ar:I64 x.Ar
 Al:(OkL I64) x.Al
 Ak:(OkL Q8g) x.Ak
 Ai:(OkL I64) x.Ai
 A8:(OkL I64) x.A8
 Aq:(OkL Q89) x.Aq
def Gy(post:Q5->Prop):Prop:=
 post (⟨(⟨3,2,1,([1,1,1,1,1,3]:List Int),([15,15,15,15,15,15]:List Int)⟩:Qe),[],[],[],[]⟩:Q5)
def Wy(s_1:Q5)(c:Int)(post:Bool->Prop):Prop:=
 Jn (λ(J4:Bool->Prop)=>Ite (decide (c≥0)) (Ite (decide (c<(s_1.A9.Ac.length:Int))) (∃x7,idx s_1.A9.Ac c=some x7∧J4 (x7 != 0)) (J4 false)) (J4 false)) (λx3=>post x3)
def WV(s_1:Q5)(trips:List Qu)(post:Bool->Prop):Prop:=
 Jn (λ(J8:Unit->Prop)=>Loop (λ(s9:List (Int×Bool)×List (Int×Bool)×Int) Y10=>Ite (decide (s9.2.2<(trips.length:Int))) (∃x16,idx trips s9.2.2=some x16∧Jn (λ(J18:Bool->Prop)=>Wy s_1 x16.Aa (λx19=>Ite x19 (Wy s_1 x16.To (λx21=>Ite x21 (Ite ((lk s9.1 x16.Aa).getD false) (J18 true) (J18 ((lk s9.2.1 x16.To).getD false))) (J18 true))) (J18 true))) (λx17=>Ite x17 (post false) (Y10 ((upd s9.1 x16.Aa true),(upd s9.2.1 x16.To true),w64 (s9.2.2+1))))) (J8 ())) ((([]:List (Int×Bool)),([]:List (Int×Bool)),0):List (Int×Bool)×List (Int×Bool)×Int)) (λx7=>Jn (λ(J32:Bool->Prop)=>Ite (decide ((trips.length:Int)≥1)) (J32 (decide ((trips.length:Int)≤4))) (J32 false)) (λx31=>post x31))
def Wz(x_1:Int)(post:Bool->Prop):Prop:=
 post (x_1 != x_1)
def YB(x_1:Int)(y_1:Int)(post:Bool->Prop):Prop:=
 Jn (λ(J4:Bool->Prop)=>Wz x_1 (λx5=>Ite x5 (Wz y_1 (λx7=>Ite x7 (J4 (decide (x_1<y_1))) (J4 true))) (J4 (decide (x_1<y_1))))) (λx3=>post x3)
def Gi(x_1:Int)(post:Bool->Prop):Prop:=
 post (x_1 != x_1)
def KC(x_1:List Int)(target:Int)(post:(Int×Bool)->Prop):Prop:=
 Jn (λ(J8:Int->Prop)=>Loop (λ(s9:Int×Int) Y10=>Ite (decide (s9.1<s9.2)) (∃x19,idx x_1 (IntKind.wrap .i64 (shrI .u64 (IntKind.wrap .u64 (w64 (s9.1+s9.2))) 1))=some x19∧YB x19 target (λx20=>Jn (λ(J22:(Int×Int)->Prop)=>Ite x20 (J22 (w64 ((IntKind.wrap .i64 (shrI .u64 (IntKind.wrap .u64 (w64 (s9.1+s9.2))) 1))+1),s9.2)) (J22 (s9.1,IntKind.wrap .i64 (shrI .u64 (IntKind.wrap .u64 (w64 (s9.1+s9.2))) 1)))) (λx21=>Y10 (x21.1,x21.2)))) (J8 s9.1)) (0,(x_1.length:Int))) (λx7=>Jn (λ(J29:Bool->Prop)=>Ite (decide (x7<(x_1.length:Int))) (∃x31,idx x_1 x7=some x31∧Ite (x31 == target) (J29 true) (Gi x31 (λx33=>Ite x33 (Gi target (λx35=>J29 x35)) (J29 false)))) (J29 false)) (λx28=>post (x7,x28)))
def GZ(z:K7)(c0:Int)(post:Bool->Prop):Prop:=
 KC z.A5 c0 (λx5=>post x5.2)
def QW(s_1:List K7)(f_c0:Int)(post:Int->Prop):Prop:=
 Jn (λ(J6:Unit->Prop)=>Loop (λ(s7:Int) Y8=>Ite (decide (s7<(s_1.length:Int))) (∃x16,idx s_1 s7=some x16∧GZ x16 f_c0 (λx17=>Ite x17 (post s7) (Y8 (w64 (s7+1))))) (J6 ())) 0) (λx5=>post (-1))
def Wa(s_1:Q5)(c:Int)(post:Int->Prop):Prop:=
 QW s_1.Au c (λx5=>post x5)
def Gg(s_1:Q5)(c:Int)(post:Int->Prop):Prop:=
 Wa s_1 c (λx5=>Ite (decide (x5≥0)) (∃x11,idx s_1.Au x5=some x11∧post x11.Ap) (post 1))
def Xr(p:Qq)(post:Bool->Prop):Prop:=
 Jn (λ(J8:(Int×Int)->Prop)=>Loop (λ(s9:Int×Int×Int) Y10=>Ite (decide (s9.2.2<(p.s.A9.Ac.length:Int))) (Gg p.s s9.2.2 (λx18=>Wy p.s s9.2.2 (λx21=>Jn (λ(J23:Int->Prop)=>Ite x21 (J23 (w64 (s9.1+1))) (J23 s9.1)) (λx22=>Y10 (x22,imax s9.2.1 x18,w64 (s9.2.2+1)))))) (J8 (s9.1,s9.2.1))) (0,1,0)) (λx7=>Jn (λ(J32:Int->Prop)=>Loop (λ(s33:Int×Int) Y34=>Ite (decide (s33.2<(p.Bj.length:Int))) (Y34 (imin (w64 ((w64 (s33.1*x7.1))*x7.2)) 3001,w64 (s33.2+1))) (J32 s33.1)) (1,0)) (λx31=>Jn (λ(J43:Bool->Prop)=>Ite (decide (x31≤3000)) (J43 (decide (p.B6≤20))) (J43 false)) (λx42=>post x42)))
def WZ(vals:List Int)(post:Int->Prop):Prop:=
 Jn (λ(J8:Unit->Prop)=>Loop (λ(s9:Int) Y10=>Ite (decide (s9<(vals.length:Int))) (∃x16,idx vals s9=some x16∧Ite (x16 != 0) (post x16) (Y10 (w64 (s9+1)))) (J8 ())) 0) (λx7=>post 0)
def Wq(a:Q1)(b:Q1)(post:Int->Prop):Prop:=
 WZ ([w64 (a.cell-b.cell),w64 (a.Ba-b.Ba)]:List Int) (λx5=>Jn (λ(J7:Bool->Prop)=>Ite (x5 == 0) (J7 (!(a.B4 == b.B4))) (J7 false)) (λx6=>Jn (λ(J10:Int->Prop)=>Ite x6 (Jn (λ(J17:Int->Prop)=>Ite a.B4 (J17 1) (J17 (-1))) (λx16=>J10 x16)) (J10 x5)) (λx9=>post x9)))
def Qs(s1_1:List Q1)(s2_1:List Q1)(post:Int->Prop):Prop:=
 Jn (λ(J6:Unit->Prop)=>Loop (λ(s7:Int) Y8=>Ite (decide (s7<(s1_1.length:Int))) (∃x14,idx s1_1 s7=some x14∧Ite (decide (s7≥(s2_1.length:Int))) (post 1) (∃x22,idx s2_1 s7=some x22∧Wq x14 x22 (λx25=>Ite (x25 != 0) (post x25) (Y8 (w64 (s7+1)))))) (J6 ())) 0) (λx5=>Ite (decide ((s1_1.length:Int)<(s2_1.length:Int))) (post (-1)) (post 0))
def Wv(a:Q0)(b:Q0)(post:Int->Prop):Prop:=
 Qs ([a.e0,a.e1,a.e2,a.e3]:List Q1) ([b.e0,b.e1,b.e2,b.e3]:List Q1) (λx5=>post x5)
def QL(p0:List Q0)(post:List Q0->Prop):Prop:=
 ∃(p:Q0->Prop) (cf:Q0->Q0->Int),p default∧(SWOc λx y:Subtype p=>cf x.1 y.1)∧(∀x,x∈p0->p x)∧(∀x y,p x->p y->Wv x y (λr=>r=cf x y))∧p0.length≤1099511627776∧∀ys,ys.Perm p0->ys.Pairwise (λx y=>¬cf y x<0)->post ys
def Yl(layer:List (Q0×Qb))(post:(List Q0)->Prop):Prop:=
 Jn (λ(J8:(List Q0)->Prop)=>Loop (λ(s9:List Q0×List Q0) Y10=>(∀x11 x12,lk layer x11=some x12∧x11∉s9.2->(s9.1.length+([x11]:List Q0).length≤1099511627776)∧Y10 ((s9.1++([x11]:List Q0)),(x11 :: s9.2)))∧((∀x,lk layer x≠none->x∈s9.2)->J8 s9.1)) (([],([]:List Q0)):List Q0×List Q0)) (λx7=>QL x7 (λx22=>post x22))
def Xq(p:Qq)(at_1:Q0)(post:Bool->Prop):Prop:=
 Jn (λ(J6:Unit->Prop)=>Loop (λ(s7:Int) Y8=>Ite (decide (s7<(p.Bj.length:Int))) (∃x14,idx p.Bj s7=some x14∧∃x18,idx ([at_1.e0,at_1.e1,at_1.e2,at_1.e3]:List Q1) s7=some x18∧Ite (x18.cell != x14.To) (post false) (Y8 (w64 (s7+1)))) (J6 ())) 0) (λx5=>post true)
def Xc(s_1:List Int)(v:Int)(post:Int->Prop):Prop:=
 Jn (λ(J6:Unit->Prop)=>Loop (λ(s7:Int) Y8=>Ite (decide (s7<(s_1.length:Int))) (∃x16,idx s_1 s7=some x16∧Ite (v == x16) (post s7) (Y8 (w64 (s7+1)))) (J6 ())) 0) (λx5=>post (-1))
def Qv(s_1:List Int)(v:Int)(post:Bool->Prop):Prop:=
 Xc s_1 v (λx5=>post (decide (x5≥0)))
def KL(c:Int)(c0:List Int)(post:Bool->Prop):Prop:=
 Qv c0 c (λx5=>post x5)
def QZ(s_1:List Int)(f_c0:List Int)(post:Int->Prop):Prop:=
 Jn (λ(J6:Unit->Prop)=>Loop (λ(s7:Int) Y8=>Ite (decide (s7<(s_1.length:Int))) (∃x16,idx s_1 s7=some x16∧KL x16 f_c0 (λx17=>Ite x17 (post s7) (Y8 (w64 (s7+1))))) (J6 ())) 0) (λx5=>post (-1))
def QQ(s_1:List Int)(f_c0:List Int)(post:Bool->Prop):Prop:=
 QZ s_1 f_c0 (λx5=>post (decide (x5≥0)))
def KH(cells:List Int)(c0:List Int)(post:Bool->Prop):Prop:=
 QQ cells c0 (λx5=>post (!x5))
def Kb(s_1:List Int)(post:(List Int)->Prop):Prop:=
 ∀hb5:Bool,(hb5=true->s_1=[])->Ite (hb5 == true) (post []) ((([]:List Int).length+s_1.length≤1099511627776)∧post (([]:List Int)++s_1))
def GS(f:Qe)(post:Int->Prop):Prop:=
 post (w64 ((w64 (f.W*f.H))*f.D))
def Ys(f:Qe)(c:Int)(post:Bool->Prop):Prop:=
 Jn (λ(J4:Bool->Prop)=>Ite (decide (c≥0)) (GS f (λx6=>J4 (decide (c<x6)))) (J4 false)) (λx3=>post x3)
def YZ(f:Qe)(c:Int)(post:(Int×Int×Int)->Prop):Prop:=
 Ys f c (λx5=>Ite (!x5) (post (0,0,0)) ((f.W≠0)∧(f.W≠0)∧(f.H≠0)∧((w64 (f.W*f.H))≠0)∧post (c.tmod f.W,(w64 (c.tdiv f.W)).tmod f.H,w64 (c.tdiv (w64 (f.W*f.H))))))
def YQ(post:YR->Prop):Prop:=
 post (⟨(⟨1,0,0⟩:KX),(⟨0,1,0⟩:KX),(⟨(-1),0,0⟩:KX),(⟨0,(-1),0⟩:KX),(⟨0,0,1⟩:KX),(⟨0,0,(-1)⟩:KX)⟩:YR)
def Gp(f:Qe)(x_1:Int)(y_1:Int)(z:Int)(post:Int->Prop):Prop:=
 Jn (λ(J4:Bool->Prop)=>Ite (decide ((imin (imin x_1 y_1) z)<0)) (J4 true) (Ite (decide (x_1≥f.W)) (J4 true) (Ite (decide (y_1≥f.H)) (J4 true) (J4 (decide (z≥f.D)))))) (λx3=>Ite x3 (post (-1)) (post (w64 ((w64 ((w64 ((w64 (z*f.H))+y_1))*f.W))+x_1))))
def Gs(f:Qe)(c:Int)(d:Int)(post:Int->Prop):Prop:=
 Jn (λ(J4:Bool->Prop)=>Ys f c (λx5=>Ite x5 (Ite (decide (d<0)) (J4 true) (J4 (decide (d≥6)))) (J4 true))) (λx3=>Ite x3 (post (-1)) (YZ f c (λx13=>YQ (λx16=>∃x17,idx ([x16.e0,x16.e1,x16.e2,x16.e3,x16.e4,x16.e5]:List KX) d=some x17∧Gp f (w64 (x13.1+x17.x)) (w64 (x13.2.1+x17.y)) (w64 (x13.2.2+x17.z)) (λx20=>post x20)))))
def Xn(f:Qe)(c:Int)(d:Int)(post:(Int×Bool)->Prop):Prop:=
 Gs f c d (λx5=>Jn (λ(J7:Bool->Prop)=>Ite (decide (x5<0)) (J7 true) (∃x9,idx f.Ac c=some x9∧Ite (x9 == 0) (J7 true) (∃x11,idx f.Ac x5=some x11∧Ite (x11 == 0) (J7 true) (∃x13,idx f.Ah c=some x13∧(0≤d)∧J7 ((band .i64 (shrI .i64 x13 d) 1) == 0))))) (λx6=>Ite x6 (post (0,false)) (Jn (λ(J19:Bool->Prop)=>Ite (d == 4) (∃x21,idx f.Ac c=some x21∧Ite (x21 != 6) (J19 true) (∃x23,idx f.Ac x5=some x23∧J19 (x23 != 6))) (Ite (d == 5) (∃x25,idx f.Ac c=some x25∧Ite (x25 != 6) (J19 true) (∃x27,idx f.Ac x5=some x27∧J19 (x27 != 6))) (J19 false))) (λx18=>Ite x18 (post (0,false)) (post (x5,true))))))
def XU(s_1:Q5)(c:Int)(post:Bool->Prop):Prop:=
 Jn (λ(J4:Bool->Prop)=>Ite (decide (c≥0)) (J4 (decide (c<(s_1.A9.Ac.length:Int)))) (J4 false)) (λx3=>post x3)
def WT(x_1:Kf)(c0:Int)(post:Bool->Prop):Prop:=
 Jn (λ(J4:Bool->Prop)=>Ite (decide (x_1.Aa≤c0)) (J4 (decide (c0<x_1.To))) (J4 false)) (λx3=>post x3)
def K0(s_1:List Kf)(f_c0:Int)(post:Int->Prop):Prop:=
 Jn (λ(J6:Unit->Prop)=>Loop (λ(s7:Int) Y8=>Ite (decide (s7<(s_1.length:Int))) (∃x16,idx s_1 s7=some x16∧WT x16 f_c0 (λx17=>Ite x17 (post s7) (Y8 (w64 (s7+1))))) (J6 ())) 0) (λx5=>post (-1))
def QE(s_1:List Kf)(f_c0:Int)(post:Bool->Prop):Prop:=
 K0 s_1 f_c0 (λx5=>post (decide (x5≥0)))
def Wp(s_1:Q5)(c:Int)(tick:Int)(post:Bool->Prop):Prop:=
 Wa s_1 c (λx5=>Jn (λ(J7:Bool->Prop)=>XU s_1 c (λx8=>Ite x8 (J7 (decide (x5<0))) (J7 true))) (λx6=>Ite x6 (XU s_1 c (λx13=>post x13)) (∃x16,idx s_1.Au x5=some x16∧QE x16.Am tick (λx17=>post (!x17)))))
def Xh(p:Qq)(at_1:Q1)(k:Int)(post:(List KV)->Prop):Prop:=
 Jn (λ(J8:(List KV)->Prop)=>Loop (λ(s9:List KV×Int) Y10=>Ite (decide (s9.2<6)) (Xn p.s.A9 at_1.cell s9.2 (λx18=>Jn (λ(J20:Bool->Prop)=>Ite x18.2 (Ite (at_1.Ba == 0) (Wp p.s x18.1 (w64 (p.Bh+k)) (λx23=>Ite x23 (Qv p.Ax x18.1 (λx25=>J20 (!x25))) (J20 false))) (J20 false)) (J20 false)) (λx19=>Jn (λ(J27:(List KV)->Prop)=>Ite x19 (Gg p.s x18.1 (λx31=>(s9.1.length+([(⟨w64 (1+s9.2),(⟨x18.1,w64 (x31-1),false⟩:Q1)⟩:KV)]:List KV).length≤1099511627776)∧J27 (s9.1++([(⟨w64 (1+s9.2),(⟨x18.1,w64 (x31-1),false⟩:Q1)⟩:KV)]:List KV)))) (J27 s9.1)) (λx26=>Y10 (x26,w64 (s9.2+1)))))) (J8 s9.1)) (([(⟨0,(⟨at_1.cell,imax 0 (w64 (at_1.Ba-1)),false⟩:Q1)⟩:KV)]:List KV),0)) (λx7=>post x7)
def Km(self:(Qq×Int×Int×Q0×List Int×Qb×List (Q0×Qb))->((List (Q0×Qb))->Prop)->Prop)(p:Qq)(i:Int)(k:Int)(to_1:Q0)(used:List Int)(x_1:Qb)(layer:List (Q0×Qb))(post:(List (Q0×Qb))->Prop):Prop:=
 Ite (i == (p.Bj.length:Int)) (Jn (λ(J9:Bool->Prop)=>Ite ((lk layer to_1).isSome) (J9 (decide (x_1.Az<(((lk layer to_1).getD (⟨0,(⟨(⟨0,0,false⟩:Q1),(⟨0,0,false⟩:Q1),(⟨0,0,false⟩:Q1),(⟨0,0,false⟩:Q1)⟩:Q0),(⟨0,0,0,0⟩:Qm)⟩:Qb)).Az)))) (J9 true)) (λx8=>Jn (λ(J12:(List (Q0×Qb))->Prop)=>Ite x8 (J12 (upd layer to_1 x_1)) (J12 layer)) (λx11=>post x11))) (∃x19,idx ([x_1.B5.e0,x_1.B5.e1,x_1.B5.e2,x_1.B5.e3]:List Q1) i=some x19∧Jn (λ(J23:Bool->Prop)=>Ite x19.B4 (KH ([x19.cell]:List Int) used (λx25=>J23 x25)) (∃x26,idx p.Bj i=some x26∧Ite (x19.cell == x26.To) (KH ([x19.cell]:List Int) used (λx28=>J23 x28)) (J23 false))) (λx22=>Jn (λ(J30:(List (Q0×Qb))->Prop)=>Ite x22 (∃x37,idx ([to_1.e0,to_1.e1,to_1.e2,to_1.e3]:List Q1) i=some x37∧∃x38:Q0,([to_1.e0,to_1.e1,to_1.e2,to_1.e3]:List Q1).set (Int.toNat i) (⟨x19.cell,0,true⟩:Q1)=([x38.e0,x38.e1,x38.e2,x38.e3]:List Q1)∧∃x40,idx ([x_1.Aw.e0,x_1.Aw.e1,x_1.Aw.e2,x_1.Aw.e3]:List Int) i=some x40∧∃x41:Qm,([x_1.Aw.e0,x_1.Aw.e1,x_1.Aw.e2,x_1.Aw.e3]:List Int).set (Int.toNat i) (-1)=([x41.e0,x41.e1,x41.e2,x41.e3]:List Int)∧Kb used (λx44=>(x44.length+([x19.cell]:List Int).length≤1099511627776)∧self (p,w64 (i+1),k,x38,(x44++([x19.cell]:List Int)),(⟨x_1.Az,x_1.B5,x41⟩:Qb),layer) (λx46=>J30 x46))) (J30 layer)) (λx29=>Ite x19.B4 (post x29) (Xh p x19 k (λx52=>Jn (λ(J54:(List (Q0×Qb))->Prop)=>Loop (λ(s55:List (Q0×Qb)×Int) Y56=>Ite (decide (s55.2<(x52.length:Int))) (∃x62,idx x52 s55.2=some x62∧KH ([x19.cell,x62.Bi.cell]:List Int) used (λx65=>Jn (λ(J67:(List (Q0×Qb))->Prop)=>Ite x65 (∃x74,idx ([to_1.e0,to_1.e1,to_1.e2,to_1.e3]:List Q1) i=some x74∧∃x75:Q0,([to_1.e0,to_1.e1,to_1.e2,to_1.e3]:List Q1).set (Int.toNat i) x62.Bi=([x75.e0,x75.e1,x75.e2,x75.e3]:List Q1)∧∃x77,idx ([x_1.Aw.e0,x_1.Aw.e1,x_1.Aw.e2,x_1.Aw.e3]:List Int) i=some x77∧∃x78:Qm,([x_1.Aw.e0,x_1.Aw.e1,x_1.Aw.e2,x_1.Aw.e3]:List Int).set (Int.toNat i) x62.Av=([x78.e0,x78.e1,x78.e2,x78.e3]:List Int)∧Kb used (λx83=>(x83.length+([x19.cell,x62.Bi.cell]:List Int).length≤1099511627776)∧self (p,w64 (i+1),k,x75,(x83++([x19.cell,x62.Bi.cell]:List Int)),(⟨w64 (x_1.Az+1),x_1.B5,x78⟩:Qb),s55.1) (λx85=>J67 x85))) (J67 s55.1)) (λx66=>Y56 (x66,w64 (s55.2+1))))) (J54 s55.1)) (x29,0)) (λx53=>post x53))))))
def Xx(p:Qq)(i:Int)(k:Int)(to_1:Q0)(used:List Int)(x_1:Qb)(layer:List (Q0×Qb))(post:(List (Q0×Qb))->Prop):Prop:=
 Rec (λself (a:Qq×Int×Int×Q0×List Int×Qb×List (Q0×Qb)) (post:(List (Q0×Qb))->Prop)=>Km self a.1 a.2.1 a.2.2.1 a.2.2.2.1 a.2.2.2.2.1 a.2.2.2.2.2.1 a.2.2.2.2.2.2 post) (p,i,k,to_1,used,x_1,layer) post
def Ks(s_1:List Int)(post:(List Int)->Prop):Prop:=
 Jn (λ(J4:(List Int)->Prop)=>Loop (λ(s5:List Int×Int×Int) Y6=>Ite (decide (s5.2.1<s5.2.2)) (∃x12,idx s5.1 s5.2.2=some x12∧∃x13,idx s5.1 s5.2.1=some x13∧∃x14,idx (s5.1.set (Int.toNat s5.2.1) x12) s5.2.2=some x14∧Y6 (((s5.1.set (Int.toNat s5.2.1) x12).set (Int.toNat s5.2.2) x13),w64 (s5.2.1+1),w64 (s5.2.2-1))) (J4 s5.1)) (s_1,0,w64 ((s_1.length:Int)-1))) (λx3=>post x3)
def XY(p:Qq)(post:(List (List Int)×Int)->Prop):Prop:=
 Jn (λ(J8:Q0->Prop)=>Loop (λ(s9:Q0×Int) Y10=>Ite (decide (s9.2<(p.Bj.length:Int))) (∃x16,idx p.Bj s9.2=some x16∧∃x20,idx ([s9.1.e0,s9.1.e1,s9.1.e2,s9.1.e3]:List Q1) s9.2=some x20∧∃x21:Q0,([s9.1.e0,s9.1.e1,s9.1.e2,s9.1.e3]:List Q1).set (Int.toNat s9.2) (⟨x16.Aa,0,false⟩:Q1)=([x21.e0,x21.e1,x21.e2,x21.e3]:List Q1)∧Y10 (x21,w64 (s9.2+1))) (J8 s9.1)) ((⟨(⟨0,0,false⟩:Q1),(⟨0,0,false⟩:Q1),(⟨0,0,false⟩:Q1),(⟨0,0,false⟩:Q1)⟩:Q0),0)) (λx7=>Jn (λ(J33:(List (List (Q0×Qb))×Q0×Int×Int)->Prop)=>Loop (λ(s34:List (List (Q0×Qb))×Q0×Int×Int×Int) Y35=>Ite (decide (s34.2.2.2.2≤p.B6)) (Jn (λ(J40:(List (List (Q0×Qb))×Q0×Int×Int)->Prop)=>∃x45,idx s34.1 s34.2.2.2.2=some x45∧Yl x45 (λx46=>Jn (λ(J48:(List (List (Q0×Qb))×Q0×Int×Int×List (Q0×Qb))->Prop)=>Loop (λ(s49:List (List (Q0×Qb))×Q0×Int×Int×List (Q0×Qb)×Int) Y50=>Ite (decide (s49.2.2.2.2.2<(x46.length:Int))) (∃x56,idx x46 s49.2.2.2.2.2=some x56∧∃x59,idx s49.1 s34.2.2.2.2=some x59∧Jn (λ(J61:Bool->Prop)=>Xq p x56 (λx62=>Ite x62 (Ite (decide (s49.2.2.1<0)) (J61 true) (J61 (decide ((((lk x59 x56).getD (⟨0,(⟨(⟨0,0,false⟩:Q1),(⟨0,0,false⟩:Q1),(⟨0,0,false⟩:Q1),(⟨0,0,false⟩:Q1)⟩:Q0),(⟨0,0,0,0⟩:Qm)⟩:Qb)).Az)<s49.2.2.1)))) (J61 false))) (λx60=>Jn (λ(J66:(Q0×Int×Int)->Prop)=>Ite x60 (J66 (x56,((lk x59 x56).getD (⟨0,(⟨(⟨0,0,false⟩:Q1),(⟨0,0,false⟩:Q1),(⟨0,0,false⟩:Q1),(⟨0,0,false⟩:Q1)⟩:Q0),(⟨0,0,0,0⟩:Qm)⟩:Qb)).Az,s34.2.2.2.2)) (J66 (s49.2.1,s49.2.2.1,s49.2.2.2.1))) (λx65=>Jn (λ(J73:(List (Q0×Qb))->Prop)=>Ite (decide (s34.2.2.2.2<p.B6)) (Xx p 0 s34.2.2.2.2 (⟨(⟨0,0,false⟩:Q1),(⟨0,0,false⟩:Q1),(⟨0,0,false⟩:Q1),(⟨0,0,false⟩:Q1)⟩:Q0) [] (⟨((lk x59 x56).getD (⟨0,(⟨(⟨0,0,false⟩:Q1),(⟨0,0,false⟩:Q1),(⟨0,0,false⟩:Q1),(⟨0,0,false⟩:Q1)⟩:Q0),(⟨0,0,0,0⟩:Qm)⟩:Qb)).Az,x56,(⟨0,0,0,0⟩:Qm)⟩:Qb) s49.2.2.2.2.1 (λx77=>J73 x77)) (J73 s49.2.2.2.2.1)) (λx72=>Y50 ((s49.1.set (Int.toNat s34.2.2.2.2) x59),x65.1,x65.2.1,x65.2.2,x72,w64 (s49.2.2.2.2.2+1)))))) (J48 (s49.1,s49.2.1,s49.2.2.1,s49.2.2.2.1,s49.2.2.2.2.1))) (((s34.1.set (Int.toNat s34.2.2.2.2) x45),s34.2.1,s34.2.2.1,s34.2.2.2.1,([]:List (Q0×Qb)),0):List (List (Q0×Qb))×Q0×Int×Int×List (Q0×Qb)×Int)) (λx47=>(x47.1.length+1≤1099511627776)∧J40 (((x47.1++[x47.2.2.2.2]).set (x47.1.length) x47.2.2.2.2),x47.2.1,x47.2.2.1,x47.2.2.2.1)))) (λx39=>Y35 (x39.1,x39.2.1,x39.2.2.1,x39.2.2.2,w64 (s34.2.2.2.2+1)))) (J33 (s34.1,s34.2.1,s34.2.2.1,s34.2.2.2.1))) ((([(upd ([]:List (Q0×Qb)) x7 (⟨0,(⟨(⟨0,0,false⟩:Q1),(⟨0,0,false⟩:Q1),(⟨0,0,false⟩:Q1),(⟨0,0,false⟩:Q1)⟩:Q0),(⟨0,0,0,0⟩:Qm)⟩:Qb))].set 0 (upd ([]:List (Q0×Qb)) x7 (⟨0,(⟨(⟨0,0,false⟩:Q1),(⟨0,0,false⟩:Q1),(⟨0,0,false⟩:Q1),(⟨0,0,false⟩:Q1)⟩:Q0),(⟨0,0,0,0⟩:Qm)⟩:Qb))),(⟨(⟨0,0,false⟩:Q1),(⟨0,0,false⟩:Q1),(⟨0,0,false⟩:Q1),(⟨0,0,false⟩:Q1)⟩:Q0),(-1),0,0):List (List (Q0×Qb))×Q0×Int×Int×Int)) (λx32=>Ite (decide (x32.2.2.1<0)) (post ([],14)) ((0≤(p.Bj.length:Int)∧(p.Bj.length:Int)≤1099511627776)∧Jn (λ(J94:(List (List Int))->Prop)=>Loop (λ(s95:List (List (Q0×Qb))×Q0×Int×List (List Int)) Y96=>Ite (decide (s95.2.2.1>0)) (Jn (λ(J101:(List (List (Q0×Qb))×Q0×List (List Int))->Prop)=>∃x104,idx s95.1 s95.2.2.1=some x104∧Jn (λ(J108:(List (List Int))->Prop)=>Loop (λ(s109:List (List Int)×Int) Y110=>Ite (decide (s109.2<(s95.2.2.2.length:Int))) (∃x119,idx ([((lk x104 s95.2.1).getD (⟨0,(⟨(⟨0,0,false⟩:Q1),(⟨0,0,false⟩:Q1),(⟨0,0,false⟩:Q1),(⟨0,0,false⟩:Q1)⟩:Q0),(⟨0,0,0,0⟩:Qm)⟩:Qb)).Aw.e0,((lk x104 s95.2.1).getD (⟨0,(⟨(⟨0,0,false⟩:Q1),(⟨0,0,false⟩:Q1),(⟨0,0,false⟩:Q1),(⟨0,0,false⟩:Q1)⟩:Q0),(⟨0,0,0,0⟩:Qm)⟩:Qb)).Aw.e1,((lk x104 s95.2.1).getD (⟨0,(⟨(⟨0,0,false⟩:Q1),(⟨0,0,false⟩:Q1),(⟨0,0,false⟩:Q1),(⟨0,0,false⟩:Q1)⟩:Q0),(⟨0,0,0,0⟩:Qm)⟩:Qb)).Aw.e2,((lk x104 s95.2.1).getD (⟨0,(⟨(⟨0,0,false⟩:Q1),(⟨0,0,false⟩:Q1),(⟨0,0,false⟩:Q1),(⟨0,0,false⟩:Q1)⟩:Q0),(⟨0,0,0,0⟩:Qm)⟩:Qb)).Aw.e3]:List Int) s109.2=some x119∧Jn (λ(J121:(List (List Int))->Prop)=>Ite (decide (x119≥0)) (∃x125,idx s109.1 s109.2=some x125∧(x125.length+([x119]:List Int).length≤1099511627776)∧J121 (s109.1.set (Int.toNat s109.2) (x125++([x119]:List Int)))) (J121 s109.1)) (λx120=>Y110 (x120,w64 (s109.2+1)))) (J108 s109.1)) (s95.2.2.2,0)) (λx107=>J101 ((s95.1.set (Int.toNat s95.2.2.1) x104),((lk x104 s95.2.1).getD (⟨0,(⟨(⟨0,0,false⟩:Q1),(⟨0,0,false⟩:Q1),(⟨0,0,false⟩:Q1),(⟨0,0,false⟩:Q1)⟩:Q0),(⟨0,0,0,0⟩:Qm)⟩:Qb)).B5,x107))) (λx100=>Y96 (x100.1,x100.2.1,w64 (s95.2.2.1-1),x100.2.2))) (J94 s95.2.2.2)) ((x32.1,x32.2.1,x32.2.2.2,(List.replicate (Int.toNat (p.Bj.length:Int)) [])):List (List (Q0×Qb))×Q0×Int×List (List Int))) (λx93=>Jn (λ(J137:(List (List Int))->Prop)=>Loop (λ(s138:List (List Int)×Int) Y139=>Ite (decide (s138.2<(x93.length:Int))) (∃x145,idx s138.1 s138.2=some x145∧Ks x145 (λx148=>Y139 ((s138.1.set (Int.toNat s138.2) x148),w64 (s138.2+1)))) (J137 s138.1)) (x93,0)) (λx136=>post (x136,0))))))
def Xj(a:Q1)(b:Q1)(post:Int->Prop):Prop:=
 WZ ([w64 (a.cell-b.cell),w64 (a.Ba-b.Ba)]:List Int) (λx5=>post x5)
def QR(p0:List Q1)(post:List Q1->Prop):Prop:=
 ∃(p:Q1->Prop) (cf:Q1->Q1->Int),p default∧(SWOc λx y:Subtype p=>cf x.1 y.1)∧(∀x,x∈p0->p x)∧(∀x y,p x->p y->Xj x y (λr=>r=cf x y))∧p0.length≤1099511627776∧∀ys,ys.Perm p0->ys.Pairwise (λx y=>¬cf y x<0)->post ys
def X8(layer:List (Q1×Qw))(post:(List Q1)->Prop):Prop:=
 Jn (λ(J8:(List Q1)->Prop)=>Loop (λ(s9:List Q1×List Q1) Y10=>(∀x11 x12,lk layer x11=some x12∧x11∉s9.2->(s9.1.length+([x11]:List Q1).length≤1099511627776)∧Y10 ((s9.1++([x11]:List Q1)),(x11 :: s9.2)))∧((∀x,lk layer x≠none->x∈s9.2)->J8 s9.1)) (([],([]:List Q1)):List Q1×List Q1)) (λx7=>QR x7 (λx20=>post x20))
def Xy(p:Qq)(i:Int)(bans:List (X5×Bool))(post:(List Int×Bool)->Prop):Prop:=
 Jn (λ(J8:Int->Prop)=>Loop (λ(s9:Int×List X5) Y10=>(∀x11 x12,lk bans x11=some x12∧x11∉s9.2->Jn (λ(J16:Bool->Prop)=>Ite (x11.Bb == i) (∃x18,idx p.Bj i=some x18∧J16 (x11.cell == x18.To)) (J16 false)) (λx15=>Jn (λ(J20:Int->Prop)=>Ite x15 (J20 (imax s9.1 x11.Bh)) (J20 s9.1)) (λx19=>Y10 (x19,(x11 :: s9.2)))))∧((∀x,lk bans x≠none->x∈s9.2)->J8 s9.1)) (((-1),([]:List X5)):Int×List X5)) (λx7=>∃x26,idx p.Bj i=some x26∧Jn (λ(J30:Unit->Prop)=>Loop (λ(s31:List (List (Q1×Qw))×Int) Y32=>Ite (decide (s31.2≤p.B6)) (Jn (λ(J37:(List (List (Q1×Qw)))->Prop)=>∃x42,idx s31.1 s31.2=some x42∧X8 x42 (λx43=>Jn (λ(J45:(List (Q1×Qw))->Prop)=>Loop (λ(s46:List (Q1×Qw)×Int) Y47=>Ite (decide (s46.2<(x43.length:Int))) (Jn (λ(J52:(List (Q1×Qw))->Prop)=>∃x55,idx x43 s46.2=some x55∧Jn (λ(J57:Bool->Prop)=>∃x58,idx p.Bj i=some x58∧Ite (x55.cell == x58.To) (J57 (decide (s31.2>x7))) (J57 false)) (λx56=>Ite x56 (Jn (λ(J64:(List Int)->Prop)=>Loop (λ(s65:List (List (Q1×Qw))×Int×Int×Int×Bool×List Int) Y66=>Ite (decide (s65.2.1>0)) (∃x72,idx s65.1 s65.2.1=some x72∧(s65.2.2.2.2.2.length+([((lk x72 (⟨s65.2.2.1,s65.2.2.2.1,s65.2.2.2.2.1⟩:Q1)).getD (⟨(⟨0,0,false⟩:Q1),0⟩:Qw)).Av]:List Int).length≤1099511627776)∧Y66 ((s65.1.set (Int.toNat s65.2.1) x72),w64 (s65.2.1-1),((lk x72 (⟨s65.2.2.1,s65.2.2.2.1,s65.2.2.2.2.1⟩:Q1)).getD (⟨(⟨0,0,false⟩:Q1),0⟩:Qw)).B5.cell,((lk x72 (⟨s65.2.2.1,s65.2.2.2.1,s65.2.2.2.2.1⟩:Q1)).getD (⟨(⟨0,0,false⟩:Q1),0⟩:Qw)).B5.Ba,((lk x72 (⟨s65.2.2.1,s65.2.2.2.1,s65.2.2.2.2.1⟩:Q1)).getD (⟨(⟨0,0,false⟩:Q1),0⟩:Qw)).B5.B4,(s65.2.2.2.2.2++([((lk x72 (⟨s65.2.2.1,s65.2.2.2.1,s65.2.2.2.2.1⟩:Q1)).getD (⟨(⟨0,0,false⟩:Q1),0⟩:Qw)).Av]:List Int)))) (J64 s65.2.2.2.2.2)) (((s31.1.set (Int.toNat s31.2) x42),s31.2,x55.cell,x55.Ba,x55.B4,[]):List (List (Q1×Qw))×Int×Int×Int×Bool×List Int)) (λx63=>Ks x63 (λx80=>post (x80,true)))) (Ite ((lk bans (⟨i,x55.cell,s31.2⟩:X5)).getD false) (J52 s46.1) (Xh p x55 s31.2 (λx88=>Jn (λ(J90:(List (Q1×Qw))->Prop)=>Loop (λ(s91:List (Q1×Qw)×Int) Y92=>Ite (decide (s91.2<(x88.length:Int))) (∃x98,idx x88 s91.2=some x98∧Jn (λ(J102:Bool->Prop)=>Ite ((lk s91.1 x98.Bi).isSome) (J102 false) (J102 (!((lk bans (⟨i,x98.Bi.cell,s31.2⟩:X5)).getD false)))) (λx101=>Jn (λ(J105:(List (Q1×Qw))->Prop)=>Ite x101 (J105 (upd s91.1 x98.Bi (⟨x55,x98.Av⟩:Qw))) (J105 s91.1)) (λx104=>Y92 (x104,w64 (s91.2+1))))) (J90 s91.1)) (s46.1,0)) (λx89=>J52 x89)))))) (λx51=>Y47 (x51,w64 (s46.2+1)))) (J45 s46.1)) ((([]:List (Q1×Qw)),0):List (Q1×Qw)×Int)) (λx44=>((s31.1.set (Int.toNat s31.2) x42).length+1≤1099511627776)∧J37 (((s31.1.set (Int.toNat s31.2) x42)++[x44]).set ((s31.1.set (Int.toNat s31.2) x42).length) x44)))) (λx36=>Y32 (x36,w64 (s31.2+1)))) (J30 ())) ((([(upd ([]:List (Q1×Qw)) (⟨x26.Aa,0,false⟩:Q1) (⟨(⟨0,0,false⟩:Q1),0⟩:Qw))].set 0 (upd ([]:List (Q1×Qw)) (⟨x26.Aa,0,false⟩:Q1) (⟨(⟨0,0,false⟩:Q1),0⟩:Qw))),0):List (List (Q1×Qw))×Int)) (λx29=>post ([],false)))
def Yj(s_1:Q5)(from_1:Int)(acts:List Int)(post:(List Int)->Prop):Prop:=
 Jn (λ(J4:Bool->Prop)=>Ite (decide (from_1<0)) (J4 true) (J4 (decide (from_1≥(s_1.A9.Ac.length:Int))))) (λx3=>Ite x3 (post []) (Jn (λ(J14:(List Int)->Prop)=>Loop (λ(s15:Int×List Int×Int) Y16=>Ite (decide (s15.2.2<(acts.length:Int))) (∃x22,idx acts s15.2.2=some x22∧Xn s_1.A9 s15.1 (w64 (x22-1)) (λx25=>Jn (λ(J29:Int->Prop)=>Ite x25.2 (J29 x25.1) (J29 s15.1)) (λx28=>(s15.2.1.length+([x28]:List Int).length≤1099511627776)∧Y16 (x28,(s15.2.1++([x28]:List Int)),w64 (s15.2.2+1))))) (J14 s15.2.1)) (from_1,([from_1]:List Int),0)) (λx13=>post x13)))
def Yi(c:Int)(post:Bool->Prop):Prop:=
 Jn (λ(J4:Bool->Prop)=>Ite (decide (c≥0)) (J4 (decide (c<4096))) (J4 false)) (λx3=>post x3)
def Gm(c:Int)(post:Bool->Prop):Prop:=
 Yi c (λx5=>post (!x5))
def Kr(s_1:List Int)(post:Int->Prop):Prop:=
 Jn (λ(J6:Unit->Prop)=>Loop (λ(s7:Int) Y8=>Ite (decide (s7<(s_1.length:Int))) (∃x16,idx s_1 s7=some x16∧Gm x16 (λx17=>Ite x17 (post s7) (Y8 (w64 (s7+1))))) (J6 ())) 0) (λx5=>post (-1))
def Ke(s_1:List Int)(post:(List Int)->Prop):Prop:=
 Kr s_1 (λx5=>Ite (x5 == (-1)) (post s_1) (Jn (λ(J14:(List Int×Int)->Prop)=>Loop (λ(s15:List Int×Int×Int) Y16=>Ite (decide (s15.2.2<(s15.1.length:Int))) (∃x22,idx s15.1 s15.2.2=some x22∧Gm x22 (λx25=>Jn (λ(J27:(List Int×Int)->Prop)=>Ite (!x25) (∃x31,idx s15.1 s15.2.1=some x31∧J27 ((s15.1.set (Int.toNat s15.2.1) x22),w64 (s15.2.1+1))) (J27 (s15.1,s15.2.1))) (λx26=>Y16 (x26.1,x26.2,w64 (s15.2.2+1))))) (J14 (s15.1,s15.2.1))) (s_1,x5,w64 (x5+1))) (λx13=>(0≤x13.2∧x13.2≤(x13.1.length:Int)∧(x13.1.length:Int)≤(x13.1.length:Int))∧((Int.toNat x13.2)+(Int.toNat ((x13.1.length:Int)-x13.2))≤x13.1.length)∧(0≤(0:Int)∧(0:Int)≤x13.2∧x13.2≤((x13.1.take (Int.toNat x13.2)++(List.replicate (Int.toNat ((x13.1.length:Int)-x13.2)) 0++x13.1.drop ((Int.toNat x13.2)+(Int.toNat ((x13.1.length:Int)-x13.2))))).length:Int))∧post (sub (x13.1.take (Int.toNat x13.2)++(List.replicate (Int.toNat ((x13.1.length:Int)-x13.2)) 0++x13.1.drop ((Int.toNat x13.2)+(Int.toNat ((x13.1.length:Int)-x13.2))))) 0 x13.2))))
def Qz(p0:List Int)(post:List Int->Prop):Prop:=
 p0.length≤1099511627776∧post (p0.mergeSort λx y=>decide (x≤y))
def KJ(s_1:List Int)(post:(List Int)->Prop):Prop:=
 Ite (decide ((s_1.length:Int)<2)) (post s_1) (Jn (λ(J11:Unit->Prop)=>Loop (λ(s12:Int) Y13=>Ite (decide (s12<(s_1.length:Int))) (Jn (λ(J18:Unit->Prop)=>∃x21,idx s_1 s12=some x21∧∃x22,idx s_1 (w64 (s12-1))=some x22∧Ite (x21 == x22) ((0≤s12∧s12≤(s_1.length:Int)∧(s_1.length:Int)≤(s_1.length:Int))∧Jn (λ(J30:(List Int×Int)->Prop)=>Loop (λ(s31:List Int×Int×Int) Y32=>Ite (decide (s31.2.2<((Int.toNat ((s_1.length:Int)-s12)):Int))) ((0≤s31.2.2∧s31.2.2<((Int.toNat ((s_1.length:Int)-s12)):Int))∧∃x39,s31.1[((Int.toNat s12)+Int.toNat s31.2.2)]?=some x39∧(0≤(w64 (s31.2.2-1))∧(w64 (s31.2.2-1))<((Int.toNat ((s_1.length:Int)-s12)):Int))∧∃x41,s31.1[((Int.toNat s12)+Int.toNat (w64 (s31.2.2-1)))]?=some x41∧Jn (λ(J43:(List Int×Int)->Prop)=>Ite (x39 != x41) ((0≤s31.2.2∧s31.2.2<((Int.toNat ((s_1.length:Int)-s12)):Int))∧∃x48,idx s31.1 s31.2.1=some x48∧J43 ((s31.1.set (Int.toNat s31.2.1) x39),w64 (s31.2.1+1))) (J43 (s31.1,s31.2.1))) (λx42=>Y32 (x42.1,x42.2,w64 (s31.2.2+1)))) (J30 (s31.1,s31.2.1))) (s_1,s12,1)) (λx29=>(0≤x29.2∧x29.2≤(x29.1.length:Int)∧(x29.1.length:Int)≤(x29.1.length:Int))∧((Int.toNat x29.2)+(Int.toNat ((x29.1.length:Int)-x29.2))≤x29.1.length)∧(0≤(0:Int)∧(0:Int)≤x29.2∧x29.2≤((x29.1.take (Int.toNat x29.2)++(List.replicate (Int.toNat ((x29.1.length:Int)-x29.2)) 0++x29.1.drop ((Int.toNat x29.2)+(Int.toNat ((x29.1.length:Int)-x29.2))))).length:Int))∧post (sub (x29.1.take (Int.toNat x29.2)++(List.replicate (Int.toNat ((x29.1.length:Int)-x29.2)) 0++x29.1.drop ((Int.toNat x29.2)+(Int.toNat ((x29.1.length:Int)-x29.2))))) 0 x29.2))) (J18 ())) (λx17=>Y13 (w64 (s12+1)))) (J11 ())) 1) (λx10=>post s_1))
def Z3(l:List Int)(post:(List Int)->Prop):Prop:=
 Kb l (λx5=>Ke x5 (λx6=>Qz x6 (λx9=>KJ x9 (λx12=>post x12))))
def WF(s_1:Q5)(from_1:Int)(acts:List Int)(k:Int)(post:(List Int)->Prop):Prop:=
 Yj s_1 from_1 acts (λx5=>Jn (λ(J7:Bool->Prop)=>Ite ((x5.length:Int) == 0) (J7 true) (J7 (decide (k<0)))) (λx6=>Ite x6 (post []) (∃x14,idx x5 (imin k (w64 ((x5.length:Int)-1)))=some x14∧Jn (λ(J16:Bool->Prop)=>Ite (decide (k<(acts.length:Int))) (∃x18,idx acts k=some x18∧Ite (decide (x18≥1)) (J16 (decide (x18<7))) (J16 false)) (J16 false)) (λx15=>Jn (λ(J21:Unit->Prop)=>Ite x15 (∃x25,idx acts k=some x25∧Xn s_1.A9 x14 (w64 (x25-1)) (λx26=>Ite x26.2 (Z3 ([x14,x26.1]:List Int) (λx32=>post x32)) (J21 ()))) (J21 ())) (λx20=>post ([x14]:List Int))))))
def Yg(a:List Int)(b:List Int)(post:(List Int×List Int)->Prop):Prop:=
 post (a,b)
def KY(c0:List Int)(c1:List Int)(oy:Option (List (Int×KI)))(post:(Option (List (Int×KI)))->Prop):Prop:=
 Jn (λ(J2:(List Int×List Int×Option (List (Int×KI)))->Prop)=>Loop (λ(s3:List Int×List Int×Option (List (Int×KI))) Y4=>Ite (decide ((w64 ((s3.1.length:Int)+(s3.2.1.length:Int)))>0)) (Jn (λ(J9:Bool->Prop)=>Ite ((s3.2.1.length:Int) == 0) (J9 true) (Ite (decide ((s3.1.length:Int)>0)) (∃x12,idx s3.1 0=some x12∧∃x13,idx s3.2.1 0=some x13∧J9 (decide (x12≤x13))) (J9 false))) (λx8=>Jn (λ(J15:Bool->Prop)=>Ite ((s3.1.length:Int) == 0) (J15 true) (Ite (decide ((s3.2.1.length:Int)>0)) (∃x18,idx s3.2.1 0=some x18∧∃x19,idx s3.1 0=some x19∧J15 (decide (x18≤x19))) (J15 false))) (λx14=>Jn (λ(J25:(List Int×Int)->Prop)=>Ite x8 (∃x29,idx s3.1 0=some x29∧(0≤(1:Int)∧(1:Int)≤(s3.1.length:Int)∧(s3.1.length:Int)≤(s3.1.length:Int))∧J25 ((sub s3.1 1 (s3.1.length:Int)),x29)) (J25 (s3.1,0))) (λx24=>Jn (λ(J34:(List Int×Int)->Prop)=>Ite x14 (∃x38,idx s3.2.1 0=some x38∧(0≤(1:Int)∧(1:Int)≤(s3.2.1.length:Int)∧(s3.2.1.length:Int)≤(s3.2.1.length:Int))∧J34 ((sub s3.2.1 1 (s3.2.1.length:Int)),x38)) (J34 (s3.2.1,x24.2))) (λx33=>Yld s3.2.2 (x33.2,(⟨x8,x14⟩:KI)) (λx40=>Ite (!x40.1) (post x40.2) (Y4 (x24.1,x33.1,x40.2)))))))) (J2 (s3.1,s3.2.1,s3.2.2))) (c0,c1,oy)) (λx1=>post x1.2.2)
def WR(a:List Int)(b:List Int)(post:(List Int)->Prop):Prop:=
 Yg a b (λx7=>∃ys8:List (Int×KI),(KY x7.1 x7.2 (some ys8) (λr=>r=none∨r=some []))∧Each (λ(x9:Int×KI) (s10:List Int) Y11=>Jn (λ(J18:Bool->Prop)=>Ite x9.2.e0 (J18 x9.2.e1) (J18 false)) (λx17=>Jn (λ(J23:(List Int)->Prop)=>Ite x17 ((s10.length+([x9.1]:List Int).length≤1099511627776)∧J23 (s10++([x9.1]:List Int))) (J23 s10)) (λx22=>Y11 x22))) (λ(s28:List Int)=>post s28) ys8 ([]:List Int))
def Yz(s_1:Q5)(trips:List Qu)(plan:List (List Int))(post:(Zt×Bool)->Prop):Prop:=
 Jn (λ(J8:Int->Prop)=>Loop (λ(s9:Int×Int) Y10=>Ite (decide (s9.2<(plan.length:Int))) (∃x16,idx plan s9.2=some x16∧Y10 (imax s9.1 (x16.length:Int),w64 (s9.2+1))) (J8 s9.1)) (0,0)) (λx7=>Jn (λ(J24:Unit->Prop)=>Loop (λ(s25:Int) Y26=>Ite (decide (s25<(w64 (x7+1)))) (Jn (λ(J31:Unit->Prop)=>Jn (λ(J37:Unit->Prop)=>Loop (λ(s38:Int) Y39=>Ite (decide (s38<(plan.length:Int))) (Jn (λ(J44:Unit->Prop)=>∃x49,idx trips s38=some x49∧∃x50,idx plan s38=some x50∧WF s_1 x49.Aa x50 s25 (λx51=>Jn (λ(J55:Unit->Prop)=>Loop (λ(s56:Int) Y57=>Ite (decide (s56<(plan.length:Int))) (∃x63,idx trips s56=some x63∧∃x64,idx plan s56=some x64∧WF s_1 x63.Aa x64 s25 (λx65=>WR x51 x65 (λx66=>Ite (decide ((x66.length:Int)>0)) (∃x72,idx x66 0=some x72∧post ((⟨s38,s56,s25,x72⟩:Zt),true)) (Y57 (w64 (s56+1)))))) (J55 ())) (w64 (s38+1))) (λx54=>J44 ()))) (λx43=>Y39 (w64 (s38+1)))) (J37 ())) 0) (λx36=>J31 ())) (λx30=>Y26 (w64 (s25+1)))) (J24 ())) 0) (λx23=>post ((⟨0,0,0,0⟩:Zt),false)))
def KT(s_1:List (List Int))(post:(List (List Int))->Prop):Prop:=
 ∀hb5:Bool,(hb5=true->s_1=[])->Ite (hb5 == true) (post []) ((([]:List (List Int)).length+s_1.length≤1099511627776)∧post (([]:List (List Int))++s_1))
def Xz(p:Qq)(n:K6)(b:X5)(post:(K6×Bool)->Prop):Prop:=
 KT n.B9 (λx5=>Jn (λ(J9:(List (X5×Bool))->Prop)=>Loop (λ(s10:List (X5×Bool)×List X5) Y11=>(∀x12 x13,lk n.Ay x12=some x13∧x12∉s10.2->Y11 ((upd s10.1 x12 true),(x12 :: s10.2)))∧((∀x,lk n.Ay x≠none->x∈s10.2)->J9 s10.1)) (((upd ([]:List (X5×Bool)) b true),([]:List X5)):List (X5×Bool)×List X5)) (λx8=>Xy p b.Bb x8 (λx20=>∃x23,idx x5 b.Bb=some x23∧post ((⟨x8,(x5.set (Int.toNat b.Bb) x20.1)⟩:K6),x20.2))))
def G8(plan:List (List Int))(post:Int->Prop):Prop:=
 Jn (λ(J8:Int->Prop)=>Loop (λ(s9:Int×Int) Y10=>Ite (decide (s9.2<(plan.length:Int))) (∃x16,idx plan s9.2=some x16∧Y10 (w64 (s9.1+(x16.length:Int)),w64 (s9.2+1))) (J8 s9.1)) (0,0)) (λx7=>post x7)
def KP(o_1:K6)(t:Int)(post:Int->Prop):Prop:=
 G8 o_1.B9 (λx5=>post (w64 (x5-t)))
def Qh(x_1:List K6)(target:Int)(post:(Int×Bool)->Prop):Prop:=
 Jn (λ(J8:Int->Prop)=>Loop (λ(s9:Int×Int) Y10=>Ite (decide (s9.1<s9.2)) (∃x19,idx x_1 (IntKind.wrap .i64 (shrI .u64 (IntKind.wrap .u64 (w64 (s9.1+s9.2))) 1))=some x19∧KP x19 target (λx20=>Jn (λ(J22:(Int×Int)->Prop)=>Ite (decide (x20<0)) (J22 (w64 ((IntKind.wrap .i64 (shrI .u64 (IntKind.wrap .u64 (w64 (s9.1+s9.2))) 1))+1),s9.2)) (J22 (s9.1,IntKind.wrap .i64 (shrI .u64 (IntKind.wrap .u64 (w64 (s9.1+s9.2))) 1)))) (λx21=>Y10 (x21.1,x21.2)))) (J8 s9.1)) (0,(x_1.length:Int))) (λx7=>Jn (λ(J29:Bool->Prop)=>Ite (decide (x7<(x_1.length:Int))) (∃x31,idx x_1 x7=some x31∧KP x31 target (λx32=>J29 (x32 == 0))) (J29 false)) (λx28=>post (x7,x28)))
def Kd(i:Int)(s_1:List K6)(v:List K6)(post:(List K6×List K6)->Prop):Prop:=
 (0≤i∧i≤(s_1.length:Int)∧(s_1.length:Int)≤(s_1.length:Int))∧Ite ((v.length:Int) == 0) (post (s_1,v)) (Ite (i == (s_1.length:Int)) ((s_1.length+v.length≤1099511627776)∧post ((s_1++v),v)) (False))
def QM(i:Int)(xs:List K6)(ys:List K6)(post:List K6->Prop):Prop:=
 Kd i xs ys (λy=>post y.1)∨(0≤i∧i<(xs.length:Int))∧0<ys.length∧xs.length+ys.length≤1099511627776∧post (xs.take (Int.toNat i)++(ys++xs.drop (Int.toNat i)))
def XI(p:Qq)(post:(List (List Int)×Int)->Prop):Prop:=
 (0≤(p.Bj.length:Int)∧(p.Bj.length:Int)≤1099511627776)∧Jn (λ(J9:(List (List Int))->Prop)=>Loop (λ(s10:List (List Int)×Int) Y11=>Ite (decide (s10.2<(p.Bj.length:Int))) (Xy p s10.2 [] (λx19=>Ite (!x19.2) (post ([],14)) (∃x27,idx s10.1 s10.2=some x27∧Y11 ((s10.1.set (Int.toNat s10.2) x19.1),w64 (s10.2+1))))) (J9 s10.1)) (((List.replicate (Int.toNat (p.Bj.length:Int)) []),0):List (List Int)×Int)) (λx8=>Jn (λ(J35:Unit->Prop)=>Loop (λ(s36:List K6×Int) Y37=>Ite (decide (s36.2<500)) (Jn (λ(J42:(List K6)->Prop)=>Ite ((s36.1.length:Int) == 0) (post ([],14)) (∃x50,idx s36.1 0=some x50∧(0≤(1:Int)∧(1:Int)≤(s36.1.length:Int)∧(s36.1.length:Int)≤(s36.1.length:Int))∧Yz p.s p.Bj x50.B9 (λx56=>Ite (!x56.2) (post (x50.B9,0)) (Jn (λ(J65:(List K6)->Prop)=>Loop (λ(s66:List K6×Int) Y67=>Ite (decide (s66.2<(([x56.1.a,x56.1.b]:List Int).length:Int))) (∃x73,idx ([x56.1.a,x56.1.b]:List Int) s66.2=some x73∧Xz p x50 (⟨x73,x56.1.cell,x56.1.Bh⟩:X5) (λx76=>Jn (λ(J80:(List K6)->Prop)=>Ite x76.2 (G8 x76.1.B9 (λx84=>Qh s66.1 (w64 (x84+1)) (λx85=>QM x85.1 s66.1 ([x76.1]:List K6) (λx88=>J80 x88)))) (J80 s66.1)) (λx79=>Y67 (x79,w64 (s66.2+1))))) (J65 s66.1)) ((sub s36.1 1 (s36.1.length:Int)),0)) (λx64=>J42 x64))))) (λx41=>Y37 (x41,w64 (s36.2+1)))) (J35 ())) ((([(⟨[],x8⟩:K6)]:List K6),0):List K6×Int)) (λx34=>post ([],27)))
def Xv(s_1:Q5)(trips:List Qu)(tick:Int)(avoid:List Int)(most:Int)(post:(List (List Int)×Int)->Prop):Prop:=
 Jn (λ(J6:Bool->Prop)=>WV s_1 trips (λx7=>Ite x7 (Ite (decide (tick<0)) (J6 true) (Ite (decide (tick>20000)) (J6 true) (J6 (decide (most<0))))) (J6 true))) (λx5=>Ite x5 (post ([],1)) (Ite (decide (most>60)) (post ([],27)) (Xr (⟨s_1,trips,tick,avoid,most⟩:Qq) (λx21=>Ite x21 (XY (⟨s_1,trips,tick,avoid,most⟩:Qq) (λx25=>post (x25.1,x25.2))) (XI (⟨s_1,trips,tick,avoid,most⟩:Qq) (λx29=>post (x29.1,x29.2)))))))
def X4(a:List Int)(b:List Int)(post:Bool->Prop):Prop:=
 Ite ((a.length:Int) != (b.length:Int)) (post false) (Jn (λ(J11:Unit->Prop)=>Loop (λ(s12:Int) Y13=>Ite (decide (s12<(a.length:Int))) (∃x19,idx a s12=some x19∧∃x20,idx b s12=some x20∧Ite (x19 != x20) (post false) (Y13 (w64 (s12+1)))) (J11 ())) 0) (λx10=>post true))
def Xf(post:Bool->Prop):Prop:=
 Gy (λx5=>Xv x5 ([(⟨0,2⟩:Qu)]:List Qu) 0 [] 20 (λx9=>Xv x5 ([(⟨0,1⟩:Qu),(⟨1,0⟩:Qu)]:List Qu) 0 [] 20 (λx15=>Xv x5 ([(⟨0,1⟩:Qu),(⟨1,0⟩:Qu)]:List Qu) 0 [] 2 (λx18=>Jn (λ(J20:Bool->Prop)=>WF x5 0 ([1]:List Int) 0 (λx21=>X4 x21 ([0,1]:List Int) (λx22=>Ite x22 (WF x5 0 ([1]:List Int) 1 (λx24=>X4 x24 ([1]:List Int) (λx25=>J20 x25))) (J20 false)))) (λx19=>Jn (λ(J27:Bool->Prop)=>Ite (x9.2 == 0) (G8 x9.1 (λx29=>Ite (x29 == 2) (Ite (x15.2 == 0) (G8 x15.1 (λx32=>Ite (x32 == 5) (Ite (x18.2 == 14) (J27 x19) (J27 false)) (J27 false))) (J27 false)) (J27 false))) (J27 false)) (λx26=>post x26))))))
def GJ(f:Qe)(n:Int)(post:Bool->Prop):Prop:=
 Jn (λ(J4:Bool->Prop)=>Ite (decide ((f.Ac.length:Int)≤n)) (J4 (decide ((f.Ah.length:Int)≤n))) (J4 false)) (λx3=>post x3)
def GI(s_1:Q5)(cells:Int)(most:Int)(post:Bool->Prop):Prop:=
 Jn (λ(J6:Unit->Prop)=>Loop (λ(s7:Int) Y8=>Jn (λ(J10:Bool->Prop)=>Ite (decide (s7<(s_1.Au.length:Int))) (J10 (decide (s7≤most))) (J10 false)) (λx9=>Ite x9 (Jn (λ(J14:Bool->Prop)=>∃x15,idx s_1.Au s7=some x15∧Ite (decide ((x15.A5.length:Int)>cells)) (J14 true) (Ite (decide ((x15.Am.length:Int)>20)) (J14 true) (J14 (decide ((x15.Ag.size:Int)>40))))) (λx13=>Ite x13 (post false) (Y8 (w64 (s7+1))))) (J6 ()))) 0) (λx5=>Jn (λ(J26:Unit->Prop)=>Loop (λ(s27:Int) Y28=>Jn (λ(J30:Bool->Prop)=>Ite (decide (s27<(s_1.A3.length:Int))) (J30 (decide (s27≤most))) (J30 false)) (λx29=>Ite x29 (Jn (λ(J34:Bool->Prop)=>∃x35,idx s_1.A3 s27=some x35∧Ite (decide ((x35.A.size:Int)>40)) (J34 true) (J34 (decide ((x35.B.size:Int)>40)))) (λx33=>Ite x33 (post false) (Y28 (w64 (s27+1))))) (J26 ()))) 0) (λx25=>Jn (λ(J45:Unit->Prop)=>Loop (λ(s46:Int) Y47=>Jn (λ(J49:Bool->Prop)=>Ite (decide (s46<(s_1.Al.length:Int))) (J49 (decide (s46≤most))) (J49 false)) (λx48=>Ite x48 (∃x54,idx s_1.Al s46=some x54∧Ite (decide ((x54.A7.size:Int)>40)) (post false) (Y47 (w64 (s46+1)))) (J45 ()))) 0) (λx44=>Jn (λ(J61:Bool->Prop)=>GJ s_1.A9 cells (λx62=>Ite x62 (Ite (decide ((s_1.Au.length:Int)≤most)) (Ite (decide ((s_1.A3.length:Int)≤most)) (Ite (decide ((s_1.Al.length:Int)≤most)) (J61 (decide ((s_1.Ak.length:Int)≤most))) (J61 false)) (J61 false)) (J61 false)) (J61 false))) (λx60=>post x60))))
def GX(f:Qe)(post:Bool->Prop):Prop:=
 Jn (λ(J4:Bool->Prop)=>Ite (decide ((imin (imin f.W f.H) f.D)<1)) (J4 true) (Ite (decide (f.D>4)) (J4 true) (J4 (decide ((imax f.W f.H)>4096))))) (λx3=>Ite x3 (post false) (GS f (λx12=>Jn (λ(J14:Bool->Prop)=>Ite (decide (x12>4096)) (J14 true) (Ite ((f.Ac.length:Int) != x12) (J14 true) (J14 ((f.Ah.length:Int) != x12)))) (λx13=>Ite x13 (post false) (Jn (λ(J23:Unit->Prop)=>Loop (λ(s24:Int) Y25=>Ite (decide (s24<(f.Ac.length:Int))) (∃x31,idx f.Ac s24=some x31∧Jn (λ(J33:Bool->Prop)=>Ite (decide (x31<0)) (J33 true) (Ite (decide (x31≥7)) (J33 true) (∃x36,idx f.Ah s24=some x36∧Ite (decide (x36<0)) (J33 true) (J33 (decide (x36>63)))))) (λx32=>Ite x32 (post false) (Y25 (w64 (s24+1))))) (J23 ())) 0) (λx22=>post true))))))
def GM(f:Qe)(post:Qc->Prop):Prop:=
 post (⟨(⟨f,[],[],[],[]⟩:Q5),([]:List (Int×Int)),([]:List (Int×Bool)),([]:List (Int×Bool)),([]:List (ByteArray×Int)),([]:List (Int×Bool)),[],[]⟩:Qc)
def Z9(s_1:ByteArray)(c:Int)(post:Int->Prop):Prop:=
 post (Q46 s_1 c)
def XP(s_1:ByteArray)(post:Bool->Prop):Prop:=
 Jn (λ(J4:Bool->Prop)=>Ite (decide ((s_1.size:Int)<1)) (J4 true) (Ite (decide ((s_1.size:Int)>20)) (J4 true) (∃x7,idx s_1.data.toList 0=some x7∧Ite (decide ((x7.toNat:Int)≥48)) (J4 (decide ((x7.toNat:Int)≤57))) (J4 false)))) (λx3=>Ite x3 (post false) (Jn (λ(J15:Unit->Prop)=>Loop (λ(s16:Int) Y17=>Ite (decide (s16<(s_1.size:Int))) (∃x25,idx s_1.data.toList s16=some x25∧Z9 (ByteArray.mk #[97,98,99,100,101,102,103,104,105,106,107,108,109,110,111,112,113,114,115,116,117,118,119,120,121,122,65,66,67,68,69,70,71,72,73,74,75,76,77,78,79,80,81,82,83,84,85,86,87,88,89,90,48,49,50,51,52,53,54,55,56,57,95,45]) (x25.toNat:Int) (λx26=>Ite (decide (x26<0)) (post false) (Y17 (w64 (s16+1))))) (J15 ())) 0) (λx14=>post true)))
def G6(n:Int)(from_1:Int)(to_1:Int)(post:Bool->Prop):Prop:=
 Jn (λ(J4:Bool->Prop)=>Ite (decide (n≥from_1)) (J4 (decide (n≤to_1))) (J4 false)) (λx3=>post x3)
def GV(l:List Kf)(post:Bool->Prop):Prop:=
 Jn (λ(J8:Unit->Prop)=>Loop (λ(s9:Int×Int) Y10=>Ite (decide (s9.2<(l.length:Int))) (∃x16,idx l s9.2=some x16∧Jn (λ(J18:Bool->Prop)=>Ite (decide (x16.Aa<s9.1)) (J18 true) (Ite (decide (x16.Aa≥x16.To)) (J18 true) (J18 (decide (x16.To>20000))))) (λx17=>Ite x17 (post false) (Y10 (x16.To,w64 (s9.2+1))))) (J8 ())) (0,0)) (λx7=>post true)
def Ky(m:Qc)(c:Int)(post:(Int×Bool)->Prop):Prop:=
 Jn (λ(J4:Bool->Prop)=>Ite (decide (c<0)) (J4 true) (J4 (decide (c≥(m.Bf.A9.Ac.length:Int))))) (λx3=>Ite x3 (post (0,false)) (∃x11,idx m.Bf.A9.Ac c=some x11∧post (x11,true)))
def KO(m:Qc)(l:List Int)(post:Bool->Prop):Prop:=
 Jn (λ(J6:Unit->Prop)=>Loop (λ(s7:Int) Y8=>Ite (decide (s7<(l.length:Int))) (∃x14,idx l s7=some x14∧Ky m x14 (λx17=>Jn (λ(J19:Bool->Prop)=>Ite x17.2 (Ite (decide (s7>0)) (∃x22,idx l (w64 (s7-1))=some x22∧J19 (decide (x22≥x14))) (J19 false)) (J19 true)) (λx18=>Ite x18 (post false) (Y8 (w64 (s7+1)))))) (J6 ())) 0) (λx5=>post (decide ((l.length:Int)>0)))
def WO(kind:Int)(post:Bool->Prop):Prop:=
 Jn (λ(J4:Bool->Prop)=>Ite (kind != 0) (Ite (kind != 4) (J4 (kind != 5)) (J4 false)) (J4 false)) (λx3=>post x3)
def Kq(z:K7)(m:Qc)(post:(Int×Qc)->Prop):Prop:=
 Ite ((lk m.B7 z.Ag).isSome) (post (5,m)) (Ite (decide ((m.Bf.Au.length:Int)≥64)) (post (6,m)) (Jn (λ(J18:Unit->Prop)=>Loop (λ(s19:Int) Y20=>Ite (decide (s19<(z.A5.length:Int))) (∃x26,idx z.A5 s19=some x26∧Ky m x26 (λx29=>Jn (λ(J31:Bool->Prop)=>WO x29.1 (λx32=>Ite x32 (J31 ((lk m.Bk x26).getD false)) (J31 true))) (λx30=>Ite x30 (post (13,m)) (Y20 (w64 (s19+1)))))) (J18 ())) 0) (λx17=>Jn (λ(J42:(List (Int×Bool))->Prop)=>Loop (λ(s43:List (Int×Bool)×Int) Y44=>Ite (decide (s43.2<(z.A5.length:Int))) (∃x50,idx z.A5 s43.2=some x50∧Y44 ((upd s43.1 x50 true),w64 (s43.2+1))) (J42 s43.1)) (m.Bk,0)) (λx41=>(m.Bf.Au.length+([z]:List K7).length≤1099511627776)∧post (0,(⟨(⟨m.Bf.A9,(m.Bf.Au++([z]:List K7)),m.Bf.A3,m.Bf.Al,m.Bf.Ak⟩:Q5),m.Bc,m.Bb,x41,(upd m.B7 z.Ag (m.Bf.Au.length:Int)),m.B8,m.Be,m.Bl⟩:Qc))))))
def KD(s_1:List Qp)(v:Qp)(post:Int->Prop):Prop:=
 Jn (λ(J6:Unit->Prop)=>Loop (λ(s7:Int) Y8=>Ite (decide (s7<(s_1.length:Int))) (∃x16,idx s_1 s7=some x16∧Ite (seq v.A x16.A&&(seq v.B x16.B&&true)) (post s7) (Y8 (w64 (s7+1)))) (J6 ())) 0) (λx5=>post (-1))
def QY(s_1:List Qp)(v:Qp)(post:Bool->Prop):Prop:=
 KD s_1 v (λx5=>post (decide (x5≥0)))
def W9(l:List Qp)(a:ByteArray)(b:ByteArray)(post:Bool->Prop):Prop:=
 Jn (λ(J4:Bool->Prop)=>Ite (seq a ByteArray.empty) (J4 true) (J4 (seq b ByteArray.empty))) (λx3=>Ite x3 (post false) (Jn (λ(J10:Bool->Prop)=>QY l (⟨a,b⟩:Qp) (λx11=>Ite x11 (J10 true) (QY l (⟨b,a⟩:Qp) (λx13=>J10 x13)))) (λx9=>post x9)))
def Kj(x_1:Qp)(m:Qc)(post:(Int×Qc)->Prop):Prop:=
 Jn (λ(J4:Bool->Prop)=>XP x_1.A (λx5=>Ite x5 (XP x_1.B (λx7=>J4 (!x7))) (J4 true))) (λx3=>Ite x3 (post (12,m)) (W9 m.Bf.A3 x_1.A x_1.B (λx13=>Ite x13 (post (5,m)) ((m.Bf.A3.length+([x_1]:List Qp).length≤1099511627776)∧post (0,(⟨(⟨m.Bf.A9,m.Bf.Au,(m.Bf.A3++([x_1]:List Qp)),m.Bf.Al,m.Bf.Ak⟩:Q5),m.Bc,m.Bb,m.Bk,m.B7,m.B8,m.Be,m.Bl⟩:Qc))))))
def GE(kind:Int)(post:Bool->Prop):Prop:=
 Jn (λ(J4:Bool->Prop)=>Ite (kind == 1) (J4 true) (J4 (kind == 2))) (λx3=>post x3)
def Ki(x_1:K4)(m:Qc)(post:(Int×Qc)->Prop):Prop:=
 Jn (λ(J4:Bool->Prop)=>Ite (seq x_1.A7 ByteArray.empty) (J4 false) (XP x_1.A7 (λx6=>J4 (!x6)))) (λx3=>Ite x3 (post (12,m)) (Ky m x_1.A4 (λx12=>Ite (!x12.2) (post (3,m)) (GE x12.1 (λx20=>Ite (!x20) (post (13,m)) (Ite ((lk m.Bc x_1.A4).isSome) (post (5,m)) (Ite (decide ((m.Bf.Al.length:Int)≥3000)) (post (6,m)) ((m.Bf.Al.length+([x_1]:List K4).length≤1099511627776)∧post (0,(⟨(⟨m.Bf.A9,m.Bf.Au,m.Bf.A3,(m.Bf.Al++([x_1]:List K4)),m.Bf.Ak⟩:Q5),(upd m.Bc x_1.A4 (m.Bf.Al.length:Int)),m.Bb,m.Bk,m.B7,m.B8,m.Be,m.Bl⟩:Qc))))))))))
def Kh(x_1:QV)(m:Qc)(post:(Int×Qc)->Prop):Prop:=
 Ky m x_1.A4 (λx5=>Jn (λ(J7:Bool->Prop)=>Ite x5.2 (G6 x_1.A6 0 1000000 (λx9=>J7 (!x9))) (J7 true)) (λx6=>Ite x6 (post (3,m)) (Ite (x5.1 == 0) (post (13,m)) (Ite ((lk m.Bb x_1.A4).getD false) (post (5,m)) (Ite (decide ((m.Bf.Ak.length:Int)≥200)) (post (6,m)) ((m.Bf.Ak.length+([x_1]:List QV).length≤1099511627776)∧post (0,(⟨(⟨m.Bf.A9,m.Bf.Au,m.Bf.A3,m.Bf.Al,(m.Bf.Ak++([x_1]:List QV))⟩:Q5),m.Bc,(upd m.Bb x_1.A4 true),m.Bk,m.B7,m.B8,m.Be,m.Bl⟩:Qc))))))))
def Xs(m:Qc)(post:Int->Prop):Prop:=
 Jn (λ(J8:Unit->Prop)=>Loop (λ(s9:Int) Y10=>Ite (decide (s9<(m.Bf.Al.length:Int))) (Jn (λ(J15:Unit->Prop)=>∃x18,idx m.Bf.Al s9=some x18∧YZ m.Bf.A9 x18.A4 (λx21=>Gp m.Bf.A9 (w64 (x21.1+1)) x21.2.1 x21.2.2 (λx24=>Gp m.Bf.A9 x21.1 (w64 (x21.2.1+1)) x21.2.2 (λx25=>Gp m.Bf.A9 (w64 (x21.1-1)) x21.2.1 x21.2.2 (λx26=>Gp m.Bf.A9 x21.1 (w64 (x21.2.1-1)) x21.2.2 (λx27=>Jn (λ(J29:Unit->Prop)=>Loop (λ(s30:Int) Y31=>Ite (decide (s30<(([x24,x25,x26,x27]:List Int).length:Int))) (∃x37,idx ([x24,x25,x26,x27]:List Int) s30=some x37∧Jn (λ(J41:Bool->Prop)=>Ite ((lk m.Bc x37).isSome) (Ite (decide (((lk m.Bc x37).getD 0)<s9)) (∃x44,idx m.Bf.Al ((lk m.Bc x37).getD 0)=some x44∧W9 m.Bf.A3 x18.A7 x44.A7 (λx45=>J41 x45)) (J41 false)) (J41 false)) (λx40=>Ite x40 (post s9) (Y31 (w64 (s30+1))))) (J29 ())) 0) (λx28=>J15 ()))))))) (λx14=>Y10 (w64 (s9+1)))) (J8 ())) 0) (λx7=>post (-1))
def Kx(z:K7)(c0:Qc)(post:Bool->Prop):Prop:=
 Jn (λ(J8:Int->Prop)=>Loop (λ(s9:Int×Int) Y10=>Ite (decide (s9.2<(z.A5.length:Int))) (∃x16,idx z.A5 s9.2=some x16∧Jn (λ(J20:Bool->Prop)=>Ite ((lk c0.Bc x16).isSome) (J20 false) (∃x22,idx c0.Bf.A9.Ac x16=some x22∧GE x22 (λx23=>J20 x23))) (λx19=>Jn (λ(J25:Int->Prop)=>Ite x19 (J25 (w64 (s9.1+1))) (J25 s9.1)) (λx24=>Y10 (x24,w64 (s9.2+1))))) (J8 s9.1)) (0,0)) (λx7=>post (decide (x7<z.Ab)))
def Qi(s_1:List K7)(f_c0:Qc)(post:Int->Prop):Prop:=
 Jn (λ(J6:Unit->Prop)=>Loop (λ(s7:Int) Y8=>Ite (decide (s7<(s_1.length:Int))) (∃x16,idx s_1 s7=some x16∧Kx x16 f_c0 (λx17=>Ite x17 (post s7) (Y8 (w64 (s7+1))))) (J6 ())) 0) (λx5=>post (-1))
def Xb(m:Qc)(post:Int->Prop):Prop:=
 Qi m.Bf.Au m (λx5=>post x5)
def Xe(m:Qc)(post:Bool->Prop):Prop:=
 Qv m.Bf.A9.Ac 3 (λx5=>post x5)
def XS(s_1:Q5)(post:Bool->Prop):Prop:=
 GX s_1.A9 (λx5=>Ite (!x5) (post false) (GM s_1.A9 (λx11=>Jn (λ(J15:(Int×Int×Int×List Int×List Int×List K7×List Qp×List K4×List QV×List (Int×Int)×List (Int×Bool)×List (Int×Bool)×List (ByteArray×Int)×List (Int×Bool)×List Int×List Int)->Prop)=>Loop (λ(s16:Int×Int×Int×List Int×List Int×List K7×List Qp×List K4×List QV×List (Int×Int)×List (Int×Bool)×List (Int×Bool)×List (ByteArray×Int)×List (Int×Bool)×List Int×List Int×Int) Y17=>Ite (decide (s16.2.2.2.2.2.2.2.2.2.2.2.2.2.2.2.2<(s_1.Au.length:Int))) (∃x23,idx s_1.Au s16.2.2.2.2.2.2.2.2.2.2.2.2.2.2.2.2=some x23∧Jn (λ(J25:(Int×Int×Int×List Int×List Int×List K7×List Qp×List K4×List QV×List (Int×Int)×List (Int×Bool)×List (Int×Bool)×List (ByteArray×Int)×List (Int×Bool)×List Int×List Int×Bool)->Prop)=>XP x23.Ag (λx26=>Ite x26 (G6 x23.Ap 1 100 (λx28=>Ite x28 (Ite (decide (x23.Ab<0)) (J25 (s16.1,s16.2.1,s16.2.2.1,s16.2.2.2.1,s16.2.2.2.2.1,s16.2.2.2.2.2.1,s16.2.2.2.2.2.2.1,s16.2.2.2.2.2.2.2.1,s16.2.2.2.2.2.2.2.2.1,s16.2.2.2.2.2.2.2.2.2.1,s16.2.2.2.2.2.2.2.2.2.2.1,s16.2.2.2.2.2.2.2.2.2.2.2.1,s16.2.2.2.2.2.2.2.2.2.2.2.2.1,s16.2.2.2.2.2.2.2.2.2.2.2.2.2.1,s16.2.2.2.2.2.2.2.2.2.2.2.2.2.2.1,s16.2.2.2.2.2.2.2.2.2.2.2.2.2.2.2.1,true)) (GV x23.Am (λx31=>Ite x31 (KO (⟨(⟨(⟨s16.1,s16.2.1,s16.2.2.1,s16.2.2.2.1,s16.2.2.2.2.1⟩:Qe),s16.2.2.2.2.2.1,s16.2.2.2.2.2.2.1,s16.2.2.2.2.2.2.2.1,s16.2.2.2.2.2.2.2.2.1⟩:Q5),s16.2.2.2.2.2.2.2.2.2.1,s16.2.2.2.2.2.2.2.2.2.2.1,s16.2.2.2.2.2.2.2.2.2.2.2.1,s16.2.2.2.2.2.2.2.2.2.2.2.2.1,s16.2.2.2.2.2.2.2.2.2.2.2.2.2.1,s16.2.2.2.2.2.2.2.2.2.2.2.2.2.2.1,s16.2.2.2.2.2.2.2.2.2.2.2.2.2.2.2.1⟩:Qc) x23.A5 (λx33=>Ite x33 (Kq x23 (⟨(⟨(⟨s16.1,s16.2.1,s16.2.2.1,s16.2.2.2.1,s16.2.2.2.2.1⟩:Qe),s16.2.2.2.2.2.1,s16.2.2.2.2.2.2.1,s16.2.2.2.2.2.2.2.1,s16.2.2.2.2.2.2.2.2.1⟩:Q5),s16.2.2.2.2.2.2.2.2.2.1,s16.2.2.2.2.2.2.2.2.2.2.1,s16.2.2.2.2.2.2.2.2.2.2.2.1,s16.2.2.2.2.2.2.2.2.2.2.2.2.1,s16.2.2.2.2.2.2.2.2.2.2.2.2.2.1,s16.2.2.2.2.2.2.2.2.2.2.2.2.2.2.1,s16.2.2.2.2.2.2.2.2.2.2.2.2.2.2.2.1⟩:Qc) (λx35=>J25 (x35.2.Bf.A9.W,x35.2.Bf.A9.H,x35.2.Bf.A9.D,x35.2.Bf.A9.Ac,x35.2.Bf.A9.Ah,x35.2.Bf.Au,x35.2.Bf.A3,x35.2.Bf.Al,x35.2.Bf.Ak,x35.2.Bc,x35.2.Bb,x35.2.Bk,x35.2.B7,x35.2.B8,x35.2.Be,x35.2.Bl,(x35.1 != 0)))) (J25 (s16.1,s16.2.1,s16.2.2.1,s16.2.2.2.1,s16.2.2.2.2.1,s16.2.2.2.2.2.1,s16.2.2.2.2.2.2.1,s16.2.2.2.2.2.2.2.1,s16.2.2.2.2.2.2.2.2.1,s16.2.2.2.2.2.2.2.2.2.1,s16.2.2.2.2.2.2.2.2.2.2.1,s16.2.2.2.2.2.2.2.2.2.2.2.1,s16.2.2.2.2.2.2.2.2.2.2.2.2.1,s16.2.2.2.2.2.2.2.2.2.2.2.2.2.1,s16.2.2.2.2.2.2.2.2.2.2.2.2.2.2.1,s16.2.2.2.2.2.2.2.2.2.2.2.2.2.2.2.1,true)))) (J25 (s16.1,s16.2.1,s16.2.2.1,s16.2.2.2.1,s16.2.2.2.2.1,s16.2.2.2.2.2.1,s16.2.2.2.2.2.2.1,s16.2.2.2.2.2.2.2.1,s16.2.2.2.2.2.2.2.2.1,s16.2.2.2.2.2.2.2.2.2.1,s16.2.2.2.2.2.2.2.2.2.2.1,s16.2.2.2.2.2.2.2.2.2.2.2.1,s16.2.2.2.2.2.2.2.2.2.2.2.2.1,s16.2.2.2.2.2.2.2.2.2.2.2.2.2.1,s16.2.2.2.2.2.2.2.2.2.2.2.2.2.2.1,s16.2.2.2.2.2.2.2.2.2.2.2.2.2.2.2.1,true))))) (J25 (s16.1,s16.2.1,s16.2.2.1,s16.2.2.2.1,s16.2.2.2.2.1,s16.2.2.2.2.2.1,s16.2.2.2.2.2.2.1,s16.2.2.2.2.2.2.2.1,s16.2.2.2.2.2.2.2.2.1,s16.2.2.2.2.2.2.2.2.2.1,s16.2.2.2.2.2.2.2.2.2.2.1,s16.2.2.2.2.2.2.2.2.2.2.2.1,s16.2.2.2.2.2.2.2.2.2.2.2.2.1,s16.2.2.2.2.2.2.2.2.2.2.2.2.2.1,s16.2.2.2.2.2.2.2.2.2.2.2.2.2.2.1,s16.2.2.2.2.2.2.2.2.2.2.2.2.2.2.2.1,true)))) (J25 (s16.1,s16.2.1,s16.2.2.1,s16.2.2.2.1,s16.2.2.2.2.1,s16.2.2.2.2.2.1,s16.2.2.2.2.2.2.1,s16.2.2.2.2.2.2.2.1,s16.2.2.2.2.2.2.2.2.1,s16.2.2.2.2.2.2.2.2.2.1,s16.2.2.2.2.2.2.2.2.2.2.1,s16.2.2.2.2.2.2.2.2.2.2.2.1,s16.2.2.2.2.2.2.2.2.2.2.2.2.1,s16.2.2.2.2.2.2.2.2.2.2.2.2.2.1,s16.2.2.2.2.2.2.2.2.2.2.2.2.2.2.1,s16.2.2.2.2.2.2.2.2.2.2.2.2.2.2.2.1,true)))) (λx24=>Ite x24.2.2.2.2.2.2.2.2.2.2.2.2.2.2.2.2 (post false) (Y17 (x24.1,x24.2.1,x24.2.2.1,x24.2.2.2.1,x24.2.2.2.2.1,x24.2.2.2.2.2.1,x24.2.2.2.2.2.2.1,x24.2.2.2.2.2.2.2.1,x24.2.2.2.2.2.2.2.2.1,x24.2.2.2.2.2.2.2.2.2.1,x24.2.2.2.2.2.2.2.2.2.2.1,x24.2.2.2.2.2.2.2.2.2.2.2.1,x24.2.2.2.2.2.2.2.2.2.2.2.2.1,x24.2.2.2.2.2.2.2.2.2.2.2.2.2.1,x24.2.2.2.2.2.2.2.2.2.2.2.2.2.2.1,x24.2.2.2.2.2.2.2.2.2.2.2.2.2.2.2.1,w64 (s16.2.2.2.2.2.2.2.2.2.2.2.2.2.2.2.2+1))))) (J15 (s16.1,s16.2.1,s16.2.2.1,s16.2.2.2.1,s16.2.2.2.2.1,s16.2.2.2.2.2.1,s16.2.2.2.2.2.2.1,s16.2.2.2.2.2.2.2.1,s16.2.2.2.2.2.2.2.2.1,s16.2.2.2.2.2.2.2.2.2.1,s16.2.2.2.2.2.2.2.2.2.2.1,s16.2.2.2.2.2.2.2.2.2.2.2.1,s16.2.2.2.2.2.2.2.2.2.2.2.2.1,s16.2.2.2.2.2.2.2.2.2.2.2.2.2.1,s16.2.2.2.2.2.2.2.2.2.2.2.2.2.2.1,s16.2.2.2.2.2.2.2.2.2.2.2.2.2.2.2.1))) (x11.Bf.A9.W,x11.Bf.A9.H,x11.Bf.A9.D,x11.Bf.A9.Ac,x11.Bf.A9.Ah,x11.Bf.Au,x11.Bf.A3,x11.Bf.Al,x11.Bf.Ak,x11.Bc,x11.Bb,x11.Bk,x11.B7,x11.B8,x11.Be,x11.Bl,0)) (λx14=>Jn (λ(J44:(Int×Int×Int×List Int×List Int×List K7×List Qp×List K4×List QV×List (Int×Int)×List (Int×Bool)×List (Int×Bool)×List (ByteArray×Int)×List (Int×Bool)×List Int×List Int)->Prop)=>Loop (λ(s45:Int×Int×Int×List Int×List Int×List K7×List Qp×List K4×List QV×List (Int×Int)×List (Int×Bool)×List (Int×Bool)×List (ByteArray×Int)×List (Int×Bool)×List Int×List Int×Int) Y46=>Ite (decide (s45.2.2.2.2.2.2.2.2.2.2.2.2.2.2.2.2<(s_1.A3.length:Int))) (∃x52,idx s_1.A3 s45.2.2.2.2.2.2.2.2.2.2.2.2.2.2.2.2=some x52∧Kj x52 (⟨(⟨(⟨s45.1,s45.2.1,s45.2.2.1,s45.2.2.2.1,s45.2.2.2.2.1⟩:Qe),s45.2.2.2.2.2.1,s45.2.2.2.2.2.2.1,s45.2.2.2.2.2.2.2.1,s45.2.2.2.2.2.2.2.2.1⟩:Q5),s45.2.2.2.2.2.2.2.2.2.1,s45.2.2.2.2.2.2.2.2.2.2.1,s45.2.2.2.2.2.2.2.2.2.2.2.1,s45.2.2.2.2.2.2.2.2.2.2.2.2.1,s45.2.2.2.2.2.2.2.2.2.2.2.2.2.1,s45.2.2.2.2.2.2.2.2.2.2.2.2.2.2.1,s45.2.2.2.2.2.2.2.2.2.2.2.2.2.2.2.1⟩:Qc) (λx55=>Ite (x55.1 != 0) (post false) (Y46 (x55.2.Bf.A9.W,x55.2.Bf.A9.H,x55.2.Bf.A9.D,x55.2.Bf.A9.Ac,x55.2.Bf.A9.Ah,x55.2.Bf.Au,x55.2.Bf.A3,x55.2.Bf.Al,x55.2.Bf.Ak,x55.2.Bc,x55.2.Bb,x55.2.Bk,x55.2.B7,x55.2.B8,x55.2.Be,x55.2.Bl,w64 (s45.2.2.2.2.2.2.2.2.2.2.2.2.2.2.2.2+1))))) (J44 (s45.1,s45.2.1,s45.2.2.1,s45.2.2.2.1,s45.2.2.2.2.1,s45.2.2.2.2.2.1,s45.2.2.2.2.2.2.1,s45.2.2.2.2.2.2.2.1,s45.2.2.2.2.2.2.2.2.1,s45.2.2.2.2.2.2.2.2.2.1,s45.2.2.2.2.2.2.2.2.2.2.1,s45.2.2.2.2.2.2.2.2.2.2.2.1,s45.2.2.2.2.2.2.2.2.2.2.2.2.1,s45.2.2.2.2.2.2.2.2.2.2.2.2.2.1,s45.2.2.2.2.2.2.2.2.2.2.2.2.2.2.1,s45.2.2.2.2.2.2.2.2.2.2.2.2.2.2.2.1))) (x14.1,x14.2.1,x14.2.2.1,x14.2.2.2.1,x14.2.2.2.2.1,x14.2.2.2.2.2.1,x14.2.2.2.2.2.2.1,x14.2.2.2.2.2.2.2.1,x14.2.2.2.2.2.2.2.2.1,x14.2.2.2.2.2.2.2.2.2.1,x14.2.2.2.2.2.2.2.2.2.2.1,x14.2.2.2.2.2.2.2.2.2.2.2.1,x14.2.2.2.2.2.2.2.2.2.2.2.2.1,x14.2.2.2.2.2.2.2.2.2.2.2.2.2.1,x14.2.2.2.2.2.2.2.2.2.2.2.2.2.2.1,x14.2.2.2.2.2.2.2.2.2.2.2.2.2.2.2,0)) (λx43=>Jn (λ(J64:(Int×Int×Int×List Int×List Int×List K7×List Qp×List K4×List QV×List (Int×Int)×List (Int×Bool)×List (Int×Bool)×List (ByteArray×Int)×List (Int×Bool)×List Int×List Int)->Prop)=>Loop (λ(s65:Int×Int×Int×List Int×List Int×List K7×List Qp×List K4×List QV×List (Int×Int)×List (Int×Bool)×List (Int×Bool)×List (ByteArray×Int)×List (Int×Bool)×List Int×List Int×Int) Y66=>Ite (decide (s65.2.2.2.2.2.2.2.2.2.2.2.2.2.2.2.2<(s_1.Al.length:Int))) (∃x72,idx s_1.Al s65.2.2.2.2.2.2.2.2.2.2.2.2.2.2.2.2=some x72∧Ki x72 (⟨(⟨(⟨s65.1,s65.2.1,s65.2.2.1,s65.2.2.2.1,s65.2.2.2.2.1⟩:Qe),s65.2.2.2.2.2.1,s65.2.2.2.2.2.2.1,s65.2.2.2.2.2.2.2.1,s65.2.2.2.2.2.2.2.2.1⟩:Q5),s65.2.2.2.2.2.2.2.2.2.1,s65.2.2.2.2.2.2.2.2.2.2.1,s65.2.2.2.2.2.2.2.2.2.2.2.1,s65.2.2.2.2.2.2.2.2.2.2.2.2.1,s65.2.2.2.2.2.2.2.2.2.2.2.2.2.1,s65.2.2.2.2.2.2.2.2.2.2.2.2.2.2.1,s65.2.2.2.2.2.2.2.2.2.2.2.2.2.2.2.1⟩:Qc) (λx75=>Ite (x75.1 != 0) (post false) (Y66 (x75.2.Bf.A9.W,x75.2.Bf.A9.H,x75.2.Bf.A9.D,x75.2.Bf.A9.Ac,x75.2.Bf.A9.Ah,x75.2.Bf.Au,x75.2.Bf.A3,x75.2.Bf.Al,x75.2.Bf.Ak,x75.2.Bc,x75.2.Bb,x75.2.Bk,x75.2.B7,x75.2.B8,x75.2.Be,x75.2.Bl,w64 (s65.2.2.2.2.2.2.2.2.2.2.2.2.2.2.2.2+1))))) (J64 (s65.1,s65.2.1,s65.2.2.1,s65.2.2.2.1,s65.2.2.2.2.1,s65.2.2.2.2.2.1,s65.2.2.2.2.2.2.1,s65.2.2.2.2.2.2.2.1,s65.2.2.2.2.2.2.2.2.1,s65.2.2.2.2.2.2.2.2.2.1,s65.2.2.2.2.2.2.2.2.2.2.1,s65.2.2.2.2.2.2.2.2.2.2.2.1,s65.2.2.2.2.2.2.2.2.2.2.2.2.1,s65.2.2.2.2.2.2.2.2.2.2.2.2.2.1,s65.2.2.2.2.2.2.2.2.2.2.2.2.2.2.1,s65.2.2.2.2.2.2.2.2.2.2.2.2.2.2.2.1))) (x43.1,x43.2.1,x43.2.2.1,x43.2.2.2.1,x43.2.2.2.2.1,x43.2.2.2.2.2.1,x43.2.2.2.2.2.2.1,x43.2.2.2.2.2.2.2.1,x43.2.2.2.2.2.2.2.2.1,x43.2.2.2.2.2.2.2.2.2.1,x43.2.2.2.2.2.2.2.2.2.2.1,x43.2.2.2.2.2.2.2.2.2.2.2.1,x43.2.2.2.2.2.2.2.2.2.2.2.2.1,x43.2.2.2.2.2.2.2.2.2.2.2.2.2.1,x43.2.2.2.2.2.2.2.2.2.2.2.2.2.2.1,x43.2.2.2.2.2.2.2.2.2.2.2.2.2.2.2,0)) (λx63=>Jn (λ(J84:(Int×Int×Int×List Int×List Int×List K7×List Qp×List K4×List QV×List (Int×Int)×List (Int×Bool)×List (Int×Bool)×List (ByteArray×Int)×List (Int×Bool)×List Int×List Int)->Prop)=>Loop (λ(s85:Int×Int×Int×List Int×List Int×List K7×List Qp×List K4×List QV×List (Int×Int)×List (Int×Bool)×List (Int×Bool)×List (ByteArray×Int)×List (Int×Bool)×List Int×List Int×Int) Y86=>Ite (decide (s85.2.2.2.2.2.2.2.2.2.2.2.2.2.2.2.2<(s_1.Ak.length:Int))) (∃x92,idx s_1.Ak s85.2.2.2.2.2.2.2.2.2.2.2.2.2.2.2.2=some x92∧Kh x92 (⟨(⟨(⟨s85.1,s85.2.1,s85.2.2.1,s85.2.2.2.1,s85.2.2.2.2.1⟩:Qe),s85.2.2.2.2.2.1,s85.2.2.2.2.2.2.1,s85.2.2.2.2.2.2.2.1,s85.2.2.2.2.2.2.2.2.1⟩:Q5),s85.2.2.2.2.2.2.2.2.2.1,s85.2.2.2.2.2.2.2.2.2.2.1,s85.2.2.2.2.2.2.2.2.2.2.2.1,s85.2.2.2.2.2.2.2.2.2.2.2.2.1,s85.2.2.2.2.2.2.2.2.2.2.2.2.2.1,s85.2.2.2.2.2.2.2.2.2.2.2.2.2.2.1,s85.2.2.2.2.2.2.2.2.2.2.2.2.2.2.2.1⟩:Qc) (λx95=>Ite (x95.1 != 0) (post false) (Y86 (x95.2.Bf.A9.W,x95.2.Bf.A9.H,x95.2.Bf.A9.D,x95.2.Bf.A9.Ac,x95.2.Bf.A9.Ah,x95.2.Bf.Au,x95.2.Bf.A3,x95.2.Bf.Al,x95.2.Bf.Ak,x95.2.Bc,x95.2.Bb,x95.2.Bk,x95.2.B7,x95.2.B8,x95.2.Be,x95.2.Bl,w64 (s85.2.2.2.2.2.2.2.2.2.2.2.2.2.2.2.2+1))))) (J84 (s85.1,s85.2.1,s85.2.2.1,s85.2.2.2.1,s85.2.2.2.2.1,s85.2.2.2.2.2.1,s85.2.2.2.2.2.2.1,s85.2.2.2.2.2.2.2.1,s85.2.2.2.2.2.2.2.2.1,s85.2.2.2.2.2.2.2.2.2.1,s85.2.2.2.2.2.2.2.2.2.2.1,s85.2.2.2.2.2.2.2.2.2.2.2.1,s85.2.2.2.2.2.2.2.2.2.2.2.2.1,s85.2.2.2.2.2.2.2.2.2.2.2.2.2.1,s85.2.2.2.2.2.2.2.2.2.2.2.2.2.2.1,s85.2.2.2.2.2.2.2.2.2.2.2.2.2.2.2.1))) (x63.1,x63.2.1,x63.2.2.1,x63.2.2.2.1,x63.2.2.2.2.1,x63.2.2.2.2.2.1,x63.2.2.2.2.2.2.1,x63.2.2.2.2.2.2.2.1,x63.2.2.2.2.2.2.2.2.1,x63.2.2.2.2.2.2.2.2.2.1,x63.2.2.2.2.2.2.2.2.2.2.1,x63.2.2.2.2.2.2.2.2.2.2.2.1,x63.2.2.2.2.2.2.2.2.2.2.2.2.1,x63.2.2.2.2.2.2.2.2.2.2.2.2.2.1,x63.2.2.2.2.2.2.2.2.2.2.2.2.2.2.1,x63.2.2.2.2.2.2.2.2.2.2.2.2.2.2.2,0)) (λx83=>Jn (λ(J102:Bool->Prop)=>Xs (⟨(⟨(⟨x83.1,x83.2.1,x83.2.2.1,x83.2.2.2.1,x83.2.2.2.2.1⟩:Qe),x83.2.2.2.2.2.1,x83.2.2.2.2.2.2.1,x83.2.2.2.2.2.2.2.1,x83.2.2.2.2.2.2.2.2.1⟩:Q5),x83.2.2.2.2.2.2.2.2.2.1,x83.2.2.2.2.2.2.2.2.2.2.1,x83.2.2.2.2.2.2.2.2.2.2.2.1,x83.2.2.2.2.2.2.2.2.2.2.2.2.1,x83.2.2.2.2.2.2.2.2.2.2.2.2.2.1,x83.2.2.2.2.2.2.2.2.2.2.2.2.2.2.1,x83.2.2.2.2.2.2.2.2.2.2.2.2.2.2.2⟩:Qc) (λx103=>Ite (decide (x103<0)) (Xb (⟨(⟨(⟨x83.1,x83.2.1,x83.2.2.1,x83.2.2.2.1,x83.2.2.2.2.1⟩:Qe),x83.2.2.2.2.2.1,x83.2.2.2.2.2.2.1,x83.2.2.2.2.2.2.2.1,x83.2.2.2.2.2.2.2.2.1⟩:Q5),x83.2.2.2.2.2.2.2.2.2.1,x83.2.2.2.2.2.2.2.2.2.2.1,x83.2.2.2.2.2.2.2.2.2.2.2.1,x83.2.2.2.2.2.2.2.2.2.2.2.2.1,x83.2.2.2.2.2.2.2.2.2.2.2.2.2.1,x83.2.2.2.2.2.2.2.2.2.2.2.2.2.2.1,x83.2.2.2.2.2.2.2.2.2.2.2.2.2.2.2⟩:Qc) (λx105=>Ite (decide (x105<0)) (Xe (⟨(⟨(⟨x83.1,x83.2.1,x83.2.2.1,x83.2.2.2.1,x83.2.2.2.2.1⟩:Qe),x83.2.2.2.2.2.1,x83.2.2.2.2.2.2.1,x83.2.2.2.2.2.2.2.1,x83.2.2.2.2.2.2.2.2.1⟩:Q5),x83.2.2.2.2.2.2.2.2.2.1,x83.2.2.2.2.2.2.2.2.2.2.1,x83.2.2.2.2.2.2.2.2.2.2.2.1,x83.2.2.2.2.2.2.2.2.2.2.2.2.1,x83.2.2.2.2.2.2.2.2.2.2.2.2.2.1,x83.2.2.2.2.2.2.2.2.2.2.2.2.2.2.1,x83.2.2.2.2.2.2.2.2.2.2.2.2.2.2.2⟩:Qc) (λx107=>J102 x107)) (J102 false))) (J102 false))) (λx101=>post x101))))))))
def XW(r:List Int)(c:Int)(post:Bool->Prop):Prop:=
 Jn (λ(J8:Int->Prop)=>Loop (λ(s9:Int×Int) Y10=>Ite (decide (s9.1<s9.2)) (∃x19,idx r (w64 ((w64 (s9.1+s9.2)).tdiv 2))=some x19∧Jn (λ(J21:(Int×Int)->Prop)=>Ite (decide (x19<c)) (J21 (w64 ((w64 ((w64 (s9.1+s9.2)).tdiv 2))+1),s9.2)) (J21 (s9.1,w64 ((w64 (s9.1+s9.2)).tdiv 2)))) (λx20=>Y10 (x20.1,x20.2))) (J8 s9.1)) (0,(r.length:Int))) (λx7=>Ite (x7 == (r.length:Int)) (post false) (∃x34,idx r x7=some x34∧post (x34 == c)))
def XF(s_1:Q5)(c:Int)(post:Int->Prop):Prop:=
 Jn (λ(J6:Unit->Prop)=>Loop (λ(s7:Int) Y8=>Ite (decide (s7<(s_1.Au.length:Int))) (∃x14,idx s_1.Au s7=some x14∧XW x14.A5 c (λx15=>Ite x15 (post s7) (Y8 (w64 (s7+1))))) (J6 ())) 0) (λx5=>post (-1))
def G7(s_1:Q5)(c:Int)(post:Int->Prop):Prop:=
 XF s_1 c (λx5=>Ite (decide (x5<0)) (post 1) (∃x13,idx s_1.Au x5=some x13∧post x13.Ap))
def Xp(s_1:Q5)(post:Int->Prop):Prop:=
 Jn (λ(J8:Int->Prop)=>Loop (λ(s9:Int×Int) Y10=>Ite (decide (s9.2<(s_1.A9.Ac.length:Int))) (G7 s_1 s9.2 (λx16=>Y10 (imax s9.1 x16,w64 (s9.2+1)))) (J8 s9.1)) (1,0)) (λx7=>post x7)
def Gk(s_1:Q5)(avoid:List Int)(n:Int)(post:Bool->Prop):Prop:=
 Jn (λ(J4:Bool->Prop)=>GI s_1 n 20 (λx5=>Ite x5 (Ite (decide ((avoid.length:Int)>20)) (J4 true) (XS s_1 (λx8=>J4 (!x8)))) (J4 true))) (λx3=>Ite x3 (post false) (Xp s_1 (λx14=>post (decide (x14≤2)))))
def Gz(plan:List (List Int))(post:Bool->Prop):Prop:=
 Jn (λ(J6:Unit->Prop)=>Loop (λ(s7:Int) Y8=>Jn (λ(J10:Bool->Prop)=>Ite (decide (s7<(plan.length:Int))) (J10 (decide (s7<6))) (J10 false)) (λx9=>Ite x9 (∃x15,idx plan s7=some x15∧Ite (decide ((x15.length:Int)>30)) (post false) (Y8 (w64 (s7+1)))) (J6 ()))) 0) (λx5=>post (decide ((plan.length:Int)≤5)))
def Yf(s_1:Q5)(from_1:Int)(to_1:Int)(tick:Int)(post:Bool->Prop):Prop:=
 Jn (λ(J6:Unit->Prop)=>Loop (λ(s7:Int) Y8=>Ite (decide (s7<(([from_1,to_1]:List Int).length:Int))) (∃x14,idx ([from_1,to_1]:List Int) s7=some x14∧Jn (λ(J16:Bool->Prop)=>Ite (decide (x14<0)) (J16 true) (Ite (decide (x14≥(s_1.A9.Ac.length:Int))) (J16 true) (∃x19,idx s_1.A9.Ac x14=some x19∧J16 (x19 == 0)))) (λx15=>Ite x15 (post false) (Y8 (w64 (s7+1))))) (J6 ())) 0) (λx5=>Jn (λ(J26:Bool->Prop)=>Ite (decide (tick≥0)) (J26 (decide (tick≤20000))) (J26 false)) (λx25=>post x25))
def Wl(a:Int)(post:Bool->Prop):Prop:=
 Jn (λ(J4:Bool->Prop)=>Ite (decide (a<0)) (J4 true) (J4 (decide (a≥7)))) (λx3=>post x3)
def Kl(s_1:List Int)(post:Int->Prop):Prop:=
 Jn (λ(J6:Unit->Prop)=>Loop (λ(s7:Int) Y8=>Ite (decide (s7<(s_1.length:Int))) (∃x16,idx s_1 s7=some x16∧Wl x16 (λx17=>Ite x17 (post s7) (Y8 (w64 (s7+1))))) (J6 ())) 0) (λx5=>post (-1))
def QT(s_1:List Int)(post:Bool->Prop):Prop:=
 Kl s_1 (λx5=>post (decide (x5≥0)))
def Wr(s_1:Q5)(tick:Int)(taken:List G9)(avoid:List Int)(post:WB->Prop):Prop:=
 Jn (λ(J8:(List (Int×List Kf))->Prop)=>Loop (λ(s9:List (Int×List Kf)×Int) Y10=>Ite (decide (s9.2<(taken.length:Int))) (∃x16,idx taken s9.2=some x16∧Jn (λ(J18:(List (Int×List Kf))->Prop)=>(∀x19,lk s9.1 x16.A4=some x19->(x19.length+([x16.Ao]:List Kf).length≤1099511627776)∧J18 (upd s9.1 x16.A4 (x19++([x16.Ao]:List Kf))))∧(lk s9.1 x16.A4=none->(([x16.Ao]:List Kf).length≤1099511627776)∧J18 (upd (upd s9.1 x16.A4 []) x16.A4 ([x16.Ao]:List Kf)))) (λx17=>Y10 (x17,w64 (s9.2+1)))) (J8 s9.1)) ((([]:List (Int×List Kf)),0):List (Int×List Kf)×Int)) (λx7=>post (⟨s_1,tick,avoid,x7⟩:WB))
def XZ(x_1:Kf)(c0:Int)(post:Bool->Prop):Prop:=
 Jn (λ(J4:Bool->Prop)=>Ite (decide (x_1.Aa≤c0)) (J4 (decide (c0<x_1.To))) (J4 false)) (λx3=>post x3)
def QJ(s_1:List Kf)(f_c0:Int)(post:Int->Prop):Prop:=
 Jn (λ(J6:Unit->Prop)=>Loop (λ(s7:Int) Y8=>Ite (decide (s7<(s_1.length:Int))) (∃x16,idx s_1 s7=some x16∧XZ x16 f_c0 (λx17=>Ite x17 (post s7) (Y8 (w64 (s7+1))))) (J6 ())) 0) (λx5=>post (-1))
def QB(s_1:List Kf)(f_c0:Int)(post:Bool->Prop):Prop:=
 QJ s_1 f_c0 (λx5=>post (decide (x5≥0)))
def KW(w:WB)(c:Int)(k:Int)(post:Bool->Prop):Prop:=
 QB ((lk w.Bg c).getD []) (w64 (w.Bh+k)) (λx7=>post x7)
def GD(w:WB)(at_1:Kz)(k:Int)(act:Int)(post:(Kz×Int)->Prop):Prop:=
 Ite (act == 0) (KW w at_1.cell k (λx8=>Ite x8 (post ((⟨0,0⟩:Kz),15)) (post ((⟨at_1.cell,imax (w64 (at_1.Ba-1)) 0⟩:Kz),0)))) (Xn w.Bf.A9 at_1.cell (w64 (act-1)) (λx16=>Ite (decide (at_1.Ba>0)) (post ((⟨0,0⟩:Kz),8)) (Jn (λ(J23:Bool->Prop)=>Ite x16.2 (Qv w.Ax x16.1 (λx25=>J23 x25)) (J23 true)) (λx22=>Ite x22 (post ((⟨0,0⟩:Kz),14)) (Wp w.Bf x16.1 (w64 (w.Bh+k)) (λx31=>Ite (!x31) (post ((⟨0,0⟩:Kz),18)) (Jn (λ(J36:Bool->Prop)=>KW w at_1.cell k (λx37=>Ite x37 (J36 true) (KW w x16.1 k (λx39=>J36 x39)))) (λx35=>Ite x35 (post ((⟨0,0⟩:Kz),15)) (Gg w.Bf x16.1 (λx45=>post ((⟨x16.1,w64 (x45-1)⟩:Kz),0)))))))))))
def Yh(s_1:Q5)(from_1:Int)(to_1:Int)(tick:Int)(taken:List G9)(avoid:List Int)(acts:List Int)(post:Int->Prop):Prop:=
 Jn (λ(J6:Bool->Prop)=>Yf s_1 from_1 to_1 tick (λx7=>Ite x7 (QT acts (λx9=>J6 x9)) (J6 true))) (λx5=>Ite x5 (post 1) (Wr s_1 tick taken avoid (λx15=>Jn (λ(J21:(Int×Int)->Prop)=>Loop (λ(s22:Int×Int×Int) Y23=>Ite (decide (s22.2.2<(acts.length:Int))) (∃x29,idx acts s22.2.2=some x29∧GD x15 (⟨s22.1,s22.2.1⟩:Kz) s22.2.2 x29 (λx32=>Ite (x32.2 != 0) (post x32.2) (Y23 (x32.1.cell,x32.1.Ba,w64 (s22.2.2+1))))) (J21 (s22.1,s22.2.1))) (from_1,0,0)) (λx20=>KW x15 x20.1 (acts.length:Int) (λx44=>Ite x44 (post 15) (Ite (x20.1 != to_1) (post 13) (post 0)))))))
def Za(s_1:Q5)(trips:List Qu)(tick:Int)(avoid:List Int)(most:Int)(plan:List (List Int))(post:(Int×Int)->Prop):Prop:=
 Jn (λ(J4:Bool->Prop)=>WV s_1 trips (λx5=>Ite x5 (Ite (decide (tick<0)) (J4 true) (Ite (decide (tick>20000)) (J4 true) (Ite (decide (most<0)) (J4 true) (J4 ((plan.length:Int) != (trips.length:Int)))))) (J4 true))) (λx3=>Ite x3 (post ((-1),1)) (Jn (λ(J16:Unit->Prop)=>Loop (λ(s17:Int) Y18=>Ite (decide (s17<(plan.length:Int))) (∃x24,idx plan s17=some x24∧∃x27,idx trips s17=some x27∧Yh s_1 x27.Aa x27.To tick [] avoid x24 (λx28=>Ite (x28 != 0) (post (s17,x28)) (Ite (decide ((x24.length:Int)>most)) (post (s17,20)) (Y18 (w64 (s17+1)))))) (J16 ())) 0) (λx15=>Yz s_1 trips plan (λx43=>Ite x43.2 (post (x43.1.a,15)) (post ((-1),0))))))
def X3(n:Int)(from_1:Int)(to_1:Int)(post:Bool->Prop):Prop:=
 Jn (λ(J4:Bool->Prop)=>Ite (decide (n≥from_1)) (J4 (decide (n≤to_1))) (J4 false)) (λx3=>post x3)
def Ye(s_1:Q5)(st:Q7)(post:Bool->Prop):Prop:=
 Jn (λ(J8:Unit->Prop)=>Loop (λ(s9:List (Int×Bool)×Int) Y10=>Ite (decide (s9.2<(st.Ak.length:Int))) (∃x16,idx st.Ak s9.2=some x16∧Jn (λ(J18:Bool->Prop)=>Ite (decide (x16.A4<0)) (J18 true) (Ite (decide (x16.A4≥(s_1.A9.Ac.length:Int))) (J18 true) (∃x21,idx s_1.A9.Ac x16.A4=some x21∧Ite (x21 == 0) (J18 true) (X3 x16.Ae (-1) (w64 ((st.Al.length:Int)-1)) (λx23=>J18 (!x23)))))) (λx17=>Ite x17 (post false) (Jn (λ(J28:Bool->Prop)=>X3 x16.A6 0 1000000 (λx29=>Ite x29 (X3 x16.Aj 0 20000 (λx31=>Ite x31 (X3 x16.Af 0 20000 (λx33=>J28 (!x33))) (J28 true))) (J28 true))) (λx27=>Ite x27 (post false) (Jn (λ(J38:Bool->Prop)=>Ite (decide (x16.Ae≥0)) (Ite ((lk s9.1 x16.Ae).getD false) (J38 true) (∃x41,idx st.Al x16.Ae=some x41∧J38 (x41 != x16.A4))) (J38 false)) (λx37=>Ite x37 (post false) (Y10 ((upd s9.1 x16.Ae true),w64 (s9.2+1))))))))) (J8 ())) ((([]:List (Int×Bool)),0):List (Int×Bool)×Int)) (λx7=>post true)
def WN(f:Qe)(c:Int)(kinds:List Int)(post:Bool->Prop):Prop:=
 Jn (λ(J4:Bool->Prop)=>Ite (decide (c≥0)) (Ite (decide (c<(f.Ac.length:Int))) (∃x7,idx f.Ac c=some x7∧Qv kinds x7 (λx8=>J4 x8)) (J4 false)) (J4 false)) (λx3=>post x3)
def Z7(f:Qe)(st:Q7)(post:Bool->Prop):Prop:=
 Jn (λ(J6:Unit->Prop)=>Loop (λ(s7:Int) Y8=>Ite (decide (s7<(st.A8.length:Int))) (∃x14,idx st.A8 s7=some x14∧Jn (λ(J16:Bool->Prop)=>Ite (decide (x14<0)) (J16 true) (Ite (decide (x14≥(f.Ac.length:Int))) (J16 true) (Ite (decide (s7>0)) (∃x20,idx st.A8 (w64 (s7-1))=some x20∧J16 (decide (x14≤x20))) (J16 false)))) (λx15=>Ite x15 (post false) (Y8 (w64 (s7+1))))) (J6 ())) 0) (λx5=>Jn (λ(J29:Unit->Prop)=>Loop (λ(s30:Int) Y31=>Ite (decide (s30<(st.Aq.length:Int))) (∃x37,idx st.Aq s30=some x37∧Jn (λ(J39:Bool->Prop)=>WN f x37.A4 ([6]:List Int) (λx40=>Ite x40 (X3 x37.Ad 1 20000 (λx42=>Ite x42 (Ite (decide (s30>0)) (∃x45,idx st.Aq (w64 (s30-1))=some x45∧J39 (decide (x37.A4≤x45.A4))) (J39 false)) (J39 true))) (J39 true))) (λx38=>Ite x38 (post false) (Y31 (w64 (s30+1))))) (J29 ())) 0) (λx28=>post true))
def W5(r:Q2)(c0:Int)(post:Bool->Prop):Prop:=
 post (r.Ae == c0)
def QN(s_1:List Q2)(f_c0:Int)(post:Int->Prop):Prop:=
 Jn (λ(J6:Unit->Prop)=>Loop (λ(s7:Int) Y8=>Ite (decide (s7<(s_1.length:Int))) (∃x16,idx s_1 s7=some x16∧W5 x16 f_c0 (λx17=>Ite x17 (post s7) (Y8 (w64 (s7+1))))) (J6 ())) 0) (λx5=>post (-1))
def Gr(st:Q7)(shelf:Int)(post:Int->Prop):Prop:=
 Ite (decide (shelf<0)) (post (-1)) (QN st.Ak shelf (λx10=>post x10))
def Ge(c:Int)(post:Int->Prop):Prop:=
 post (w64 (2*c))
def Xg(c:Int)(post:Int->Prop):Prop:=
 post (w64 ((w64 (2*c))+1))
def YH(r:Q2)(c:Int)(post:(List Int)->Prop):Prop:=
 Ite (decide (r.Ae≥0)) (Ge c (λx8=>Xg c (λx9=>post ([x8,x9]:List Int)))) (Ge c (λx12=>post ([x12]:List Int)))
def Y0(st:Q7)(i:Int)(post:(List Int)->Prop):Prop:=
 Jn (λ(J4:Bool->Prop)=>Ite (decide (i<0)) (J4 true) (J4 (decide (i≥(st.Ak.length:Int))))) (λx3=>Ite x3 (post []) (∃x11,idx st.Ak i=some x11∧YH x11 x11.A4 (λx12=>post x12)))
def Y2(st:Q7)(s_1:Int)(post:(List Int)->Prop):Prop:=
 Jn (λ(J4:Bool->Prop)=>Ite (decide (s_1<0)) (J4 true) (Ite (decide (s_1≥(st.Al.length:Int))) (J4 true) (Gr st s_1 (λx7=>J4 (decide (x7≥0)))))) (λx3=>Ite x3 (post []) (∃x13,idx st.Al s_1=some x13∧Xg x13 (λx14=>post ([x14]:List Int))))
def WI(st:Q7)(p:Int)(post:(List Int)->Prop):Prop:=
 Jn (λ(J4:Bool->Prop)=>Ite (decide (p<0)) (J4 true) (J4 (decide (p≥(st.Ai.length:Int))))) (λx3=>Ite x3 (post []) (∃x11,idx st.Ai p=some x11∧Ge x11 (λx12=>Xg x11 (λx13=>post ([x12,x13]:List Int)))))
def Yt(st:Q7)(post:(List Int)->Prop):Prop:=
 Jn (λ(J8:(List Int)->Prop)=>Loop (λ(s9:List Int×Int) Y10=>Ite (decide (s9.2<(st.Ak.length:Int))) (Y0 st s9.2 (λx18=>(s9.1.length+x18.length≤1099511627776)∧Y10 ((s9.1++x18),w64 (s9.2+1)))) (J8 s9.1)) (([],0):List Int×Int)) (λx7=>Jn (λ(J25:(List Int)->Prop)=>Loop (λ(s26:List Int×Int) Y27=>Ite (decide (s26.2<(st.Al.length:Int))) (Y2 st s26.2 (λx35=>(s26.1.length+x35.length≤1099511627776)∧Y27 ((s26.1++x35),w64 (s26.2+1)))) (J25 s26.1)) (x7,0)) (λx24=>Jn (λ(J42:(List Int)->Prop)=>Loop (λ(s43:List Int×Int) Y44=>Ite (decide (s43.2<(st.Ai.length:Int))) (WI st s43.2 (λx52=>(s43.1.length+x52.length≤1099511627776)∧Y44 ((s43.1++x52),w64 (s43.2+1)))) (J42 s43.1)) (x24,0)) (λx41=>post x41)))
def X6(s_1:List Int)(post:(List Int)->Prop):Prop:=
 post (s_1)
def QC(seq_c0:List Int)(s_1:List Int)(post:(List Int)->Prop):Prop:=
 (seq_c0.length≤1099511627776)∧Each (λ(x5:Int) (s6:List Int) Y7=>(s6.length+([x5]:List Int).length≤1099511627776)∧Y7 (s6++([x5]:List Int))) (λ(s12:List Int)=>post s12) seq_c0 s_1
def QO(seq_c0:List Int)(post:(List Int)->Prop):Prop:=
 QC seq_c0 [] (λx5=>post x5)
def QS(seq_c0:List Int)(post:(List Int)->Prop):Prop:=
 QO seq_c0 (λx5=>Qz x5 (λx8=>post x8))
def Gl(slots:List Int)(post:(Int×Bool)->Prop):Prop:=
 X6 slots (λx5=>QS x5 (λx6=>Jn (λ(J10:Unit->Prop)=>Loop (λ(s11:Int) Y12=>Ite (decide (s11<(x6.length:Int))) (∃x18,idx x6 s11=some x18∧∃x19,idx x6 (w64 (s11-1))=some x19∧Ite (x18 == x19) (post (x18,true)) (Y12 (w64 (s11+1)))) (J10 ())) 1) (λx9=>post (0,false))))
def YI(s_1:Q5)(st:Q7)(post:Bool->Prop):Prop:=
 Jn (λ(J4:Bool->Prop)=>X3 st.Ar 0 20000 (λx5=>Ite x5 (Ite ((st.Al.length:Int) != (s_1.Al.length:Int)) (J4 true) (Ite ((st.Ak.length:Int) != (s_1.Ak.length:Int)) (J4 true) (Ite (decide ((st.Ai.length:Int)>20)) (J4 true) (Ye s_1 st (λx10=>Ite x10 (Z7 s_1.A9 st (λx12=>J4 (!x12))) (J4 true)))))) (J4 true))) (λx3=>Ite x3 (post false) (Jn (λ(J19:Unit->Prop)=>Loop (λ(s20:Int) Y21=>Ite (decide (s20<(st.Al.length:Int))) (∃x27,idx st.Al s20=some x27∧Jn (λ(J29:Bool->Prop)=>Gr st s20 (λx30=>Ite (decide (x30<0)) (WN s_1.A9 x27 ([1,2]:List Int) (λx32=>J29 (!x32))) (J29 false))) (λx28=>Ite x28 (post false) (Y21 (w64 (s20+1))))) (J19 ())) 0) (λx18=>Jn (λ(J41:Unit->Prop)=>Loop (λ(s42:Int) Y43=>Ite (decide (s42<(st.Ai.length:Int))) (∃x49,idx st.Ai s42=some x49∧WN s_1.A9 x49 ([4,5]:List Int) (λx52=>Ite (!x52) (post false) (Y43 (w64 (s42+1))))) (J41 ())) 0) (λx40=>Yt st (λx60=>Gl x60 (λx61=>post (!x61.2)))))))
def GH(act:Int)(post:(Int×Bool)->Prop):Prop:=
 Jn (λ(J6:Bool->Prop)=>Ite (decide ((w64 (act-1))≥0)) (J6 (decide ((w64 (act-1))<6))) (J6 false)) (λx5=>post (w64 (act-1),x5))
def Xw(n:Int)(post:Bool->Prop):Prop:=
 Jn (λ(J4:Bool->Prop)=>Ite (decide (n≥0)) (J4 (decide (n≤1000000))) (J4 false)) (λx3=>post x3)
def WS(act:Int)(laden:Bool)(post:Int->Prop):Prop:=
 Jn (λ(J8:Bool->Prop)=>Ite (act == 0) (J8 (act == 0)) (J8 (act == 8))) (λx7=>Ite x7 (post 1) (Ite (act == 7) (post 3) (Jn (λ(J27:Bool->Prop)=>Ite ((w64 (act-1)) == 0) (J27 ((w64 (act-1)) == 0)) (Jn (λ(J32:Bool->Prop)=>Ite ((w64 (act-1)) == 1) (J32 ((w64 (act-1)) == 1)) (Jn (λ(J37:Bool->Prop)=>Ite ((w64 (act-1)) == 2) (J37 ((w64 (act-1)) == 2)) (J37 ((w64 (act-1)) == 3))) (λx36=>J32 x36))) (λx31=>J27 x31))) (λx26=>Jn (λ(J42:Int->Prop)=>Ite x26 (J42 2) (Jn (λ(J49:Int->Prop)=>Ite ((w64 (act-1)) == 4) (J49 5) (Jn (λ(J56:Int->Prop)=>Ite ((w64 (act-1)) == 5) (J56 1) (J56 0)) (λx55=>J49 x55))) (λx48=>J42 x48))) (λx41=>Jn (λ(J61:Bool->Prop)=>Ite (decide (x41>0)) (J61 laden) (J61 false)) (λx60=>Jn (λ(J64:Int->Prop)=>Ite x60 (J64 (w64 (x41+2))) (J64 x41)) (λx63=>post x63)))))))
def WQ(tick:Int)(act:Int)(laden:Bool)(post:Int->Prop):Prop:=
 WS act laden (λx8=>post (w64 ((w64 ((w64 (x8*(w64 (10+(w64 ((imin (imax tick 0) 20000).tdiv 1000))))))+9)).tdiv 10)))
def WC(charge:Int)(cost:Int)(post:(Int×Int)->Prop):Prop:=
 Jn (λ(J4:Bool->Prop)=>Xw charge (λx5=>Ite x5 (J4 (decide (cost<0))) (J4 true))) (λx3=>Ite x3 (post (charge,1)) (Ite (decide (charge<cost)) (post (charge,16)) (post (w64 (charge-cost),0))))
def GL(tick:Int)(charge:Int)(act:Int)(laden:Bool)(post:(Int×Int)->Prop):Prop:=
 Jn (λ(J4:Bool->Prop)=>Xw charge (λx5=>Ite x5 (Ite (decide (act<0)) (J4 true) (J4 (decide (act≥10)))) (J4 true))) (λx3=>Ite x3 (post (charge,1)) (Ite (act == 9) (post (imin (w64 (charge+20)) 1000000,0)) (WQ tick act laden (λx18=>WC charge x18 (λx19=>post (x19.1,x19.2))))))
def YE(x_1:Qd)(c0:Q2)(c1:Int)(post:Bool->Prop):Prop:=
 Jn (λ(J4:Bool->Prop)=>Ite (x_1.A4 == c0.A4) (J4 true) (J4 (x_1.A4 == c1))) (λx3=>post x3)
def K5(s_1:List Qd)(f_c0:Q2)(f_c1:Int)(post:Int->Prop):Prop:=
 Jn (λ(J6:Unit->Prop)=>Loop (λ(s7:Int) Y8=>Ite (decide (s7<(s_1.length:Int))) (∃x16,idx s_1 s7=some x16∧YE x16 f_c0 f_c1 (λx17=>Ite x17 (post s7) (Y8 (w64 (s7+1))))) (J6 ())) 0) (λx5=>post (-1))
def QD(s_1:List Qd)(f_c0:Q2)(f_c1:Int)(post:Bool->Prop):Prop:=
 K5 s_1 f_c0 f_c1 (λx5=>post (decide (x5≥0)))
def Z0(st:Q7)(post:(List Int)->Prop):Prop:=
 Yt st (λx5=>Qz x5 (λx8=>post x8))
def Q03(s_1:Q5)(st:Q7)(r:Q2)(d:Int)(post:Int->Prop):Prop:=
 Xn s_1.A9 r.A4 d (λx5=>Jn (λ(J7:Bool->Prop)=>Ite x5.2 (Qv st.A8 x5.1 (λx9=>J7 x9)) (J7 true)) (λx6=>Ite x6 (post 14) (Jn (λ(J14:Bool->Prop)=>Ite (d == 4) (J14 true) (J14 (d == 5))) (λx13=>Jn (λ(J17:Unit->Prop)=>Ite x13 (QD st.Aq r x5.1 (λx23=>Ite x23 (post 14) (J17 ()))) (J17 ())) (λx16=>Wp s_1 x5.1 st.Ar (λx29=>Ite (!x29) (post 18) (Z0 st (λx35=>Jn (λ(J37:Bool->Prop)=>Ge x5.1 (λx38=>Qv x35 x38 (λx39=>Ite x39 (J37 true) (Ite (decide (r.Ae≥0)) (Xg x5.1 (λx42=>Qv x35 x42 (λx43=>J37 x43))) (J37 false))))) (λx36=>Ite x36 (post 15) (post 0))))))))))
def Xm(s_1:List Int)(post:(List Int)->Prop):Prop:=
 post (s_1)
def W6(st:Q7)(post:(List (Int×Int))->Prop):Prop:=
 Jn (λ(J8:(List (Int×Bool))->Prop)=>Loop (λ(s9:List (Int×Bool)×Int) Y10=>Ite (decide (s9.2<(st.Ak.length:Int))) (∃x16,idx st.Ak s9.2=some x16∧Y10 ((upd s9.1 x16.Ae true),w64 (s9.2+1))) (J8 s9.1)) ((([]:List (Int×Bool)),0):List (Int×Bool)×Int)) (λx7=>Xm st.Al (λx25=>(x25.length≤1099511627776)∧Each (λ(x26:Int×Int) (s27:List (Int×Int)) Y28=>Jn (λ(J33:(List (Int×Int))->Prop)=>Ite (!((lk x7 x26.1).getD false)) (J33 (upd s27 x26.2 x26.1)) (J33 s27)) (λx32=>Y28 x32)) (λ(s37:List (Int×Int))=>post s37) (bkw x25) (([]:List (Int×Int)):List (Int×Int))))
def YW(s_1:Q5)(st:Q7)(c:Int)(post:Int->Prop):Prop:=
 W6 st (λx5=>Ite ((lk x5 c).isSome) (post ((lk x5 c).getD 0)) (post (-1)))
def Q18(s_1:Q5)(st:Q7)(r:Q2)(post:Int->Prop):Prop:=
 Ite (decide (r.Ae≥0)) (post 7) (YW s_1 st r.A4 (λx10=>Ite (decide (x10<0)) (post 4) (post 0)))
def WP(s_1:Q5)(c:Int)(post:Bool->Prop):Prop:=
 Jn (λ(J4:Bool->Prop)=>XU s_1 c (λx5=>Ite x5 (∃x7,idx s_1.A9.Ac c=some x7∧Ite (x7 == 1) (J4 true) (J4 (x7 == 2))) (J4 false))) (λx3=>post x3)
def Y3(f:Qe)(a:Int)(b:Int)(post:Bool->Prop):Prop:=
 Ys f b (λx5=>Ite (!x5) (post false) (Jn (λ(J12:Unit->Prop)=>Loop (λ(s13:Int) Y14=>Ite (decide (s13<4)) (∃x20,idx ([0,1,2,3]:List Int) s13=some x20∧Gs f a x20 (λx23=>Ite (x23 == b) (post true) (Y14 (w64 (s13+1))))) (J12 ())) 0) (λx11=>post false)))
def GC(r:Q2)(c0:Int)(post:Bool->Prop):Prop:=
 post (r.Ae == c0)
def QK(s_1:List Q2)(f_c0:Int)(post:Int->Prop):Prop:=
 Jn (λ(J6:Unit->Prop)=>Loop (λ(s7:Int) Y8=>Ite (decide (s7<(s_1.length:Int))) (∃x16,idx s_1 s7=some x16∧GC x16 f_c0 (λx17=>Ite x17 (post s7) (Y8 (w64 (s7+1))))) (J6 ())) 0) (λx5=>post (-1))
def GG(st:Q7)(shelf:Int)(post:Int->Prop):Prop:=
 Ite (decide (shelf<0)) (post (-1)) (QK st.Ak shelf (λx10=>post x10))
def WH(s_1:Q5)(shelf:Int)(post:ByteArray->Prop):Prop:=
 Jn (λ(J4:Bool->Prop)=>Ite (decide (shelf<0)) (J4 true) (J4 (decide (shelf≥(s_1.Al.length:Int))))) (λx3=>Ite x3 (post ByteArray.empty) (∃x11,idx s_1.Al shelf=some x11∧post x11.A7))
def WD(s_1:Q5)(post:(List (Qp×Bool))->Prop):Prop:=
 Jn (λ(J8:(List (Qp×Bool))->Prop)=>Loop (λ(s9:List (Qp×Bool)×Int) Y10=>Ite (decide (s9.2<(s_1.A3.length:Int))) (∃x16,idx s_1.A3 s9.2=some x16∧Y10 ((upd (upd s9.1 x16 true) (⟨x16.B,x16.A⟩:Qp) true),w64 (s9.2+1))) (J8 s9.1)) ((([]:List (Qp×Bool)),0):List (Qp×Bool)×Int)) (λx7=>post x7)
def Yk(s_1:Q5)(a:ByteArray)(b:ByteArray)(post:Bool->Prop):Prop:=
 Jn (λ(J4:Bool->Prop)=>Ite (seq a ByteArray.empty) (J4 false) (Ite (seq b ByteArray.empty) (J4 false) (WD s_1 (λx7=>J4 ((lk x7 (⟨a,b⟩:Qp)).getD false))))) (λx3=>post x3)
def YJ(s_1:Q5)(st:Q7)(shelf:Int)(c:Int)(post:Int->Prop):Prop:=
 Jn (λ(J4:Bool->Prop)=>Ite (decide (shelf<0)) (J4 true) (J4 (decide (shelf≥(st.Al.length:Int))))) (λx3=>Ite x3 (post 4) (WP s_1 c (λx11=>Ite (!x11) (post 13) (Jn (λ(J20:Int->Prop)=>Loop (λ(s21:Int×Int) Y22=>Ite (decide (s21.2<(st.Al.length:Int))) (Jn (λ(J27:Int->Prop)=>∃x30,idx st.Al s21.2=some x30∧Jn (λ(J32:Bool->Prop)=>Ite (s21.2 == shelf) (J32 true) (Ite (x30 != c) (Y3 s_1.A9 x30 c (λx35=>Ite x35 (GG st s21.2 (λx37=>J32 (decide (x37≥0)))) (J32 true))) (GG st s21.2 (λx38=>J32 (decide (x38≥0)))))) (λx31=>Ite x31 (J27 s21.1) (Ite (x30 == c) (post 13) (WH s_1 shelf (λx47=>WH s_1 s21.2 (λx48=>Yk s_1 x47 x48 (λx49=>Jn (λ(J51:Int->Prop)=>Ite x49 (J51 17) (J51 s21.1)) (λx50=>J27 x50)))))))) (λx26=>Y22 (x26,w64 (s21.2+1)))) (J20 s21.1)) (0,0)) (λx19=>post x19)))))
def GW(s_1:Q5)(st:Q7)(robot:Int)(act:Int)(post:Int->Prop):Prop:=
 Jn (λ(J4:Bool->Prop)=>Ite (decide (robot<0)) (J4 true) (J4 (decide (robot≥(st.Ak.length:Int))))) (λx3=>Ite x3 (post 4) (Jn (λ(J10:Bool->Prop)=>Ite (decide (act<0)) (J10 true) (J10 (decide (act≥10)))) (λx9=>Ite x9 (post 1) (Ite (act == 0) (post 0) (∃x22,idx st.Ak robot=some x22∧GH act (λx25=>Jn (λ(J27:Bool->Prop)=>Ite x22.A8 (J27 true) (J27 (decide (x22.Af>0)))) (λx26=>Ite x26 (post 9) (Jn (λ(J33:Bool->Prop)=>Ite x25.2 (J33 (decide (x22.Aj>0))) (J33 false)) (λx32=>Ite x32 (post 8) (GL st.Ar x22.A6 act (decide (x22.Ae≥0)) (λx40=>Ite (x40.2 == 16) (post x40.2) (Ite x25.2 (Q03 s_1 st x22 x25.1 (λx51=>post x51)) (Ite (act == 7) (Q18 s_1 st x22 (λx57=>post x57)) (Jn (λ(J59:Bool->Prop)=>Ite (act == 8) (J59 (decide (x22.Ae<0))) (J59 false)) (λx58=>Ite x58 (post 7) (Ite (act == 8) (YJ s_1 st x22.Ae x22.A4 (λx69=>post x69)) (∃x72,idx s_1.A9.Ac x22.A4=some x72∧Ite (x72 != 3) (post 13) (post 0))))))))))))))))))
def WE(f:Qe)(st:Q7)(acts:List Int)(post:(List Int)->Prop):Prop:=
 Yt st (λx5=>Jn (λ(J9:(List Int)->Prop)=>Loop (λ(s10:List Int×Int) Y11=>Ite (decide (s10.2<(st.Ak.length:Int))) (Jn (λ(J16:(List Int)->Prop)=>∃x19,idx st.Ak s10.2=some x19∧Jn (λ(J21:Bool->Prop)=>Ite (decide (s10.2≥(acts.length:Int))) (J21 true) (Ite x19.A8 (J21 true) (∃x24,idx acts s10.2=some x24∧Ite (decide (x24<1)) (J21 true) (J21 (decide (x24≥7)))))) (λx20=>Ite x20 (J16 s10.1) (∃x29,idx acts s10.2=some x29∧Xn f x19.A4 (w64 (x29-1)) (λx30=>Jn (λ(J34:(List Int)->Prop)=>Ite x30.2 (YH x19 x30.1 (λx38=>(s10.1.length+x38.length≤1099511627776)∧J34 (s10.1++x38))) (J34 s10.1)) (λx33=>J16 x33))))) (λx15=>Y11 (x15,w64 (s10.2+1)))) (J9 s10.1)) (x5,0)) (λx8=>Qz x8 (λx44=>post x44)))
def Kn(s_1:List Q2)(post:(List Q2)->Prop):Prop:=
 ∀hb5:Bool,(hb5=true->s_1=[])->Ite (hb5 == true) (post []) ((([]:List Q2).length+s_1.length≤1099511627776)∧post (([]:List Q2)++s_1))
def Ko(s_1:List Qd)(post:(List Qd)->Prop):Prop:=
 ∀hb5:Bool,(hb5=true->s_1=[])->Ite (hb5 == true) (post []) ((([]:List Qd).length+s_1.length≤1099511627776)∧post (([]:List Qd)++s_1))
def Wm(st:Q7)(post:Q7->Prop):Prop:=
 Kb st.Al (λx5=>Kn st.Ak (λx6=>Kb st.Ai (λx7=>Kb st.A8 (λx8=>Ko st.Aq (λx9=>post (⟨st.Ar,x5,x6,x7,x8,x9⟩:Q7))))))
def Zx(s_1:Q5)(st:Q7)(robot:Int)(act:Int)(post:Q7->Prop):Prop:=
 Wm st (λx5=>Jn (λ(J7:Bool->Prop)=>Ite (decide (robot<0)) (J7 true) (Ite (decide (robot≥(x5.Ak.length:Int))) (J7 true) (∃x10,idx x5.Ak robot=some x10∧J7 x10.A8))) (λx6=>Ite x6 (post x5) (∃x16,idx x5.Ak robot=some x16∧GL st.Ar x16.A6 act (decide (x16.Ae≥0)) (λx19=>Jn (λ(J23:Int->Prop)=>Ite (x19.2 != 0) (J23 0) (J23 x19.1)) (λx22=>Jn (λ(J34:(List Q2)->Prop)=>Ite (act == 7) (YW s_1 st ((⟨x16.A4,x16.Ae,x22,x16.Aj,x16.Af,x16.A8⟩:Q2).A4) (λx38=>J34 ((x5.Ak.set (Int.toNat robot) (⟨x16.A4,x16.Ae,x22,x16.Aj,x16.Af,x16.A8⟩:Q2)).set (Int.toNat robot) (⟨(⟨x16.A4,x16.Ae,x22,x16.Aj,x16.Af,x16.A8⟩:Q2).A4,x38,(⟨x16.A4,x16.Ae,x22,x16.Aj,x16.Af,x16.A8⟩:Q2).A6,(⟨x16.A4,x16.Ae,x22,x16.Aj,x16.Af,x16.A8⟩:Q2).Aj,(⟨x16.A4,x16.Ae,x22,x16.Aj,x16.Af,x16.A8⟩:Q2).Af,(⟨x16.A4,x16.Ae,x22,x16.Aj,x16.Af,x16.A8⟩:Q2).A8⟩:Q2)))) (Jn (λ(J42:(List Q2)->Prop)=>Ite (act == 8) (J42 ((x5.Ak.set (Int.toNat robot) (⟨x16.A4,x16.Ae,x22,x16.Aj,x16.Af,x16.A8⟩:Q2)).set (Int.toNat robot) (⟨(⟨x16.A4,x16.Ae,x22,x16.Aj,x16.Af,x16.A8⟩:Q2).A4,(-1),(⟨x16.A4,x16.Ae,x22,x16.Aj,x16.Af,x16.A8⟩:Q2).A6,(⟨x16.A4,x16.Ae,x22,x16.Aj,x16.Af,x16.A8⟩:Q2).Aj,(⟨x16.A4,x16.Ae,x22,x16.Aj,x16.Af,x16.A8⟩:Q2).Af,(⟨x16.A4,x16.Ae,x22,x16.Aj,x16.Af,x16.A8⟩:Q2).A8⟩:Q2))) (J42 (x5.Ak.set (Int.toNat robot) (⟨x16.A4,x16.Ae,x22,x16.Aj,x16.Af,x16.A8⟩:Q2)))) (λx41=>J34 x41))) (λx33=>GH act (λx48=>Ite (!x48.2) (post (⟨x5.Ar,x5.Al,x33,x5.Ai,x5.A8,x5.Aq⟩:Q7)) (∃x56,idx x33 robot=some x56∧Xn s_1.A9 x56.A4 x48.1 (λx57=>Jn (λ(J61:(List Int×List Q2)->Prop)=>Ite x57.2 (Gg s_1 x57.1 (λx65=>Jn (λ(J69:(List Int)->Prop)=>Ite (decide (((⟨(⟨x57.1,x56.Ae,x56.A6,x56.Aj,x56.Af,x56.A8⟩:Q2).A4,(⟨x57.1,x56.Ae,x56.A6,x56.Aj,x56.Af,x56.A8⟩:Q2).Ae,(⟨x57.1,x56.Ae,x56.A6,x56.Aj,x56.Af,x56.A8⟩:Q2).A6,w64 (x65-1),(⟨x57.1,x56.Ae,x56.A6,x56.Aj,x56.Af,x56.A8⟩:Q2).Af,(⟨x57.1,x56.Ae,x56.A6,x56.Aj,x56.Af,x56.A8⟩:Q2).A8⟩:Q2).Ae)≥0)) (∃x73,idx x5.Al ((⟨(⟨x57.1,x56.Ae,x56.A6,x56.Aj,x56.Af,x56.A8⟩:Q2).A4,(⟨x57.1,x56.Ae,x56.A6,x56.Aj,x56.Af,x56.A8⟩:Q2).Ae,(⟨x57.1,x56.Ae,x56.A6,x56.Aj,x56.Af,x56.A8⟩:Q2).A6,w64 (x65-1),(⟨x57.1,x56.Ae,x56.A6,x56.Aj,x56.Af,x56.A8⟩:Q2).Af,(⟨x57.1,x56.Ae,x56.A6,x56.Aj,x56.Af,x56.A8⟩:Q2).A8⟩:Q2).Ae)=some x73∧J69 (x5.Al.set (Int.toNat ((⟨(⟨x57.1,x56.Ae,x56.A6,x56.Aj,x56.Af,x56.A8⟩:Q2).A4,(⟨x57.1,x56.Ae,x56.A6,x56.Aj,x56.Af,x56.A8⟩:Q2).Ae,(⟨x57.1,x56.Ae,x56.A6,x56.Aj,x56.Af,x56.A8⟩:Q2).A6,w64 (x65-1),(⟨x57.1,x56.Ae,x56.A6,x56.Aj,x56.Af,x56.A8⟩:Q2).Af,(⟨x57.1,x56.Ae,x56.A6,x56.Aj,x56.Af,x56.A8⟩:Q2).A8⟩:Q2).Ae)) x57.1)) (J69 x5.Al)) (λx68=>J61 (x68,((x33.set (Int.toNat robot) (⟨x57.1,x56.Ae,x56.A6,x56.Aj,x56.Af,x56.A8⟩:Q2)).set (Int.toNat robot) (⟨(⟨x57.1,x56.Ae,x56.A6,x56.Aj,x56.Af,x56.A8⟩:Q2).A4,(⟨x57.1,x56.Ae,x56.A6,x56.Aj,x56.Af,x56.A8⟩:Q2).Ae,(⟨x57.1,x56.Ae,x56.A6,x56.Aj,x56.Af,x56.A8⟩:Q2).A6,w64 (x65-1),(⟨x57.1,x56.Ae,x56.A6,x56.Aj,x56.Af,x56.A8⟩:Q2).Af,(⟨x57.1,x56.Ae,x56.A6,x56.Aj,x56.Af,x56.A8⟩:Q2).A8⟩:Q2)))))) (J61 (x5.Al,x33))) (λx60=>post (⟨x5.Ar,x60.1,x60.2,x5.Ai,x5.A8,x5.Aq⟩:Q7)))))))))))
def Ym(s_1:Q5)(st:Q7)(acts:List Int)(post:Int->Prop):Prop:=
 Ite (decide (st.Ar≥20000)) (post 28) (Ite ((acts.length:Int) != (st.Ak.length:Int)) (post 1) (Jn (λ(J16:Unit->Prop)=>Loop (λ(s17:Int) Y18=>Ite (decide (s17<(acts.length:Int))) (∃x24,idx acts s17=some x24∧GW s_1 st s17 x24 (λx27=>Ite (x27 != 0) (post x27) (Y18 (w64 (s17+1))))) (J16 ())) 0) (λx15=>WE s_1.A9 st acts (λx37=>Gl x37 (λx38=>Ite x38.2 (post 15) (Jn (λ(J47:Unit->Prop)=>Loop (λ(s48:Int×List Int×List Q2×List Int×List Int×List Qd×Int) Y49=>Ite (decide (s48.2.2.2.2.2.2<(acts.length:Int))) (∃x55,idx acts s48.2.2.2.2.2.2=some x55∧GW s_1 (⟨s48.1,s48.2.1,s48.2.2.1,s48.2.2.2.1,s48.2.2.2.2.1,s48.2.2.2.2.2.1⟩:Q7) s48.2.2.2.2.2.2 x55 (λx58=>Ite (x58 != 0) (post x58) (Zx s_1 (⟨s48.1,s48.2.1,s48.2.2.1,s48.2.2.2.1,s48.2.2.2.2.1,s48.2.2.2.2.2.1⟩:Q7) s48.2.2.2.2.2.2 x55 (λx66=>Y49 (x66.Ar,x66.Al,x66.Ak,x66.Ai,x66.A8,x66.Aq,w64 (s48.2.2.2.2.2.2+1)))))) (J47 ())) (st.Ar,st.Al,st.Ak,st.Ai,st.A8,st.Aq,0)) (λx46=>post 0)))))))
def Y1(st:Q7)(i:Int)(post:Bool->Prop):Prop:=
 Jn (λ(J4:Bool->Prop)=>Ite (decide (i≥0)) (Ite (decide (i<(st.Ak.length:Int))) (∃x7,idx st.Ak i=some x7∧J4 (!x7.A8)) (J4 false)) (J4 false)) (λx3=>post x3)
def Wo(f:Qe)(c:Int)(post:Int->Prop):Prop:=
 Jn (λ(J4:Bool->Prop)=>Ite (decide (c<0)) (J4 true) (J4 (decide (c≥(f.Ac.length:Int))))) (λx3=>Ite x3 (post 0) (∃x11,idx f.Ac c=some x11∧post x11))
def Yn(s_1:Q5)(st:Q7)(person:Int)(c:Int)(post:Bool->Prop):Prop:=
 Wo s_1.A9 c (λx5=>Jn (λ(J7:Bool->Prop)=>Ite (x5 != 4) (J7 (x5 != 5)) (J7 false)) (λx6=>Ite x6 (post false) (Z0 st (λx14=>Jn (λ(J16:Unit->Prop)=>Loop (λ(s17:Int) Y18=>Ite (decide (s17<(x14.length:Int))) (∃x24,idx x14 s17=some x24∧Jn (λ(J26:Bool->Prop)=>Ge c (λx27=>Ite (x24 == x27) (J26 true) (Xg c (λx29=>J26 (x24 == x29))))) (λx25=>Ite x25 (post false) (Y18 (w64 (s17+1))))) (J16 ())) 0) (λx15=>Ite (person == (st.Ai.length:Int)) (Jn (λ(J39:Bool->Prop)=>Ite (x5 == 5) (J39 (decide (person<20))) (J39 false)) (λx38=>post x38)) (Jn (λ(J42:Bool->Prop)=>Ite (decide (person≥0)) (Ite (decide (person<(st.Ai.length:Int))) (∃x45,idx st.Ai person=some x45∧Y3 s_1.A9 x45 c (λx46=>J42 x46)) (J42 false)) (J42 false)) (λx41=>post x41)))))))
def Gd(s_1:Q5)(st:Q7)(f:Kk)(post:Int->Prop):Prop:=
 Jn (λ(J6:Bool->Prop)=>Ite (decide (f.N≥1)) (J6 (decide (f.N≤20000))) (J6 false)) (λx5=>Jn (λ(J13:Bool->Prop)=>Ite (f.Ac == 0) (J13 true) (Jn (λ(J20:Bool->Prop)=>Ite (f.Ac == 1) (Y1 st f.A (λx24=>J20 x24)) (Jn (λ(J28:Bool->Prop)=>Ite (f.Ac == 2) (Jn (λ(J31:Bool->Prop)=>Wo s_1.A9 f.A (λx32=>Ite (x32 != 0) (Qv st.A8 f.A (λx34=>J31 (!x34))) (J31 false))) (λx30=>J28 x30)) (Jn (λ(J38:Bool->Prop)=>Ite (f.Ac == 3) (Jn (λ(J41:Bool->Prop)=>Y1 st f.A (λx42=>Ite x42 (J41 x5) (J41 false))) (λx40=>J38 x40)) (Jn (λ(J47:Bool->Prop)=>Ite (f.Ac == 4) (Jn (λ(J50:Bool->Prop)=>Wo s_1.A9 f.A (λx51=>Ite (x51 == 6) (J50 x5) (J50 false))) (λx49=>J47 x49)) (Jn (λ(J56:Bool->Prop)=>Ite (f.Ac == 5) (Yn s_1 st f.A f.N (λx60=>J56 x60)) (J56 false)) (λx55=>J47 x55))) (λx46=>J38 x46))) (λx37=>J28 x37))) (λx27=>J20 x27))) (λx19=>J13 x19))) (λx12=>Ite (!x12) (post 26) (post 0)))
def Wt(x_1:Qd)(c0:Int)(post:Bool->Prop):Prop:=
 post (decide (x_1.A4≥c0))
def QP(s_1:List Qd)(f_c0:Int)(post:Int->Prop):Prop:=
 Jn (λ(J6:Unit->Prop)=>Loop (λ(s7:Int) Y8=>Ite (decide (s7<(s_1.length:Int))) (∃x16,idx s_1 s7=some x16∧Wt x16 f_c0 (λx17=>Ite x17 (post s7) (Y8 (w64 (s7+1))))) (J6 ())) 0) (λx5=>post (-1))
def Kg(i:Int)(xs:List Qd)(ys:List Qd)(post:List Qd->Prop):Prop:=
 (0≤i∧i<(xs.length:Int))∧0<ys.length∧xs.length+ys.length≤1099511627776∧post (xs.take (Int.toNat i)++(ys++xs.drop (Int.toNat i)))
def GA(c:Int)(n:Int)(l:List Qd)(post:(List Qd)->Prop):Prop:=
 QP l c (λx5=>Ite (decide (x5<0)) ((l.length+([(⟨c,n⟩:Qd)]:List Qd).length≤1099511627776)∧post (l++([(⟨c,n⟩:Qd)]:List Qd))) (∃x14,idx l x5=some x14∧Ite (x14.A4 == c) (post (l.set (Int.toNat x5) (⟨x14.A4,imax x14.Ad n⟩:Qd))) (Kg x5 l ([(⟨c,n⟩:Qd)]:List Qd) (λx22=>post x22))))
def WM(s_1:Q5)(st:Q7)(f:Kk)(post:Q7->Prop):Prop:=
 Wm st (λx5=>Gd s_1 st f (λx8=>Ite (x8 != 0) (post x5) (Jn (λ(J17:(List Q2×List Int×List Int×List Qd)->Prop)=>Ite (f.Ac == 1) (∃x21,idx x5.Ak f.A=some x21∧J17 ((x5.Ak.set (Int.toNat f.A) (⟨x21.A4,x21.Ae,x21.A6,x21.Aj,x21.Af,true⟩:Q2)),x5.Ai,x5.A8,x5.Aq)) (Jn (λ(J25:(List Q2×List Int×List Int×List Qd)->Prop)=>Ite (f.Ac == 2) ((x5.A8.length+([f.A]:List Int).length≤1099511627776)∧Qz (x5.A8++([f.A]:List Int)) (λx32=>J25 (x5.Ak,x5.Ai,x32,x5.Aq))) (Jn (λ(J36:(List Q2×List Int×List Qd)->Prop)=>Ite (f.Ac == 3) (∃x40,idx x5.Ak f.A=some x40∧J36 ((x5.Ak.set (Int.toNat f.A) (⟨x40.A4,x40.Ae,x40.A6,x40.Aj,f.N,x40.A8⟩:Q2)),x5.Ai,x5.Aq)) (Jn (λ(J44:(List Int×List Qd)->Prop)=>Ite (f.Ac == 4) (GA f.A f.N x5.Aq (λx48=>J44 (x5.Ai,x48))) (Jn (λ(J52:(List Int)->Prop)=>Ite (f.Ac == 5) (Jn (λ(J57:(List Int)->Prop)=>Ite (f.A == (x5.Ai.length:Int)) ((x5.Ai.length+([f.N]:List Int).length≤1099511627776)∧J57 (x5.Ai++([f.N]:List Int))) (J57 x5.Ai)) (λx56=>∃x64,idx x56 f.A=some x64∧J52 (x56.set (Int.toNat f.A) f.N))) (J52 x5.Ai)) (λx51=>J44 (x51,x5.Aq)))) (λx43=>J36 (x5.Ak,x43.1,x43.2)))) (λx35=>J25 (x35.1,x35.2.1,x5.A8,x35.2.2)))) (λx24=>J17 (x24.1,x24.2.1,x24.2.2.1,x24.2.2.2)))) (λx16=>post (⟨x5.Ar,x5.Al,x16.1,x16.2.1,x16.2.2.1,x16.2.2.2⟩:Q7)))))
def XT(x_1:Qd)(post:Bool->Prop):Prop:=
 post (decide (x_1.Ad≤0))
def QU(s_1:List Qd)(post:Int->Prop):Prop:=
 Jn (λ(J6:Unit->Prop)=>Loop (λ(s7:Int) Y8=>Ite (decide (s7<(s_1.length:Int))) (∃x16,idx s_1 s7=some x16∧XT x16 (λx17=>Ite x17 (post s7) (Y8 (w64 (s7+1))))) (J6 ())) 0) (λx5=>post (-1))
def QH(s_1:List Qd)(post:(List Qd)->Prop):Prop:=
 QU s_1 (λx5=>Ite (x5 == (-1)) (post s_1) (Jn (λ(J14:(List Qd×Int)->Prop)=>Loop (λ(s15:List Qd×Int×Int) Y16=>Ite (decide (s15.2.2<(s15.1.length:Int))) (∃x22,idx s15.1 s15.2.2=some x22∧XT x22 (λx25=>Jn (λ(J27:(List Qd×Int)->Prop)=>Ite (!x25) (∃x31,idx s15.1 s15.2.1=some x31∧J27 ((s15.1.set (Int.toNat s15.2.1) x22),w64 (s15.2.1+1))) (J27 (s15.1,s15.2.1))) (λx26=>Y16 (x26.1,x26.2,w64 (s15.2.2+1))))) (J14 (s15.1,s15.2.1))) (s_1,x5,w64 (x5+1))) (λx13=>(0≤x13.2∧x13.2≤(x13.1.length:Int)∧(x13.1.length:Int)≤(x13.1.length:Int))∧((Int.toNat x13.2)+(Int.toNat ((x13.1.length:Int)-x13.2))≤x13.1.length)∧(0≤(0:Int)∧(0:Int)≤x13.2∧x13.2≤((x13.1.take (Int.toNat x13.2)++(List.replicate (Int.toNat ((x13.1.length:Int)-x13.2)) (⟨0,0⟩:Qd)++x13.1.drop ((Int.toNat x13.2)+(Int.toNat ((x13.1.length:Int)-x13.2))))).length:Int))∧post (sub (x13.1.take (Int.toNat x13.2)++(List.replicate (Int.toNat ((x13.1.length:Int)-x13.2)) (⟨0,0⟩:Qd)++x13.1.drop ((Int.toNat x13.2)+(Int.toNat ((x13.1.length:Int)-x13.2))))) 0 x13.2))))
def W8(before:Q7)(st:Q7)(post:Q7->Prop):Prop:=
 Jn (λ(J8:(List Q2)->Prop)=>Loop (λ(s9:List Q2×Int) Y10=>Ite (decide (s9.2<(st.Ak.length:Int))) (Jn (λ(J15:(List Q2)->Prop)=>∃x20,idx s9.1 s9.2=some x20∧∃x25,idx before.Ak s9.2=some x25∧Ite (((⟨x20.A4,x20.Ae,x20.A6,x20.Aj,imax (w64 (x20.Af-1)) 0,x20.A8⟩:Q2).A4) != x25.A4) (J15 (s9.1.set (Int.toNat s9.2) (⟨x20.A4,x20.Ae,x20.A6,x20.Aj,imax (w64 (x20.Af-1)) 0,x20.A8⟩:Q2))) (J15 ((s9.1.set (Int.toNat s9.2) (⟨x20.A4,x20.Ae,x20.A6,x20.Aj,imax (w64 (x20.Af-1)) 0,x20.A8⟩:Q2)).set (Int.toNat s9.2) (⟨(⟨x20.A4,x20.Ae,x20.A6,x20.Aj,imax (w64 (x20.Af-1)) 0,x20.A8⟩:Q2).A4,(⟨x20.A4,x20.Ae,x20.A6,x20.Aj,imax (w64 (x20.Af-1)) 0,x20.A8⟩:Q2).Ae,(⟨x20.A4,x20.Ae,x20.A6,x20.Aj,imax (w64 (x20.Af-1)) 0,x20.A8⟩:Q2).A6,imax (w64 (((⟨x20.A4,x20.Ae,x20.A6,x20.Aj,imax (w64 (x20.Af-1)) 0,x20.A8⟩:Q2).Aj)-1)) 0,(⟨x20.A4,x20.Ae,x20.A6,x20.Aj,imax (w64 (x20.Af-1)) 0,x20.A8⟩:Q2).Af,(⟨x20.A4,x20.Ae,x20.A6,x20.Aj,imax (w64 (x20.Af-1)) 0,x20.A8⟩:Q2).A8⟩:Q2)))) (λx14=>Y10 (x14,w64 (s9.2+1)))) (J8 s9.1)) (st.Ak,0)) (λx7=>Jn (λ(J34:(List Qd)->Prop)=>Loop (λ(s35:List Qd×Int) Y36=>Ite (decide (s35.2<(st.Aq.length:Int))) (∃x44,idx s35.1 s35.2=some x44∧Y36 ((s35.1.set (Int.toNat s35.2) (⟨x44.A4,w64 (x44.Ad-1)⟩:Qd)),w64 (s35.2+1))) (J34 s35.1)) (st.Aq,0)) (λx33=>QH x33 (λx49=>post (⟨w64 (st.Ar+1),st.Al,x7,st.Ai,st.A8,x49⟩:Q7))))
def YD(s_1:Q5)(st:Q7)(acts:List Int)(f:Kk)(post:(Q7×Int)->Prop):Prop:=
 Ym s_1 st acts (λx5=>Ite (x5 != 0) (post ((⟨0,[],[],[],[],[]⟩:Q7),x5)) (Gd s_1 st f (λx13=>Ite (x13 != 0) (post ((⟨0,[],[],[],[],[]⟩:Q7),x13)) (WM s_1 st f (λx21=>Jn (λ(J25:(Int×List Int×List Q2×List Int×List Int×List Qd)->Prop)=>Loop (λ(s26:Int×List Int×List Q2×List Int×List Int×List Qd×Int) Y27=>Ite (decide (s26.2.2.2.2.2.2<(acts.length:Int))) (∃x33,idx acts s26.2.2.2.2.2.2=some x33∧GW s_1 (⟨s26.1,s26.2.1,s26.2.2.1,s26.2.2.2.1,s26.2.2.2.2.1,s26.2.2.2.2.2.1⟩:Q7) s26.2.2.2.2.2.2 x33 (λx36=>Jn (λ(J38:Int->Prop)=>Ite (x36 != 0) (J38 0) (J38 x33)) (λx37=>Zx s_1 (⟨s26.1,s26.2.1,s26.2.2.1,s26.2.2.2.1,s26.2.2.2.2.1,s26.2.2.2.2.2.1⟩:Q7) s26.2.2.2.2.2.2 x37 (λx44=>Y27 (x44.Ar,x44.Al,x44.Ak,x44.Ai,x44.A8,x44.Aq,w64 (s26.2.2.2.2.2.2+1)))))) (J25 (s26.1,s26.2.1,s26.2.2.1,s26.2.2.2.1,s26.2.2.2.2.1,s26.2.2.2.2.2.1))) (x21.Ar,x21.Al,x21.Ak,x21.Ai,x21.A8,x21.Aq,0)) (λx24=>Wm (⟨x24.1,x24.2.1,x24.2.2.1,x24.2.2.2.1,x24.2.2.2.2.1,x24.2.2.2.2.2⟩:Q7) (λx49=>W8 st x49 (λx50=>post (x50,0)))))))))
def KG(s_1:Q5)(trips:List Qu)(tick:Int)(plan:List (List Int))(post:Bool->Prop):Prop:=
 Jn (λ(J16:(List QV×List Q2)->Prop)=>Loop (λ(s17:List QV×List Q2×Int) Y18=>Ite (decide (s17.2.2<(trips.length:Int))) (∃x24,idx trips s17.2.2=some x24∧(s17.1.length+([(⟨x24.Aa,1000000⟩:QV)]:List QV).length≤1099511627776)∧(s17.2.1.length+([(⟨x24.Aa,(-1),1000000,0,0,false⟩:Q2)]:List Q2).length≤1099511627776)∧Y18 ((s17.1++([(⟨x24.Aa,1000000⟩:QV)]:List QV)),(s17.2.1++([(⟨x24.Aa,(-1),1000000,0,0,false⟩:Q2)]:List Q2)),w64 (s17.2.2+1))) (J16 (s17.1,s17.2.1))) (([],[],0):List QV×List Q2×Int)) (λx15=>Jn (λ(J32:Bool->Prop)=>Ite ((plan.length:Int) != (trips.length:Int)) (J32 true) (XS (⟨s_1.A9,s_1.Au,s_1.A3,[],x15.1⟩:Q5) (λx34=>Ite x34 (YI (⟨s_1.A9,s_1.Au,s_1.A3,[],x15.1⟩:Q5) (⟨tick,[],x15.2,[],[],[]⟩:Q7) (λx36=>J32 (!x36))) (J32 true)))) (λx31=>Ite x31 (post false) (Jn (λ(J43:Int->Prop)=>Loop (λ(s44:Int×Int) Y45=>Ite (decide (s44.2<(plan.length:Int))) (∃x51,idx plan s44.2=some x51∧Y45 (imax s44.1 (x51.length:Int),w64 (s44.2+1))) (J43 s44.1)) (0,0)) (λx42=>Jn (λ(J57:(Int×List Int×List Q2×List Int×List Int×List Qd)->Prop)=>Loop (λ(s58:Int×List Int×List Q2×List Int×List Int×List Qd×Int) Y59=>Ite (decide (s58.2.2.2.2.2.2<x42)) (Jn (λ(J64:(Int×List Int×List Q2×List Int×List Int×List Qd)->Prop)=>(0≤(plan.length:Int)∧(plan.length:Int)≤1099511627776)∧Jn (λ(J71:(List Int)->Prop)=>Loop (λ(s72:List Int×Int) Y73=>Ite (decide (s72.2<(plan.length:Int))) (∃x79,idx plan s72.2=some x79∧Jn (λ(J81:(List Int)->Prop)=>Ite (decide (s58.2.2.2.2.2.2<(x79.length:Int))) (∃x85,idx x79 s58.2.2.2.2.2.2=some x85∧∃x86,idx s72.1 s72.2=some x86∧J81 (s72.1.set (Int.toNat s72.2) x85)) (J81 s72.1)) (λx80=>Y73 (x80,w64 (s72.2+1)))) (J71 s72.1)) ((List.replicate (Int.toNat (plan.length:Int)) (0:Int)),0)) (λx70=>YD (⟨s_1.A9,s_1.Au,s_1.A3,[],x15.1⟩:Q5) (⟨s58.1,s58.2.1,s58.2.2.1,s58.2.2.2.1,s58.2.2.2.2.1,s58.2.2.2.2.2.1⟩:Q7) x70 (⟨0,0,0⟩:Kk) (λx91=>Jn (λ(J93:Bool->Prop)=>Ite (x91.2 != 0) (J93 true) (J93 ((x91.1.Ak.length:Int) != (trips.length:Int)))) (λx92=>Ite x92 (post false) (J64 (x91.1.Ar,x91.1.Al,x91.1.Ak,x91.1.Ai,x91.1.A8,x91.1.Aq)))))) (λx63=>Y59 (x63.1,x63.2.1,x63.2.2.1,x63.2.2.2.1,x63.2.2.2.2.1,x63.2.2.2.2.2,w64 (s58.2.2.2.2.2.2+1)))) (J57 (s58.1,s58.2.1,s58.2.2.1,s58.2.2.2.1,s58.2.2.2.2.1,s58.2.2.2.2.2.1))) ((tick,[],x15.2,[],[],[],0):Int×List Int×List Q2×List Int×List Int×List Qd×Int)) (λx56=>Jn (λ(J105:Unit->Prop)=>Loop (λ(s106:Int) Y107=>Ite (decide (s106<(trips.length:Int))) (∃x113,idx x56.2.2.1 s106=some x113∧∃x114,idx trips s106=some x114∧Ite (x113.A4 != x114.To) (post false) (Y107 (w64 (s106+1)))) (J105 ())) 0) (λx104=>post true))))))
def X9(s_1:Q5)(trips:List Qu)(tick:Int)(avoid:List Int)(most:Int)(plan:List (List Int))(post:Bool->Prop):Prop:=
 Xf (λx5=>Jn (λ(J7:Bool->Prop)=>Gk s_1 avoid 16 (λx8=>Ite x8 (Ite (decide ((trips.length:Int)>3)) (J7 true) (Ite (decide (most>15)) (J7 true) (Ite (decide (tick>10000)) (J7 true) (Gz plan (λx13=>J7 (!x13)))))) (J7 true))) (λx6=>Ite x6 (post x5) (Za s_1 trips tick avoid 30 plan (λx19=>Jn (λ(J21:Bool->Prop)=>Ite (x19.2 == 0) (KG s_1 trips tick plan (λx23=>J21 (!x23))) (J21 false)) (λx20=>Ite x20 (post false) (Xv s_1 trips tick avoid most (λx29=>Jn (λ(J31:Bool->Prop)=>Ite x5 (Ite (x29.2 != 0) (J31 true) (KG s_1 trips tick x29.1 (λx34=>J31 x34))) (J31 false)) (λx30=>post x30))))))))
end Go.Taq
namespace Go.Taq
open Go Go.Shelf Go.RowKit Go.Lib Go.Sort Go.Proofs
def vof:AVal->Value
 | .v x=>x
 | _=>undef
def isV:AVal->Bool
 | .v x=>x.oneCell'
 | _=>false
theorem Qct{A:AVal}(h:isV A=true):A=.v (vof A)∧(vof A).oneCell'=true:=by
 cases A <;> first | exact⟨rfl,h⟩ | cases h
def encV{α:Type}(enc:α->List AVal)(x:α):List Value:=(enc x).map vof
theorem Dn.fn_inv'{w0:World}{ok:Nat->Prop}{β:List Value}{f:Fn}{fs cs:List AVal}{y:Value}(h:Dn w0 ok β (.fn f fs cs) y):∃us vs:Array Value,y=.func f us vs∧fs.length=us.size∧cs.length=vs.size∧∀(j:Nat) (A:AVal),cs[j]?=some A->Dn w0 ok β A (vs.getD j undef):=by
 cases h with
 | ro h=>cases h
 | fn f fs cs us vs hl h hl' h'=>exact⟨us,vs,rfl,hl,hl',h'⟩
theorem SWOc.swo{α:Type}{cf:α->α->Int}(h:SWOc cf):SWO (ltOf cf) where
 irrefl x:=by simpa [ltOf] using h.1 x
 trans x y z h1 h2:=by simp [ltOf] at *;exact h.2.1 x y z h1 h2
 ntrans x y z h1 h2:=by simp [ltOf] at *;have:=h.2.2 x y z (by omega) (by omega);omega
theorem Kp.grown{W w':World}(h:Kp W (λ_=>False) w'):∃q os',w'=grow (W.drewN q) os':=by
 refine⟨w'.drawn-W.drawn,w'.heap.extract W.heap.size w'.heap.size,?_⟩;have hd:W.drawn≤w'.drawn:=h.drawn;have hh:w'.heap=W.heap++w'.heap.extract W.heap.size w'.heap.size:=by
  apply Array.ext_getElem?;intro i;rcases gH i W.heap.size with h1 | h1
  ·rw [Array.getElem?_append_left h1];exact h.block i h1 (λe=>e)
  ·rw [Array.getElem?_append_right h1,Array.getElem?_extract];have hs:=h.size;by_cases h2:i<w'.heap.size
   ·rw [gF (by omega)];congr 1;omega
   ·rw [Array.getElem?_eq_none (by omega),gC (by omega)]
 have e1:=h.os;have e2:=h.tape;have e3:=h.output;cases w' with
 | mk hp tp dr os out=>
  simp only at hh hd e1 e2 e3;unfold grow World.drewN;simp only [World.mk.injEq];exact⟨hh,e2,by omega,e1,e3⟩
section
variable {P:Program} {ρ:Ren} {α:Type} [Inhabited α] {k:Nat} {enc:α->List AVal}
theorem Tr.sortFuncC{caps:List AVal}(hcr:∀A,A∈caps->A.isRo=true)(L:SlLaysF0.n6 P ρ)(aE:∀w,(isAgg (ρ.t 24)).run P w=.ok true w)(zE:∀w,(Go.sizeOf (ρ.t 24)).run P w=.ok k w)(hlen:∀x,(enc x).length=k)(hv:∀x,(enc x).all isV=true){g:Nat}(eg:Zb P g){cf:α->α->Int}(hO:SWOc cf)
  (hcmp:∀x y,Tr P g ([.agg (enc x),.agg (enc y)]++caps) [] 0 (λA H' k=>∃r,r=cf x y∧A=(.v (.int .i64 r))∧H'=[]∧k=0)) (xs:List α) (hsz:xs.length≤1099511627776) {post:List α->Prop} (hpost:∀ys,ys.Perm xs->ys.Pairwise (λx y=>¬cf y x<0)->post ys):
  Tr P (ρ.f 6) [.o 0,.fn (.func g) [] caps] [(0,.val (.os k enc xs))] 1 (λA H' k'=>∃ys,post ys∧A=(.tup [])∧H'=[(0,.val (.os k enc ys))]∧k'=1):=by
 intro w ok F β vs hβ hok hF hH hd;have hvA:∀x A,A∈enc x->A=.v (vof A)∧(vof A).oneCell'=true:=λx A hA=>Qct (gT.1 (hv x) A hA)
 have hkl:∀x,(encV enc x).length=k:=λx=>by simp [encV,hlen]
 have hone:∀x,∀v∈encV enc x,v.oneCell'=true:=λx v hvx=>by
  simp only [encV,List.mem_map] at hvx;obtain⟨A,hA,rfl⟩:=hvx;exact (hvA x A hA).2
 obtain⟨F1,F2,hF1,hF2,_,⟨v0,hv0,hon⟩,_⟩:=hH;obtain⟨cb,hvs,hcs0,hcd⟩:∃cb:Array Value,vs=#[v0,.func (.func g) #[] cb]∧caps.length=cb.size∧∀(j:Nat) (A:AVal),caps[j]?=some A->Dn w ok β A (cb.getD j undef):=by
  have h0:=(hd.2 0 _ rfl).o_inv;rw [hv0] at h0;obtain⟨us,ws,h1,h2,h3,h4⟩:=(hd.2 1 _ rfl).fn_inv';have hs:=hd.1;have hus:us=#[]:=Array.eq_empty_of_size_eq_zero (by simpa using h2.symm);subst hus;refine⟨ws,?_,h3,h4⟩;apply Array.ext
  ·simpa using hs.symm
  ·intro i hi1 hi2;have hi:i=0∨i=1:=by simp at hi2;omega
   rcases hi with rfl | rfl
   ·have:=Option.some.inj h0;simp [gA,Array.getElem?_eq_getElem hi1] at this;simp [this]
   ·simp [gA,Array.getElem?_eq_getElem hi1] at h1;simp [h1]
 subst hvs;generalize hA2:AVal.os k enc xs=A2 at hon;cases hon with
 | ro F h=>subst hA2;cases h
 | arr=>cases hA2
 | om=>cases hA2
 | osNil n2 enc2 F p=>
  cases hA2;refine (AnyF.slices_SortFunc_none L p 0 _ w).mono λe w' ⟨he,hw⟩=>?_
  subst hw;exact⟨_,.tup [],[(0,.val (.os k enc []))],β,F,ok,he,⟨[],hpost [] (.refl _) .nil,rfl,rfl,hβ⟩,λ_ _ h=>h,λl x b hl hx _=>(by rw [gN (by omega)] at hx;cases hx),.refl _ _,λ_ h=>h,λb hb=>⟨.inl hb,(hok b hb).1⟩,λb hb=>⟨.inl hb,hF b hb,λho=>(hok b ho).2 hb⟩,
   ⟨F,λ_=>False,λ_ h=>h,λ_ h=>h.elim,λ_ _ h=>h,⟨_,hv0,.osNil _ _ _ p⟩,trivial⟩,.tup [] #[] rfl (by simp)⟩
 | os n2 enc2 xs2 b off cap c T F' G hb hw hlen2 hcap hn hG hdj hr=>
  cases hA2;have hbF:F b:=hF1 b hb;have hblk:=hF b hbF;have hcell:∀(i j:Nat) (x:α) (A:AVal),xs[i]?=some x->(enc x)[j]?=some A->c.getD (off+i*k+j) undef=vof A:=λi j x A hx hA=>by
   have h1:=hr i j x A hx hA;have h2:=hvA x A (gM hA);rw [h2.1] at h1;have h3:=h1.ro_of rfl;generalize c.getD (off+i*k+j) undef=y at h3;rw [<-h2.1] at h3;rw [h2.1] at h3;cases h3;rfl
  have hmul:∀i,i<xs.length->i*k+k≤xs.length*k:=λi hi=>by
   have:=gB k (show i+1≤xs.length from hi);rwa [Nat.add_mul,Nat.one_mul] at this
  have hcapk:xs.length*k≤cap*k:=gB _ hlen2;have hH:HoldsK (encV enc) k w b off xs.toArray:=by
   intro t ht;simp only [size_flatK,List.size_toArray] at ht;rw [get_flatK _ _ _ _ (by simpa using ht)];have hk0:0<k:=by rcases Nat.eq_zero_or_pos k with h | h;· subst h;simp at ht
                                                                                                                         ·exact h
   have hi:t / k<xs.length:=Nat.div_lt_of_lt_mul (by rw [Nat.mul_comm];exact ht);have hj:=Nat.mod_lt t hk0;have hx:xs[t / k]?=some (xs[t / k]'hi):=gE hi;generalize hxe:xs[t / k]'hi=x at hx;have hA:(enc x)[t % k]?=some ((enc x)[t % k]'(by rw [hlen];exact hj)):=gE _;generalize (enc x)[t % k]'(by rw [hlen];exact hj)=A at hA;have e1:off+t / k*k+t % k=off+t:=by have:=Nat.div_add_mod t k;rw [Nat.mul_comm] at this;omega
   have h1:=hcell _ _ x A hx hA;rw [e1] at h1;have h2:(xs.toArray)[t / k]! = x:=by simp [hi,hxe]
   have h3:(encV enc x)[t % k]! = vof A:=by
    simp only [encV,List.getElem!_eq_getElem?_getD,gK,hA];rfl
   rw [h2,h3];constructor
   ·have hlt:off+t<c.size:=by omega
    simp only [World.cell?,hw];rw [<-h1];simp [gA,hlt]
   ·simp [World.frozen?,hw]
  have hsame:∀(m:Nat) (os:Array Obj) (dk:Array α) q,q<w.heap.size->q≠b->(sortWorldK (encV enc) k w b off m dk os).heap[q]?=w.heap[q]?:=λm os dk q h1 h2=>by
   simp only [sortWorldK,putRowK,putRow,grow,mapBlock];rw [Array.getElem?_append_left (by simpa using h1),Array.getElem?_modify];rw [gC (λe=>h2 e.symm)];rfl
  have hsz0:∀(m:Nat) (os:Array Obj) (dk:Array α),w.heap.size≤(sortWorldK (encV enc) k w b off m dk os).heap.size:=λm os dk=>by simp [sortWorldK,putRowK,putRow,grow,mapBlock,ahead]
  have hokb:∀q,ok q->q<w.heap.size∧q≠b:=λq hq=>⟨(hok q hq).1,λe=>(hok q hq).2 (e▸hbF)⟩
  have hcl:CmpLays P g cb (encV enc) k cf b off xs.toArray.size w:=by
   intro m os dk hs x y;have h1:=hcmp x y (sortWorldK (encV enc) k w b off m dk os) ok (λ_=>False) [] (#[.agg (encV enc x).toArray,.agg (encV enc y).toArray]++cb) rfl (λq hq=>⟨gG (hokb q hq).1 (hsz0 m os dk),id⟩) (λ_ h=>h.elim) trivial ?_
   ·refine h1.mono λe w' ⟨v,A,H',β',F2,ok',e1,⟨r,hrr,hA,_,_⟩,_,_,hk,_,_,_,_,hvv⟩=>?_
    subst hA;subst hrr;have:=hvv.v_inv;subst this;exact⟨e1,hk.grown⟩
   ·have dn:∀x,Dn (sortWorldK (encV enc) k w b off m dk os) ok [] (.agg (enc x)) (.agg (encV enc x).toArray):=λx=>by
     refine .agg _ _ (by simp [encV]) λj A hA=>?_
     have h2:=hvA x A (gM hA);have h3:(encV enc x).toArray.getD j undef=vof A:=by simp [encV,gA,hA]
     rw [h3,h2.1];exact .ro (.v _)
    refine⟨by simp [hcs0];omega,λj A hA=>?_⟩
    match j,hA with
    | 0,hA=>simp at hA;subst hA;simpa [gA,Array.getElem?_append] using dn x
    | 1,hA=>simp at hA;subst hA;simpa [gA,Array.getElem?_append] using dn y
    | j+2,hA=>
     have hA:caps[j]?=some A:=by simpa using hA
     have h3:=(hcd j A hA).ro_of (hcr A (gM hA));have h4:(#[Value.agg (encV enc x).toArray,Value.agg (encV enc y).toArray]++cb).getD (j+2) undef=cb.getD j undef:=by
      rw [gA,gA,Array.getElem?_append_right (by simp)];simp
     rw [h4];exact .ro (h3.later λq hq hlt=>hsame m os dk q hlt (hokb q hq).2)
  have hsz':xs.toArray.size<4611686018427387904:=by simp;omega
  have hcon:=AnyQ.slices_SortFunc L k aE zE (encV enc) hkl hone cf hO.swo g cb b off cap xs.toArray w eg hcl hH hblk hsz';simp only [List.size_toArray] at hcon;refine hcon.mono λe w' ⟨he,d',n,os,hp,hs,hw'⟩=>?_
  have hd's:d'.size=xs.length:=by simpa using hp.1
  have hperm:d'.toList.Perm xs:=by
   have:=hp.2.2;simp only [Nat.sub_zero,Array.toList_extract,List.extract_eq_take_drop,List.drop_zero] at this;rw [List.take_of_length_le (by simp [hd's]),List.take_of_length_le (by simp)] at this;exact this
  have hsort:d'.toList.Pairwise (λx y=>¬cf y x<0):=by
   rw [List.pairwise_iff_getElem];intro i j hi hj hij;have:=hs i j (Nat.zero_le _) hij (by simpa [hd's] using hj);simp only [Array.length_toList] at hi hj;rw [getElem!_pos d' j hj,getElem!_pos d' i hi] at this;simpa [ltOf] using this
  have hheap:∀b',b'<w.heap.size->w'.heap[b']?=if b=b' then some (.cells (putCells id off (flatK (encV enc) k d') c) T (0,0)) else w.heap[b']?:=λb' hb'=>by
   rw [hw'];simp only [sortWorldK,putRowK,putRow,grow,mapBlock];rw [Array.getElem?_append_left (by simpa using hb'),Array.getElem?_modify];by_cases e:b=b'
   ·subst e;rw [gF rfl,gF rfl];show Option.map _ (w.heap[b]?)=_;rw [hw];rfl
   ·rw [gC e,gC e];rfl
  have hsize:w.heap.size≤w'.heap.size:=by rw [hw'];simp [sortWorldK,putRowK,putRow,grow,mapBlock,ahead]
  have hKp:Kp w F w':=by
   refine⟨by rw [hw'];rfl,by rw [hw'];rfl,by rw [hw'];rfl,hsize,λb' hb' hn=>?_,by rw [hw'];exact .of_le (by simp [sortWorldK,putRowK,putRow,grow,mapBlock,ahead])⟩;rw [hheap b' hb',gC (λe=>by subst e;exact hn hbF)]
  have hcs:(putCells id off (flatK (encV enc) k d') c).size=c.size:=by simp [putCells]
  have hOn:On w' ok w' (.os k enc d'.toList) (.slice (some ⟨b,off,none⟩) xs.length cap) F:=by
   have:=On.flat (w0:=w') (ok:=ok) (w:=w') (enc:=enc) (n:=k) (xs:=d'.toList) (b:=b) (off:=off) (cap:=cap) (c:=putCells id off (flatK (encV enc) k d') c) (T:=T) (F:=F) hbF (by rw [hheap b hblk,gF rfl]) (by simpa [hd's] using hlen2) (by rw [hcs];exact hcap) (λi x _=>hlen x) (λi j x A hx hA=>?_)
   ·simpa [hd's] using this
   ·have hi:i<xs.length:=by have:=(gS.1 hx).1;simpa [hd's] using this
    have hj:j<k:=by rw [<-hlen x];exact (gS.1 hA).1
    have hlt:i*k+j<xs.length*k:=by have:=hmul i hi;omega
    have hlt2:off+i*k+j<c.size:=by omega
    have e0:(i*k+j) / k=i:=(blk_iff k i _ (by omega)).1 ⟨by omega,by omega⟩;have e1:(i*k+j) % k=j:=by rw [Nat.mod_eq_sub_div_mul,e0];omega
    have e2:d'[i]! = x:=by
     have:d'.toList[i]?=some x:=hx;rw [Array.getElem?_toList] at this;rw [getElem!_pos d' i (by omega)];rw [Array.getElem?_eq_getElem (by omega)] at this;exact Option.some.inj this
    have e3:(encV enc x)[j]! = vof A:=by simp only [encV,List.getElem!_eq_getElem?_getD,gK,hA];rfl
    have e4:(putCells id off (flatK (encV enc) k d') c).getD (off+i*k+j) undef=vof A:=by
     rw [gA,Array.getElem?_eq_getElem (by rw [hcs];exact hlt2)];simp only [putCells,Array.getElem_mapIdx,Option.getD_some,size_flatK,id];rw [gF (by rw [hd's];omega)];have e5:off+i*k+j-off=i*k+j:=by omega
     rw [e5,get_flatK _ _ _ _ (by rw [hd's];exact hlt),e0,e1,e2,e3]
    rw [e4];have h2:=hvA x A (gM hA);rw [h2.1];exact .v _
  exact⟨_,.tup [],[(0,.val (.os k enc d'.toList))],β,F,ok,he,⟨d'.toList,hpost _ hperm hsort,rfl,rfl,hβ⟩,λ_ _ h=>h,λl x b hl hx _=>(by rw [gN (by omega)] at hx;cases hx),hKp,λ_ h=>h,λb hb=>⟨.inl hb,gG (hok b hb).1 hsize⟩,λb hb=>⟨.inl hb,gG (hF b hb) hsize,λho=>(hok b ho).2 hb⟩,
   ⟨F,λ_=>False,λ_ h=>h,λ_ h=>h.elim,λ_ _ h=>h,⟨_,hv0,hOn⟩,trivial⟩,.tup [] #[] rfl (by simp)⟩
end
theorem On.osMap{w0 w:World}{ok:Nat->Prop}{α β:Type}{enc:α->List AVal}(f:β->α){n:Nat}{xs:List β}{v:Value}{F:Nat->Prop}(h:On w0 ok w (.os n (λx=>enc (f x)) xs) v F):On w0 ok w (.os n enc (xs.map f)) v F:=by
 generalize hA:AVal.os n (λx=>enc (f x)) xs=A at h;cases h with
 | ro F h=>subst hA;cases h
 | arr=>cases hA
 | om=>cases hA
 | osNil n2 enc2 F p=>cases hA;exact .osNil _ _ _ _
 | os n2 enc2 xs2 b off cap c T F G hb hw hlen hcap hn hG hd hr=>
  cases hA;have:=On.os (w0:=w0) (ok:=ok) (w:=w) n enc (xs.map f) b off cap c T F G hb hw (by simpa using hlen) hcap (λi x hx=>?_) hG hd (λi j x A hx hA=>?_)
  ·simpa using this
  ·rw [gK] at hx;obtain⟨y,hy,rfl⟩:=Option.map_eq_some_iff.1 hx;exact hn i y hy
  ·rw [gK] at hx;obtain⟨y,hy,rfl⟩:=Option.map_eq_some_iff.1 hx;exact hr i j y A hy hA
theorem On.osMap'{w0 w:World}{ok:Nat->Prop}{α β:Type}{enc:α->List AVal}(f:β->α){n:Nat}{xs:List β}{v:Value}{F:Nat->Prop}(h:On w0 ok w (.os n enc (xs.map f)) v F):On w0 ok w (.os n (λx=>enc (f x)) xs) v F:=by
 generalize hA:AVal.os n enc (xs.map f)=A at h;cases h with
 | ro F h=>subst hA;cases h
 | arr=>cases hA
 | om=>cases hA
 | osNil n2 enc2 F p=>
  injection hA with h1 h2 h3 h4
  subst h1;subst h2;have h5:=eq_of_heq h4;have:xs=[]:=by simpa using h5
  subst this;exact .osNil _ _ _ _
 | os n2 enc2 xs2 b off cap c T F G hb hw hlen hcap hn hG hd hr=>
  cases hA;have:=On.os (w0:=w0) (ok:=ok) (w:=w) n (λx=>enc (f x)) xs b off cap c T F G hb hw (by simpa using hlen) hcap (λi x hx=>hn i (f x) (by simp [hx])) hG hd (λi j x A hx hA=>hr i j (f x) A (by simp [hx]) hA);simpa using this
theorem Q4X{α:Type}{p:α->Prop}:∀(xs:List α) (h:∀x,x∈xs->p x),∃ys:List (Subtype p),ys.map Subtype.val=xs
 | [],_=>⟨[],rfl⟩
 | x :: xs,h=>by
  obtain⟨ys,hy⟩:=Q4X xs (λy hy=>h y (List.mem_cons_of_mem _ hy));exact⟨⟨x,h x (by simp)⟩ :: ys,by simp [hy]⟩
theorem Tr.sortFuncCP{caps:List AVal}(hcr:∀A,A∈caps->A.isRo=true){P:Program}{ρ:Ren}{α:Type}[Inhabited α]{k:Nat}{enc:α->List AVal}(L:SlLaysF0.n6 P ρ)(aE:∀w,(isAgg (ρ.t 24)).run P w=.ok true w)(zE:∀w,(Go.sizeOf (ρ.t 24)).run P w=.ok k w)(hlen:∀x,(enc x).length=k)(hv:∀x,(enc x).all isV=true){g:Nat}(eg:Zb P g){p:α->Prop}{cf:α->α->Int}(h0:p default)(hO:SWOc λx y:Subtype p=>cf x.1 y.1)(xs:List α)(hp:∀x,x∈xs->p x)
  (hcmp:∀x y,p x->p y->Tr P g ([.agg (enc x),.agg (enc y)]++caps) [] 0 (λA H' k=>∃r,r=cf x y∧A=(.v (.int .i64 r))∧H'=[]∧k=0)) (hsz:xs.length≤1099511627776) {post:List α->Prop} (hpost:∀ys,ys.Perm xs->ys.Pairwise (λx y=>¬cf y x<0)->post ys):
  Tr P (ρ.f 6) [.o 0,.fn (.func g) [] caps] [(0,.val (.os k enc xs))] 1 (λA H' k'=>∃ys,post ys∧A=(.tup [])∧H'=[(0,.val (.os k enc ys))]∧k'=1):=by
 obtain⟨zs,rfl⟩:=Q4X xs hp
 haveI:Inhabited (Subtype p):=⟨⟨default,h0⟩⟩
 have key:=Tr.sortFuncC hcr (α:=Subtype p) (enc:=λx=>enc x.1) (k:=k) (cf:=λx y=>cf x.1 y.1) (post:=λys=>post (ys.map Subtype.val)) L aE zE (λx=>hlen x.1) (λx=>hv x.1) eg hO (λx y=>hcmp x.1 y.1 x.2 y.2) zs (by simpa using hsz)
  (λys h1 h2=>hpost _ (h1.map _) (by rw [List.pairwise_map];exact h2))
 intro w ok F β vs hβ hok hF hH hd;obtain⟨F1,F2,hF1,hF2,hdj,⟨v0,hv0,hon⟩,hr⟩:=hH;refine (key w ok F β vs hβ hok hF ⟨F1,F2,hF1,hF2,hdj,⟨v0,hv0,hon.osMap'⟩,hr⟩ hd).mono λe w' ⟨v,A,H',β',F',ok',he,⟨ys,hy,hA,hH',hk⟩,r1,r2,r3,r4,r5,r6,r7,r8⟩=>?_
 subst hH';obtain⟨G1,G2,hG1,hG2,hGd,⟨u0,hu0,hun⟩,hgr⟩:=r7;exact⟨v,A,[(0,.val (.os k enc (ys.map Subtype.val)))],β',F',ok',he,⟨_,hy,hA,rfl,hk⟩,r1,r2,r3,r4,r5,r6,⟨G1,G2,hG1,hG2,hGd,⟨u0,hu0,hun.osMap⟩,hgr⟩,r8⟩
theorem Tr.sortFuncP{P:Program}{ρ:Ren}{α:Type}[Inhabited α]{k:Nat}{enc:α->List AVal}(L:SlLaysF0.n6 P ρ)(aE:∀w,(isAgg (ρ.t 24)).run P w=.ok true w)(zE:∀w,(Go.sizeOf (ρ.t 24)).run P w=.ok k w)(hlen:∀x,(enc x).length=k)(hv:∀x,(enc x).all isV=true){g:Nat}(eg:Zb P g){p:α->Prop}{cf:α->α->Int}(h0:p default)(hO:SWOc λx y:Subtype p=>cf x.1 y.1)(xs:List α)(hp:∀x,x∈xs->p x)
  (hcmp:∀x y,p x->p y->Tr P g [.agg (enc x),.agg (enc y)] [] 0 (λA H' k=>∃r,r=cf x y∧A=(.v (.int .i64 r))∧H'=[]∧k=0)) (hsz:xs.length≤1099511627776) {post:List α->Prop} (hpost:∀ys,ys.Perm xs->ys.Pairwise (λx y=>¬cf y x<0)->post ys):
  Tr P (ρ.f 6) [.o 0,.fn (.func g) [] []] [(0,.val (.os k enc xs))] 1 (λA H' k'=>∃ys,post ys∧A=(.tup [])∧H'=[(0,.val (.os k enc ys))]∧k'=1):=
 Tr.sortFuncCP (caps:=[]) (λA h=>by cases h) L aE zE hlen hv eg h0 hO xs hp hcmp hsz hpost
end Go.Taq
namespace Go.Taq
open Go Go.Shelf Go.RowKit Go.Lib Go.Sort Go.Proofs
section
variable {P:Program} {ρ:Ren}
theorem Tr.sortInt(L:Lays.n189 P ρ)(xs:List Int)(hsz:xs.length≤1099511627776){post:List Int->Prop}(hpost:post (xs.mergeSort λx y=>decide (x≤y))):
  Tr P (ρ.f 189) [.o 0] [(0,.val (.os 1 (λx:Int=>[.i x]) xs))] 1 (λA H' k'=>∃ys,post ys∧A=(.tup [])∧H'=[(0,.val (.os 1 (λx:Int=>[.i x]) ys))]∧k'=1):=by
 intro w ok F β vs hβ hok hF hH hd;obtain⟨F1,F2,hF1,hF2,_,⟨v0,hv0,hon⟩,_⟩:=hH;have hvs:vs=#[v0]:=by
  have h0:=(hd.2 0 _ rfl).o_inv;rw [hv0] at h0;have hs:=hd.1;apply Array.ext
  ·simpa using hs.symm
  ·intro i hi1 hi2;have hi:i=0:=by simp at hi2;omega
   subst hi;have:=Option.some.inj h0;simp [gA,Array.getElem?_eq_getElem hi1] at this;simp [this]
 subst hvs;generalize hA2:AVal.os 1 (λx:Int=>[AVal.i x]) xs=A2 at hon;cases hon with
 | ro F h=>subst hA2;cases h
 | arr=>cases hA2
 | om=>cases hA2
 | osNil n2 enc2 F p=>
  injection hA2 with h1 h2 h3 h4
  subst h1;subst h2;have hxs:xs=[]:=eq_of_heq h4;subst hxs;refine (Any.slices_Sort_int_none L p 0 w).mono λe w' ⟨he,hw⟩=>?_
  subst hw;exact⟨_,.tup [],[(0,.val (.os 1 (λx:Int=>[AVal.i x]) []))],β,F,ok,he,⟨[],by simpa using hpost,rfl,rfl,hβ⟩,λ_ _ h=>h,λl x b hl hx _=>(by rw [gN (by omega)] at hx;cases hx),.refl _ _,λ_ h=>h,λb hb=>⟨.inl hb,(hok b hb).1⟩,λb hb=>⟨.inl hb,hF b hb,λho=>(hok b ho).2 hb⟩,
   ⟨F,λ_=>False,λ_ h=>h,λ_ h=>h.elim,λ_ _ h=>h,⟨_,hv0,.osNil _ _ _ p⟩,trivial⟩,.tup [] #[] rfl (by simp)⟩
 | os n2 enc2 xs2 b off cap c T F' G hb hw hlen2 hcap hn hG hdj hr=>
  cases hA2;have hbF:F b:=hF1 b hb;have hblk:=hF b hbF;have hcell:∀(i:Nat) (x:Int),xs[i]?=some x->c.getD (off+i) undef=.int .i64 x:=λi x hx=>by
   have h1:=hr i 0 x _ hx rfl;have h3:=h1.ro_of rfl;rw [Nat.mul_one,Nat.add_zero] at h3;generalize c.getD (off+i) undef=y at h3;cases h3;rfl
  have hH:Holds (Value.int .i64) w b off xs.toArray:=λj hj=>by
   have hj':j<xs.length:=by simpa using hj
   have h1:=hcell j _ (gE hj');have hlt:off+j<c.size:=by omega
   constructor
   ·simp only [World.cell?,hw];have e2:xs.toArray[j]! = xs[j]:=by simp [hj']
    rw [e2,<-h1];simp [gA,hlt]
   ·simp [World.frozen?,hw]
  have hcon:=Any.slices_Sort_int L b off cap xs w hH hblk (by omega);refine hcon.mono λe w' ⟨he,n,os,hw'⟩=>?_
  generalize hys:(xs.mergeSort λx y=>decide (x≤y))=ys at hw' hpost;have hyl:ys.length=xs.length:=by rw [<-hys];simp
  have hheap:∀b',b'<w.heap.size->w'.heap[b']?=if b=b' then some (.cells (putCells (Value.int .i64) off ys.toArray c) T (0,0)) else w.heap[b']?:=λb' hb'=>by
   rw [hw'];simp only [putRow,grow,mapBlock,ahead];rw [Array.getElem?_append_left (by simpa using hb'),Array.getElem?_modify];by_cases e:b=b'
   ·subst e;rw [gF rfl,gF rfl];show Option.map _ (w.heap[b]?)=_;rw [hw];rfl
   ·rw [gC e,gC e];rfl
  have hsize:w.heap.size≤w'.heap.size:=by rw [hw'];simp [putRow,grow,mapBlock,ahead]
  have hKp:Kp w F w':=by
   refine⟨by rw [hw'];rfl,by rw [hw'];rfl,by rw [hw'];rfl,hsize,λb' hb' hn=>?_,.of_le (by rw [hw'];simp [putRow,grow,mapBlock,ahead])⟩;rw [hheap b' hb',gC (λe=>by subst e;exact hn hbF)]
  have hcs:(putCells (Value.int .i64) off ys.toArray c).size=c.size:=by simp [putCells]
  have hOn:On w' ok w' (.os 1 (λx:Int=>[AVal.i x]) ys) (.slice (some ⟨b,off,none⟩) xs.length cap) F:=by
   have:=On.flat (w0:=w') (ok:=ok) (w:=w') (enc:=λx:Int=>[AVal.i x]) (n:=1) (xs:=ys) (b:=b) (off:=off) (cap:=cap) (c:=putCells (Value.int .i64) off ys.toArray c) (T:=T) (F:=F) hbF (by rw [hheap b hblk,gF rfl]) (by omega) (by rw [hcs];exact hcap) (λi x _=>rfl) (λi j x A hx hA=>?_)
   ·rw [hyl] at this;exact this
   ·have hj:j=0:=by
     match j,hA with
     | 0,_=>rfl
    subst hj;simp at hA;subst hA;have hi:i<ys.length:=(gS.1 hx).1;have hlt2:off+i*1+0<c.size:=by omega
    have e4:(putCells (Value.int .i64) off ys.toArray c).getD (off+i*1+0) undef=.int .i64 x:=by
     rw [gA,Array.getElem?_eq_getElem (by rw [hcs];exact hlt2)];simp only [putCells,Array.getElem_mapIdx,Option.getD_some];rw [gF (by simp;omega)];have e5:off+i*1+0-off=i:=by omega
     rw [e5];have:ys.toArray[i]! = x:=by
      have:=(gS.1 hx).2;simp [hi,this]
     rw [this]
    rw [e4];exact .v _
  exact⟨_,.tup [],[(0,.val (.os 1 (λx:Int=>[AVal.i x]) ys))],β,F,ok,he,⟨ys,hpost,rfl,rfl,hβ⟩,λ_ _ h=>h,λl x b hl hx _=>(by rw [gN (by omega)] at hx;cases hx),hKp,λ_ h=>h,λb hb=>⟨.inl hb,gG (hok b hb).1 hsize⟩,λb hb=>⟨.inl hb,gG (hF b hb) hsize,λho=>(hok b ho).2 hb⟩,
   ⟨F,λ_=>False,λ_ h=>h,λ_ h=>h.elim,λ_ _ h=>h,⟨_,hv0,hOn⟩,trivial⟩,.tup [] #[] rfl (by simp)⟩
theorem Tr.indexByte(L:Lays.n137 P ρ)(s:ByteArray)(c:Int){post:Int->Prop}(hpost:post (Q46 s c)):
  Tr P (ρ.f 137) [.v (.string s),.v (.int .u8 c)] [] 0 (λA H' k'=>∃y,post y∧A=(.i y)∧H'=[]∧k'=0):=by
 intro w ok F β vs hβ hok hF hH hd;have hvs:vs=#[.string s,.int .u8 c]:=by
  have h0:=(hd.2 0 _ rfl).v_inv;have h1:=(hd.2 1 _ rfl).v_inv;have hs:=hd.1;apply Array.ext
  ·simpa using hs.symm
  ·intro i hi1 hi2;have hi:i=0∨i=1:=by simp at hi2;omega
   rcases hi with rfl | rfl
   ·simp [gA,Array.getElem?_eq_getElem hi1] at h0;simp [h0]
   ·simp [gA,Array.getElem?_eq_getElem hi1] at h1;simp [h1]
 subst hvs;refine (Any.strings_IndexByte L s c w).mono λe w' ⟨he,hw⟩=>?_
 subst hw;exact⟨_,.i (Q46 s c),[],β,F,ok,he,⟨_,hpost,rfl,rfl,hβ⟩,λ_ _ h=>h,λl x b hl hx _=>(by rw [gN (by omega)] at hx;cases hx),.refl _ _,λ_ h=>h,λb hb=>⟨.inl hb,(hok b hb).1⟩,λb hb=>⟨.inl hb,hF b hb,λho=>(hok b ho).2 hb⟩,trivial,.ro (.v _)⟩
end
end Go.Taq
namespace Go.Taq
open Go
def spl(c:Array Value)(o:Nat)(cs:Array Value)(so m:Nat):Array Value:=(c.toList.take o++(cs.toList.drop so).take m++c.toList.drop (o+m)).toArray
theorem Zo{c:Array Value}{o:Nat}{cs:Array Value}{so m:Nat}(h1:o+m≤c.size)(h2:so+m≤cs.size):(spl c o cs so m).size=c.size:=by
 unfold spl;simp;omega
theorem Q2y{c:Array Value}{o:Nat}{cs:Array Value}{so m:Nat}(h1:o+m≤c.size)(h2:so+m≤cs.size)(j:Nat):(spl c o cs so m).getD j undef=if o≤j∧j<o+m then cs.getD (so+(j-o)) undef else c.getD j undef:=by
 have hl:((cs.toList.drop so).take m).length=m:=by simp;omega
 have:=Yw c o ((cs.toList.drop so).take m) (by omega) j;rw [hl] at this;unfold spl;rw [this];by_cases h:o≤j∧j<o+m
 ·rw [gF h,gF h];simp only [gD,gA];rw [List.getElem?_take,gF (by omega),List.getElem?_drop];simp
 ·rw [gC h,gC h]
section
variable {P:Program}
theorem Q5q{w:World}{b:Nat}{c:Array Value}{T:TypeId}(h:w.heap[b]?=some (.cells c T (0,0))){o m:Nat}(hm:o+m≤c.size):∀(j:Nat) (u:Value),((c.toList.drop o).take m)[j]?=some u->w.cell? ((⟨b,o,none⟩:Addr).add j)=some u:=λj u hu=>by
 have hj:=(gS.1 hu).1;simp only [List.length_take,List.length_drop,Array.length_toList] at hj;rw [List.getElem?_take,gF (by omega),List.getElem?_drop] at hu;rw [Xl];have:c[o+j]?=some u:=by simpa using hu
 simp [World.cell?,h,this]
theorem QaR{c:Array Value}{o m:Nat}(hm:o+m≤c.size)(h:∀q,q<m->(c.getD (o+q) undef).oneCell'=true):∀v∈(c.toList.drop o).take m,v.oneCell'=true:=λv hv=>by
 obtain⟨j,hj⟩:=gO hv;have hjl:=(gS.1 hj).1;simp only [List.length_take,List.length_drop,Array.length_toList] at hjl;rw [List.getElem?_take,gF (by omega),List.getElem?_drop] at hj;have:=h j (by omega);have e:c.getD (o+j) undef=v:=by
  rw [gA];have:c[o+j]?=some v:=by simpa using hj
  rw [this];rfl
 rw [e] at this;exact this
theorem Ws{S E K:Nat}(hS:P.underlying S=some (.slice E))(hz:∀w,(sizeOf E).run P w=.ok K w)(w:World){b o dl dc sb so sl sc:Nat}{c cs:Array Value}{T Ts:TypeId}(hb:w.heap[b]?=some (.cells c T (0,0)))(hs:w.heap[sb]?=some (.cells cs Ts (0,0)))
  {k:Nat} (hk:Nat.min sl dl=k) (h1:o+k*K≤c.size) (h2:so+k*K≤cs.size) (hone:∀q,q<k*K->(cs.getD (so+q) undef).oneCell'=true) (ty:TypeId):
  (Builtin.copy_ #[S,S] ty #[.slice (some ⟨b,o,none⟩) dl dc,.slice (some ⟨sb,so,none⟩) sl sc]).run P w=.ok (goInt k) (w.setRow b (spl c o cs so (k*K))):=by
 have hl:((cs.toList.drop so).take (k*K)).length=k*K:=by simp;omega
 have hfirst:=run_firstCells_some (P:=P) w K k ⟨sb,so,none⟩ sl sc ((cs.toList.drop so).take (k*K)) hl (Q5q hs h2);have hst:=run_storeCells_at (P:=P) b o T ((cs.toList.drop so).take (k*K)) 0 c w hb (by rw [hl];simpa using h1) (QaR h2 hone);simp only [Nat.add_zero] at hst;rw [hl] at hst;have hlen:∀w':World,(Builtin.lenOf (.slice (some ⟨sb,so,none⟩) sl sc)).run P w'=.ok sl w':=λw'=>by simp [Builtin.lenOf]
 unfold spl;simp [Builtin.copy_,hlen,run_underlying hS,hz,hk,hfirst,hst,goInt]
theorem Qas(w:World){o:Oper}{a:Act}{K:Act->World->Prop}{Q:Exit->Act->World->Prop}(d s:Operand)(t t':TypeId)(ho:o.op=.call {callee:=.builtin .copy,args:=#[d,s],argTypes:=#[t,t']})(v u:Value)(hd:a.eval d=v)(hs:a.eval s=u){v':Value}{w':World}
  (hr:(Builtin.copy_ #[t,t'] o.type #[v,u]).run P w=.ok v' w') (h:K (a.put o.dst v') w'):o.wp P a w K Q:=by
 unfold Oper.wp execOp;simp only [ho,resolve,invoke,builtin,Sem.run_bind,Sem.run_pure,Result.andThen_ok,List.map_toArray,List.map_cons,List.map_nil,hd,hs,hr];exact h
theorem Q4Q(w:World){ops:Array Oper}{rest:List Oper}{o:Oper}{a:Act}{Q:Exit->Act->World->Prop}(hgd:o.guard=none)(d s:Operand)(t t':TypeId)(ho:o.op=.call {callee:=.builtin .copy,args:=#[d,s],argTypes:=#[t,t']})(v u:Value)(hd:a.eval d=v)(hs:a.eval s=u){v':Value}{w':World}
  (hr:(Builtin.copy_ #[t,t'] o.type #[v,u]).run P w=.ok v' w') (h:wpList P ops Q rest (a.put o.dst v') w'):wpList P ops Q (o :: rest) a w:=
 wpList_plain hgd λ_ hK=>Qas w d s t t' ho v u hd hs hr (hK _ _ h)
theorem Q3k{ops:Array Oper}{o:Oper}{a:Act}{w:World}{K:Act->World->Prop}{Q:Exit->Act->World->Prop}{E:Prop}(hg:o.guard=none)(d x:Operand)(dT sT:TypeId)(hop:o.op=Op.call {callee:=Callee.builtin Builtin.copy,args:=#[d,x],argTypes:=#[dT,sT]})
  (v u:Value) (hd:a.eval d=v) (hx:a.eval x=u) {v':Value} {w':World} (hr:(Builtin.copy_ #[dT,sT] o.type #[v,u]).run P w=.ok v' w') (hK:K (a.put o.dst v') w'):if Region.wanted o (yielded ops a.tmps)=true then Oper.wp P o a w K Q else E:=by
 have hw:Region.wanted o (yielded ops a.tmps)=true:=by simp [Region.wanted,hg]
 rw [gF hw];exact Qas w d x dT sT hop v u hd hx hr hK
def Q7L(P:Program)(f:FuncId)(K:Nat):Prop:=
 ∀(w:World) (b off n c i vb voff m vc:Nat) (cb cv:Array Value) (Tb Tv:TypeId),w.heap[b]?=some (.cells cb Tb (0,0))->w.heap[vb]?=some (.cells cv Tv (0,0))->vb≠b->i<n->n≤c->0<m->m≤vc->off+c*K≤cb.size->voff+vc*K≤cv.size->n+m≤1099511627776 ->
  (∀q,q<n*K->(cb.getD (off+q) undef).oneCell'=true)->(∀q,q<m*K->(cv.getD (voff+q) undef).oneCell'=true) ->
  Calls P f #[.slice (some ⟨b,off,none⟩) n c,.int .i64 i,.slice (some ⟨vb,voff,none⟩) m vc] w λe w'=>
   ∃b' off' c' cb' T',e=.returned (.slice (some ⟨b',off',none⟩) (n+m) c')∧n+m≤c'∧w'.heap[b']?=some (.cells cb' T' (0,0))∧off'+c'*K≤cb'.size∧(b'=b∨w.heap.size≤b'∧b'<w'.heap.size)∧Kp w (λx=>x=b) w' ∧
    ∀q,q<(n+m)*K->cb'.getD (off'+q) undef=if q<i*K then cb.getD (off+q) undef else if q<(i+m)*K then cv.getD (voff+(q-i*K)) undef else cb.getD (off+(q-m*K)) undef
theorem Yv(w:World)(g:Nat)(c:Array Value):(w.setRow g c).heap.size=w.heap.size:=by simp [World.setRow]
theorem Q4V(w:World)(x:Obj):(w.alloc x).heap.size=w.heap.size+1:=Array.size_push ..
theorem Q66{f:FuncId}{K E:Nat}
  (hR:∀(w:World) (b off n c i vb voff m vc:Nat) (cb cv:Array Value) (Tb Tv:TypeId),w.heap[b]?=some (.cells cb Tb (0,0))->w.heap[vb]?=some (.cells cv Tv (0,0))->vb≠b->i<n->0<m->m≤vc->off+c*K≤cb.size->voff+vc*K≤cv.size ->
   (∀q,q<n*K->(cb.getD (off+q) undef).oneCell'=true)->(∀q,q<m*K->(cv.getD (voff+q) undef).oneCell'=true)->n+m≤c->n+m≤1099511627776 ->
   Calls P f #[.slice (some ⟨b,off,none⟩) n c,.int .i64 i,.slice (some ⟨vb,voff,none⟩) m vc] w λe w'=>e=.returned (.slice (some ⟨b,off,none⟩) (n+m) c) ∧
    w'=(w.drew.setRow b (spl cb (off+(i+m)*K) cb (off+i*K) ((n-i)*K))).setRow b (spl (spl cb (off+(i+m)*K) cb (off+i*K) ((n-i)*K)) (off+i*K) cv voff (m*K)))
  (hG:∀(w:World) (b off n c i vb voff m vc:Nat) (cb cv:Array Value) (Tb Tv:TypeId),w.heap[b]?=some (.cells cb Tb (0,0))->w.heap[vb]?=some (.cells cv Tv (0,0))->i<n->n≤c->0<m->m≤vc->off+c*K≤cb.size->voff+vc*K≤cv.size ->
   (∀q,q<n*K->(cb.getD (off+q) undef).oneCell'=true)->(∀q,q<m*K->(cv.getD (voff+q) undef).oneCell'=true)->c<n+m->n+m≤1099511627776 ->
   ∃(G:Nat) (row:Array Value),n+m≤G∧row.size=G*K∧(∀q,q<i*K->row.getD q undef=cb.getD (off+q) undef) ∧
   Calls P f #[.slice (some ⟨b,off,none⟩) n c,.int .i64 i,.slice (some ⟨vb,voff,none⟩) m vc] w λe w'=>e=.returned (.slice (some ⟨w.heap.size,0,none⟩) (n+m) G) ∧
    w'.heap=(((w.alloc (.cells row E)).setRow w.heap.size (spl row (i*K) cv voff (m*K))).setRow w.heap.size (spl (spl row (i*K) cv voff (m*K)) ((i+m)*K) cb (off+i*K) ((n-i)*K))).heap∧w'.os=w.os∧w'.tape=w.tape∧w'.output=w.output∧w.drawn≤w'.drawn):Q7L P f K:=λw b off n c i vb voff m vc cb cv Tb Tv hwb hwv hne hi hnc hm hmv hcb hcv hnm ho1 ho2=>by
 have hN2:i*K+(n-i)*K=n*K:=by rw [<-Nat.add_mul];congr 1;omega
 have hN1:(i+m)*K+(n-i)*K=(n+m)*K:=by rw [<-Nat.add_mul];congr 1;omega
 have hN5:i*K+m*K=(i+m)*K:=(Nat.add_mul _ _ _).symm;have hN4:n*K≤c*K:=gB _ hnc;have hN7:m*K≤vc*K:=gB _ hmv;have hbl:=Gt hwb;rcases gH c (n+m) with hroom | hroom
 ·obtain⟨G,row,hG,hrs,hrow,hc⟩:=hG w b off n c i vb voff m vc cb cv Tb Tv hwb hwv hi hnc hm hmv hcb hcv ho1 ho2 hroom hnm;have hGK:(n+m)*K≤G*K:=gB _ hG;have hs1:(spl row (i*K) cv voff (m*K)).size=row.size:=Zo (by omega) (by omega);have hs2:=Zo (c:=spl row (i*K) cv voff (m*K)) (o:=(i+m)*K) (cs:=cb) (so:=off+i*K) (m:=(n-i)*K) (by omega) (by omega);refine hc.mono λe w'=>?_
  rintro⟨he,hh,h1,h2,h3,h4⟩;have hA0:(w.alloc (.cells row E)).heap[w.heap.size]?=some (.cells row E (0,0)):=heap_alloc_new w _;refine⟨w.heap.size,0,G,_,E,he,hG,by rw [hh];exact setRow_heap _ _ _ _ _ _ (setRow_heap _ _ _ _ _ _ hA0),by rw [hs2,hs1,hrs];omega,.inr ⟨Nat.le_refl _,by rw [hh,Yv,Yv,Q4V];omega⟩,⟨h1,h2,h3,by rw [hh,Yv,Yv,Q4V];omega,λx hx _=>?_,.of_le h4⟩,λq hq=>?_⟩
  ·rw [hh,setRow_other _ _ _ _ (by omega:x≠w.heap.size),setRow_other _ _ _ _ (by omega:x≠w.heap.size)];exact RowKit.Below.heap_alloc w _ x hx
  ·rw [Nat.zero_add,Q2y (by omega) (by omega)];by_cases c1:q<i*K
   ·rw [gC (by omega),Q2y (by omega) (by omega),gC (by omega),gF c1];exact hrow q c1
   ·by_cases c2:q<(i+m)*K
    ·rw [gC (by omega),Q2y (by omega) (by omega),gF (by omega),gC c1,gF c2]
    ·rw [gF (by omega),gC c1,gC c2];congr 1;omega
 ·have hcK:(n+m)*K≤c*K:=gB _ hroom;have hs1:(spl cb (off+(i+m)*K) cb (off+i*K) ((n-i)*K)).size=cb.size:=Zo (by omega) (by omega);have hs2:=Zo (c:=spl cb (off+(i+m)*K) cb (off+i*K) ((n-i)*K)) (o:=off+i*K) (cs:=cv) (so:=voff) (m:=m*K) (by omega) (by omega);refine (hR w b off n c i vb voff m vc cb cv Tb Tv hwb hwv hne hi hm hmv hcb hcv ho1 ho2 hroom hnm).mono λe w'=>?_
  rintro⟨he,hw'⟩;have hwb2:w.drew.heap[b]?=some (.cells cb Tb (0,0)):=hwb;refine⟨b,off,c,_,Tb,he,hroom,by rw [hw'];exact setRow_heap _ _ _ _ _ _ (setRow_heap _ _ _ _ _ _ hwb2),by rw [hs2,hs1];exact hcb,.inl rfl,⟨by rw [hw'];rfl,by rw [hw'];rfl,by rw [hw'];rfl,by rw [hw',Yv,Yv];exact Nat.le_refl _,λx hx hn=>?_,.of_le (by rw [hw'];exact Nat.le_succ _)⟩,λq hq=>?_⟩
  ·have hxb:x≠b:=λe=>hn e
   rw [hw',setRow_other _ _ _ _ hxb,setRow_other _ _ _ _ hxb];rfl
  ·rw [Q2y (by omega) (by omega)];by_cases c1:q<i*K
   ·rw [gC (by omega),Q2y (by omega) (by omega),gC (by omega),gF c1]
   ·by_cases c2:q<(i+m)*K
    ·rw [gF (by omega),gC c1,gF c2];congr 1;omega
    ·rw [gC (by omega),Q2y (by omega) (by omega),gF (by omega),gC c1,gC c2];congr 1;omega
theorem Tr.insert{f:FuncId}{K:Nat}(hraw:Q7L P f K){α:Type}{enc:α->List AVal}(hflat:∀x,(enc x).all Q1r=true)(xs ys:List α)(i:Nat)(hi:i<xs.length)(hy:0<ys.length)(hsz:xs.length+ys.length≤1099511627776){post:List α->Prop}(hp:post (xs.take i++(ys++xs.drop i))):
  Tr P f [.o 0,.v (.int .i64 (i:Int)),.o 1] [(0,.val (.os K enc xs)),(1,.val (.os K enc ys))] 2 (λA H' k'=>∃zs,post zs∧A=.o 2∧H'=[(2,.val (.os K enc zs))]∧k'=3):=by
 intro w ok F β vs hβ hok hF hH hd;have hfro:∀x A,A∈enc x->A.isRo=true:=λx A h=>Q29 (gT.1 (hflat x) A h)
 obtain⟨F1,F2,hF1,hF2,h12,⟨v0,hv0,hon0⟩,F3,F4,hF3,_,_,⟨v1,hv1,hon1⟩,_⟩:=hH;have hvs:vs=#[v0,.int .i64 (i:Int),v1]:=by
  have h0:=(hd.2 0 _ rfl).o_inv;have h1:=(hd.2 1 _ rfl).v_inv;have h2:=(hd.2 2 _ rfl).o_inv;rw [hv0] at h0;rw [hv1] at h2;have hs:=hd.1;apply Array.ext
  ·simpa using hs.symm
  ·intro j hj1 hj2;have hj:j=0∨j=1∨j=2:=by simp at hj2;omega
   rcases hj with rfl | rfl | rfl
   ·have:=Option.some.inj h0;simp [gA,Array.getElem?_eq_getElem hj1] at this;simp [this]
   ·simp [gA,Array.getElem?_eq_getElem hj1] at h1;simp [h1]
   ·have:=Option.some.inj h2;simp [gA,Array.getElem?_eq_getElem hj1] at this;simp [this]
 subst hvs;have hf0:=hon0.flat_of hfro;have hf1:=hon1.flat_of hfro;cases hf0 with
 | nil p h=>subst h;simp at hi
 | row b off c cb Tb hb hwb hlen hcap hn hr=>
 cases hf1 with
 | nil p h=>subst h;simp at hy
 | row vb voff vc cv Tv hvb hwv hvlen hvcap hvn hvr=>
  have hbF:F b:=hF1 b hb;have hne:vb≠b:=λe=>h12 b hb (e▸hF3 vb hvb)
  have hKx:∀(j:Nat) (x:α),xs[j]?=some x->(enc x).length=K:=hn;have ones:∀{zs:List α} {c0:Array Value} {o:Nat},(∀(j:Nat) (x:α),zs[j]?=some x->(enc x).length=K)->(∀(i j:Nat) (x:α) (A:AVal),zs[i]?=some x->(enc x)[j]?=some A->Ro w ok A (c0.getD (o+i*K+j) undef))->∀q,q<zs.length*K->(c0.getD (o+q) undef).oneCell'=true:=λ{zs c0 o} hzn hzr q hq=>by
   obtain⟨m1,m2,m3,m4⟩:=Q2l hq;have hx:=gE m2;have hA:=gE (show q % K<(enc zs[q / K]).length by rw [hzn _ _ hx];exact m3);have h1:=hzr _ _ _ _ hx hA;have e:o+q / K*K+q % K=o+q:=by rw [Nat.add_assoc,Nat.div_add_mod']
   rw [e] at h1;exact (Dn.ro (β:=[]) h1).one (Q2p (gT.1 (hflat _) _ (List.getElem_mem _)))
  refine (hraw w b off xs.length c i vb voff ys.length vc cb cv Tb Tv hwb hwv hne hi hlen hy hvlen hcap hvcap hsz (ones hn hr) (ones hvn hvr)).mono λe w'=>?_
  rintro⟨b',off',c',cb',T',he,hc',hw',hcap',hb',hk,hcell⟩;have hzl:(xs.take i++(ys++xs.drop i)).length=xs.length+ys.length:=by simp;omega
  have hblk:∀x,ok x->x<w.heap.size->w'.heap[x]?=w.heap[x]?:=λx hx hlt=>hk.block x hlt (λe=>(hok x hx).2 (by have:x=b:=e;rw [this];exact hbF))
  have hget:∀p u,(xs.take i++(ys++xs.drop i))[p]?=some u->(p<i∧xs[p]?=some u)∨(i≤p∧p<i+ys.length∧ys[p-i]?=some u)∨(i+ys.length≤p∧p<xs.length+ys.length∧xs[p-ys.length]?=some u):=λp u hu=>by
   have hpl:=(gS.1 hu).1;rw [hzl] at hpl;have hti:(xs.take i).length=i:=by simp;omega
   rcases gH p i with h | h
   ·rw [gL (by omega),List.getElem?_take,gF h] at hu;exact .inl ⟨h,hu⟩
   ·rw [gR (by omega),hti] at hu;rcases gH p (i+ys.length) with h' | h'
    ·rw [gL (by omega)] at hu;exact .inr (.inl ⟨h,h',hu⟩)
    ·rw [gR (by omega),List.getElem?_drop] at hu;have e3:i+(p-i-ys.length)=p-ys.length:=by omega
     rw [e3] at hu;exact .inr (.inr ⟨h',hpl,hu⟩)
  have hOn:On w' ok w' (.os K enc (xs.take i++(ys++xs.drop i))) (.slice (some ⟨b',off',none⟩) (xs.length+ys.length) c') (λx=>x=b'):=by
   have:=On.flat (w0:=w') (ok:=ok) (w:=w') (enc:=enc) (n:=K) (xs:=xs.take i++(ys++xs.drop i)) (b:=b') (off:=off') (cap:=c') (c:=cb') (T:=T') (F:=λx=>x=b') rfl hw' (by rw [hzl];exact hc') hcap' (λp u hu=>?_) (λp j u A hu hA=>?_)
   ·rw [hzl] at this;exact this
   ·rcases hget p u hu with h | h | h
    ·exact hn p u h.2
    ·exact hvn _ u h.2.2
    ·exact hn _ u h.2.2
   ·have hpl:p<xs.length+ys.length:=by rw [<-hzl];exact (gS.1 hu).1
    have hj:j<K:=by
     have:=(gS.1 hA).1;rcases hget p u hu with h | h | h
     ·rw [hn p u h.2] at this;exact this
     ·rw [hvn _ u h.2.2] at this;exact this
     ·rw [hn _ u h.2.2] at this;exact this
    have hq:p*K+j<(xs.length+ys.length)*K:=by
     have:(p+1)*K≤(xs.length+ys.length)*K:=gB _ hpl;rw [Nat.succ_mul] at this;omega
    have hc2:=hcell (p*K+j) hq;have ea:off'+p*K+j=off'+(p*K+j):=by omega
    rw [ea,hc2];refine Ro.later (w:=w) hblk ?_;rcases hget p u hu with h | h | h
    ·have h1:(p+1)*K≤i*K:=gB _ h.1;rw [Nat.succ_mul] at h1;rw [gF (by omega)];have:=hr p j u A h.2 hA;have e2:off+p*K+j=off+(p*K+j):=by omega
     rw [e2] at this;exact this
    ·have h1:i*K≤p*K:=gB _ h.1;have h2:(p+1)*K≤(i+ys.length)*K:=gB _ h.2.1;rw [Nat.succ_mul] at h2;rw [gC (by omega),gF (by omega)];have:=hvr (p-i) j u A h.2.2 hA;have e2:voff+(p-i)*K+j=voff+(p*K+j-i*K):=by rw [Nat.sub_mul];omega
     rw [e2] at this;exact this
    ·have h1:(i+ys.length)*K≤p*K:=gB _ h.1;have h3:i*K≤(i+ys.length)*K:=gB _ (by omega);have h4:ys.length*K≤(i+ys.length)*K:=gB _ (by omega);rw [gC (by omega),gC (by omega)];have:=hr (p-ys.length) j u A h.2.2 hA;have e2:off+(p-ys.length)*K+j=off+(p*K+j-ys.length*K):=by rw [Nat.sub_mul];omega
     rw [e2] at this;exact this
  have hsize:w.heap.size≤w'.heap.size:=hk.size;have hb2:(F b'∨w.heap.size≤b')∧b'<w'.heap.size∧¬ok b':=by
   rcases hb' with e | ⟨e1,e2⟩
   ·rw [e];exact⟨.inl hbF,gG (hF b hbF) hsize,λho=>(hok b ho).2 hbF⟩
   ·exact⟨.inr e1,e2,λho=>by have:=(hok b' ho).1;omega⟩
  refine⟨_,.o 2,[(2,.val (.os K enc (xs.take i++(ys++xs.drop i))))],β++[.slice (some ⟨b',off',none⟩) (xs.length+ys.length) c'],λx=>x=b',ok,he,⟨_,hp,rfl,rfl,by simp [hβ]⟩,λl x h=>Ql h,λl x b2 hl hx hh=>?_,hk.mono (λx hx _=>by have:x=b:=hx;rw [this];exact hbF),λ_ h=>h,λx hx=>⟨.inl hx,gG (hok x hx).1 hsize⟩,λx hx=>by have:x=b':=hx;rw [this];exact hb2,
   ⟨λx=>x=b',λ_=>False,λ_ h=>h,λ_ h=>h.elim,λ_ _ h=>h,⟨_,by rw [<-hβ];simp,hOn⟩,trivial⟩,.o 2 _ (by rw [<-hβ];simp) rfl⟩
  have:=YN hβ (by omega) hx;subst this;cases c' with
  | zero=>cases hh
  | succ c'=>cases hh;exact hb2.1
end
theorem Tr.drop1{P:Program}{f:FuncId}{As:List AVal}{H:Heap}{nl:Nat}{τ:Type}{Φ:τ->Prop}{B:τ->AVal}{l1 l2 k:Nat}{R1 R2:τ->Res}(h:Tr P f As H nl (λA H' n=>∃y,Φ y∧A=B y∧H'=[(l1,R1 y),(l2,R2 y)]∧n=k)):
  Tr P f As H nl (λA H' n=>∃y,Φ y∧A=B y∧H'=[(l2,R2 y)]∧n=k):=by
 intro w ok F β vs h1 h2 h3 h4 h5;refine (h w ok F β vs h1 h2 h3 h4 h5).mono λe w' ⟨v,A,H',β',F',ok',e1,⟨y,hy,hA,hH,hk⟩,a1,a2,a3,a4,a5,a6,hh,hd⟩=>?_
 subst hH;obtain⟨F1,F2,g1,g2,g3,g4,g5⟩:=hh;exact⟨v,A,[(l2,R2 y)],β',F',ok',e1,⟨y,hy,hA,rfl,hk⟩,a1,a2,a3,a4,a5,a6,g5.mono g2,hd⟩
theorem K9{x:Int}(h1:-9223372036854775808≤x)(h2:x≤9223372036854775807):w64 x=x:=by
 simp only [w64,IntKind.wrap,IntKind.signed,IntKind.bits];simp;omega
theorem Q8G{α:Type}{xs:List α}{n:Nat}:idx xs (n:Int)=xs[n]?:=by simp [idx]
theorem Q0O{α:Type}{xs:List α}{i:Int}(h0:0≤i)(h1:i<xs.length):idx xs i=some (xs[i.toNat]'(by omega)):=by
 simp only [idx,h0,if_true];exact gE (by omega)
theorem Qo{α:Type}{xs:List α}{i:Int}{n:Nat}{x:α}(h:i=(n:Int))(hx:xs[n]?=some x):idx xs i=some x:=by rw [h,Q8G];exact hx
theorem Jn.eq{σ:Type}{A:(σ->Prop)->Prop}{k:σ->Prop}(v:σ)(h:A (λx=>x=v))(hk:k v):Jn A k:=⟨λx=>x=v,λ_ e=>e▸hk,h⟩
theorem Ite.t{b:Bool}{A B:Prop}(h:b=true)(k:A):Ite b A B:=by subst h;simpa using k
theorem Ite.f{b:Bool}{A B:Prop}(h:b=false)(k:B):Ite b A B:=by subst h;simpa using k
theorem Jor2{a1 a2:Bool}{k:Bool->Prop}(h:k (a1||a2)):Jn (λJ=>Ite a1 (J true) (J a2)) k:=⟨k,λ_ h=>h,by cases a1 <;> simpa using h⟩
theorem Q0K{a1 a2:Bool}{k:Bool->Prop}(h:k (a1&&a2)):Jn (λJ=>Ite a1 (J a2) (J false)) k:=⟨k,λ_ h=>h,by cases a1 <;> simpa using h⟩
theorem Jor3{a1 a2 a3:Bool}{k:Bool->Prop}(h:k (a1||a2||a3)):Jn (λJ=>Ite a1 (J true) (Ite a2 (J true) (J a3))) k:=⟨k,λ_ h=>h,by cases a1 <;> cases a2 <;> simpa using h⟩
theorem Qdm{a1 a2 a3:Bool}{k:Bool->Prop}(h:k (a1&&a2&&a3)):Jn (λJ=>Ite a1 (Ite a2 (J a3) (J false)) (J false)) k:=⟨k,λ_ h=>h,by cases a1 <;> cases a2 <;> simpa using h⟩
theorem Jor4{a1 a2 a3 a4:Bool}{k:Bool->Prop}(h:k (a1||a2||a3||a4)):Jn (λJ=>Ite a1 (J true) (Ite a2 (J true) (Ite a3 (J true) (J a4)))) k:=⟨k,λ_ h=>h,by cases a1 <;> cases a2 <;> cases a3 <;> simpa using h⟩
theorem Loop.up{σ:Type}{body:σ->(σ->Prop)->Prop}(n:Nat)(st:Nat->σ){s0:σ}(h0:s0=st 0)(hs:∀i,i<n->body (st i) (λs=>s=st (i+1)))(he:body (st n) (λ_=>False)):Loop body s0:=by
 subst h0;intro X hX;have key:∀k i,i+k=n->X (st i):=by
  intro k;induction k with
  | zero=>intro i hi;have:i=n:=by omega
          subst this;exact hX _ _ he (λ_ h=>h.elim)
  | succ k ih=>intro i hi;exact hX _ _ (hs i (by omega)) (λs' e=>e▸ih (i+1) (by omega))
 exact key n 0 (by omega)
theorem Loop.find{α:Type}(xs:List α)(p:α->Bool){body:Int->(Int->Prop)->Prop}(hs:∀(i:Nat) x,i<xs.length->xs[i]?=some x->p x=false->body (i:Int) (λs=>s=((i+1:Nat):Int)))
  (hh:∀(i:Nat) x,i<xs.length->xs[i]?=some x->p x=true->xs.findIdx? p=some i->body (i:Int) (λ_=>False)) (he:(∀x,x∈xs->p x=false)->xs.findIdx? p=none->body (xs.length:Int) (λ_=>False)):Loop body 0:=by
 cases hf:xs.findIdx? p with
 | none=>
  have hn:∀x,x∈xs->p x=false:=by simpa [List.findIdx?_eq_none_iff] using hf
  refine Loop.up xs.length (λi=>(i:Int)) rfl (λi hi=>?_) (he hn hf);exact hs i _ hi (gE hi) (hn _ (List.getElem_mem hi))
 | some m=>
  obtain⟨hm,hp,hlt⟩:=List.findIdx?_eq_some_iff_getElem.1 hf;refine Loop.up m (λi=>(i:Int)) rfl (λi hi=>?_) ?_
  ·have:=hlt i hi;exact hs i _ (by omega) (gE (by omega)) (by simpa using this)
  ·exact hh m _ hm (gE hm) hp hf
def fidx{α:Type}(p:α->Bool)(xs:List α):Int:=match xs.findIdx? p with | some i=>i | none=>-1
theorem Zs{α:Type}{p:α->Bool}{xs:List α}:decide (fidx p xs≥0)=xs.any p:=by
 unfold fidx;cases hf:xs.findIdx? p with
 | none=>
  have hn:∀x,x∈xs->p x=false:=by simpa [List.findIdx?_eq_none_iff] using hf
  have:xs.any p=false:=by rw [List.any_eq_false];intro x hx;simp [hn x hx]
  simp [this]
 | some m=>
  obtain⟨hm,hp,_⟩:=List.findIdx?_eq_some_iff_getElem.1 hf;have:xs.any p=true:=List.any_eq_true.2 ⟨_,List.getElem_mem hm,hp⟩;simp [this]
theorem Q9C{α:Type}{p:α->Bool}{xs:List α}:-1≤fidx p xs∧fidx p xs<xs.length:=by
 unfold fidx;cases hf:xs.findIdx? p with
 | none=>simp;omega
 | some m=>obtain⟨hm,_,_⟩:=List.findIdx?_eq_some_iff_getElem.1 hf;simp;omega
section
variable {κ α:Type} [DecidableEq κ]
theorem GR:∀(xs:List (κ×α)) (k:κ) (y:α) (j:κ),lk (upd xs k y) j=if k=j then some y else lk xs j
 | [],k,y,j=>by simp only [upd,lk]
 | p :: r,k,y,j=>by
  unfold upd;by_cases h:p.1=k
  ·rw [gF h];simp only [lk];by_cases h2:k=j
   ·simp [h2]
   ·rw [gC h2,gC h2,gC (by rw [h];exact h2)]
  ·rw [gC h];simp only [lk,GR r k y j];by_cases h2:p.1=j
   ·rw [gF h2,gF h2,gC (λe=>h (h2.trans e.symm))]
   ·rw [gC h2,gC h2]
end
section
variable {κ α:Type} [DecidableEq κ]
def left(xs:List (κ×α))(seen:List κ):Nat:=(xs.filter λp=>decide (p.1∉seen)).length
theorem Q8F(xs:List (κ×α))(x:κ)(seen:List κ):left xs (x :: seen)≤left xs seen:=by
 induction xs with
 | nil=>simp [left]
 | cons p r ih=>
  unfold left at ih ⊢;by_cases h1:p.1∉x :: seen
  ·have h2:p.1∉seen:=λe=>h1 (List.mem_cons_of_mem _ e)
   rw [List.filter_cons_of_pos (by simpa using h1),List.filter_cons_of_pos (by simpa using h2)];simp only [List.length_cons];omega
  ·rw [List.filter_cons_of_neg (by simpa using h1)];by_cases h2:p.1∉seen
   ·rw [List.filter_cons_of_pos (by simpa using h2)];simp only [List.length_cons];omega
   ·rw [List.filter_cons_of_neg (by simpa using h2)];exact ih
theorem Q5X:∀(xs:List (κ×α)) {x:κ} {v:α} {seen:List κ},lk xs x=some v->x∉seen->left xs (x :: seen)<left xs seen
 | [],x,v,seen,h,_=>by simp [lk] at h
 | p :: r,x,v,seen,h,hn=>by
  unfold lk at h;by_cases h1:p.1=x
  ·subst h1;have:=Q8F r p.1 seen;unfold left at this ⊢;rw [List.filter_cons_of_neg (by simp),List.filter_cons_of_pos (by simpa using hn)];simp only [List.length_cons];omega
  ·rw [gC h1] at h;have ih:=Q5X r h hn;unfold left at ih ⊢;by_cases h2:p.1∈seen
   ·rw [List.filter_cons_of_neg (by simp [h2]),List.filter_cons_of_neg (by simp [h2])];exact ih
   ·rw [List.filter_cons_of_pos (by simp [h2,h1]),List.filter_cons_of_pos (by simp [h2])];simp only [List.length_cons];omega
end
theorem Q45{α:Type}{xs:List α}{i:Int}{x:α}(h:idx xs i=some x):xs.set i.toNat x=xs:=by
 unfold idx at h;split at h
 ·apply List.ext_getElem?;intro j;rw [List.getElem?_set];split
  ·rename_i e;subst e;split
   ·exact h.symm
   ·rename_i h3;rw [gN (by omega)]
  ·rfl
 ·cases h
theorem QaS{α:Type}{xs:List α}{x:α}:(xs++[x]).set xs.length x=xs++[x]:=by
 rw [List.set_append_right _ _ (Nat.le_refl _),Nat.sub_self];rfl
structure RF (f:Qe):Prop where
 W1:1≤f.W
 H1:1≤f.H
 D1:1≤f.D
 D4:f.D≤4
 W4:f.W≤4096
 H4:f.H≤4096
 n4:f.W*f.H*f.D≤4096
 kl:(f.Ac.length:Int)=f.W*f.H*f.D
 ol:(f.Ah.length:Int)=f.W*f.H*f.D
 ko:∀(i:Nat) x y,f.Ac[i]?=some x->f.Ah[i]?=some y->0≤x∧x<7∧0≤y∧y≤63
theorem Q9M{a b p q:Int}(ha:0≤a)(hb:0≤b)(h1:a≤p)(h2:b≤q):0≤a*b∧a*b≤p*q:=
 ⟨Int.mul_nonneg ha hb,Int.mul_le_mul h1 h2 hb (by omega)⟩
theorem Q5A{f:Qe}(w1:1≤f.W)(h1:1≤f.H)(d1:1≤f.D)(d4:f.D≤4)(w4:f.W≤4096)(h4:f.H≤4096):w64 ((w64 (f.W*f.H))*f.D)=f.W*f.H*f.D∧w64 (f.W*f.H)=f.W*f.H∧1≤f.W*f.H∧f.W*f.H≤16777216:=by
 have a:=Q9M (by omega:0≤f.W) (by omega:0≤f.H) w4 h4;have b:=Q9M a.1 (by omega:0≤f.D) a.2 d4;have c:1*1≤f.W*f.H:=Int.mul_le_mul w1 h1 (by omega) (by omega);rw [K9 (x:=f.W*f.H) (by omega) (by omega),K9 (x:=f.W*f.H*f.D) (by omega) (by omega)];exact⟨rfl,rfl,by omega,by omega⟩
theorem RF.size{f:Qe}(h:RF f):w64 ((w64 (f.W*f.H))*f.D)=f.Ac.length:=by rw [(Q5A h.W1 h.H1 h.D1 h.D4 h.W4 h.H4).1,h.kl]
theorem RF.wh{f:Qe}(h:RF f):w64 (f.W*f.H)=f.W*f.H∧1≤f.W*f.H∧f.W*f.H≤4096:=by
 have e:=Q5A h.W1 h.H1 h.D1 h.D4 h.W4 h.H4;refine⟨e.2.1,e.2.2.1,?_⟩;have:f.W*f.H*1≤f.W*f.H*f.D:=Int.mul_le_mul_of_nonneg_left h.D1 (by omega);have:=h.n4;omega
theorem RF.len{f:Qe}(h:RF f):f.Ac.length≤4096∧f.Ah.length=f.Ac.length:=by
 have:=h.kl;have:=h.ol;have:=h.n4;omega
def isC(f:Qe)(c:Int):Bool:=decide (0≤c)&&decide (c<f.Ac.length)
theorem Q64{f:Qe}(h:RF f){post:Int->Prop}(hp:post f.Ac.length):GS f post:=by
 unfold GS;rw [h.size];exact hp
theorem Q2w{f:Qe}(h:RF f){c:Int}{post:Bool->Prop}(hp:post (isC f c)):Ys f c post:=by
 unfold Ys;refine Jn.eq (isC f c) (Ite.mk (λh1=>Q64 h ?_) (λh1=>?_)) hp
 ·simp at h1;simp [isC,h1]
 ·simp at h1;simp [isC];omega
def kd(f:Qe)(c:Int):Int:=f.Ac.getD c.toNat 0
def ot(f:Qe)(c:Int):Int:=f.Ah.getD c.toNat 0
theorem XO{f:Qe}{c:Int}:isC f c=true↔0≤c∧c<f.Ac.length:=by simp [isC]
theorem Q7f{f:Qe}{c:Int}:isC f c=false↔¬(0≤c∧c<f.Ac.length):=by rw [<-XO];simp
theorem Q0l{f:Qe}{c:Int}(h:isC f c=true):idx f.Ac c=some (kd f c):=by
 rw [XO] at h;rw [Q0O h.1 h.2,kd,gD,gE (by omega)];rfl
theorem QcL{f:Qe}(hf:RF f){c:Int}(h:isC f c=true):idx f.Ah c=some (ot f c):=by
 rw [XO] at h;have:=hf.len.2;rw [Q0O h.1 (by omega),ot,gD,gE (by omega)];rfl
theorem Q59{x y k:Int}:imin x y<k↔x<k∨y<k:=by unfold imin;split <;> omega
def Wi(f:Qe)(x y z:Int):Int:=if 0≤x∧x<f.W∧0≤y∧y<f.H∧0≤z∧z<f.D then (z*f.H+y)*f.W+x else -1
theorem Q7M{f:Qe}(h:RF f){x y z:Int}(h1:0≤x∧x<f.W∧0≤y∧y<f.H∧0≤z∧z<f.D):
  0≤z*f.H∧z*f.H≤16384∧0≤(z*f.H+y)*f.W∧(z*f.H+y)*f.W+x<f.Ac.length:=by
 obtain⟨a1,a2,a3,a4,a5,a6⟩:=h1;have w:=h.W4;have hh:=h.H4;have d:=h.D4;have b:=Q9M a5 (by omega:0≤f.H) (by omega:z≤4) hh;have e1:(z+1)*f.H≤f.D*f.H:=Int.mul_le_mul_of_nonneg_right (by omega) (by omega);have e2:(z+1)*f.H=z*f.H+f.H:=by rw [Int.add_mul];omega
 have e3:z*f.H+y+1≤f.D*f.H:=by omega
 have e4:(z*f.H+y+1)*f.W≤f.D*f.H*f.W:=Int.mul_le_mul_of_nonneg_right e3 (by omega);have e5:(z*f.H+y+1)*f.W=(z*f.H+y)*f.W+f.W:=by rw [Int.add_mul (z*f.H+y)];omega
 have e6:f.D*f.H*f.W=f.W*f.H*f.D:=by rw [Int.mul_comm f.D f.H,Int.mul_comm _ f.W,Int.mul_assoc f.W f.H f.D]
 have e7:0≤(z*f.H+y)*f.W:=Int.mul_nonneg (by omega) (by omega);have:=h.kl;exact⟨b.1,by omega,e7,by omega⟩
theorem Qae{f:Qe}(h:RF f)(x y z:Int):Wi f x y z=-1∨isC f (Wi f x y z)=true:=by
 unfold Wi;split
 ·rename_i h1;have:=Q7M h h1;exact .inr (XO.2 (by omega))
 ·exact .inl rfl
theorem Qbh{f:Qe}(h:RF f){x y z:Int}(h1:0≤x∧x<f.W∧0≤y∧y<f.H∧0≤z∧z<f.D):w64 ((w64 ((w64 ((w64 (z*f.H))+y))*f.W))+x)=Wi f x y z:=by
 have:=Q7M h h1;have:=h.len.1;have:=h.H4;rw [K9 (x:=z*f.H) (by omega) (by omega),K9 (x:=z*f.H+y) (by omega) (by omega),K9 (x:=(z*f.H+y)*f.W) (by omega) (by omega),K9 (by omega) (by omega),Wi,gF h1]
def pX(f:Qe)(c:Int):Int:=c % f.W
def pY(f:Qe)(c:Int):Int:=c / f.W % f.H
def pZ(f:Qe)(c:Int):Int:=c / f.W / f.H
theorem p_bd{f:Qe}(h:RF f){c:Int}(hc:isC f c=true):0≤pX f c∧pX f c<f.W∧0≤pY f c∧pY f c<f.H∧0≤pZ f c∧pZ f c<f.D:=by
 rw [XO] at hc;have w:=h.W1;have hh:=h.H1;have hd:=h.D1;refine⟨Int.emod_nonneg _ (by omega),Int.emod_lt_of_pos _ (by omega),Int.emod_nonneg _ (by omega),Int.emod_lt_of_pos _ (by omega),Int.ediv_nonneg (Int.ediv_nonneg hc.1 (by omega)) (by omega),?_⟩;unfold pZ;refine Int.ediv_lt_of_lt_mul (by omega) (Int.ediv_lt_of_lt_mul (by omega) ?_);have:=h.kl;have e6:f.D*f.H*f.W=f.W*f.H*f.D:=by rw [Int.mul_comm f.D f.H,Int.mul_comm _ f.W,Int.mul_assoc f.W f.H f.D]
 omega
def nbr(f:Qe)(c d:Int):Int:=
 if isC f c=false then -1 else
 if d=0 then Wi f (pX f c+1) (pY f c) (pZ f c) else if d=1 then Wi f (pX f c) (pY f c+1) (pZ f c) else
 if d=2 then Wi f (pX f c-1) (pY f c) (pZ f c) else if d=3 then Wi f (pX f c) (pY f c-1) (pZ f c) else
 if d=4 then Wi f (pX f c) (pY f c) (pZ f c+1) else if d=5 then Wi f (pX f c) (pY f c) (pZ f c-1) else -1
theorem QaE{f:Qe}(h:RF f)(c d:Int):nbr f c d=-1∨isC f (nbr f c d)=true:=by
 unfold nbr
 repeat' split
 all_goals first | exact .inl rfl | exact Qae h _ _ _
def nx(f:Qe)(c d:Int):Int×Bool:=
 if nbr f c d<0∨kd f c=0∨kd f (nbr f c d)=0∨band .i64 (shrI .i64 (ot f c) d) 1=0 then (0,false)
 else if 4≤d∧(kd f c≠6∨kd f (nbr f c d)≠6) then (0,false) else (nbr f c d,true)
theorem Q4d{f:Qe}(h:RF f){c d:Int}(hn:(nx f c d).2=true):isC f c=true∧isC f (nx f c d).1=true∧0≤d∧d<6∧kd f (nx f c d).1≠0∧kd f c≠0:=by
 unfold nx at hn ⊢;split at hn
 ·cases hn
 ·rename_i h1;split at hn
  ·cases hn
  ·rename_i h2;rw [gC h1,gC h2];simp only [not_or] at h1;obtain⟨a1,a2,a3,a4⟩:=h1;have hb:=QaE h c d;have hc:isC f c=true:=by
    cases hc:isC f c
    ·exact absurd (by rw [nbr,gF hc];omega) a1
    ·rfl
   have hd:0≤d∧d<6:=by
    unfold nbr at a1;rw [gC (by simp [hc])] at a1
    repeat' split at a1
    all_goals omega
   exact⟨hc,by rcases hb with e | e;(exact absurd (by omega) a1);exact e,hd.1,hd.2,a3,a2⟩
theorem Q4J{f:Qe}(h:RF f){c:Int}(hc:isC f c=true){post:(Int×Int×Int)->Prop}(hp:post (pX f c,pY f c,pZ f c)):YZ f c post:=by
 unfold YZ;refine Q2w h ?_;rw [hc];refine Ite.f rfl ?_;rw [XO] at hc;have w:=h.W1;have hh:=h.H1;have hd:=h.D1;have wh:=h.wh;have hl:=h.len.1;have e1:0≤c / f.W∧c / f.W≤c:=⟨Int.ediv_nonneg hc.1 (by omega),Int.ediv_le_self _ hc.1⟩;have e2:0≤c / (f.W*f.H)∧c / (f.W*f.H)≤c:=⟨Int.ediv_nonneg hc.1 (by omega),Int.ediv_le_self _ hc.1⟩;rw [wh.1];refine⟨by omega,by omega,by omega,by omega,?_⟩;rw [Int.tmod_eq_emod_of_nonneg hc.1,Int.tdiv_eq_ediv_of_nonneg hc.1,K9 (x:=c / f.W) (by omega) (by omega),Int.tmod_eq_emod_of_nonneg e1.1,Int.tdiv_eq_ediv_of_nonneg hc.1,K9 (x:=c / (f.W*f.H)) (by omega) (by omega),<-Int.ediv_ediv_of_nonneg (by omega:0≤f.W)];exact hp
theorem YK{f:Qe}(h:RF f){x y z:Int}{post:Int->Prop}(hp:post (Wi f x y z)):Gp f x y z post:=by
 unfold Gp;refine Jor4 (Ite.mk (λh1=>?_) (λh1=>?_))
 ·have:Wi f x y z=-1:=by
   unfold Wi;rw [gC];simp only [Bool.or_eq_true,decide_eq_true_eq,Q59] at h1;omega
  rw [<-this];exact hp
 ·have:0≤x∧x<f.W∧0≤y∧y<f.H∧0≤z∧z<f.D:=by
   simp only [Bool.or_eq_false_iff,decide_eq_false_iff_not,Q59] at h1;omega
  rw [Qbh h this];exact hp
theorem Q1s{f:Qe}(h:RF f){c d:Int}{post:Int->Prop}(hp:post (nbr f c d)):Gs f c d post:=by
 unfold Gs;refine Jn.eq (!isC f c||decide (d<0)||decide (d≥6)) (Q2w h ?_) (Ite.mk (λh1=>?_) (λh1=>?_))
 ·cases isC f c
  ·exact Ite.f rfl rfl
  ·exact Ite.t rfl (Ite.mk (λh=>by rw [h];rfl) (λh=>by rw [h];rfl))
 ·have:nbr f c d=-1:=by
   unfold nbr;simp only [Bool.or_eq_true,Bool.not_eq_true',decide_eq_true_eq] at h1;split
   ·rfl
   ·rename_i h2;have h3:¬(0≤d∧d<6):=by
     rcases h1 with (h1 | h1) | h1
     ·exact absurd h1 h2
     ·omega
     ·omega
    rw [gC (by omega),gC (by omega),gC (by omega),gC (by omega),gC (by omega),gC (by omega)]
  rw [<-this];exact hp
 ·simp only [Bool.or_eq_false_iff,Bool.not_eq_false',decide_eq_false_iff_not] at h1;obtain⟨⟨hc,h2⟩,h3⟩:=h1;refine Q4J h hc (post:=_) ?_;unfold YQ;have hb:=p_bd h hc;have w:=h.W4;have hh:=h.H4;have hd:=h.D4;have hn:nbr f c d=(if d=0 then Wi f (pX f c+1) (pY f c) (pZ f c) else if d=1 then Wi f (pX f c) (pY f c+1) (pZ f c) else
    if d=2 then Wi f (pX f c-1) (pY f c) (pZ f c) else if d=3 then Wi f (pX f c) (pY f c-1) (pZ f c) else
    if d=4 then Wi f (pX f c) (pY f c) (pZ f c+1) else if d=5 then Wi f (pX f c) (pY f c) (pZ f c-1) else -1):=by
   unfold nbr;rw [gC (by simp [hc])]
  have hd6:d=0∨d=1∨d=2∨d=3∨d=4∨d=5:=by omega
  rcases hd6 with e | e | e | e | e | e <;> subst e <;> simp only [gF,Int.reduceEq,if_false] at hn <;> rw [hn] at hp <;>
   refine⟨_,rfl,YK h ?_⟩ <;> (try simp only []) <;> rw [K9 (by omega) (by omega),K9 (by omega) (by omega),K9 (by omega) (by omega)] <;>
   first | exact hp | (simpa [Int.sub_eq_add_neg] using hp)
theorem Ww{f:Qe}(h:RF f){c d:Int}{post:Int×Bool->Prop}(hp:post (nx f c d)):Xn f c d post:=by
 unfold Xn;refine Q1s h ?_;have hb:=QaE h c d;have hc:0≤nbr f c d->isC f c=true∧0≤d∧d<6:=λa1=>by
  have hc:isC f c=true:=by
   cases hc:isC f c
   ·exact absurd (by rw [nbr,gF hc];omega) (Int.not_lt.2 a1)
   ·rfl
  refine⟨hc,?_⟩;unfold nbr at a1;rw [gC (by simp [hc])] at a1
  repeat' split at a1
  all_goals omega
 have hn:0≤nbr f c d->isC f (nbr f c d)=true:=λa1=>by rcases hb with e | e;(exact absurd a1 (by omega));exact e
 refine Jn.eq (decide (nbr f c d<0∨kd f c=0∨kd f (nbr f c d)=0∨band .i64 (shrI .i64 (ot f c) d) 1=0)) (Ite.mk (λh1=>?_) (λh1=>?_)) (Ite.mk (λh1=>?_) (λh1=>?_))
 ·simp only [decide_eq_true_eq] at h1;simp [h1]
 ·simp only [decide_eq_false_iff_not,Int.not_lt] at h1;obtain⟨hc,hd⟩:=hc h1;refine⟨_,Q0l hc,Ite.mk (λh2=>?_) (λh2=>⟨_,Q0l (hn h1),Ite.mk (λh3=>?_) (λh3=>⟨_,QcL h hc,hd.1,?_⟩)⟩)⟩
  ·simp at h2;simp [h2]
  ·simp at h3;simp [h3]
  ·simp at h2 h3;simp only [h2,h3,Int.not_lt.2 h1,false_or];rfl
 ·simp only [decide_eq_true_eq] at h1;have:nx f c d=(0,false):=by unfold nx;rw [gF h1]
  rw [<-this];exact hp
 ·simp only [decide_eq_false_iff_not] at h1;have h0:0≤nbr f c d:=by simp only [not_or] at h1;omega
  obtain⟨hc,hd⟩:=hc h0;have e:nx f c d=if 4≤d∧(kd f c≠6∨kd f (nbr f c d)≠6) then (0,false) else (nbr f c d,true):=by unfold nx;rw [gC h1]
  have lift:∀{J:Bool->Prop},J (decide (kd f c≠6∨kd f (nbr f c d)≠6))->∃x15,idx f.Ac c=some x15∧Ite (x15 != 6) (J true) (∃x17,idx f.Ac (nbr f c d)=some x17∧J (x17 != 6)):=λ{J} hJ=>by
   refine⟨_,Q0l hc,Ite.mk (λh2=>?_) (λh2=>⟨_,Q0l (hn h0),?_⟩)⟩
   ·simp at h2;simpa [h2] using hJ
   ·simp at h2;have e:(kd f (nbr f c d) != 6)=decide (kd f c≠6∨kd f (nbr f c d)≠6):=by rw [h2];by_cases h3:kd f (nbr f c d)=6 <;> simp [h3]
    rw [e];exact hJ
  refine Jn.eq (decide (4≤d∧(kd f c≠6∨kd f (nbr f c d)≠6))) (Ite.mk (λh2=>?_) (λh2=>Ite.mk (λh3=>?_) (λh3=>?_))) (Ite.mk (λh2=>?_) (λh2=>?_))
  ·simp at h2;exact lift (J:=λx=>x=decide (4≤d∧(kd f c≠6∨kd f (nbr f c d)≠6))) (by simp [h2])
  ·simp at h3;exact lift (J:=λx=>x=decide (4≤d∧(kd f c≠6∨kd f (nbr f c d)≠6))) (by simp [h3])
  ·simp at h2 h3;have:¬4≤d:=by omega
   simp [this]
  ·simp only [decide_eq_true_eq] at h2;rw [e,gF h2] at hp;exact hp
  ·simp only [decide_eq_false_iff_not] at h2;rw [e,gC h2] at hp;exact hp
theorem Q4q{xs:List Int}{v:Int}(hl:xs.length≤maxLen){post:Int->Prop}(hp:post (fidx (λx=>v == x) xs)):Xc xs v post:=by
 unfold Xc;have hm:(xs.length:Int)≤9223372036854775807:=by simp [maxLen] at hl;omega
 refine Jn.mk (λ_=>post (-1)) (Loop.find xs (λx=>v == x) (λi x hi hx hpx=>?_) (λi x hi hx hpx hf=>?_) (λhn hf=>?_)) (λ_ h=>h)
 ·refine Ite.t (by simp;omega) ⟨x,Qo rfl hx,Ite.f hpx ?_⟩;rw [K9 (by omega) (by omega)];omega
 ·refine Ite.t (by simp;omega) ⟨x,Qo rfl hx,Ite.t hpx ?_⟩;simpa [fidx,hf] using hp
 ·refine Ite.f (by simp) ?_;simpa [fidx,hf] using hp
theorem KE{xs:List Int}{v:Int}(hl:xs.length≤maxLen){post:Bool->Prop}(hp:post (xs.contains v)):Qv xs v post:=by
 unfold Qv;refine Q4q hl ?_;have:decide (fidx (λx=>v == x) xs≥0)=xs.contains v:=by rw [Zs,List.contains_eq_any_beq]
 rw [this];exact hp
def Asc(xs:List Int):Prop:=∀(i j:Nat) x y,i<j->xs[i]?=some x->xs[j]?=some y->x<y
theorem Q0J{xs:List Int}{t:Int}(hl:xs.length≤maxLen)(ha:Asc xs){post:Int×Bool->Prop}(hp:∀i,post (i,xs.contains t)):KC xs t post:=by
 unfold KC;have hm:(xs.length:Int)≤9223372036854775807:=by simp [maxLen] at hl;omega
 refine Jn.mk (λi:Int=>0≤i∧i≤xs.length∧(∀(j:Nat) x,(j:Int)<i->xs[j]?=some x->x<t)∧(∀(j:Nat) x,i≤(j:Int)->xs[j]?=some x->t≤x))
  (Loop.mk (λs:Int×Int=>0≤s.1∧s.1≤s.2∧s.2≤xs.length∧(∀(j:Nat) x,(j:Int)<s.1->xs[j]?=some x->x<t)∧(∀(j:Nat) x,s.2≤(j:Int)->xs[j]?=some x->t≤x)) (λs=>(s.2-s.1).toNat) ⟨by simp,by simp,by simp,λj x hj=>absurd hj (by simp),λj x hj hx=>?_⟩ ?_) ?_
 ·have:=(gS.1 hx).1;simp at hj;omega
 ·rintro⟨i,j⟩ ⟨h0,h1,h2,h3,h4⟩;simp only at h0 h1 h2 h3 h4;refine Ite.mk (λhlt=>?_) (λhge=>?_)
  ·simp only [decide_eq_true_eq] at hlt;have e:IntKind.wrap .i64 (shrI .u64 (IntKind.wrap .u64 (w64 (i+j))) 1)=(i+j) / 2:=by
    have e1:IntKind.wrap .u64 (w64 (i+j))=i+j:=by simp [w64,IntKind.wrap,IntKind.signed,IntKind.bits];omega
    rw [e1,shrI];have e2:(i+j).fdiv (2 ^ (min (1:Int).toNat IntKind.u64.bits))=(i+j) / 2:=by
     rw [Int.fdiv_eq_ediv_of_nonneg _ (by decide)];rfl
    rw [e2];exact K9 (by omega) (by omega)
   simp only [];rw [e];have hmid:i≤(i+j) / 2∧(i+j) / 2<j:=by omega
   refine⟨_,Q0O (by omega) (by omega),?_⟩;generalize hx:xs[((i+j) / 2).toNat]'(by omega)=x;have hx':xs[((i+j) / 2).toNat]?=some x:=by rw [gE (by omega),hx]
   unfold YB Wz;refine Jn.eq (decide (x<t)) (Ite.f (by simp) rfl) ?_;refine Jn.mk (λs:Int×Int=>s=(if x<t then (i+j) / 2+1 else i,if x<t then j else (i+j) / 2)) (Ite.mk (λh5=>?_) (λh5=>?_)) ?_
   ·simp at h5;simp only [h5,if_true];rw [K9 (by omega) (by omega)]
   ·simp at h5;simp [Int.not_lt.2 h5]
   ·rintro⟨a,b⟩ e3;cases e3;by_cases h5:x<t
    ·simp only [h5,if_true];refine⟨⟨by omega,by omega,by omega,λq y hq hy=>?_,h4⟩,by omega⟩;rcases gH q ((i+j) / 2).toNat with h6 | h6
     ·exact Int.lt_trans (ha _ _ _ _ h6 hy hx') h5
     ·have:q=((i+j) / 2).toNat:=by omega
      subst this;rw [hx'] at hy;cases hy;exact h5
    ·simp only [h5,if_false];refine⟨⟨by omega,by omega,by omega,h3,λq y hq hy=>?_⟩,by omega⟩;rcases gH ((i+j) / 2).toNat q with h6 | h6
     ·have:=ha _ _ _ _ h6 hx' hy;omega
     ·have:q=((i+j) / 2).toNat:=by omega
      subst this;rw [hx'] at hy;cases hy;omega
  ·simp only [decide_eq_false_iff_not] at hge;have:i=j:=by omega
   subst this;exact⟨h0,h2,h3,h4⟩
 ·rintro i ⟨h0,h1,h3,h4⟩;have hc:xs.contains t=true↔∃j:Nat,xs[j]?=some t:=by
   rw [List.contains_iff_mem];exact List.mem_iff_getElem?
  refine Jn.eq (xs.contains t) (Ite.mk (λhlt=>?_) (λhge=>?_)) (hp i)
  ·simp only [decide_eq_true_eq] at hlt;refine⟨_,Q0O h0 hlt,?_⟩;generalize hx:xs[i.toNat]'(by omega)=x;have hx':xs[i.toNat]?=some x:=by rw [gE (by omega),hx]
   refine Ite.mk (λh5=>?_) (λh5=>?_)
   ·simp at h5;subst h5;exact (hc.2 ⟨_,hx'⟩).symm
   ·unfold Gi;refine Ite.f (by simp) ?_;simp at h5;cases hcc:xs.contains t
    ·rfl
    ·obtain⟨j,hj⟩:=hc.1 hcc;exfalso;rcases gH j i.toNat with h6 | h6
     ·have:=h3 j t (by omega) hj;omega
     ·rcases gH i.toNat j with h7 | h7
      ·have:=ha _ _ _ _ h7 hx' hj;have:=h4 i.toNat x (by omega) hx';omega
      ·have:j=i.toNat:=by omega
       subst this;rw [hx'] at hj;cases hj;exact h5 rfl
  ·simp only [decide_eq_false_iff_not] at hge;cases hcc:xs.contains t
   ·rfl
   ·obtain⟨j,hj⟩:=hc.1 hcc;have:=(gS.1 hj).1;have:=h3 j t (by omega) hj;omega
structure RS (s:Q5):Prop where
 fl:RF s.A9
 asc:∀z,z∈s.Au->Asc z.A5
 zc:∀z,z∈s.Au->∀c,c∈z.A5->isC s.A9 c=true
 sp:∀z,z∈s.Au->1≤z.Ap∧z.Ap≤100
def zn(s:Q5)(c:Int):Int:=fidx (λz:K7=>z.A5.contains c) s.Au
def inS(t:Int)(x:Kf):Bool:=decide (x.Aa≤t)&&decide (t<x.To)
def spd(s:Q5)(c:Int):Int:=if zn s c<0 then 1 else (s.Au.getD (zn s c).toNat default).Ap
def opn(s:Q5)(c t:Int):Bool:=isC s.A9 c&&(decide (zn s c<0)||!((s.Au.getD (zn s c).toNat default).Am.any (inS t)))
theorem zn_lt{s:Q5}{c:Int}:-1≤zn s c∧zn s c<s.Au.length:=Q9C
theorem Q8R{s:Q5}{c:Int}(h:0≤zn s c):idx s.Au (zn s c)=some (s.Au.getD (zn s c).toNat default):=by
 have:=zn_lt (s:=s) (c:=c);rw [Q0O h (by omega),gD,gE (by omega)];rfl
theorem Qau{s:Q5}{c:Int}(h:0≤zn s c):s.Au.getD (zn s c).toNat default∈s.Au:=by
 have:=zn_lt (s:=s) (c:=c);rw [gD,gE (by omega)];exact List.getElem_mem _
theorem Q3H{s:Q5}(h:RS s)(c:Int):1≤spd s c∧spd s c≤100:=by
 unfold spd;split
 ·omega
 ·exact h.sp _ (Qau (by omega))
theorem Q1o{s:Q5}(k:QF s)(h:RS s){c:Int}{post:Int->Prop}(hp:post (zn s c)):Wa s c post:=by
 unfold Wa QW;have hl:=k.Au.1;simp only [maxLen] at hl;have step:∀(x:K7),x∈s.Au->∀{post:Bool->Prop},post (x.A5.contains c)->GZ x c post:=λx hx post hp=>by
  unfold GZ;exact Q0J (k.Au.2 x hx).A5.1 (h.asc x hx) (λ_=>hp)
 refine Jn.mk (λ_=>post (-1)) (Loop.find s.Au (λz:K7=>z.A5.contains c) (λi x hi hx hpx=>?_) (λi x hi hx hpx hf=>?_) (λhn hf=>?_)) (λ_ h=>h)
 ·refine Ite.t (by simp;omega) ⟨x,Qo rfl hx,step x (gM hx) (Ite.f hpx ?_)⟩;rw [K9 (by omega) (by omega)];omega
 ·refine Ite.t (by simp;omega) ⟨x,Qo rfl hx,step x (gM hx) (Ite.t hpx ?_)⟩;rw [zn,fidx,hf] at hp;exact hp
 ·refine Ite.f (by simp) ?_;rw [zn,fidx,hf] at hp;exact hp
theorem Q1y{s:Q5}{c:Int}{post:Bool->Prop}(hp:post (isC s.A9 c)):XU s c post:=by
 unfold XU;refine Q0K ?_;have:(decide (c≥0)&&decide (c<(s.A9.Ac.length:Int)))=isC s.A9 c:=rfl;rw [this];exact hp
theorem YV{s:Q5}(k:QF s)(h:RS s){c:Int}{post:Int->Prop}(hp:post (spd s c)):Gg s c post:=by
 unfold Gg;refine Q1o k h (Ite.mk (λh1=>⟨_,Q8R (by simpa using h1),?_⟩) (λh1=>?_))
 ·simp at h1;rw [spd,gC (by omega)] at hp;exact hp
 ·simp at h1;rw [spd,gF (by omega)] at hp;exact hp
theorem Q5R{xs:List Kf}{t:Int}(hl:xs.length≤maxLen){post:Bool->Prop}(hp:post (xs.any (inS t))):QE xs t post:=by
 unfold QE K0;simp only [maxLen] at hl;rw [<-Zs] at hp;have step:∀(x:Kf) {post:Bool->Prop},post (inS t x)->WT x t post:=λx post hp=>by unfold WT;exact Q0K hp
 refine Jn.mk (λ_=>post (decide ((-1:Int)≥0))) (Loop.find xs (inS t) (λi x hi hx hpx=>?_) (λi x hi hx hpx hf=>?_) (λhn hf=>?_)) (λ_ h=>h)
 ·refine Ite.t (by simp;omega) ⟨x,Qo rfl hx,step x (Ite.f hpx ?_)⟩;rw [K9 (by omega) (by omega)];omega
 ·refine Ite.t (by simp;omega) ⟨x,Qo rfl hx,step x (Ite.t hpx ?_)⟩;rw [fidx,hf] at hp;exact hp
 ·refine Ite.f (by simp) ?_;rw [fidx,hf] at hp;exact hp
theorem Q0R{s:Q5}(k:QF s)(h:RS s){c t:Int}{post:Bool->Prop}(hp:post (opn s c t)):Wp s c t post:=by
 unfold Wp;refine Q1o k h ?_;refine Jn.eq (!isC s.A9 c||decide (zn s c<0)) (Q1y (Ite.mk (λh1=>by rw [h1];rfl) (λh1=>by rw [h1];rfl))) (Ite.mk (λh1=>Q1y ?_) (λh1=>?_))
 ·have:opn s c t=isC s.A9 c:=by
   unfold opn;cases hc:isC s.A9 c
   ·rfl
   ·rw [hc] at h1;simp only [Bool.not_true,Bool.false_or] at h1;simp [h1]
  rw [<-this];exact hp
 ·simp only [Bool.or_eq_false_iff,Bool.not_eq_false',decide_eq_false_iff_not,Int.not_lt] at h1;refine⟨_,Q8R h1.2,Q5R (k.Au.2 _ (Qau h1.2)).Am.1 ?_⟩;have:opn s c t=!((s.Au.getD (zn s c).toNat default).Am.any (inS t)):=by
   unfold opn;rw [h1.1,decide_eq_false (Int.not_lt.2 h1.2)];rfl
  rw [<-this];exact hp
def Zz(taken:List G9)(c:Int):List Kf:=(taken.filter λx=>decide (x.A4=c)).map (·.Ao)
def Q63(taken:List G9)(c t:Int):Bool:=(Zz taken c).any (inS t)
theorem Q3r(l:List G9)(x:G9)(c:Int):Zz (l++[x]) c=Zz l c++(if x.A4=c then [x.Ao] else []):=by
 unfold Zz;rw [List.filter_append,List.map_append];by_cases h:x.A4=c <;> simp [h]
theorem Q3q(l:List G9)(c:Int):(Zz l c).length≤l.length:=by
 unfold Zz;rw [List.length_map];exact List.length_filter_le _ _
structure Q8X (s:Q5) (tick:Int) (taken:List G9) (avoid:List Int) (w:WB):Prop where
 Bf:w.Bf=s
 Bh:w.Bh=tick
 Ax:w.Ax=avoid
 Bg:∀c,(lk w.Bg c).getD []=Zz taken c
theorem Q9w{s:Q5}{tick:Int}{taken:List G9}{avoid:List Int}(hl:taken.length≤1099511627776){post:WB->Prop}(hp:∀w,Q8X s tick taken avoid w->post w):Wr s tick taken avoid post:=by
 unfold Wr;refine Jn.mk (λm=>∀c,(lk m c).getD []=Zz taken c) (Loop.mk (λq:List (Int×List Kf)×Int=>0≤q.2∧q.2≤taken.length∧∀c,(lk q.1 c).getD []=Zz (taken.take q.2.toNat) c) (λq=>(taken.length-q.2).toNat)
  ⟨by simp,by simp,λc=>rfl⟩ ?_) (λm hm=>hp _ ⟨rfl,rfl,rfl,hm⟩)
 rintro⟨m,i⟩ ⟨h0,h1,hi⟩;simp only at h0 h1 hi;obtain⟨n,rfl⟩:=Int.eq_ofNat_of_zero_le h0;refine Ite.mk (λhlt=>?_) (λhge=>?_)
 ·simp only [decide_eq_true_eq] at hlt;have hn:n<taken.length:=by omega
  have hx:taken[n]?=some (taken[n]'hn):=gE hn;generalize hxe:taken[n]'hn=x at hx;have e1:taken.take (n+1)=taken.take n++[x]:=by rw [List.take_add_one,hx];rfl
  have e2:w64 ((n:Int)+1)=((n+1:Nat):Int):=by rw [K9 (by omega) (by omega)];omega
  refine⟨x,Qo rfl hx,Jn.mk (λm'=>∀c,(lk m' c).getD []=Zz (taken.take (n+1)) c) ⟨λy hy=>⟨?_,λc=>?_⟩,λhy=>⟨by simp,λc=>?_⟩⟩ (λm' hm'=>?_)⟩
  ·have:=hi x.A4;rw [hy] at this;simp only [Option.getD_some] at this;have h3:=Q3q (taken.take n) x.A4;have h4:(taken.take n).length≤n:=by simp;omega
   rw [this];simp only [Int.toNat_natCast,List.length_cons,List.length_nil] at *;omega
  ·have:=hi x.A4;rw [hy] at this;simp only [Option.getD_some,Int.toNat_natCast] at this;rw [GR,e1,Q3r];by_cases h:x.A4=c
   ·subst h;simp [this]
   ·rw [gC h,gC h,List.append_nil];simpa using hi c
  ·have:=hi x.A4;rw [hy] at this;simp only [Option.getD_none,Int.toNat_natCast] at this;rw [GR,GR,e1,Q3r];by_cases h:x.A4=c
   ·subst h;simp [<-this]
   ·rw [gC h,gC h,gC h,List.append_nil];simpa using hi c
  ·simp only [];rw [e2];exact⟨⟨by omega,by omega,by simpa using hm'⟩,by omega⟩
 ·simp only [decide_eq_false_iff_not] at hge;have:n=taken.length:=by omega
  subst this;intro c;simpa using hi c
theorem Q6A{xs:List Kf}{t:Int}(hl:xs.length≤maxLen){post:Bool->Prop}(hp:post (xs.any (inS t))):QB xs t post:=by
 unfold QB QJ;simp only [maxLen] at hl;rw [<-Zs] at hp;have step:∀(x:Kf) {post:Bool->Prop},post (inS t x)->XZ x t post:=λx post hp=>by unfold XZ;exact Q0K hp
 refine Jn.mk (λ_=>post (decide ((-1:Int)≥0))) (Loop.find xs (inS t) (λi x hi hx hpx=>?_) (λi x hi hx hpx hf=>?_) (λhn hf=>?_)) (λ_ h=>h)
 ·refine Ite.t (by simp;omega) ⟨x,Qo rfl hx,step x (Ite.f hpx ?_)⟩;rw [K9 (by omega) (by omega)];omega
 ·refine Ite.t (by simp;omega) ⟨x,Qo rfl hx,step x (Ite.t hpx ?_)⟩;rw [fidx,hf] at hp;exact hp
 ·refine Ite.f (by simp) ?_;rw [fidx,hf] at hp;exact hp
def Ya(s:Q5)(taken:List G9)(avoid:List Int)(t:Int)(q:Int×Int)(a:Int):(Int×Int)×Int:=
 if a=0 then (if Q63 taken q.1 t=true then ((0,0),15) else ((q.1,imax (q.2-1) 0),0))
 else if q.2>0 then ((0,0),8)
 else if (nx s.A9 q.1 (a-1)).2=false∨avoid.contains (nx s.A9 q.1 (a-1)).1=true then ((0,0),14)
 else if opn s (nx s.A9 q.1 (a-1)).1 t=false then ((0,0),18)
 else if Q63 taken q.1 t=true∨Q63 taken (nx s.A9 q.1 (a-1)).1 t=true then ((0,0),15)
 else (((nx s.A9 q.1 (a-1)).1,spd s (nx s.A9 q.1 (a-1)).1-1),0)
def isQ(s:Q5)(q:Int×Int):Prop:=isC s.A9 q.1=true∧0≤q.2∧q.2<100
theorem Q3d{s:Q5}(h:RS s){taken:List G9}{avoid:List Int}{t:Int}{q:Int×Int}{a:Int}(hq:isQ s q)(he:(Ya s taken avoid t q a).2=0):isQ s (Ya s taken avoid t q a).1:=by
 unfold Ya at he ⊢;split
 ·rename_i h1;rw [gF h1] at he;split
  ·rename_i h2;rw [gF h2] at he;simp at he
  ·refine⟨hq.1,?_,?_⟩ <;> simp only [imax] <;> split <;> have:=hq.2 <;> omega
 ·rename_i h1;rw [gC h1] at he;split
  ·rename_i h2;rw [gF h2] at he;simp at he
  ·rename_i h2;rw [gC h2] at he;split
   ·rename_i h3;rw [gF h3] at he;simp at he
   ·rename_i h3;rw [gC h3] at he;split
    ·rename_i h4;rw [gF h4] at he;simp at he
    ·rename_i h4;rw [gC h4] at he;split
     ·rename_i h5;rw [gF h5] at he;simp at he
     ·simp only [not_or,Bool.not_eq_false] at h3;have hx:=Q4d h.fl h3.1;have:=Q3H h (nx s.A9 q.1 (a-1)).1;exact⟨hx.2.1,by simp only [];omega,by simp only [];omega⟩
section
variable {s:Q5} {tick:Int} {taken:List G9} {avoid:List Int} {w:WB}
theorem Q7S(hw:Q8X s tick taken avoid w)(hl:taken.length≤maxLen)(ht:0≤tick∧tick≤20000){c k:Int}(hk:0≤k∧k≤1000000){post:Bool->Prop}(hp:post (Q63 taken c (tick+k))):KW w c k post:=by
 unfold KW;rw [hw.Bh,hw.Bg,K9 (by omega) (by omega)];exact Q6A (Nat.le_trans (Q3q _ _) hl) hp
theorem Q7l(k:QF s)(h:RS s)(hav:avoid.length≤maxLen)(hw:Q8X s tick taken avoid w)(hl:taken.length≤maxLen)(ht:0≤tick∧tick≤20000){q:Kz}{n a:Int}(hq:isQ s (q.cell,q.Ba))(hn:0≤n∧n≤1000000)(ha:0≤a∧a≤1000)
  {post:Kz×Int->Prop} (hp:post (⟨(Ya s taken avoid (tick+n) (q.cell,q.Ba) a).1.1,(Ya s taken avoid (tick+n) (q.cell,q.Ba) a).1.2⟩,(Ya s taken avoid (tick+n) (q.cell,q.Ba) a).2)):GD w q n a post:=by
 unfold GD;obtain⟨q1,q2,q3⟩:=hq;simp only at q1 q2 q3;unfold Ya at hp;simp only [] at hp;refine Ite.mk (λh1=>?_) (λh1=>?_)
 ·simp at h1;subst h1;simp only [if_true] at hp;refine Q7S hw hl ht hn (Ite.mk (λh2=>?_) (λh2=>?_))
  ·rw [gF h2] at hp;exact hp
  ·rw [gC (by simp [h2])] at hp;rw [K9 (by omega) (by omega)];exact hp
 ·simp at h1;rw [gC h1] at hp;rw [K9 (x:=a-1) (by omega) (by omega),hw.Bf];refine Ww h.fl ?_;generalize nx s.A9 q.cell (a-1)=m at hp ⊢;refine Ite.mk (λh2=>?_) (λh2=>?_)
  ·simp at h2;rw [gF h2] at hp;exact hp
  ·simp at h2;rw [gC (by omega)] at hp;refine Jn.eq (!m.2||avoid.contains m.1) (Ite.mk (λh3=>?_) (λh3=>by rw [h3];rfl)) (Ite.mk (λh3=>?_) (λh3=>?_))
   ·rw [hw.Ax,h3];exact KE hav rfl
   ·simp only [Bool.or_eq_true,Bool.not_eq_true'] at h3;rw [gF h3] at hp;exact hp
   ·simp only [Bool.or_eq_false_iff,Bool.not_eq_false'] at h3;rw [gC (by rw [h3.1,h3.2];decide)] at hp;rw [hw.Bh,K9 (x:=tick+n) (by omega) (by omega)];refine Q0R k h (Ite.mk (λh4=>?_) (λh4=>?_))
    ·simp only [Bool.not_eq_true'] at h4;rw [gF h4] at hp;exact hp
    ·simp only [Bool.not_eq_false'] at h4;rw [gC (by simp [h4])] at hp;refine Jn.eq (Q63 taken q.cell (tick+n)||Q63 taken m.1 (tick+n)) (Q7S hw hl ht hn (Ite.mk (λh5=>by rw [h5];rfl) (λh5=>Q7S hw hl ht hn (by rw [h5];rfl)))) (Ite.mk (λh5=>?_) (λh5=>?_))
     ·simp only [Bool.or_eq_true] at h5;rw [gF h5] at hp;exact hp
     ·simp only [Bool.or_eq_false_iff] at h5;rw [gC (by simp [h5])] at hp;refine YV k h ?_;have:=Q3H h m.1;rw [K9 (by omega) (by omega)];exact hp
end
def Q2O(s:Q5)(a b tick:Int):Bool:=isC s.A9 a&&(kd s.A9 a != 0)&&(isC s.A9 b&&(kd s.A9 b != 0))&&(decide (0≤tick)&&decide (tick≤20000))
def Q4f(s:Q5)(c:Int):Bool:=!(isC s.A9 c&&(kd s.A9 c != 0))
theorem Q5M{s:Q5}(h:RF s.A9){a b tick:Int}{post:Bool->Prop}(hp:post (Q2O s a b tick)):Yf s a b tick post:=by
 unfold Yf;have body:∀(x:Int) {k:Bool->Prop},k (Q4f s x)->Jn (λ(J8:Bool->Prop)=>Ite (decide (x<0)) (J8 true) (Ite (decide (x≥(s.A9.Ac.length:Int))) (J8 true) (∃x11,idx s.A9.Ac x=some x11∧J8 (x11 == 0)))) k:=λx k hk=>by
  refine Jn.eq (Q4f s x) (Ite.mk (λh1=>?_) (λh1=>Ite.mk (λh2=>?_) (λh2=>?_))) hk
  ·simp at h1;unfold Q4f isC;simp;omega
  ·simp at h1 h2;unfold Q4f isC;simp;omega
  ·simp at h1 h2;have hc:isC s.A9 x=true:=XO.2 ⟨h1,h2⟩;refine⟨_,Q0l hc,?_⟩;unfold Q4f;rw [hc];cases e:(kd s.A9 x == 0) <;> simp [bne,e]
 refine Jn.mk (λ_=>Q4f s a=false∧Q4f s b=false) (Loop.find [a,b] (Q4f s) (λi x hi hx hpx=>?_) (λi x hi hx hpx hf=>?_) (λhn hf=>?_)) (λ_ hw=>?_)
 ·refine Ite.t (by simp at hi ⊢;omega) ⟨x,Qo rfl hx,body x (Ite.f hpx ?_)⟩;simp at hi;rw [K9 (by omega) (by omega)];omega
 ·refine Ite.t (by simp at hi ⊢;omega) ⟨x,Qo rfl hx,body x (Ite.t hpx ?_)⟩;have:Q2O s a b tick=false:=by
   have hx2:=gM hx;simp only [List.mem_cons,List.not_mem_nil,or_false] at hx2;unfold Q4f at hpx;unfold Q2O;rcases hx2 with e | e <;> subst e <;> simp only [Bool.not_eq_true'] at hpx <;> rw [hpx] <;> simp
  rw [<-this];exact hp
 ·refine Ite.f (by simp) ⟨hn a (by simp),hn b (by simp)⟩
 ·refine Q0K ?_;have:(decide (tick≥0)&&decide (tick≤20000))=Q2O s a b tick:=by
   obtain⟨h1,h2⟩:=hw;unfold Q4f at h1 h2;simp only [Bool.not_eq_false'] at h1 h2;unfold Q2O;rw [h1,h2];simp
  rw [this];exact hp
def Q08(a:Int):Bool:=decide (a<0)||decide (a≥7)
def runF(s:Q5)(taken:List G9)(avoid:List Int):Int->(Int×Int)->List Int->(Int×Int)×Int
 | _,q,[]=>(q,0)
 | t,q,a :: r=>if (Ya s taken avoid t q a).2=0 then runF s taken avoid (t+1) (Ya s taken avoid t q a).1 r else ((0,0),(Ya s taken avoid t q a).2)
def Q68(s:Q5)(a b tick:Int)(taken:List G9)(avoid acts:List Int):Int:=
 if Q2O s a b tick=false∨acts.any Q08=true then 1
 else if (runF s taken avoid tick (a,0) acts).2≠0 then (runF s taken avoid tick (a,0) acts).2
 else if Q63 taken (runF s taken avoid tick (a,0) acts).1.1 (tick+acts.length)=true then 15
 else if (runF s taken avoid tick (a,0) acts).1.1≠b then 13 else 0
theorem Q92{xs:List Int}(hl:xs.length≤maxLen){post:Bool->Prop}(hp:post (xs.any Q08)):QT xs post:=by
 unfold QT Kl;simp only [maxLen] at hl;rw [<-Zs] at hp;have step:∀(x:Int) {post:Bool->Prop},post (Q08 x)->Wl x post:=λx post hp=>by unfold Wl;exact Jor2 hp
 refine Jn.mk (λ_=>post (decide ((-1:Int)≥0))) (Loop.find xs Q08 (λi x hi hx hpx=>?_) (λi x hi hx hpx hf=>?_) (λhn hf=>?_)) (λ_ h=>h)
 ·refine Ite.t (by simp;omega) ⟨x,Qo rfl hx,step x (Ite.f hpx ?_)⟩;rw [K9 (by omega) (by omega)];omega
 ·refine Ite.t (by simp;omega) ⟨x,Qo rfl hx,step x (Ite.t hpx ?_)⟩;rw [fidx,hf] at hp;exact hp
 ·refine Ite.f (by simp) ?_;rw [fidx,hf] at hp;exact hp
theorem Q5e{s:Q5}{a b tick:Int}{taken:List G9}{avoid acts:List Int}(k:QF s)(h:RS s)(hav:avoid.length≤maxLen)(hl:taken.length≤1099511627776)(hacts:acts.length≤1000000)
  {post:Int->Prop} (hp:post (Q68 s a b tick taken avoid acts)):Yh s a b tick taken avoid acts post:=by
 unfold Yh;have hl':taken.length≤maxLen:=by simp [maxLen];omega
 refine Jn.eq (!Q2O s a b tick||acts.any Q08) (Q5M h.fl (Ite.mk (λh1=>Q92 (by simp [maxLen];omega) (by rw [h1];rfl)) (λh1=>by rw [h1];rfl))) (Ite.mk (λh1=>?_) (λh1=>?_))
 ·simp only [Bool.or_eq_true,Bool.not_eq_true'] at h1;rw [Q68,gF h1] at hp;exact hp
 ·simp only [Bool.or_eq_false_iff,Bool.not_eq_false'] at h1;obtain⟨hr,hf⟩:=h1;rw [Q68,gC (by rw [hr,hf];decide)] at hp;have hr':=hr;simp only [Q2O,gP,decide_eq_true_eq] at hr';have ht:0≤tick∧tick≤20000:=hr'.2;have hfa:∀x,x∈acts->0≤x∧x<7:=λx hx=>by
   have:=List.any_eq_false.1 hf x hx;simp [Q08] at this;omega
  refine Q9w hl (λw hw=>?_);refine Jn.mk (λq=>runF s taken avoid tick (a,0) acts=(q,0)∧isC s.A9 q.1=true) (Loop.mk (λq:Int×Int×Int=>0≤q.2.2∧q.2.2≤acts.length∧isQ s (q.1,q.2.1)∧runF s taken avoid tick (a,0) acts=runF s taken avoid (tick+q.2.2) (q.1,q.2.1) (acts.drop q.2.2.toNat)) (λq=>(acts.length-q.2.2).toNat)
   ⟨by simp,by simp,⟨hr'.1.1.1,by simp,by simp⟩,by simp⟩ ?_) ?_
  ·rintro⟨c,r,i⟩ ⟨h0,h1,hq,he⟩;simp only at h0 h1 hq he;obtain⟨n,rfl⟩:=Int.eq_ofNat_of_zero_le h0;refine Ite.mk (λhlt=>?_) (λhge=>?_)
   ·simp only [decide_eq_true_eq] at hlt;have hn:n<acts.length:=by omega
    have hx:acts[n]?=some (acts[n]'hn):=gE hn;generalize hxe:acts[n]'hn=x at hx;have hd:acts.drop n=x :: acts.drop (n+1):=by rw [List.drop_eq_getElem_cons hn,hxe]
    have hxa:=hfa x (gM hx);simp only [Int.toNat_natCast] at he;rw [hd,runF] at he;refine⟨x,Qo rfl hx,Q7l k h hav hw hl' ht hq ⟨by simp,by simp;omega⟩ (by omega) ?_⟩;refine Ite.mk (λh2=>?_) (λh2=>?_)
    ·simp at h2;rw [gC h2] at he;rw [he] at hp;simp only [ne_eq] at hp;rw [gF h2] at hp;exact hp
    ·simp at h2;rw [gF h2] at he;have e2:w64 ((n:Int)+1)=((n+1:Nat):Int):=by rw [K9 (by omega) (by omega)];omega
     simp only [];rw [e2];refine⟨⟨by omega,by omega,Q3d h hq h2,?_⟩,by omega⟩;rw [he];simp only [Int.toNat_natCast];have e3:tick+(n:Int)+1=tick+((n+1:Nat):Int):=by omega
     rw [e3]
   ·simp only [decide_eq_false_iff_not] at hge;have:n=acts.length:=by omega
    subst this;refine⟨?_,hq.1⟩;rw [he];simp [runF]
  ·rintro⟨c,r⟩ ⟨he,hc⟩;rw [he] at hp;simp only [ne_eq,not_true_eq_false,if_false] at hp;refine Q7S hw hl' ht (by omega) (Ite.mk (λh2=>?_) (λh2=>?_))
   ·rw [gF h2] at hp;exact hp
   ·rw [gC (by simp [h2])] at hp;refine Ite.mk (λh3=>?_) (λh3=>?_)
    ·simp at h3;rw [gF h3] at hp;exact hp
    ·simp at h3;rw [gC (by simp [h3])] at hp;exact hp
theorem Loop.inv{σ:Type}{body:σ->(σ->Prop)->Prop}{s0:σ}(n:Nat)(I:Nat->σ->Prop)(h0:I 0 s0)(hs:∀i s,i<n->I i s->body s (I (i+1)))(he:∀s,I n s->body s (λ_=>False)):Loop body s0:=by
 intro X hX;have key:∀k i,i+k=n->∀s,I i s->X s:=by
  intro k;induction k with
  | zero=>intro i hi s h;have:i=n:=by omega
          subst this;exact hX _ _ (he s h) (λ_ h=>h.elim)
  | succ k ih=>intro i hi s h;exact hX _ _ (hs i s (by omega) h) (λs' e=>ih (i+1) (by omega) s' e)
 exact key n 0 (by omega) s0 h0
theorem Jn.ex{σ α:Type}{P:α->Prop}{A:α->(σ->Prop)->Prop}{k:σ->Prop}(x:α)(hx:P x)(h:Jn (A x) k):Jn (λJ=>∃x,P x∧A x J) k:=by
 obtain⟨J,h1,h2⟩:=h;exact⟨J,h1,x,hx,h2⟩
theorem Yy{i n:Nat}(h:i<n)(hn:n≤maxLen):w64 ((i:Int)+1)=((i+1:Nat):Int):=by
 rw [K9 (by omega) (by simp [maxLen] at hn;omega)];simp
theorem Ite.lt{i n:Int}{A B:Prop}(h:i<n)(k:A):Ite (decide (i<n)) A B:=Ite.t (by simpa using h) k
theorem Ite.nlt{i n:Int}{A B:Prop}(h:¬i<n)(k:B):Ite (decide (i<n)) A B:=Ite.f (by simpa using h) k
theorem Q9o{α:Type}{xs:List α}(hm:xs.length≤maxLen)(p:α->Bool){T:α->(Bool->Prop)->Prop}(hT:∀x,x∈xs->∀{post:Bool->Prop},post (p x)->T x post){A:Int->α->Prop}{B:Prop}
  (hA:∀(i:Nat) x,xs[i]?=some x->p x=true->xs.findIdx? p=some i->A (i:Int) x) (hB:(∀x,x∈xs->p x=false)->xs.findIdx? p=none->B):
  Jn (λ(J:Unit->Prop)=>Loop (λ(s:Int) Y=>Ite (decide (s<(xs.length:Int))) (∃x,idx xs s=some x∧T x (λb=>Ite b (A s x) (Y (w64 (s+1))))) (J ())) 0) (λ_=>B):=by
 refine Jn.mk (λ_=>B) (Loop.find xs p (λi x hi hx hp=>?_) (λi x hi hx hp hf=>?_) (λhn hf=>?_)) (λ_ h=>h)
 ·exact Ite.lt (by omega) ⟨x,Qo rfl hx,hT x (gM hx) (Ite.f hp (Yy hi hm))⟩
 ·exact Ite.lt (by omega) ⟨x,Qo rfl hx,hT x (gM hx) (Ite.t hp (hA i x hx hp hf))⟩
 ·exact Ite.nlt (by omega) (hB hn hf)
theorem Q9U{α:Type}{p:α->Bool}{xs:List α}{i:Nat}(h:xs.findIdx? p=some i):xs.any p=true:=by
 obtain⟨hm,hp,_⟩:=List.findIdx?_eq_some_iff_getElem.1 h;exact List.any_eq_true.2 ⟨_,List.getElem_mem hm,hp⟩
theorem Q9S{α:Type}{p:α->Bool}{xs:List α}(h:∀x,x∈xs->p x=false):xs.any p=false:=by
 rw [List.any_eq_false];intro x hx;simp [h x hx]
section
variable {α:Type} {xs:List α} (hm:xs.length≤maxLen)
include hm
theorem QaD(p:α->Bool){T:α->(Bool->Prop)->Prop}(hT:∀x,x∈xs->∀{post:Bool->Prop},post (p x)->T x post){post:Bool->Prop}(hp:post (xs.any p)):
  Jn (λ(J:Unit->Prop)=>Loop (λ(s:Int) Y=>Ite (decide (s<(xs.length:Int))) (∃x,idx xs s=some x∧T x (λb=>Ite b (post true) (Y (w64 (s+1))))) (J ())) 0) (λ_=>post false):=
 Q9o hm p hT (A:=λ_ _=>post true) (λi x _ _ hf=>by rw [<-Q9U hf];exact hp) (λhn _=>by rw [<-Q9S hn];exact hp)
theorem Z5(p:α->Bool){T:α->(Bool->Prop)->Prop}(hT:∀x,x∈xs->∀{post:Bool->Prop},post (p x)->T x post){post:Int->Prop}(hp:post (fidx p xs)):
  Jn (λ(J:Unit->Prop)=>Loop (λ(s:Int) Y=>Ite (decide (s<(xs.length:Int))) (∃x,idx xs s=some x∧T x (λb=>Ite b (post s) (Y (w64 (s+1))))) (J ())) 0) (λ_=>post (-1)):=
 Q9o hm p hT (A:=λs _=>post s) (λi x _ _ hf=>by rw [fidx,hf] at hp;exact hp) (λhn hf=>by rw [fidx,hf] at hp;exact hp)
theorem Qda{p:α->Bool}{post:Bool->Prop}(hp:post (xs.any p)):
  Jn (λ(J:Unit->Prop)=>Loop (λ(s:Int) Y=>Ite (decide (s<(xs.length:Int))) (∃x,idx xs s=some x∧Ite (p x) (post true) (Y (w64 (s+1)))) (J ())) 0) (λ_=>post false):=
 QaD hm p (T:=λx post=>post (p x)) (λ_ _ _ h=>h) hp
theorem QcH{p:α->Bool}{post:Int->Prop}(hp:post (fidx p xs)):
  Jn (λ(J:Unit->Prop)=>Loop (λ(s:Int) Y=>Ite (decide (s<(xs.length:Int))) (∃x,idx xs s=some x∧Ite (p x) (post s) (Y (w64 (s+1)))) (J ())) 0) (λ_=>post (-1)):=
 Z5 hm p (T:=λx post=>post (p x)) (λ_ _ _ h=>h) hp
end
theorem QaK{α:Type}(xs:List α)(hl:xs.length≤maxLen){most:Int}{T:Int->(Bool->Prop)->Prop}(P:α->Prop){E:Prop}{post:Bool->Prop}(hT:∀(i:Nat) x,idx xs (i:Int)=some x->∀{q:Bool->Prop},q true->(P x->q false)->T (i:Int) q)(hF:post false)(hE:(xs.length≤most->∀x,x∈xs->P x)->E):
  Jn (λ(J2:Unit->Prop)=>Loop (λ(s3:Int) Y4=>Jn (λ(J6:Bool->Prop)=>Ite (decide (s3<(xs.length:Int))) (J6 (decide (s3≤most))) (J6 false)) (λ(x5:Bool)=>Ite x5 (T s3 (λb=>Ite b (post false) (Y4 (w64 (s3+1))))) (J2 ()))) 0) (λ_=>E):=by
 refine Jn.mk (λ_=>xs.length≤most->∀x,x∈xs->P x) (Loop.inv xs.length (λi (t:Int)=>t=(i:Int)∧∀(j:Nat) x,j<i->xs[j]?=some x->P x) ⟨rfl,λj x h=>by omega⟩ (λi t hi h=>?_) (λt h=>?_)) (λ_ h=>hE h)
 ·obtain⟨rfl,h⟩:=h;refine Q0K (Ite.mk (λh1=>?_) (λh1 h2=>?_))
  ·have hx:xs[i]?=some (xs[i]'hi):=gE hi;refine hT i _ (Qo rfl hx) (Ite.t rfl hF) (λhP=>Ite.f rfl ⟨Yy hi hl,λj x hj hxj=>?_⟩);by_cases e:j=i
   ·subst e;rw [hx] at hxj;cases hxj;exact hP
   ·exact h j x (by omega) hxj
  ·simp at h1;omega
 ·obtain⟨rfl,h⟩:=h;refine Q0K (Ite.f (by simp) (λ_ x hx=>?_));obtain⟨j,hj⟩:=gO hx;exact h j x (gS.1 hj).1 hj
theorem sub0{α:Type}{xs:List α}{i:Nat}:sub xs 0 (i:Int)=xs.take i:=by simp [sub]
theorem Q1q{x y:ByteArray}:seq x y=true↔x=y:=by
 unfold seq;rw [beq_iff_eq];constructor
 ·intro h;have:x.data.toList=y.data.toList:=by simpa [ByteArray.toList_eq] using h
  cases x;cases y;simp_all
 ·rintro rfl;rfl
def shAt(l:List K4)(c:Int):Int:=fidx (λx:K4=>x.A4 == c) l
def zAt(l:List K7)(c:Int):Bool:=l.any λz=>z.A5.contains c
def rbAt(l:List QV)(c:Int):Bool:=l.any λx=>x.A4 == c
def Q1h(k:Int):Bool:=(k == 1)||(k == 2)
def Q4N(k:Int):Bool:=(k != 0)&&(k != 4)&&(k != 5)
def nosh(x:ByteArray):Bool:=seq x ByteArray.empty
def apB(l:List Qp)(a b:ByteArray):Bool:=!nosh a&&!nosh b&&l.any λx=>(seq x.A a&&seq x.B b)||(seq x.A b&&seq x.B a)
def YF:Int->List Kf->Prop
 | _,[]=>True
 | t,x :: r=>t≤x.Aa∧x.Aa<x.To∧x.To≤20000∧YF x.To r
def YO(s:Q5)(c:Int):Bool:=Q1h (kd s.A9 c)&&decide (shAt s.Al c<0)
structure Q6c (s:Q5) (before:List K7) (z:K7):Prop where
 named:1≤z.Ag.size∧z.Ag.size≤20
 name:∀y,y∈before->seq y.Ag z.Ag=false
 ne:z.A5≠[]
 sp:1≤z.Ap∧z.Ap≤100
 keep:0≤z.Ab
 spans:YF 0 z.Am
 cell:∀c,c∈z.A5->isC s.A9 c=true∧Q4N (kd s.A9 c)=true∧zAt before c=false
 asc:∀(i:Nat) x y,z.A5[i]?=some x->z.A5[i+1]?=some y->x<y
theorem Qd1{l:List Int}(h:∀(i:Nat) x y,l[i]?=some x->l[i+1]?=some y->x<y):Asc l:=by
 have key:∀(d i:Nat) x y,l[i]?=some x->l[i+d+1]?=some y->x<y:=by
  intro d;induction d with
  | zero=>intro i x y hx hy;exact h i x y hx hy
  | succ d ih=>
   intro i x y hx hy;have hlt:=(gS.1 hy).1;have hz:l[i+d+1]?=some (l[i+d+1]'(by omega)):=gE _;exact Int.lt_trans (ih i x _ hx hz) (h (i+d+1) _ y hz (by rw [<-hy];congr 1))
 intro i j x y hij hx hy;exact key (j-i-1) i x y hx (by rw [<-hy];congr 1;omega)
theorem Q6c.ascL{s:Q5}{b:List K7}{z:K7}(h:Q6c s b z):Asc z.A5:=Qd1 h.asc
def Q5a(s:Q5)(i:Nat)(d:Int):Prop:=∃x y,s.Al[i]?=some x∧0≤nbr s.A9 x.A4 d∧0≤shAt s.Al (nbr s.A9 x.A4 d)∧shAt s.Al (nbr s.A9 x.A4 d)<i∧idx s.Al (shAt s.Al (nbr s.A9 x.A4 d))=some y∧apB s.A3 x.A7 y.A7=true
theorem QbN(l:List K4)(c:Int):-1≤shAt l c∧shAt l c<l.length:=Q9C
structure Q0r (s:Q5):Prop where
 fl:RF s.A9
 z64:s.Au.length≤64
 zone:∀(i:Nat) z,s.Au[i]?=some z->Q6c s (s.Au.take i) z
 sh3:s.Al.length≤3000
 r2:s.Ak.length≤200
 ap:∀(i:Nat) x,s.A3[i]?=some x->1≤x.A.size∧1≤x.B.size∧apB (s.A3.take i) x.A x.B=false
 sh:∀(i:Nat) x,s.Al[i]?=some x->isC s.A9 x.A4=true∧Q1h (kd s.A9 x.A4)=true∧shAt (s.Al.take i) x.A4<0
 rb:∀(i:Nat) x,s.Ak[i]?=some x->isC s.A9 x.A4=true∧0≤x.A6∧x.A6≤1000000∧kd s.A9 x.A4≠0∧rbAt (s.Ak.take i) x.A4=false
 room:∀z,z∈s.Au->z.Ab≤(z.A5.countP (YO s):Nat)
 apart:∀(i:Nat) (d:Int),0≤d->d<4->¬Q5a s i d
 charger:s.A9.Ac.contains 3=true
theorem Q0r.zm{s:Q5}(h:Q0r s){z:K7}(hz:z∈s.Au):∃i:Nat,Q6c s (s.Au.take i) z:=by
 obtain⟨i,hi⟩:=gO hz;exact⟨i,h.zone i z hi⟩
theorem Q0r.rs{s:Q5}(h:Q0r s):RS s where
 fl:=h.fl
 asc z hz:=(h.zm hz).elim λ_ q=>q.ascL
 zc z hz c hc:=(h.zm hz).elim λ_ q=>(q.cell c hc).1
 sp z hz:=(h.zm hz).elim λ_ q=>q.sp
theorem Q7q{f:Qe}{n:Int}{post:Bool->Prop}(hF:post false)(hT:f.Ac.length≤n->f.Ah.length≤n->post true):GJ f n post:=by
 unfold GJ;refine Jn.mk' (Ite.mk (λh1=>?_) (λh1=>hF));simp at h1;cases hb:decide ((f.Ah.length:Int)≤n)
 ·exact hF
 ·exact hT h1 (by simpa using hb)
structure FewS (s:Q5) (cells most:Int):Prop where
 kind:s.A9.Ac.length≤cells
 Bl:s.Au.length≤most
 aparts:s.A3.length≤most
 Be:s.Al.length≤most
 robots:s.Ak.length≤most
 zone:∀z,z∈s.Au->z.A5.length≤cells∧z.Am.length≤20
theorem Q7d{s:Q5}(k:QF s){cells most:Int}(hm:0≤most∧most≤1000000){post:Bool->Prop}(hF:post false)(hT:FewS s cells most->post true):GI s cells most post:=by
 unfold GI;refine QaK s.Au k.Au.1 (T:=λs3 q=>Jn (λ(J10:Bool->Prop)=>∃x11,idx s.Au s3=some x11∧Ite (decide ((x11.A5.length:Int)>cells)) (J10 true) (Ite (decide ((x11.Am.length:Int)>20)) (J10 true) (J10 (decide ((x11.Ag.size:Int)>40))))) q) (λz=>z.A5.length≤cells∧z.Am.length≤20) (λi x hx q q1 q2=>Jn.ex x hx (Jor3 ?_)) hF (λhz=>?_)
 ·cases hb:(decide ((x.A5.length:Int)>cells)||decide ((x.Am.length:Int)>20)||decide ((x.Ag.size:Int)>40))
  ·simp only [Bool.or_eq_false_iff,decide_eq_false_iff_not] at hb;exact q2 ⟨by omega,by omega⟩
  ·exact q1
 refine QaK s.A3 k.A3.1 (T:=λs3 q=>Jn (λ(J10:Bool->Prop)=>∃x11,idx s.A3 s3=some x11∧Ite (decide ((x11.A.size:Int)>40)) (J10 true) (J10 (decide ((x11.B.size:Int)>40)))) q) (λz=>True) (λi x hx q q1 q2=>Jn.ex x hx (Jor2 ?_)) hF (λ_=>?_)
 ·cases hb:(decide ((x.A.size:Int)>40)||decide ((x.B.size:Int)>40))
  ·exact q2 trivial
  ·exact q1
 refine QaK s.Al k.Al.1 (T:=λs3 q=>∃x11,idx s.Al s3=some x11∧q (decide ((x11.A7.size:Int)>40))) (λz=>True) (λi x hx q q1 q2=>⟨x,hx,?_⟩) hF (λ_=>?_)
 ·cases hb:(decide ((x.A7.size:Int)>40))
  ·exact q2 trivial
  ·exact q1
 refine Jn.mk' (Q7q (Ite.f rfl hF) (λf1 f2=>Ite.t rfl (Ite.mk (λh1=>Ite.mk (λh2=>Ite.mk (λh3=>?_) (λ_=>hF)) (λ_=>hF)) (λ_=>hF))));simp at h1 h2 h3;cases hb:decide ((s.Ak.length:Int)≤most)
 ·exact hF
 ·exact hT ⟨f1,h1,h2,h3,by simpa using hb,hz h1⟩
theorem kw{x:Int}(h1:-1000000≤x)(h2:x≤1000000000):w64 x=x:=K9 (by omega) (by omega)
theorem kw1{n:Nat}(h:n≤1000000000):w64 ((n:Int)+1)=((n+1:Nat):Int):=by rw [K9 (by omega) (by omega)];simp
def opC(s:Q5)(c:Int):Bool:=isC s.A9 c&&(kd s.A9 c != 0)
theorem Q0V{s:Q5}{c:Int}{post:Bool->Prop}(hp:post (opC s c)):Wy s c post:=by
 unfold Wy;refine Jn.eq (opC s c) (Ite.mk (λh1=>Ite.mk (λh2=>?_) (λh2=>?_)) (λh1=>?_)) hp
 ·have a1:0≤c:=of_decide_eq_true h1;have a2:c<(s.A9.Ac.length:Int):=of_decide_eq_true h2;have hx:s.A9.Ac[c.toNat]?=some (s.A9.Ac[c.toNat]'(by omega)):=gE _;refine⟨kd s.A9 c,?_,?_⟩
  ·unfold idx kd;rw [gF a1,hx,gD,hx];rfl
  ·simp [opC,isC,a1,a2]
 ·have a2:¬c<(s.A9.Ac.length:Int):=of_decide_eq_false h2;simp [opC,isC,a2]
 ·have a1:¬0≤c:=of_decide_eq_false h1;simp [opC,isC,a1]
def rT(s:Q5):List (Int×Bool)->List (Int×Bool)->List Qu->Bool
 | _,_,[]=>true
 | m1,m2,x :: r=>if (opC s x.Aa&&opC s x.To&&!((lk m1 x.Aa).getD false)&&!((lk m2 x.To).getD false))=true then rT s (upd m1 x.Aa true) (upd m2 x.To true) r else false
def Q1N(s:Q5)(trips:List Qu):Bool:=rT s [] [] trips&&(decide (1≤trips.length)&&decide (trips.length≤4))
theorem Q47{s:Q5}{trips:List Qu}(hl:trips.length≤1000000){post:Bool->Prop}(hp:post (Q1N s trips)):WV s trips post:=by
 unfold WV;refine Jn.mk (λ_=>rT s [] [] trips=true) (Loop.inv trips.length (λi (t:List (Int×Bool)×List (Int×Bool)×Int)=>t.2.2=(i:Int)∧rT s t.1 t.2.1 (trips.drop i)=rT s [] [] trips) ⟨rfl,rfl⟩ (λi t hi hI=>?_) (λt hI=>?_)) (λ_ h=>?_)
 ·obtain⟨m1,m2,c⟩:=t;obtain⟨rfl,hI⟩:=hI;simp only at hI;have hx:trips[i]?=some (trips[i]'hi):=gE hi;have hd:trips.drop i=trips[i]'hi :: trips.drop (i+1):=List.drop_eq_getElem_cons hi;generalize trips[i]'hi=x at hx hd;rw [hd,rT] at hI;refine Ite.lt (by show (i:Int)<_;omega) ⟨x,Qo rfl hx,?_⟩;refine Jn.eq (!(opC s x.Aa&&opC s x.To&&!((lk m1 x.Aa).getD false)&&!((lk m2 x.To).getD false))) (Q0V (Ite.mk (λh1=>Q0V (Ite.mk (λh2=>Ite.mk (λh3=>?_) (λh3=>?_)) (λh2=>?_))) (λh1=>?_))) (Ite.mk (λe=>?_) (λe=>?_))
  ·rw [h1,h2,h3];rfl
  ·rw [h1,h2,h3];simp
  ·rw [h2];simp
  ·rw [h1];simp
  ·simp only [Bool.not_eq_true'] at e;rw [gC (by rw [e];decide)] at hI;have:Q1N s trips=false:=by unfold Q1N;rw [<-hI];rfl
   rw [this] at hp;exact hp
  ·simp only [Bool.not_eq_false'] at e;rw [gF e] at hI;exact⟨by show w64 ((i:Int)+1)=_;rw [kw1 (by omega)],hI⟩
 ·obtain⟨m1,m2,c⟩:=t;obtain⟨rfl,hI⟩:=hI;rw [List.drop_length] at hI;exact Ite.nlt (by show ¬(trips.length:Int)<_;omega) hI.symm
 ·refine Jn.eq (decide (1≤trips.length)&&decide (trips.length≤4)) (Ite.mk (λe=>?_) (λe=>?_)) ?_
  ·have:1≤trips.length:=by have:=of_decide_eq_true e;omega
   simp only [this,decide_true,Bool.true_and];rw [decide_eq_decide];omega
  ·have:¬1≤trips.length:=by have:=of_decide_eq_false e;omega
   simp [this]
  ·unfold Q1N at hp;rw [h] at hp;exact hp
theorem Qcd{s:Q5}:∀{trips:List Qu} {m1 m2:List (Int×Bool)},rT s m1 m2 trips=true->(∀x,x∈trips->opC s x.Aa=true∧opC s x.To=true∧(lk m1 x.Aa).getD false=false∧(lk m2 x.To).getD false=false)∧trips.Pairwise (λx y=>x.Aa≠y.Aa∧x.To≠y.To)
 | [],m1,m2,_=>⟨λx h=>by simp at h,.nil⟩
 | x :: r,m1,m2,h=>by
  rw [rT] at h;split at h
  ·rename_i e;simp only [gP,Bool.not_eq_true'] at e;obtain⟨h1,h2⟩:=Qcd h;refine⟨λy hy=>?_,.cons (λy hy=>?_) h2⟩
   ·rcases List.mem_cons.1 hy with rfl | hy
    ·exact⟨e.1.1.1,e.1.1.2,e.1.2,e.2⟩
    ·obtain⟨a1,a2,a3,a4⟩:=h1 y hy;rw [GR] at a3 a4;refine⟨a1,a2,?_,?_⟩
     ·split at a3
      ·simp at a3
      ·exact a3
     ·split at a4
      ·simp at a4
      ·exact a4
   ·obtain⟨a1,a2,a3,a4⟩:=h1 y hy;rw [GR] at a3 a4;refine⟨λe=>?_,λe=>?_⟩
    ·rw [gF e] at a3;simp at a3
    ·rw [gF e] at a4;simp at a4
  ·cases h
theorem Q3x{s:Q5}{trips:List Qu}(h:Q1N s trips=true):(∀x,x∈trips->opC s x.Aa=true∧opC s x.To=true)∧trips.Pairwise (λx y=>x.Aa≠y.Aa∧x.To≠y.To)∧1≤trips.length∧trips.length≤4:=by
 simp only [Q1N,gP,decide_eq_true_eq] at h;obtain⟨h1,h2⟩:=Qcd h.1;exact⟨λx hx=>⟨(h1 x hx).1,(h1 x hx).2.1⟩,h2,h.2.1,h.2.2⟩
theorem Q3W{c t:Int}:Q63 [] c t=false:=rfl
theorem QbW(a b:Int):imax a b=imax b a:=by simp only [imax];split <;> split <;> omega
def mv1(s:Q5)(avoid:List Int)(t:Int)(q:Q1)(d:Nat):List KV:=
 if ((nx s.A9 q.cell d).2&&(q.Ba == 0)&&opn s (nx s.A9 q.cell d).1 t&&!(avoid.contains (nx s.A9 q.cell d).1))=true
 then [⟨1+(d:Int),⟨(nx s.A9 q.cell d).1,spd s (nx s.A9 q.cell d).1-1,false⟩⟩] else []
def mvs(s:Q5)(avoid:List Int)(t:Int)(q:Q1):List KV:=
 ⟨0,⟨q.cell,imax 0 (q.Ba-1),false⟩⟩ :: ((List.range 6).map (mv1 s avoid t q)).flatten
theorem Q7g{s:Q5}{avoid:List Int}{t:Int}{q:Q1}{d:Nat}:(mv1 s avoid t q d).length≤1:=by
 unfold mv1;split <;> simp
theorem Q3K{p:Qq}(k:QF p.s)(h:RS p.s)(hav:p.Ax.length≤maxLen)(ht:0≤p.Bh∧p.Bh≤20000){q:Q1}(hq:0≤q.Ba∧q.Ba≤1000){n:Nat}(hn:n≤1000){post:List KV->Prop}
  (hp:post (mvs p.s p.Ax (p.Bh+n) q)):Xh p q (n:Int) post:=by
 unfold Xh;have e0:w64 (q.Ba-1)=q.Ba-1:=kw (by omega) (by omega);have e1:w64 (p.Bh+(n:Int))=p.Bh+n:=kw (by omega) (by omega);rw [e0,e1];refine Jn.mk (λl=>l=mvs p.s p.Ax (p.Bh+n) q) (Loop.inv 6 (λi (t:List KV×Int)=>t.2=(i:Int)∧t.1=⟨0,⟨q.cell,imax 0 (q.Ba-1),false⟩⟩ :: ((List.range i).map (mv1 p.s p.Ax (p.Bh+n) q)).flatten∧t.1.length≤i+1) ⟨rfl,rfl,Nat.le_refl _⟩ (λi t hi hI=>?_) (λt hI=>?_)) (λl e=>by subst e;exact hp)
 ·obtain⟨l,c⟩:=t;obtain⟨rfl,hl,hlen⟩:=hI;simp only at hl hlen;refine Ite.t (decide_eq_true (by show (i:Int)<6;omega)) (Ww h.fl ?_);have hr:((List.range (i+1)).map (mv1 p.s p.Ax (p.Bh+n) q)).flatten=((List.range i).map (mv1 p.s p.Ax (p.Bh+n) q)).flatten++mv1 p.s p.Ax (p.Bh+n) q i:=by
   rw [List.range_succ];simp
  have hw:w64 ((i:Int)+1)=((i+1:Nat):Int):=kw1 (by omega);have hsp:=Q3H h (nx p.s.A9 q.cell i).1;refine Jn.eq ((nx p.s.A9 q.cell i).2&&(q.Ba == 0)&&opn p.s (nx p.s.A9 q.cell i).1 (p.Bh+n)&&!(p.Ax.contains (nx p.s.A9 q.cell i).1)) ?_ (Jn.mk (λl'=>l'=l++mv1 p.s p.Ax (p.Bh+n) q i) (Ite.mk (λe=>?_) (λe=>?_)) (λl' e=>?_))
  ·refine Ite.mk (λh1=>Ite.mk (λh2=>Q0R k h (Ite.mk (λh3=>KE hav ?_) (λh3=>?_))) (λh2=>?_)) (λh1=>?_)
   ·rw [h1,h2,h3];simp
   ·rw [h1,h2,h3];simp
   ·rw [h1,h2];simp
   ·rw [h1];simp
  ·refine YV k h ⟨by show l.length+1≤_;omega,?_⟩;have e2:w64 (1+(i:Int))=1+(i:Int):=kw (by omega) (by omega);have e3:w64 (spd p.s (nx p.s.A9 q.cell i).1-1)=spd p.s (nx p.s.A9 q.cell i).1-1:=kw (by omega) (by omega);rw [e2,e3];unfold mv1;rw [gF e]
  ·unfold mv1;rw [gC (by rw [e];decide)];simp
  ·subst e;refine⟨hw,?_,?_⟩
   ·show l++_=_;rw [hr,hl];simp
   ·show (l++_).length≤_;have:=Q7g (s:=p.s) (avoid:=p.Ax) (t:=p.Bh+n) (q:=q) (d:=i);simp;omega
 ·obtain⟨l,c⟩:=t;obtain⟨rfl,hl,hlen⟩:=hI;exact Ite.f (decide_eq_false (by show ¬((6:Nat):Int)<6;omega)) hl
theorem Q26{s:Q5}(h:RS s){avoid:List Int}{t:Int}{q:Q1}(hq:0≤q.Ba){m:KV}(hm:m∈mvs s avoid t q):
  Ya s [] avoid t (q.cell,q.Ba) m.Av=((m.Bi.cell,m.Bi.Ba),0)∧0≤m.Av∧m.Av<7∧m.Bi.B4=false ∧
  (m.Av=0∧m.Bi.cell=q.cell∨1≤m.Av∧nx s.A9 q.cell (m.Av-1)=(m.Bi.cell,true)):=by
 rcases List.mem_cons.1 hm with rfl | hm
 ·refine⟨?_,by simp,by simp,rfl,.inl ⟨rfl,rfl⟩⟩;simp only [Ya,gF,Q3W,Bool.false_eq_true,if_false];rw [QbW]
 ·obtain⟨l,hl,hml⟩:=List.mem_flatten.1 hm;obtain⟨d,hd,rfl⟩:=List.mem_map.1 hl;have hd6:d<6:=by simpa using hd
  unfold mv1 at hml;split at hml
  ·rename_i e;simp only [List.mem_singleton] at hml;subst hml;simp only [gP,beq_iff_eq,Bool.not_eq_true'] at e;obtain⟨⟨⟨e1,e2⟩,e3⟩,e4⟩:=e;have ha:(1:Int)+(d:Int)-1=(d:Int):=by omega
   refine⟨?_,by simp only [];omega,by simp only [];omega,rfl,.inr ⟨by simp only [];omega,?_⟩⟩
   ·simp only [Ya];rw [gC (by omega),gC (by rw [e2];omega),ha,gC (by rw [e1,e4];simp),gC (by rw [e3];simp),gC (by simp [Q3W])]
   ·simp only [ha];rw [Prod.ext_iff];exact⟨rfl,e1⟩
  ·simp at hml
theorem Q9i:∀(n:Nat) (o:List Int),o.Nodup->(∀x,x∈o->0≤x∧x<n)->o.length≤n
 | 0,o,_,h=>by
  cases o with
  | nil=>simp
  | cons x r=>have:=h x (by simp);omega
 | n+1,o,hn,h=>by
  by_cases hm:(n:Int)∈o
  ·have h1:=Q9i n (o.erase n) (hn.erase _) (λx hx=>by
    have h2:=(hn.mem_erase_iff).1 hx;have:=h x h2.2;have:=h2.1;omega)
   rw [List.length_erase_of_mem hm] at h1;omega
  ·have:=Q9i n o hn (λx hx=>by
    have:=h x hx;have:x≠n:=λe=>hm (e▸hx)
    omega)
   omega
theorem QaC{α:Type}(f:α->Int){N:Nat}{xs:List α}(hn:xs.Nodup)(hf:∀x,x∈xs->0≤f x∧f x<N)(hi:∀x,x∈xs->∀y,y∈xs->f x=f y->x=y):xs.length≤N:=by
 have h1:(xs.map f).Nodup:=by
  rw [List.Nodup,List.pairwise_map];exact List.Pairwise.imp_of_mem (λha hb hab e=>hab (hi _ ha _ hb e)) hn
 have:=Q9i N (xs.map f) h1 (λx hx=>by
  obtain⟨y,hy,rfl⟩:=List.mem_map.1 hx;exact hf y hy)
 simpa using this
theorem Q7x{κ α:Type}[DecidableEq κ]{layer:List (κ×α)}(hB:∀ks:List κ,ks.Nodup->(∀x,x∈ks->lk layer x≠none)->ks.length+1≤1099511627776){J:List κ->Prop}(hJ:∀ks:List κ,ks.Nodup->(∀x,x∈ks↔lk layer x≠none)->J ks):
  Loop (λ(s9:List κ×List κ) Y10=>(∀x11 x12,lk layer x11=some x12∧x11∉s9.2->(s9.1.length+([x11]:List κ).length≤1099511627776)∧Y10 ((s9.1++([x11]:List κ)),(x11 :: s9.2)))∧((∀x,lk layer x≠none->x∈s9.2)->J s9.1)) (([],[]):List κ×List κ):=by
 refine Loop.mk (λs=>s.1.Nodup∧(∀x,x∈s.1->lk layer x≠none)∧∀x,x∈s.1↔x∈s.2) (λs=>left layer s.2) ⟨.nil,λx h=>(by simp at h),λx=>Iff.rfl⟩ (λs hI=>?_);obtain⟨ks,seen⟩:=s;obtain⟨h1,h2,h3⟩:=hI;simp only at h1 h2 h3;refine⟨λx v ⟨hx,hns⟩=>⟨hB ks h1 h2,⟨?_,?_,?_⟩,Q5X layer hx hns⟩,λhall=>hJ ks h1 (λx=>⟨h2 x,λh=>(h3 x).2 (hall x h)⟩)⟩
 ·show (ks++[x]).Nodup;rw [List.nodup_append];refine⟨h1,by simp,λa ha b hb=>?_⟩;simp at hb;subst hb;rintro rfl;exact hns ((h3 a).1 ha)
 ·intro y hy;rcases List.mem_append.1 hy with h | h
  ·exact h2 y h
  ·simp at h;subst h;rw [hx];simp
 ·intro y;show y∈ks++[x]↔y∈x :: seen;rw [List.mem_append,List.mem_cons,h3 y];simp [or_comm]
theorem Q4P{xs:List Int}(hl:xs.length≤100000){post:List Int->Prop}(hp:post xs.reverse):Ks xs post:=by
 unfold Ks;have w0:w64 ((xs.length:Int)-1)=(xs.length:Int)-1:=kw (by omega) (by omega);rw [w0];refine Jn.mk (λys=>ys=xs.reverse) (Loop.mk (λ(s:List Int×Int×Int)=>∃a:Nat,s.2.1=(a:Int)∧s.2.2=(xs.length:Int)-1-a∧s.1.length=xs.length∧(2*a≤xs.length+1)∧∀m:Nat,m<xs.length->s.1[m]?=if m<a∨xs.length≤m+a then xs[xs.length-1-m]? else xs[m]?) (λs=>(s.2.2-s.2.1+1).toNat) ⟨0,rfl,by simp,rfl,by omega,λm hm=>by rw [gC (by omega)]⟩ (λs hI=>?_)) (λys e=>by subst e;exact hp);obtain⟨l,i,j⟩:=s;obtain⟨a,h1,h2,h3,h5,h4⟩:=hI;simp only at h1 h2 h3 h4;subst h1;refine Ite.mk (λe=>?_) (λe=>?_)
 ·have e':(a:Int)<j:=of_decide_eq_true e;obtain⟨b,hb⟩:∃b:Nat,j=(b:Int):=⟨j.toNat,by omega⟩;subst hb;have hal:a<xs.length:=by omega
  have hbl:b<xs.length:=by omega
  have ga:l[a]?=some (xs[a]'hal):=by rw [h4 a hal,gC (by omega)];exact gE hal
  have gb:l[b]?=some (xs[b]'hbl):=by rw [h4 b hbl,gC (by omega)];exact gE hbl
  have gc:(l.set a (xs[b]'hbl))[b]?=some (xs[b]'hbl):=by rw [List.getElem?_set_ne (by omega)];exact gb
  have w1:w64 ((a:Int)+1)=((a+1:Nat):Int):=kw1 (by omega);have w2:w64 ((b:Int)-1)=(b:Int)-1:=kw (by omega) (by omega);refine⟨_,Qo rfl gb,_,Qo rfl ga,_,Qo rfl gc,⟨a+1,w1,?_,by simp [h3],by omega,λm hm=>?_⟩,?_⟩
  ·show w64 ((b:Int)-1)=_;rw [w2];omega
  ·show ((l.set a (xs[b]'hbl)).set b (xs[a]'hal))[m]?=_;by_cases c1:m=b
   ·subst c1;rw [List.getElem?_set_self (by simp [h3];omega),gF (by omega),show xs.length-1-m=a by omega];exact (gE hal).symm
   ·rw [List.getElem?_set_ne (λe=>c1 e.symm)];by_cases c2:m=a
    ·subst c2;rw [List.getElem?_set_self (by omega),gF (by omega),show xs.length-1-m=b by omega];exact (gE hbl).symm
    ·rw [List.getElem?_set_ne (λe=>c2 e.symm),h4 m hm];by_cases c3:m<a∨xs.length≤m+a
     ·rw [gF c3,gF (by omega)]
     ·rw [gC c3,gC (by omega)]
  ·show (w64 ((b:Int)-1)-w64 ((a:Int)+1)+1).toNat<((b:Int)-(a:Int)+1).toNat;rw [w1,w2];omega
 ·have e':¬(a:Int)<j:=of_decide_eq_false e;show l=xs.reverse;apply List.ext_getElem?;intro m;by_cases c:m<xs.length
  ·rw [h4 m c,List.getElem?_reverse c];split
   ·rfl
   ·rw [show xs.length-1-m=m by omega]
  ·rw [gN (by omega),gN (by simp;omega)]
def pO(q:Q1):Prop:=0≤q.cell∧q.cell≤100∧0≤q.Ba∧q.Ba≤100
def cfO(a b:Q1):Int:=if a.cell-b.cell≠0 then a.cell-b.cell else a.Ba-b.Ba
theorem swoO:SWOc λx y:Subtype pO=>cfO x.1 y.1:=by
 refine⟨λx=>?_,λx y z=>?_,λx y z=>?_⟩
 ·simp [cfO]
 ·simp only [cfO];repeat' split
  all_goals omega
 ·simp only [cfO];repeat' split
  all_goals omega
theorem Qaz{x y:Int}{post:Int->Prop}(hp:post (if x≠0 then x else y)):WZ [x,y] post:=by
 unfold WZ;have e1:w64 ((0:Int)+1)=1:=by decide
 have e2:w64 ((1:Int)+1)=2:=by decide
 refine Jn.mk' (Loop.step (Ite.t (by simp) ⟨x,rfl,Ite.mk (λh=>?_) (λh=>?_)⟩))
 ·have h:x≠0:=by simpa using h
  rw [gF h] at hp;exact hp
 ·have h:¬x≠0:=by simpa using h
  rw [gC h] at hp;rw [e1];refine Loop.step (Ite.t (by simp) ⟨y,rfl,Ite.mk (λh=>hp) (λh2=>?_)⟩);have h2:y=0:=by simpa using h2
  rw [e2];refine Loop.step (Ite.f (by simp) ?_);subst h2;exact hp
def WW(q:Q1):Int:=(q.cell*101+q.Ba)*2+(if q.B4=true then 1 else 0)
theorem Qa3{q:Q1}(h:pO q):0≤WW q∧WW q<20402:=by
 obtain⟨h1,h2,h3,h4⟩:=h;unfold WW;split <;> omega
theorem Q1P{a b:Q1}(ha:pO a)(hb:pO b)(h:WW a=WW b):a=b:=by
 obtain⟨c,r,d⟩:=a;obtain⟨c',r',d'⟩:=b;obtain⟨h1,h2,h3,h4⟩:=ha;obtain⟨g1,g2,g3,g4⟩:=hb;simp only at h1 h2 h3 h4 g1 g2 g3 g4;simp only [WW] at h;have hd:d=d':=by
  cases d <;> cases d' <;> simp at h ⊢ <;> omega
 subst hd;have hc:c=c':=by split at h <;> omega
 subst hc;have hr:r=r':=by split at h <;> omega
 subst hr;rfl
theorem Q9T{layer:List (Q1×Qw)}(h:∀x,lk layer x≠none->pO x){post:List Q1->Prop}(hp:∀ys:List Q1,ys.length≤20402->(∀x,x∈ys↔lk layer x≠none)->post ys):X8 layer post:=by
 unfold X8;have hB:∀ks:List Q1,ks.Nodup->(∀x,x∈ks->lk layer x≠none)->ks.length≤20402:=λks h1 h2=>
  QaC WW h1 (λx hx=>Qa3 (h x (h2 x hx))) (λx hx y hy e=>Q1P (h x (h2 x hx)) (h y (h2 y hy)) e)
 refine Jn.mk (λks=>ks.Nodup∧∀x,x∈ks↔lk layer x≠none) (Q7x (J:=λks:List Q1=>ks.Nodup∧∀x,x∈ks↔lk layer x≠none) (λks h1 h2=>by have:=hB ks h1 h2;omega) (λks h1 h2=>⟨h1,h2⟩)) (λks ⟨h1,h2⟩=>?_);have hlen:=hB ks h1 (λx hx=>(h2 x).1 hx);refine⟨pO,cfO,⟨by decide,by decide,by decide,by decide⟩,swoO,λx hx=>h x ((h2 x).1 hx),λx y hx hy=>?_,by omega,λys hperm _=>hp ys (by rw [hperm.length_eq];exact hlen) (λx=>by rw [hperm.mem_iff];exact h2 x)⟩;unfold Xj;obtain⟨h1,h2,h3,h4⟩:=hx;obtain⟨g1,g2,g3,g4⟩:=hy;rw [kw (by omega) (by omega),kw (by omega) (by omega)];exact Qaz rfl
def Gw(s:Q5)(avoid:List Int)(t:Int)(q q':Int×Int)(w:List Int):Prop:=runF s [] avoid t q w=(q',0)∧∀a,a∈w->0≤a∧a<7
theorem Gw.nil{s:Q5}{avoid:List Int}{t:Int}{q:Int×Int}:Gw s avoid t q q []:=⟨rfl,λa h=>by simp at h⟩
theorem Gw.cons{s:Q5}{avoid:List Int}{t:Int}{q q1 q':Int×Int}{a:Int}{w:List Int}(hs:Ya s [] avoid t q a=(q1,0))(ha:0≤a∧a<7)(h:Gw s avoid (t+1) q1 q' w):Gw s avoid t q q' (a :: w):=by
 refine⟨?_,λb hb=>?_⟩
 ·rw [runF,hs,gF rfl];exact h.1
 ·rcases List.mem_cons.1 hb with rfl | hb
  ·exact ha
  ·exact h.2 b hb
structure Q60 (s:Q5) (avoid:List Int) (tick most:Int) (x:Qu) (w:List Int):Prop where
 len:(w.length:Int)≤most
 run:∃r,Gw s avoid tick (x.Aa,0) (x.To,r) w
structure Lay (s:Q5) (avoid:List Int) (tick a:Int) (ls:List (List (Q1×Qw))):Prop where
 z:∀l,ls[0]?=some l->∀q,lk l q≠none->q=⟨a,0,false⟩
 s:∀(k:Nat) l l',ls[k]?=some l->ls[k+1]?=some l'->∀q o,lk l' q=some o->lk l o.B5≠none∧(⟨o.Av,q⟩:KV)∈mvs s avoid (tick+k) o.B5
def Nxt(s:Q5)(avoid:List Int)(tick:Int)(k:Nat)(l nxt:List (Q1×Qw)):Prop:=∀q o,lk nxt q=some o->lk l o.B5≠none∧(⟨o.Av,q⟩:KV)∈mvs s avoid (tick+k) o.B5
section
variable {s:Q5} {avoid:List Int} {tick a:Int} {ls:List (List (Q1×Qw))}
theorem Lay.q(h:RS s)(ha:isC s.A9 a=true)(hL:Lay s avoid tick a ls):∀(k:Nat) l,ls[k]?=some l->∀q,lk l q≠none->isQ s (q.cell,q.Ba)∧q.B4=false
 | 0,l,hl,q,hq=>by
  have:=hL.z l hl q hq;subst this;exact⟨⟨ha,by simp,by simp⟩,rfl⟩
 | k+1,l',hl',q,hq=>by
  have hk:k<ls.length:=by have:=(gS.1 hl').1;omega
  have hl:ls[k]?=some (ls[k]'hk):=gE hk;obtain⟨o,ho⟩:∃o,lk l' q=some o:=by
   cases hx:lk l' q with
   | none=>exact absurd hx hq
   | some o=>exact⟨o,rfl⟩
  obtain⟨h1,h2⟩:=hL.s k _ l' hl hl' q o ho;obtain⟨g1,g2⟩:=Lay.q h ha hL k _ hl o.B5 h1;obtain⟨m1,m2,m3,m4,_⟩:=Q26 h g1.2.1 h2;have:=Q3d h g1 (by rw [m1]);rw [m1] at this;exact⟨this,m4⟩
theorem Qar(h60:s.A9.Ac.length≤100){q:Q1}(hq:isQ s (q.cell,q.Ba)):pO q:=by
 obtain⟨h1,h2,h3⟩:=hq;simp only [isC,gP,decide_eq_true_eq] at h1 h2 h3;exact⟨h1.1,by omega,h2,by omega⟩
theorem Lay.push(hL:Lay s avoid tick a ls){k:Nat}{l nxt:List (Q1×Qw)}(hk:ls.length=k+1)(hl:ls[k]?=some l)(hN:Nxt s avoid tick k l nxt):Lay s avoid tick a (ls++[nxt]):=by
 refine⟨λl0 h0=>hL.z l0 (by rw [gL (by omega)] at h0;exact h0),λj l1 l2 h1 h2=>?_⟩;by_cases c:j+1<ls.length
 ·rw [gL (by omega)] at h1;rw [gL c] at h2;exact hL.s j l1 l2 h1 h2
 ·have hj:=(gS.1 h2).1;simp at hj;have:j=k:=by omega
  subst this;rw [gL (by omega)] at h1;rw [hl] at h1;cases h1;rw [gR (by omega),show j+1-ls.length=0 by omega] at h2;simp at h2;subst h2;exact hN
end
theorem Q4A{p:Qq}(k:QF p.s)(h:RS p.s)(h60:p.s.A9.Ac.length≤100)(hav:p.Ax.length≤maxLen)(ht:0≤p.Bh∧p.Bh≤20000)(hm:0≤p.B6∧p.B6≤1000){i:Nat}{x:Qu}(hx:p.Bj[i]?=some x)(hf:isC p.s.A9 x.Aa=true)
  {bans:List (X5×Bool)} {post:List Int×Bool->Prop} (hp1:∀w,Q60 p.s p.Ax p.Bh p.B6 x w->post (w,true)) (hp0:post ([],false)):Xy p (i:Int) bans post:=by
 unfold Xy;refine Jn.mk (λ_=>True) (Loop.mk (λ_=>True) (λs=>left bans s.2) trivial (λst _=>?_)) (λlast _=>?_)
 ·obtain⟨c,seen⟩:=st;refine⟨λb v ⟨hb,hns⟩=>?_,λ_=>trivial⟩;refine Jn.mk (λ_=>True) (Ite.mk (λ_=>⟨x,Qo rfl hx,trivial⟩) (λ_=>trivial)) (λb' _=>Jn.mk (λ_=>True) (Ite.mk (λ_=>trivial) (λ_=>trivial)) (λc' _=>⟨trivial,Q5X bans hb hns⟩))
 ·refine⟨x,Qo rfl hx,?_⟩;obtain⟨n,hn⟩:∃n:Nat,p.B6=(n:Int):=⟨p.B6.toNat,by omega⟩;have h0:Lay p.s p.Ax p.Bh x.Aa [upd ([]:List (Q1×Qw)) ⟨x.Aa,0,false⟩ ⟨⟨0,0,false⟩,0⟩]:=by
   refine⟨λl hl q hq=>?_,λj l l' h1 h2=>?_⟩
   ·simp at hl;subst hl;rw [GR] at hq;split at hq
    ·rename_i e;exact e.symm
    ·exact absurd rfl hq
   ·have:=(gS.1 h2).1;simp at this
  refine Jn.mk (λ_=>True) (Loop.inv (n+1) (λj (t:List (List (Q1×Qw))×Int)=>t.2=(j:Int)∧t.1.length=j+1∧Lay p.s p.Ax p.Bh x.Aa t.1) ⟨rfl,rfl,h0⟩ (λj t hj hI=>?_) (λt hI=>?_)) (λ_ _=>hp0)
  ·obtain⟨ls,c⟩:=t;obtain⟨rfl,hlen,hL⟩:=hI;simp only at hlen hL;refine Ite.t (decide_eq_true (by show (j:Int)≤_;omega)) ?_;obtain⟨l,hl⟩:∃l,ls[j]?=some l:=⟨_,gE (by omega)⟩;have hset:ls.set (Int.toNat (j:Int)) l=ls:=Q45 (Qo rfl hl);refine Jn.mk (λls'=>ls'.length=j+2∧Lay p.s p.Ax p.Bh x.Aa ls') ⟨l,Qo rfl hl,Q9T (λq hq=>Qar h60 (hL.q h hf j l hl q hq).1) (λys hys hmem=>?_)⟩ (λls' ⟨h1,h2⟩=>⟨by show w64 ((j:Int)+1)=_;rw [kw1 (by omega)],h1,h2⟩);refine Jn.mk (λnxt=>Nxt p.s p.Ax p.Bh j l nxt) (Loop.inv ys.length (λm (t:List (Q1×Qw)×Int)=>t.2=(m:Int)∧Nxt p.s p.Ax p.Bh j l t.1) ⟨rfl,λq o ho=>by cases ho⟩ (λm t hm' hI=>?_) (λt hI=>?_)) (λnxt hN=>?_)
   ·obtain⟨nxt,c⟩:=t;obtain⟨rfl,hN⟩:=hI;simp only at hN;have hy:ys[m]?=some (ys[m]'hm'):=gE hm';generalize ys[m]'hm'=q at hy;have hq:lk l q≠none:=(hmem q).1 (gM hy);obtain⟨hqQ,hqd⟩:=hL.q h hf j l hl q hq;refine Ite.lt (by show (m:Int)<_;omega) (Jn.mk (λnxt'=>Nxt p.s p.Ax p.Bh j l nxt') ⟨q,Qo rfl hy,?_⟩ (λnxt' hN'=>⟨by show w64 ((m:Int)+1)=_;rw [kw1 (by omega)],hN'⟩));refine Jn.mk (λb=>b=true->q.cell=x.To) ⟨x,Qo rfl hx,Ite.mk (λe=>λ_=>by simpa using e) (λe=>λh=>by cases h)⟩ (λb hb=>Ite.mk (λe=>?_) (λe=>?_))
    ·-- the goal: back along the origins
     subst e;have hto:=hb rfl;refine Jn.mk (λw=>w.length=j∧∃r,Gw p.s p.Ax p.Bh (x.Aa,0) (x.To,r) w.reverse) (Loop.mk (λ(t:List (List (Q1×Qw))×Int×Int×Int×Bool×List Int)=>∃(i:Nat) (li:List (Q1×Qw)),t.1=ls∧t.2.1=(i:Int)∧ls[i]?=some li∧lk li ⟨t.2.2.1,t.2.2.2.1,t.2.2.2.2.1⟩≠none∧t.2.2.2.2.2.length+i=j∧∃r,Gw p.s p.Ax (p.Bh+i) (t.2.2.1,t.2.2.2.1) (x.To,r) t.2.2.2.2.2.reverse)
      (λt=>t.2.1.toNat) ⟨j,l,hset,rfl,hl,hq,by simp,q.Ba,by rw [<-hto];exact .nil⟩ (λt hI=>?_)) (λw ⟨hwl,r,hw⟩=>Q4P (by omega) (hp1 _ ⟨by rw [List.length_reverse];omega,r,hw⟩))
     obtain⟨ls',c,cc,cr,cd,acts⟩:=t;obtain⟨i,li,e1,e2,e3,e4,e5,r,hw⟩:=hI;simp only at e1 e2 e4 e5 hw;subst e1;subst e2;refine Ite.mk (λe=>?_) (λe=>?_)
     ·have hi:0<i:=by have h9:(i:Int)>0:=of_decide_eq_true e;omega
      obtain⟨i',rfl⟩:∃i',i=i'+1:=⟨i-1,by omega⟩;obtain⟨li',hli'⟩:∃li',ls'[i']?=some li':=⟨_,gE (by omega)⟩;obtain⟨o,ho⟩:∃o,lk li ⟨cc,cr,cd⟩=some o:=by
       cases hx:lk li ⟨cc,cr,cd⟩ with
       | none=>exact absurd hx e4
       | some o=>exact⟨o,rfl⟩
      obtain⟨g1,g2⟩:=hL.s i' li' li hli' e3 _ o ho;obtain⟨g3,g4⟩:=hL.q h hf i' li' hli' o.B5 g1;obtain⟨m1,m2,m3,m4,_⟩:=Q26 h g3.2.1 g2;simp only at m1 m2 m3;refine⟨li,Qo rfl e3,by show acts.length+1≤_;omega,?_⟩;rw [ho];simp only [Option.getD_some];refine⟨⟨i',li',Q45 (Qo rfl e3),?_,hli',g1,by simp;omega,r,?_⟩,?_⟩
      ·show w64 (((i'+1:Nat):Int)-1)=_;rw [kw (by omega) (by omega)];omega
      ·show Gw p.s p.Ax (p.Bh+i') (o.B5.cell,o.B5.Ba) (x.To,r) (acts++[o.Av]).reverse;rw [List.reverse_append];refine .cons m1 ⟨m2,m3⟩ ?_;rw [Int.add_assoc,show (i':Int)+1=((i'+1:Nat):Int) by omega];exact hw
      ·show (w64 (((i'+1:Nat):Int)-1)).toNat<(((i'+1:Nat):Int)).toNat;rw [kw (by omega) (by omega)];omega
     ·have hi:i=0:=by have h9:¬(i:Int)>0:=of_decide_eq_false e;omega
      subst hi;refine⟨by simpa using e5,r,?_⟩;have:=hL.z li e3 _ e4;simp only [Q1.mk.injEq] at this;obtain⟨rfl,rfl,_⟩:=this;simpa using hw
    ·refine Ite.mk (λ_=>hN) (λ_=>Q3K k h hav ht ⟨hqQ.2.1,by have:=hqQ.2.2;simp only at this;omega⟩ (by omega) ?_);have hml:(mvs p.s p.Ax (p.Bh+j) q).length≤1000:=by
      unfold mvs;have:(((List.range 6).map (mv1 p.s p.Ax (p.Bh+j) q)).flatten).length≤6*1:=by
       rw [List.length_flatten];simp only [List.map_map];have key:∀l:List Nat,(l.map (List.length ∘ mv1 p.s p.Ax (p.Bh+j) q)).sum≤l.length*1:=λl=>by
        induction l with
        | nil=>simp
        | cons d l ih=>
         have:=Q7g (s:=p.s) (avoid:=p.Ax) (t:=p.Bh+j) (q:=q) (d:=d);simp only [List.map_cons,List.sum_cons,Function.comp,List.length_cons] at ih ⊢;omega
       have:=key (List.range 6);simpa using this
      simp only [List.length_cons];omega
     refine Jn.mk (λnxt'=>Nxt p.s p.Ax p.Bh j l nxt') (Loop.inv (mvs p.s p.Ax (p.Bh+j) q).length (λm (t:List (Q1×Qw)×Int)=>t.2=(m:Int)∧Nxt p.s p.Ax p.Bh j l t.1) ⟨rfl,hN⟩ (λm t hm'' hI=>?_) (λt hI=>?_)) (λ_ h=>h)
     ·obtain⟨nxt',c⟩:=t;obtain⟨rfl,hN'⟩:=hI;simp only at hN';have hmv:(mvs p.s p.Ax (p.Bh+j) q)[m]?=some ((mvs p.s p.Ax (p.Bh+j) q)[m]'hm''):=gE hm'';generalize (mvs p.s p.Ax (p.Bh+j) q)[m]'hm''=mv at hmv;refine Ite.lt (by show (m:Int)<_;omega) ⟨mv,Qo rfl hmv,?_⟩;refine Jn.mk (λ_=>True) (Ite.mk (λ_=>trivial) (λ_=>trivial)) (λb _=>Jn.mk (λnxt''=>Nxt p.s p.Ax p.Bh j l nxt'') (Ite.mk (λ_=>?_) (λ_=>hN')) (λnxt'' h'=>⟨by show w64 ((m:Int)+1)=_;rw [kw1 (by omega)],h'⟩));intro q' o ho;rw [GR] at ho;split at ho
      ·rename_i e;subst e;cases ho;exact⟨hq,gM hmv⟩
      ·exact hN' q' o ho
     ·obtain⟨nxt',c⟩:=t;obtain⟨rfl,hN'⟩:=hI;exact Ite.nlt (by show ¬((_:Nat):Int)<_;omega) hN'
   ·obtain⟨nxt,c⟩:=t;obtain⟨rfl,hN⟩:=hI;exact Ite.nlt (by show ¬(ys.length:Int)<_;omega) hN
   ·rw [hset];have e1:(ls++[nxt]).set ls.length nxt=ls++[nxt]:=by simp
    rw [e1];exact⟨by omega,by simp [hlen],hL.push hlen hl hN⟩
  ·obtain⟨ls,c⟩:=t;obtain⟨rfl,_,_⟩:=hI;exact Ite.f (decide_eq_false (by show ¬((n+1:Nat):Int)≤_;omega)) trivial
def gI(l:List Int)(c:Int):Int:=l.getD c.toNat (-1)
def okc(f:Qe)(l:List Int)(c:Int):Prop:=isC f c=true∧kd f c≠0∧c∉l
section
variable {f:Qe} {mv:Int->Int->Int×Bool} {src l out queue:List Int} {opn:List Bool} {K:Nat}
end
section
variable {f:Qe}
end
theorem XE{α τ:Type}{xs:List α}(hm:xs.length≤maxLen)(ix:τ->Int)(I:Nat->τ->Prop){t0:τ}(hi0:ix t0=0)(h0:I 0 t0){R:α->τ->(τ->Prop)->Prop}{E:τ->Prop}
  (hs:∀(i:Nat) x t,xs[i]?=some x->ix t=(i:Int)->I i t->R x t (λt'=>ix t'=w64 ((i:Int)+1)∧I (i+1) t'))
  (he:∀t,I xs.length t->E t):
  Loop (λt Y=>Ite (decide (ix t<(xs.length:Int))) (∃x,idx xs (ix t)=some x∧R x t Y) (E t)) t0:=by
 refine Loop.inv xs.length (λi t=>ix t=(i:Int)∧I i t) ⟨by simpa using hi0,h0⟩ (λi t hi h=>?_) (λt h=>?_)
 ·have hx:xs[i]?=some (xs[i]'hi):=gE hi;refine Ite.lt (by omega) ⟨_,by rw [h.1];exact Qo rfl hx,?_⟩;have:=hs i _ t hx h.1 h.2;rw [Yy hi hm] at this;exact this
 ·exact Ite.nlt (by omega) (he t h.2)
theorem Q7r{α τ:Type}{xs:List α}(hm:xs.length≤maxLen)(ix:τ->Int)(I:Nat->τ->Prop){t0:τ}(hi0:ix t0=0)(h0:I 0 t0){R:τ->(τ->Prop)->Prop}{E:τ->Prop}
  (hs:∀(i:Nat) x t,xs[i]?=some x->ix t=(i:Int)->I i t->R t (λt'=>ix t'=w64 ((i:Int)+1)∧I (i+1) t'))
  (he:∀t,I xs.length t->E t):
  Loop (λt Y=>Ite (decide (ix t<(xs.length:Int))) (R t Y) (E t)) t0:=by
 refine Loop.inv xs.length (λi t=>ix t=(i:Int)∧I i t) ⟨by simpa using hi0,h0⟩ (λi t hi h=>?_) (λt h=>?_)
 ·have hx:xs[i]?=some (xs[i]'hi):=gE hi;refine Ite.lt (by omega) ?_;have:=hs i _ t hx h.1 h.2;rw [Yy hi hm] at this;exact this
 ·exact Ite.nlt (by omega) (he t h.2)
theorem Each.inv{α σ:Type}{body:α->σ->(σ->Prop)->Prop}{k:σ->Prop}:∀(ys:List α) (I:Nat->σ->Prop) {s0:σ},I 0 s0->(∀(i:Nat) x s,ys[i]?=some x->I i s->∀Y:σ->Prop,(∀s',I (i+1) s'->Y s')->body x s Y)->(∀s,I ys.length s->k s)->Each body k ys s0
 | [],I,s0,h0,_,he=>he _ h0
 | y :: ys,I,s0,h0,hs,he=>hs 0 y s0 rfl h0 _ λs' h'=>Each.inv ys (λi=>I (i+1)) h' (λi x s hx hI Y hY=>hs (i+1) x s (by simpa using hx) hI Y hY) (λs h=>he s h)
theorem Q7R{τ:Type}(n:Nat)(ix:τ->Int)(I:Nat->τ->Prop){t0:τ}(hn:n≤maxLen)(hi0:ix t0=0)(h0:I 0 t0){R:τ->(τ->Prop)->Prop}{E:τ->Prop}
  (hs:∀(i:Nat) t,i<n->ix t=(i:Int)->I i t->R t (λt'=>ix t'=w64 ((i:Int)+1)∧I (i+1) t'))
  (he:∀t,I n t->E t):
  Loop (λt Y=>Ite (decide (ix t<(n:Int))) (R t Y) (E t)) t0:=by
 refine Loop.inv n (λi t=>ix t=(i:Int)∧I i t) ⟨by simpa using hi0,h0⟩ (λi t hi h=>?_) (λt h=>?_)
 ·refine Ite.lt (by omega) ?_;have:=hs i t hi h.1 h.2;rw [Yy hi hn] at this;exact this
 ·exact Ite.nlt (by omega) (he t h.2)
def fnat(p:Nat->Bool)(n:Nat):Int:=match (List.range n).find? p with | some i=>i | none=>-1
theorem Q6F{p:Nat->Bool}{n i:Nat}(hi:i<n)(hp:p i=true)(hb:∀j,j<i->p j=false):fnat p n=i:=by
 unfold fnat;have:(List.range n).find? p=some i:=by
  rw [List.find?_eq_some_iff_getElem];refine⟨hp,i,by simpa using hi,by simp,λj hj=>?_⟩;simp [hb j hj]
 rw [this]
theorem Q6h{p:Nat->Bool}{n:Nat}(h:∀i,i<n->p i=false):fnat p n=-1:=by
 unfold fnat;have:(List.range n).find? p=none:=by
  rw [List.find?_eq_none];intro x hx;simp at hx;simp [h x hx]
 rw [this]
theorem ZX(p:Nat->Bool)(n:Nat):(∃i:Nat,i<n∧fnat p n=i∧p i=true∧∀j,j<i->p j=false)∨(fnat p n=-1∧∀i,i<n->p i=false):=by
 cases h:(List.range n).find? p with
 | none=>
  refine .inr ?_;have h':∀i,i<n->p i=false:=λi hi=>by
   have:=List.find?_eq_none.1 h i (by simpa using hi);simpa using this
  exact⟨Q6h h',h'⟩
 | some i=>
  refine .inl ⟨i,?_⟩;have hp:p i=true:=List.find?_some h;have hlt:i<n:=by have:=List.mem_of_find?_eq_some h;simpa using this
  have hb':∀j,j<i->p j=false:=by
   rw [List.find?_eq_some_iff_getElem] at h;obtain⟨_,k,hk,hki,hall⟩:=h;simp at hki;subst hki;intro j hj;have:=hall j hj;simpa using this
  exact⟨hlt,Q6F hlt hp hb',hp,hb'⟩
theorem Wb{α:Type}(p:α->Bool)(xs:List α):(∃(i:Nat) (x:α),xs[i]?=some x∧fidx p xs=i∧p x=true∧∀(j:Nat) (y:α),j<i->xs[j]?=some y->p y=false)∨(fidx p xs=-1∧∀x,x∈xs->p x=false):=by
 unfold fidx;cases h:xs.findIdx? p with
 | none=>
  refine .inr ⟨rfl,λx hx=>?_⟩;rw [List.findIdx?_eq_none_iff] at h;exact h x hx
 | some i=>
  obtain⟨hlt,hp,hb⟩:=List.findIdx?_eq_some_iff_getElem.1 h;refine .inl ⟨i,xs[i],gE hlt,rfl,hp,λj y hj hy=>?_⟩;have:=hb j hj;have hyj:=(gS.1 hy).2;rw [<-hyj];simpa using this
theorem Kt{α:Type}{xs:List α}{i:Nat}{x:α}(h:xs[i]?=some x):xs.take (i+1)=xs.take i++[x]:=by
 rw [List.take_add_one,h];rfl
theorem Q6I{α:Type}{xs:List α}(hm:xs.length≤maxLen)(z0:α)(p:α->Bool){T:α->(Bool->Prop)->Prop}(hT:∀x,x∈xs->∀{q:Bool->Prop},q (p x)->T x q){post:List α->Prop}(hp:post (xs.filter λx=>!p x)):
  Ite (fidx p xs == (-1)) (post xs) (Jn (λ(J:(List α×Int)->Prop)=>Loop (λ(s:List α×Int×Int) Y=>Ite (decide (s.2.2<(s.1.length:Int)))
   (∃x,idx s.1 s.2.2=some x∧T x (λb=>Jn (λ(J27:(List α×Int)->Prop)=>Ite (!b) (∃y,idx s.1 s.2.1=some y∧J27 ((s.1.set (Int.toNat s.2.1) x),w64 (s.2.1+1))) (J27 (s.1,s.2.1))) (λ(x26:List α×Int)=>Y (x26.1,x26.2,w64 (s.2.2+1)))))
   (J (s.1,s.2.1))) (xs,fidx p xs,w64 (fidx p xs+1)))
   (λ(x:List α×Int)=>(0≤x.2∧x.2≤(x.1.length:Int)∧(x.1.length:Int)≤(x.1.length:Int))∧((Int.toNat x.2)+(Int.toNat ((x.1.length:Int)-x.2))≤x.1.length) ∧
    (0≤(0:Int)∧(0:Int)≤x.2∧x.2≤((x.1.take (Int.toNat x.2)++(List.replicate (Int.toNat ((x.1.length:Int)-x.2)) z0++x.1.drop ((Int.toNat x.2)+(Int.toNat ((x.1.length:Int)-x.2))))).length:Int)) ∧
    post (sub (x.1.take (Int.toNat x.2)++(List.replicate (Int.toNat ((x.1.length:Int)-x.2)) z0++x.1.drop ((Int.toNat x.2)+(Int.toNat ((x.1.length:Int)-x.2))))) 0 x.2))):=by
 rcases Wb p xs with ⟨i0,x0,hx0,e,hp0,hb0⟩ | ⟨e,hb⟩
 ·rw [e];have hi0:=(gS.1 hx0).1;refine Ite.f (beq_eq_false_iff_ne.2 (by omega)) ?_;rw [Yy hi0 hm];have hfirst:(xs.take (i0+1)).filter (λx=>!p x)=xs.take i0:=by
   rw [Kt hx0,List.filter_append];have h1:(xs.take i0).filter (λx=>!p x)=xs.take i0:=by
    rw [List.filter_eq_self];intro y hy;obtain⟨j,hj⟩:=gO hy;have hlt:j<i0:=by have:=(gS.1 hj).1;simp at this;omega
    rw [List.getElem?_take,gF hlt] at hj;simp [hb0 j y hlt hj]
   rw [h1];simp [List.filter_cons,hp0]
  refine Jn.mk (λx:List α×Int=>x.1.length=xs.length∧∃i:Nat,x.2=(i:Int)∧i≤xs.length∧x.1.take i=xs.filter λx=>!p x)
   (Loop.mk (λt:List α×Int×Int=>t.1.length=xs.length∧∃i j:Nat,t.2.1=(i:Int)∧t.2.2=(j:Int)∧i<j∧j≤xs.length∧t.1.take i=(xs.take j).filter (λx=>!p x)∧∀q,j≤q->t.1[q]?=xs[q]?) (λt=>xs.length-t.2.2.toNat) ⟨rfl,i0,i0+1,rfl,rfl,by omega,by omega,hfirst.symm,λ_ _=>rfl⟩ ?_) ?_
  ·rintro⟨l,ti,tj⟩ ⟨hl,i,j,h1,h2,hij,hj,htk,hrest⟩;simp only at hl h1 h2 htk hrest;subst h1;subst h2;refine Ite.mk (λh=>?_) (λh=>?_)
   ·simp [hl] at h;have hx:xs[j]?=some (xs[j]'h):=gE h;refine⟨xs[j]'h,by rw [Q8G,hrest j (Nat.le_refl _),hx],hT _ (List.getElem_mem h) ?_⟩;have hli:l[i]?=some (l[i]'(by omega)):=gE (by omega);refine Jn.mk (λx:List α×Int=>x.1.length=xs.length∧∃i':Nat,x.2=(i':Int)∧i'<j+1∧x.1.take i'=(xs.take (j+1)).filter (λx=>!p x)∧∀q,j+1≤q->x.1[q]?=xs[q]?) (Ite.mk (λhd=>⟨l[i]'(by omega),Qo rfl hli,?_⟩) (λhd=>?_)) ?_
    ·refine⟨by simp [hl],i+1,by simp only;rw [Yy (by omega:i<xs.length) hm],by omega,?_,λq hq=>?_⟩
     ·have:(i:Int).toNat=i:=by omega
      simp only [this];rw [Kt hx,List.filter_append,<-htk];have hs:(l.set i (xs[j]'h))[i]?=some (xs[j]'h):=by rw [List.getElem?_set_self (by omega)]
      rw [Kt hs,List.take_set_of_le (Nat.le_refl _)];simp [List.filter_cons,hd]
     ·have:(i:Int).toNat=i:=by omega
      simp only [this];rw [List.getElem?_set_ne (by omega)];exact hrest q (by omega)
    ·refine⟨hl,i,rfl,by omega,?_,λq hq=>hrest q (by omega)⟩;simp only;rw [Kt hx,List.filter_append,<-htk];simp at hd;simp [List.filter_cons,hd]
    ·rintro⟨l',ti'⟩ ⟨hl',i',h1',hij',htk',hrest'⟩;simp only at hl' h1' htk' hrest' ⊢;subst h1';refine⟨⟨hl',i',j+1,rfl,Yy (by omega:j<xs.length) hm,by omega,by omega,htk',hrest'⟩,?_⟩;rw [Yy (by omega:j<xs.length) hm];have e1:((j+1:Nat):Int).toNat=j+1:=by omega
     have e2:((j:Nat):Int).toNat=j:=by omega
     rw [e1,e2];omega
   ·simp [hl] at h;have:j=xs.length:=by omega
    subst this;exact⟨hl,i,rfl,by omega,by rw [List.take_length] at htk;exact htk⟩
  ·rintro⟨l,ti⟩ ⟨hl,i,h1,hi,htk⟩;simp only at hl h1 htk ⊢;subst h1;have e1:(i:Int).toNat=i:=by omega
   have e2:((l.length:Int)-(i:Int)).toNat=l.length-i:=by omega
   rw [e1,e2];refine⟨⟨by omega,by omega,by omega⟩,by omega,⟨by omega,by omega,by simp;omega⟩,?_⟩;rw [sub0,List.take_append_of_le_length (by simp;omega),List.take_take,Nat.min_self,htk];exact hp
 ·rw [e];refine Ite.t (by decide) ?_;have:xs.filter (λx=>!p x)=xs:=by
   rw [List.filter_eq_self];intro x hx;simp [hb x hx]
  rw [this] at hp;exact hp
theorem Q9x{x y k:Int}:imax x y>k↔x>k∨y>k:=by unfold imax;split <;> omega
theorem Q5K{f:Qe}{post:Bool->Prop}(hF:post false)(hT:RF f->post true):GX f post:=by
 unfold GX;refine Jor3 (Ite.mk (λ_=>hF) (λh1=>?_));simp only [Bool.or_eq_false_iff,decide_eq_false_iff_not,Q59,Q9x] at h1;obtain⟨⟨a1,a2⟩,a3⟩:=h1;have e:=Q5A (f:=f) (by omega) (by omega) (by omega) (by omega) (by omega) (by omega);unfold GS;rw [e.1];refine Jor3 (Ite.mk (λ_=>hF) (λh2=>?_));simp only [Bool.or_eq_false_iff,decide_eq_false_iff_not,bne_eq_false_iff_eq] at h2;obtain⟨⟨b1,b2⟩,b3⟩:=h2;have hl:f.Ac.length≤maxLen:=by unfold maxLen;omega
 refine Jn.mk (λ_=>∀(i:Nat) x y,f.Ac[i]?=some x->f.Ah[i]?=some y->0≤x∧x<7∧0≤y∧y≤63)
  (XE hl (λs=>s) (λn _=>∀(i:Nat) x y,i<n->f.Ac[i]?=some x->f.Ah[i]?=some y->0≤x∧x<7∧0≤y∧y≤63) rfl (λi x y h=>by omega) (λn x t hx ht hall=>?_) (λt h i x y hx hy=>h i x y (gS.1 hx).1 hx hy)) (λ_ h=>hT ?_)
 ·have hn:=(gS.1 hx).1;have ho:f.Ah[n]?=some (f.Ah[n]'(by omega)):=gE _;refine Jn.eq (decide (x<0)||decide (x≥7)||decide (f.Ah[n]'(by omega)<0)||decide (f.Ah[n]'(by omega)>63)) ?_ ?_
  ·refine Ite.mk (λh=>by rw [h];rfl) (λh=>Ite.mk (λh'=>by rw [h,h'];rfl) (λh'=>⟨_,by rw [ht];exact Qo rfl ho,Ite.mk (λh''=>by rw [h,h',h''];rfl) (λh''=>by rw [h,h',h''];rfl)⟩))
  ·refine Ite.mk (λ_=>hF) (λh3=>⟨by rw [ht],λi x' y' hi hx' hy'=>?_⟩);simp only [Bool.or_eq_false_iff,decide_eq_false_iff_not] at h3;by_cases e:i=n
   ·subst e;rw [hx] at hx';rw [ho] at hy';cases hx';cases hy';omega
   ·exact hall i x' y' (by omega) hx' hy'
 ·exact⟨by omega,by omega,by omega,by omega,by omega,by omega,by omega,by omega,by omega,h⟩
def Q8h(x:ByteArray):Bool:=decide ((x.size:Int)<1)||decide ((x.size:Int)>20)||(decide (((x.data.toList.headD 0).toNat:Int)≥48)&&decide (((x.data.toList.headD 0).toNat:Int)≤57))
def Qca:ByteArray:=ByteArray.mk #[97,98,99,100,101,102,103,104,105,106,107,108,109,110,111,112,113,114,115,116,117,118,119,120,121,122,65,66,67,68,69,70,71,72,73,74,75,76,77,78,79,80,81,82,83,84,85,86,87,88,89,90,48,49,50,51,52,53,54,55,56,57,95,45]
def nmB(x:ByteArray):Bool:=!Q8h x&&!(x.data.toList.any λc=>decide (Q46 Qca (c.toNat:Int)<0))
theorem Qat{x:ByteArray}(h:nmB x=true):1≤x.size∧x.size≤20:=by
 unfold nmB Q8h at h;simp only [gP,Bool.not_eq_true',Bool.or_eq_false_iff,decide_eq_false_iff_not] at h;omega
theorem Wd{x:ByteArray}{post:Bool->Prop}(hx:OkS x)(hp:post (nmB x)):XP x post:=by
 unfold XP;have hl:x.data.toList.length=x.size:=Array.length_toList;have hm:x.data.toList.length≤maxLen:=by rw [hl];exact hx
 refine Jn.eq (Q8h x) (Ite.mk (λh1=>?_) (λh1=>Ite.mk (λh2=>?_) (λh2=>?_))) (Ite.mk (λh=>?_) (λh=>?_))
 ·unfold Q8h;rw [h1];rfl
 ·unfold Q8h;rw [h1,h2];rfl
 ·have hx0:x.data.toList[0]?=some (x.data.toList[0]'(by simp at h1;omega)):=gE _;have hh:x.data.toList.headD 0=x.data.toList[0]'(by simp at h1;omega):=by rw [List.headD_eq_head?_getD,List.head?_eq_getElem?,hx0];rfl
  unfold Q8h;rw [h1,h2,hh];exact⟨_,Qo rfl hx0,Ite.mk (λh3=>by rw [h3];rfl) (λh3=>by rw [h3];rfl)⟩
 ·unfold nmB at hp;rw [h] at hp;exact hp
 ·unfold nmB at hp;rw [h] at hp;rw [show ((x.size:Nat):Int)=((x.data.toList.length:Nat):Int) by rw [hl]];exact Qda hm (p:=λc:UInt8=>decide (Q46 Qca (c.toNat:Int)<0)) (post:=λb=>post (!b)) (by simpa using hp)
theorem Q0a{x:ByteArray}{post:Bool->Prop}(hx:OkS x)(hF:post false)(hT:1≤x.size->x.size≤20->nmB x=true->post true):XP x post:=Wd hx (by
 cases h:nmB x with
 | false=>exact hF
 | true=>exact hT (Qat h).1 (Qat h).2 h)
theorem Zg{n a b:Int}{post:Bool->Prop}(hp:post (decide (a≤n)&&decide (n≤b))):G6 n a b post:=by
 unfold G6;exact Q0K hp
theorem Q1w{k:Int}{post:Bool->Prop}(hp:post (Q4N k)):WO k post:=by
 unfold WO;exact Qdm hp
theorem Z6{k:Int}{post:Bool->Prop}(hp:post (Q1h k)):GE k post:=by
 unfold GE;exact Jor2 hp
theorem Xo{m:Qc}{c:Int}{post:Int×Bool->Prop}(hp:post (if isC m.Bf.A9 c=true then (kd m.Bf.A9 c,true) else (0,false))):Ky m c post:=by
 unfold Ky;refine Jor2 (Ite.mk (λh=>?_) (λh=>?_))
 ·have:isC m.Bf.A9 c=false:=by rw [Q7f];simp at h;omega
  rw [gC (by simp [this])] at hp;exact hp
 ·have:isC m.Bf.A9 c=true:=by rw [XO];simp at h;omega
  rw [gF this] at hp;exact⟨_,Q0l this,hp⟩
theorem Q5V{l:List Kf}(hm:l.length≤maxLen){post:Bool->Prop}(hF:post false)(hT:YF 0 l->post true):GV l post:=by
 unfold GV;refine Jn.mk (λ_=>YF 0 l) (XE hm (λs:Int×Int=>s.2) (λn (s:Int×Int)=>YF s.1 (l.drop n)->YF 0 l) rfl (λh=>h) (λn x t hx ht hI=>?_) (λt h=>h (by rw [List.drop_length];trivial))) (λ_ h=>hT h);have hd:l.drop n=x :: l.drop (n+1):=by
  obtain⟨hlt,he⟩:=gS.1 hx;rw [List.drop_eq_getElem_cons hlt,he]
 refine Jor3 (Ite.mk (λ_=>hF) (λh=>⟨by rw [ht],λh'=>hI ?_⟩));simp only [Bool.or_eq_false_iff,decide_eq_false_iff_not] at h;rw [hd];exact⟨by omega,by omega,by omega,h'⟩
theorem Q4t{m:Qc}{l:List Int}(hm:l.length≤maxLen){post:Bool->Prop}(hF:post false)
  (hT:l≠[]->(∀c,c∈l->isC m.Bf.A9 c=true)->(∀(i:Nat) x y,l[i]?=some x->l[i+1]?=some y->x<y)->post true):KO m l post:=by
 unfold KO;refine Jn.mk (λ_=>(∀c,c∈l->isC m.Bf.A9 c=true)∧∀(i:Nat) x y,l[i]?=some x->l[i+1]?=some y->x<y)
  (XE hm (λs=>s) (λn _=>(∀(i:Nat) c,i<n->l[i]?=some c->isC m.Bf.A9 c=true)∧∀(i:Nat) x y,i+1<n->l[i]?=some x->l[i+1]?=some y->x<y) rfl ⟨λi c h=>by omega,λi x y h=>by omega⟩ (λn c t hc ht hI=>?_) (λt h=>?_)) (λ_ h=>?_)
 ·refine Xo ?_;refine Jn.mk (λb=>b=false->isC m.Bf.A9 c=true∧∀x,0<n->l[n-1]?=some x->x<c) ?_ (λb hb=>Ite.mk (λ_=>hF) (λhb'=>⟨by rw [ht],?_,?_⟩))
  ·by_cases hcc:isC m.Bf.A9 c=true
   ·rw [gF hcc];refine Ite.t rfl (Ite.mk (λh=>?_) (λh=>λ_=>⟨hcc,λx h0=>?_⟩))
    ·simp at h;have hn:=(gS.1 hc).1;have hx:l[n-1]?=some (l[n-1]'(by omega)):=gE _;refine⟨l[n-1]'(by omega),?_,λh'=>⟨hcc,λx h0 hx'=>?_⟩⟩
     ·have e1:w64 (t-1)=((n-1:Nat):Int):=by rw [ht,K9 (by omega) (by unfold maxLen at hm;omega)];omega
      rw [e1];exact Qo rfl hx
     ·rw [hx] at hx';cases hx';simp at h';exact h'
    ·simp at h;omega
   ·rw [gC hcc];exact Ite.f rfl (λh=>by cases h)
  ·intro i x hi hx;by_cases e:i=n
   ·subst e;rw [hc] at hx;cases hx;exact (hb hb').1
   ·exact hI.1 i x (by omega) hx
  ·intro i x y hi hx hy;by_cases e:i+1=n
   ·subst e;rw [hc] at hy;cases hy;exact (hb hb').2 x (by omega) (by simpa using hx)
   ·exact hI.2 i x y (by omega) hx hy
 ·refine⟨λc hc=>?_,λi x y hx hy=>h.2 i x y (gS.1 hy).1 hx hy⟩;obtain⟨i,hi⟩:=gO hc;exact h.1 i c (gS.1 hi).1 hi
 ·cases l with
  | nil=>simpa using hF
  | cons a r=>exact hT (by simp) h.1 h.2 |> λh=>by simpa using h
structure MInv (s:Q5) (nz na ns nr:Nat) (m:Qc):Prop where
 fl:m.Bf.A9=s.A9
 zs:m.Bf.Au=s.Au.take nz
 aps:m.Bf.A3=s.A3.take na
 sh:m.Bf.Al=s.Al.take ns
 rs:m.Bf.Ak=s.Ak.take nr
 B7:∀n,(lk m.B7 n).isSome=(s.Au.take nz).any λz=>seq z.Ag n
 Bk:∀c,(lk m.Bk c).getD false=zAt (s.Au.take nz) c
 Bc:∀c,lk m.Bc c=if 0≤shAt (s.Al.take ns) c then some (shAt (s.Al.take ns) c) else none
 Bb:∀c,(lk m.Bb c).getD false=rbAt (s.Ak.take nr) c
theorem Q9j(l:List K7)(z:K7)(c:Int):zAt (l++[z]) c=(zAt l c||z.A5.contains c):=by simp [zAt]
theorem Q33{s:Q5}(k:QF s){n:Nat}{m:Qc}(hI:MInv s n 0 0 0 m){z:K7}(hz:s.Au[n]?=some z){post:Int×Qc->Prop}(hE:∀e,e≠0->post (e,m))
  (hT:n<64->(∀y,y∈s.Au.take n->seq y.Ag z.Ag=false)->(∀c,c∈z.A5->isC s.A9 c=true∧Q4N (kd s.A9 c)=true∧zAt (s.Au.take n) c=false)->∀m',MInv s (n+1) 0 0 0 m'->post (0,m')):
  Kq z m post:=by
 have kz:=k.Au.2 z (gM hz);have hn:=(gS.1 hz).1;unfold Kq;refine Ite.mk (λ_=>hE 5 (by decide)) (λh1=>Ite.mk (λ_=>hE 6 (by decide)) (λh2=>?_));rw [hI.B7] at h1;have hlen:m.Bf.Au.length=n:=by rw [hI.zs];simp;omega
 rw [hlen] at h2;simp at h2;refine Jn.mk (λ_=>∀c,c∈z.A5->isC s.A9 c=true∧Q4N (kd s.A9 c)=true∧zAt (s.Au.take n) c=false)
  (XE kz.A5.1 (λt=>t) (λi _=>∀(j:Nat) c,j<i->z.A5[j]?=some c->isC s.A9 c=true∧Q4N (kd s.A9 c)=true∧zAt (s.Au.take n) c=false) rfl (λj c h=>by omega) (λi c t hc ht hall=>?_) (λt h c hc=>?_)) (λ_ hall=>?_)
 ·refine Xo ?_;rw [hI.fl];refine Jn.mk (λb=>b=false->isC s.A9 c=true∧Q4N (kd s.A9 c)=true∧zAt (s.Au.take n) c=false) (Q1w ?_) (λb hb=>Ite.mk (λ_=>hE 13 (by decide)) (λhb'=>⟨by rw [ht],λj c' hj hc'=>?_⟩))
  ·by_cases hcc:isC s.A9 c=true
   ·rw [gF hcc];refine Ite.mk (λh=>?_) (λ_ h=>by cases h);rw [hI.Bk];exact λh'=>⟨hcc,h,h'⟩
   ·rw [gC hcc];exact Ite.f (by decide) (λh=>by cases h)
  ·by_cases e:j=i
   ·subst e;rw [hc] at hc';cases hc';exact hb hb'
   ·exact hall j c' (by omega) hc'
 ·obtain⟨j,hj⟩:=gO hc;exact h j c (gS.1 hj).1 hj
 ·refine Jn.mk (λzm=>∀c,(lk zm c).getD false=(zAt (s.Au.take n) c||z.A5.contains c))
   (XE kz.A5.1 (λt:List (Int×Bool)×Int=>t.2) (λi t=>∀c,(lk t.1 c).getD false=(zAt (s.Au.take n) c||(z.A5.take i).contains c)) rfl (λc=>by simp [hI.Bk]) (λi x t hx ht h=>⟨by rw [ht],λc=>?_⟩) (λt h c=>by have:=h c;rwa [List.take_length] at this)) (λzm hzm=>⟨by rw [hlen];simp;omega,?_⟩)
  ·rw [GR,Kt hx];by_cases e:x=c
   ·subst e;simp
   ·rw [gC e,h c];simp [show ¬c=x from λh=>e h.symm]
  ·refine hT (by omega) (λy hy=>?_) hall _ ⟨hI.fl,?_,hI.aps,hI.sh,hI.rs,λnm=>?_,λc=>?_,hI.Bc,hI.Bb⟩
   ·exact Bool.eq_false_iff.2 (List.any_eq_false.1 h1 y hy)
   ·show m.Bf.Au++[z]=_;rw [hI.zs,Kt hz]
   ·show (lk (upd m.B7 z.Ag _) nm).isSome=_;rw [GR,Kt hz,List.any_append];by_cases e:z.Ag=nm
    ·rw [gF e];simp [Q1q.2 e]
    ·rw [gC e,hI.B7];have:seq z.Ag nm=false:=by rw [Bool.eq_false_iff];exact λh=>e (Q1q.1 h)
     simp [this]
   ·show (lk zm c).getD false=_;rw [hzm c,Kt hz,Q9j]
theorem Qcf{α:Type}(l:List α)(p q:α->Bool):(l.any λx=>p x||q x)=(l.any p||l.any q):=by
 induction l with
 | nil=>rfl
 | cons x l ih=>simp only [List.any_cons,ih];cases p x <;> cases q x <;> simp
theorem Q0k{l:List Qp}(hm:l.length≤maxLen){v:Qp}{post:Bool->Prop}(hp:post (l.any λx=>seq x.A v.A&&seq x.B v.B)):QY l v post:=by
 unfold QY KD;have e:(λx:Qp=>seq v.A x.A&&(seq v.B x.B&&true))=λx=>seq x.A v.A&&seq x.B v.B:=by
  funext x;have c:∀a b,seq a b=seq b a:=λa b=>by rw [Bool.eq_iff_iff,Q1q,Q1q];exact eq_comm
  rw [Bool.and_true,c v.A,c v.B]
 refine QcH hm (p:=λx:Qp=>seq v.A x.A&&(seq v.B x.B&&true)) ?_;rw [Zs,e];exact hp
theorem ZE{l:List Qp}(hm:l.length≤maxLen){a b:ByteArray}{post:Bool->Prop}(hp:post (apB l a b)):W9 l a b post:=by
 unfold W9;refine Jor2 (Ite.mk (λh=>?_) (λh=>?_))
 ·have:apB l a b=false:=by
   unfold apB nosh;cases h1:seq a ByteArray.empty <;> simp_all
  rw [this] at hp;exact hp
 ·have e:apB l a b=((l.any λx=>seq x.A a&&seq x.B b)||(l.any λx=>seq x.A b&&seq x.B a)):=by
   simp only [Bool.or_eq_false_iff] at h;have h1:nosh a=false:=h.1;have h2:nosh b=false:=h.2;unfold apB;rw [h1,h2];simp only [Bool.not_false,Bool.true_and];exact Qcf l _ _
  refine Jn.mk' (Q0k hm (Ite.mk (λh1=>?_) (λh1=>Q0k hm ?_)))
  ·rw [e,h1] at hp;exact hp
  ·rw [e,h1] at hp;exact hp
theorem Q2K{s:Q5}(k:QF s)(hf:s.A3.length≤1000000){nz n:Nat}{m:Qc}(hI:MInv s nz n 0 0 m){x:Qp}(hx:s.A3[n]?=some x){post:Int×Qc->Prop}(hE:∀e,e≠0->post (e,m))
  (hT:1≤x.A.size∧1≤x.B.size∧apB (s.A3.take n) x.A x.B=false->nmB x.A=true∧nmB x.B=true->∀m',MInv s nz (n+1) 0 0 m'->post (0,m')):Kj x m post:=by
 have kx:=k.A3.2 x (gM hx);have hn:=(gS.1 hx).1;have hm:(s.A3.take n).length≤maxLen:=Nat.le_trans (by simp;omega) k.A3.1;unfold Kj;refine Jn.mk (λb=>b=false->(1≤x.A.size∧1≤x.B.size)∧nmB x.A=true∧nmB x.B=true) (Q0a kx.A (Ite.f rfl (λh=>by cases h)) (λa1 a2 a3=>Ite.t rfl (Q0a kx.B (λh=>by cases h) (λb1 b2 b3 _=>⟨⟨a1,b1⟩,a3,b3⟩)))) (λb hb=>Ite.mk (λ_=>hE 12 (by decide)) (λhb'=>?_));obtain⟨⟨a1,b1⟩,hnm⟩:=hb hb';rw [hI.aps];refine ZE hm (Ite.mk (λ_=>hE 5 (by decide)) (λh=>⟨by simp;omega,hT ⟨a1,b1,h⟩ hnm _ ⟨hI.fl,hI.zs,?_,hI.sh,hI.rs,hI.B7,hI.Bk,hI.Bc,hI.Bb⟩⟩));show s.A3.take n++[x]=_;rw [Kt hx]
theorem Q7Y(l:List K4)(x:K4)(c:Int):shAt (l++[x]) c=if 0≤shAt l c then shAt l c else if x.A4=c then l.length else -1:=by
 unfold shAt;rcases Wb (λy:K4=>y.A4 == c) l with ⟨i,y,hy,e,hp,hb⟩ | ⟨e,hb⟩
 ·rw [e,gF (by omega)];have hlt:=(gS.1 hy).1;rcases Wb (λy:K4=>y.A4 == c) (l++[x]) with ⟨i',y',hy',e',hp',hb'⟩ | ⟨e',hb'⟩
  ·rw [e'];have h1:¬i<i':=λh=>by
    have:=hb' i y h (by rw [gL hlt];exact hy);rw [hp] at this;cases this
   have h2:¬i'<i:=λh=>by
    have:=hb i' y' h (by rw [gL (by omega)] at hy';exact hy');rw [hp'] at this;cases this
   omega
  ·have:=hb' y (List.mem_append_left _ (gM hy));rw [hp] at this;cases this
 ·rw [e,gC (by omega)];by_cases hc:x.A4=c
  ·rw [gF hc];rcases Wb (λy:K4=>y.A4 == c) (l++[x]) with ⟨i',y',hy',e',hp',hb'⟩ | ⟨e',hb'⟩
   ·rw [e'];have:i'=l.length:=by
     rcases gH i' l.length with h | h
     ·rw [gL h] at hy';have:=hb y' (gM hy');rw [hp'] at this;cases this
     ·have:=(gS.1 hy').1;simp at this;omega
    rw [this]
   ·have:=hb' x (by simp);simp [hc] at this
  ·rw [gC hc];rcases Wb (λy:K4=>y.A4 == c) (l++[x]) with ⟨i',y',hy',e',hp',hb'⟩ | ⟨e',hb'⟩
   ·rcases List.mem_append.1 (gM hy') with h | h
    ·have:=hb y' h;rw [hp'] at this;cases this
    ·simp at h;subst h;simp [hc] at hp'
   ·exact e'
theorem Q2f{s:Q5}(k:QF s)(hs:s.Al.length≤1000000){nz na n:Nat}{m:Qc}(hI:MInv s nz na n 0 m){x:K4}(hx:s.Al[n]?=some x){post:Int×Qc->Prop}(hE:∀e,e≠0->post (e,m))
  (hT:n<3000->isC s.A9 x.A4=true∧Q1h (kd s.A9 x.A4)=true∧shAt (s.Al.take n) x.A4<0->(seq x.A7 ByteArray.empty||nmB x.A7)=true->∀m',MInv s nz na (n+1) 0 m'->post (0,m')):Ki x m post:=by
 have kx:=k.Al.2 x (gM hx);have hn:=(gS.1 hx).1;have hlen:m.Bf.Al.length=n:=by rw [hI.sh];simp;omega
 unfold Ki;refine Jn.mk (λb=>b=!(seq x.A7 ByteArray.empty||nmB x.A7)) (Ite.mk (λh=>by rw [h];rfl) (λh=>Wd kx.A7 (by rw [h];rfl))) (λb hb=>Ite.mk (λ_=>hE 12 (by decide)) (λhb'=>Xo ?_));have hnm:(seq x.A7 ByteArray.empty||nmB x.A7)=true:=by rw [hb'] at hb;have:=hb.symm;rwa [Bool.not_eq_false'] at this
 rw [hI.fl];by_cases hc:isC s.A9 x.A4=true
 ·rw [gF hc];refine Ite.f rfl (Z6 (Ite.mk (λ_=>hE 13 (by decide)) (λh1=>Ite.mk (λ_=>hE 5 (by decide)) (λh2=>Ite.mk (λ_=>hE 6 (by decide)) (λh3=>?_)))));rw [hlen] at h3 ⊢;rw [hI.Bc] at h2;have h2':shAt (s.Al.take n) x.A4<0:=by
   by_cases h:0≤shAt (s.Al.take n) x.A4
   ·rw [gF h] at h2;cases h2
   ·omega
  simp at h1 h3;refine⟨by simp;omega,hT (by omega) ⟨hc,h1,h2'⟩ hnm _ ⟨rfl,hI.zs,hI.aps,?_,hI.rs,hI.B7,hI.Bk,λc=>?_,hI.Bb⟩⟩
  ·show m.Bf.Al++[x]=_;rw [hI.sh,Kt hx]
  ·show lk (upd m.Bc x.A4 (n:Int)) c=_;rw [GR,Kt hx,Q7Y];have hl:(s.Al.take n).length=n:=by simp;omega
   by_cases e:x.A4=c
   ·subst e;have e0:¬0≤shAt (s.Al.take n) x.A4:=by omega
    simp only [gC e0,if_true,hl];rw [gF (by omega)]
   ·rw [gC e,gC e,hI.Bc c];by_cases h:0≤shAt (s.Al.take n) c
    ·rw [gF h,gF h,gF h]
    ·rw [gC h,gC h,gC (by omega)]
 ·rw [gC hc];exact Ite.t rfl (hE 3 (by decide))
theorem Q7H(l:List QV)(x:QV)(c:Int):rbAt (l++[x]) c=(rbAt l c||x.A4 == c):=by simp [rbAt]
theorem Q2M{s:Q5}(k:QF s)(hs:s.Ak.length≤1000000){nz na ns n:Nat}{m:Qc}(hI:MInv s nz na ns n m){x:QV}(hx:s.Ak[n]?=some x){post:Int×Qc->Prop}(hE:∀e,e≠0->post (e,m))
  (hT:n<200->isC s.A9 x.A4=true∧0≤x.A6∧x.A6≤1000000∧kd s.A9 x.A4≠0∧rbAt (s.Ak.take n) x.A4=false->∀m',MInv s nz na ns (n+1) m'->post (0,m')):Kh x m post:=by
 have hn:=(gS.1 hx).1;have hlen:m.Bf.Ak.length=n:=by rw [hI.rs];simp;omega
 unfold Kh;refine Xo ?_;rw [hI.fl];by_cases hc:isC s.A9 x.A4=true
 ·rw [gF hc];refine Jn.mk (λb=>b=false->0≤x.A6∧x.A6≤1000000) (Ite.t rfl (Zg (λh=>by simp at h;omega))) (λb hb=>Ite.mk (λ_=>hE 3 (by decide)) (λhb'=>Ite.mk (λ_=>hE 13 (by decide)) (λh1=>Ite.mk (λ_=>hE 5 (by decide)) (λh2=>Ite.mk (λ_=>hE 6 (by decide)) (λh3=>?_)))));rw [hlen] at h3 ⊢;rw [hI.Bb] at h2;simp at h1 h3;refine⟨by simp;omega,hT (by omega) ⟨hc,(hb hb').1,(hb hb').2,h1,h2⟩ _ ⟨rfl,hI.zs,hI.aps,hI.sh,?_,hI.B7,hI.Bk,hI.Bc,λc=>?_⟩⟩
  ·show m.Bf.Ak++[x]=_;rw [hI.rs,Kt hx]
  ·show (lk (upd m.Bb x.A4 true) c).getD false=_;rw [GR,Kt hx,Q7H];by_cases e:x.A4=c
   ·rw [gF e];simp [e]
   ·rw [gC e,hI.Bb];simp [e]
 ·rw [gC hc];exact Jn.mk (λb=>b=true) (Ite.f rfl rfl) (λb hb=>Ite.t hb (hE 3 (by decide)))
abbrev MAll(s:Q5)(m:Qc):Prop:=MInv s s.Au.length s.A3.length s.Al.length s.Ak.length m
section
variable {s:Q5} {m:Qc}
theorem MInv.zs'(h:MAll s m):m.Bf.Au=s.Au:=by rw [h.zs,List.take_length]
theorem MInv.as'(h:MAll s m):m.Bf.A3=s.A3:=by rw [h.aps,List.take_length]
theorem MInv.sh'(h:MAll s m):m.Bf.Al=s.Al:=by rw [h.sh,List.take_length]
theorem MInv.shelf'(h:MAll s m)(c:Int):lk m.Bc c=if 0≤shAt s.Al c then some (shAt s.Al c) else none:=by
 have:=h.Bc c;rwa [List.take_length] at this
theorem Qb3{l:List K4}{f:Qe}(hc:∀x,x∈l->isC f x.A4=true){c:Int}(h:0≤shAt l c):0≤c:=by
 unfold shAt at h;rcases Wb (λy:K4=>y.A4 == c) l with ⟨i,y,hy,e,hp,_⟩ | ⟨e,_⟩
 ·have:=(XO.1 (hc y (gM hy))).1;rw [<-eq_of_beq hp];exact this
 ·rw [e] at h;omega
theorem Q0E(k:QF s)(hf:RF s.A9)(h:MAll s m)(hc:∀x,x∈s.Al->isC s.A9 x.A4=true){post:Int->Prop}(hF:∀i:Nat,i<s.Al.length->(∃d:Int,0≤d∧d<4∧Q5a s i d)->post (i:Int))
  (hT:(∀(i:Nat) (d:Int),0≤d->d<4->¬Q5a s i d)->post (-1)):Xs m post:=by
 unfold Xs;rw [h.sh',h.fl,h.as'];refine Jn.mk (λ_=>∀(i:Nat) (d:Int),i<s.Al.length->0≤d->d<4->¬Q5a s i d)
  (Q7r (xs:=s.Al) k.Al.1 (λt=>t) (λn _=>∀(i:Nat) (d:Int),i<n->0≤d->d<4->¬Q5a s i d) rfl (λi d h=>by omega) (λn x t hx ht hall=>?_) (λt h=>h)) (λ_ h=>hT (λi d h0 h1 hb=>?_))
 ·have hn:=(gS.1 hx).1;have hxc:=hc x (gM hx);refine Jn.mk (λ_=>∀d:Int,0≤d->d<4->¬Q5a s n d) ⟨x,by rw [ht];exact Qo rfl hx,Q4J hf hxc ?_⟩ (λ_ hd=>⟨by rw [ht],λi d hi h0 h1=>?_⟩)
  ·have hb:=p_bd hf hxc;have w:=hf.W4;have hh:=hf.H4;have hd:=hf.D4;dsimp only;rw [K9 (x:=pX s.A9 x.A4+1) (by omega) (by omega),K9 (x:=pY s.A9 x.A4+1) (by omega) (by omega),K9 (x:=pX s.A9 x.A4-1) (by omega) (by omega),K9 (x:=pY s.A9 x.A4-1) (by omega) (by omega)];refine YK hf (YK hf (YK hf (YK hf ?_)));have n0:Wi s.A9 (pX s.A9 x.A4+1) (pY s.A9 x.A4) (pZ s.A9 x.A4)=nbr s.A9 x.A4 0:=by simp [nbr,hxc]
   have n1:Wi s.A9 (pX s.A9 x.A4) (pY s.A9 x.A4+1) (pZ s.A9 x.A4)=nbr s.A9 x.A4 1:=by simp [nbr,hxc]
   have n2:Wi s.A9 (pX s.A9 x.A4-1) (pY s.A9 x.A4) (pZ s.A9 x.A4)=nbr s.A9 x.A4 2:=by simp [nbr,hxc]
   have n3:Wi s.A9 (pX s.A9 x.A4) (pY s.A9 x.A4-1) (pZ s.A9 x.A4)=nbr s.A9 x.A4 3:=by simp [nbr,hxc]
   rw [n0,n1,n2,n3];have hl:∀(i:Nat) (c:Int),[nbr s.A9 x.A4 0,nbr s.A9 x.A4 1,nbr s.A9 x.A4 2,nbr s.A9 x.A4 3][i]?=some c->c=nbr s.A9 x.A4 (i:Int)∧i<4:=λi c hi=>by
    match i,hi with
    | 0,hi=>simp at hi;exact⟨hi.symm,by omega⟩
    | 1,hi=>simp at hi;exact⟨hi.symm,by omega⟩
    | 2,hi=>simp at hi;exact⟨hi.symm,by omega⟩
    | 3,hi=>simp at hi;exact⟨hi.symm,by omega⟩
   refine Jn.mk (λ_=>∀d:Int,0≤d->d<4->¬Q5a s n d)
    (XE (xs:=[nbr s.A9 x.A4 0,nbr s.A9 x.A4 1,nbr s.A9 x.A4 2,nbr s.A9 x.A4 3]) (by simp [maxLen]) (λt=>t) (λq _=>∀d:Int,0≤d->d<q->¬Q5a s n d) rfl (λd h0 h1=>by omega) (λq c t' hq ht' hqa=>?_) (λt' h' d h0 h1=>h' d h0 (by simpa using h1))) (λ_ h'=>h')
   obtain⟨rfl,hq4⟩:=hl q c hq;rw [h.shelf'];refine Jn.mk (λb=>b=true↔Q5a s n q) ?_ (λb hb'=>Ite.mk (λhbt=>by rw [ht];exact hF n hn ⟨q,by omega,by omega,hb'.1 hbt⟩) (λhb''=>⟨by rw [ht'],λd h0 h1=>?_⟩))
   ·by_cases h1:0≤shAt s.Al (nbr s.A9 x.A4 q)
    ·rw [gF h1];refine Ite.t rfl (Ite.mk (λh2=>?_) (λh2=>⟨λh=>(by cases h),?_⟩))
     ·simp at h2;have hlt:(shAt s.Al (nbr s.A9 x.A4 q)).toNat<s.Al.length:=by omega
      have hy:s.Al[(shAt s.Al (nbr s.A9 x.A4 q)).toNat]?=some (s.Al[(shAt s.Al (nbr s.A9 x.A4 q)).toNat]'hlt):=gE _;refine⟨_,Qo (n:=(shAt s.Al (nbr s.A9 x.A4 q)).toNat) (by simp;omega) hy,ZE k.A3.1 ⟨λh3=>⟨x,_,hx,?_,h1,by omega,Qo (n:=(shAt s.Al (nbr s.A9 x.A4 q)).toNat) (by omega) hy,h3⟩,?_⟩⟩
      ·exact Qb3 hc h1
      rintro⟨x',y',hx',_,_,_,h5,h6⟩;rw [hx] at hx';cases hx';rw [Qo (n:=(shAt s.Al (nbr s.A9 x.A4 q)).toNat) (by omega) hy] at h5;cases h5;exact h6
     ·simp at h2;rintro⟨x',y',hx',_,_,h5,_⟩;rw [hx] at hx';cases hx';exfalso;omega
    ·rw [gC h1];refine Ite.f rfl ⟨λh=>(by cases h),?_⟩;rintro⟨x',y',hx',_,h5,_⟩;rw [hx] at hx';cases hx';exfalso;omega
   ·by_cases e:d=q
    ·subst e;exact λhbb=>by rw [hb'.2 hbb] at hb'';cases hb''
    ·exact hqa d h0 (by omega)
  ·by_cases e:i=n
   ·subst e;exact hd d h0 h1
   ·exact hall i d (by omega) h0 h1
 ·obtain⟨x,y,hx,_⟩:=id hb;exact h i d (gS.1 hx).1 h0 h1 hb
theorem Q6N{p:Int->Bool}{l:List Int}{i:Nat}{c:Int}(h:l[i]?=some c):(l.take (i+1)).countP p=(l.take i).countP p+if p c=true then 1 else 0:=by
 rw [Kt h,List.countP_append,List.countP_singleton]
theorem ZP(k:QF s)(h:MAll s m){z:K7}(hz:z.A5.length≤maxLen)(hc:∀c,c∈z.A5->isC s.A9 c=true){post:Bool->Prop}(hp:post (decide ((z.A5.countP (YO s):Nat)<z.Ab))):Kx z m post:=by
 unfold Kx;refine Jn.mk (λn=>n=((z.A5.countP (YO s):Nat):Int)) (XE hz (λt:Int×Int=>t.2) (λi (t:Int×Int)=>t.1=(((z.A5.take i).countP (YO s):Nat):Int)) rfl rfl (λi c t hcx ht hI=>?_) (λt h=>by rw [h,List.take_length])) (λn hn=>by rw [hn];exact hp);have hcc:=hc c (gM hcx);have hle:=List.countP_le_length (p:=YO s) (l:=z.A5.take i);have hle2:(z.A5.take i).length≤i:=by simp;omega
 have hi:=(gS.1 hcx).1;rw [h.shelf',h.fl];refine Jn.mk (λb=>b=YO s c) ?_ (λb hb=>Jn.mk (λn=>n=(((z.A5.take (i+1)).countP (YO s):Nat):Int)) ?_ (λn hn=>⟨by rw [ht],hn⟩))
 ·by_cases h1:0≤shAt s.Al c
  ·rw [gF h1];exact Ite.t rfl (by simp [YO];omega)
  ·rw [gC h1];exact Ite.f rfl ⟨_,Q0l hcc,Z6 (by simp [YO];omega)⟩
 ·rw [Q6N hcx];subst hb;refine Ite.mk (λh=>?_) (λh=>?_)
  ·rw [hI,h,K9 (by omega) (by unfold maxLen at hz;omega)];simp
  ·rw [hI,h];simp
abbrev T17(α:Type):=Int×Int×Int×List Int×List Int×List K7×List Qp×List K4×List QV×List (Int×Int)×List (Int×Bool)×List (Int×Bool)×List (ByteArray×Int)×List (Int×Bool)×List Int×List Int×α
def ofT{α:Type}(t:T17 α):Qc:=⟨⟨⟨t.1,t.2.1,t.2.2.1,t.2.2.2.1,t.2.2.2.2.1⟩,t.2.2.2.2.2.1,t.2.2.2.2.2.2.1,t.2.2.2.2.2.2.2.1,t.2.2.2.2.2.2.2.2.1⟩,t.2.2.2.2.2.2.2.2.2.1,t.2.2.2.2.2.2.2.2.2.2.1,t.2.2.2.2.2.2.2.2.2.2.2.1,t.2.2.2.2.2.2.2.2.2.2.2.2.1,t.2.2.2.2.2.2.2.2.2.2.2.2.2.1,t.2.2.2.2.2.2.2.2.2.2.2.2.2.2.1,t.2.2.2.2.2.2.2.2.2.2.2.2.2.2.2.1⟩
abbrev T16:=Int×Int×Int×List Int×List Int×List K7×List Qp×List K4×List QV×List (Int×Int)×List (Int×Bool)×List (Int×Bool)×List (ByteArray×Int)×List (Int×Bool)×List Int×List Int
def of16(t:T16):Qc:=⟨⟨⟨t.1,t.2.1,t.2.2.1,t.2.2.2.1,t.2.2.2.2.1⟩,t.2.2.2.2.2.1,t.2.2.2.2.2.2.1,t.2.2.2.2.2.2.2.1,t.2.2.2.2.2.2.2.2.1⟩,t.2.2.2.2.2.2.2.2.2.1,t.2.2.2.2.2.2.2.2.2.2.1,t.2.2.2.2.2.2.2.2.2.2.2.1,t.2.2.2.2.2.2.2.2.2.2.2.2.1,t.2.2.2.2.2.2.2.2.2.2.2.2.2.1,t.2.2.2.2.2.2.2.2.2.2.2.2.2.2.1,t.2.2.2.2.2.2.2.2.2.2.2.2.2.2.2⟩
def lst{α:Type}(t:T17 α):α:=t.2.2.2.2.2.2.2.2.2.2.2.2.2.2.2.2
end
structure Q2T (s:Q5):Prop where
 zn:∀(i:Nat) z,s.Au[i]?=some z->nmB z.Ag=true
 an:∀(i:Nat) x,s.A3[i]?=some x->nmB x.A=true∧nmB x.B=true
 sn:∀(i:Nat) x,s.Al[i]?=some x->(seq x.A7 ByteArray.empty||nmB x.A7)=true
theorem Q3n{s:Q5}(k:QF s){cells most:Int}(hfew:FewS s cells most)(hm:most≤1000000){post:Bool->Prop}(hF:post false)(hT:Q0r s->Q2T s->post true):XS s post:=by
 have f2:=hfew.aparts;have f3:=hfew.Be;have f4:=hfew.robots;unfold XS;refine Q5K (Ite.t rfl hF) (λhf=>Ite.f rfl ?_);unfold GM;refine Jn.mk (λt:T16=>MInv s s.Au.length 0 0 0 (of16 t)∧s.Au.length≤64∧∀(i:Nat) z,s.Au[i]?=some z->Q6c s (s.Au.take i) z∧nmB z.Ag=true)
  (XE k.Au.1 (λt:T17 Int=>lst t) (λn (t:T17 Int)=>MInv s n 0 0 0 (ofT t)∧n≤64∧∀(i:Nat) z,i<n->s.Au[i]?=some z->Q6c s (s.Au.take i) z∧nmB z.Ag=true) rfl ⟨⟨rfl,rfl,rfl,rfl,rfl,λn=>rfl,λc=>rfl,λc=>rfl,λc=>rfl⟩,by omega,λi z h=>by omega⟩ (λn z t hz ht hI=>?_) (λt h=>⟨h.1,h.2.1,λi z hz=>h.2.2 i z (gS.1 hz).1 hz⟩)) (λt1 hI1=>?_)
 ·have kz:=k.Au.2 z (gM hz);refine Jn.mk (λx:T17 Bool=>lst x=false->MInv s (n+1) 0 0 0 (ofT x)∧n<64∧Q6c s (s.Au.take n) z∧nmB z.Ag=true)
   (Q0a kz.Ag (Ite.f rfl (λh=>by cases h)) (λn1 n2 n3=>Ite.t rfl (Zg (Ite.mk (λh1=>Ite.mk (λ_ h=>by cases h) (λh2=>Q5V kz.Am.1 (Ite.f rfl (λh=>by cases h)) (λh3=>Ite.t rfl
    (Q4t (m:=ofT t) kz.A5.1 (Ite.f rfl (λh=>by cases h)) (λc1 c2 c3=>Ite.t rfl (Q33 (m:=ofT t) k hI.1 hz (λe he h=>?_) (λa1 a2 a3 m' hm' _=>⟨hm',a1,?_⟩))))))) (λ_ h=>by cases h))))) (λx hx=>Ite.mk (λ_=>hF) (λhx'=>⟨by show w64 (lst t+1)=_;rw [show lst t=(n:Int) from ht],(hx hx').1,(hx hx').2.1,λi z' hi hz'=>?_⟩))
  ·exfalso;have:(e != 0)=false:=h;simp at this;exact he this
  ·simp at h1 h2;exact⟨⟨⟨n1,n2⟩,a2,c1,h1,h2,h3,a3,c3⟩,n3⟩
  ·by_cases e:i=n
   ·subst e;rw [hz] at hz';cases hz';exact (hx hx').2.2
   ·exact hI.2.2 i z' (by omega) hz'
 obtain⟨hI1,hz64,hzone⟩:=hI1;refine Jn.mk (λt:T16=>MInv s s.Au.length s.A3.length 0 0 (of16 t)∧∀(i:Nat) x,s.A3[i]?=some x->(1≤x.A.size∧1≤x.B.size∧apB (s.A3.take i) x.A x.B=false)∧nmB x.A=true∧nmB x.B=true)
  (XE k.A3.1 (λt:T17 Int=>lst t) (λn (t:T17 Int)=>MInv s s.Au.length n 0 0 (ofT t)∧∀(i:Nat) x,i<n->s.A3[i]?=some x->(1≤x.A.size∧1≤x.B.size∧apB (s.A3.take i) x.A x.B=false)∧nmB x.A=true∧nmB x.B=true) rfl (by exact⟨hI1,λi z h=>by omega⟩) (λn x t hx ht hI=>?_) (λt h=>⟨h.1,λi z hz=>h.2 i z (gS.1 hz).1 hz⟩)) (λt2 hI2=>?_)
 ·refine Q2K (m:=ofT t) k (by omega) hI.1 hx (λe he=>Ite.t (by simpa using he) hF) (λa nm m' hm'=>Ite.f rfl ⟨by show w64 (lst t+1)=_;rw [show lst t=(n:Int) from ht],hm',λi x' hi hx'=>?_⟩);by_cases e:i=n
  ·subst e;rw [hx] at hx';cases hx';exact⟨a,nm⟩
  ·exact hI.2 i x' (by omega) hx'
 obtain⟨hI2,hap⟩:=hI2;refine Jn.mk (λt:T16=>MInv s s.Au.length s.A3.length s.Al.length 0 (of16 t)∧s.Al.length≤3000∧∀(i:Nat) x,s.Al[i]?=some x->(isC s.A9 x.A4=true∧Q1h (kd s.A9 x.A4)=true∧shAt (s.Al.take i) x.A4<0)∧(seq x.A7 ByteArray.empty||nmB x.A7)=true)
  (XE k.Al.1 (λt:T17 Int=>lst t) (λn (t:T17 Int)=>MInv s s.Au.length s.A3.length n 0 (ofT t)∧n≤3000∧∀(i:Nat) x,i<n->s.Al[i]?=some x->(isC s.A9 x.A4=true∧Q1h (kd s.A9 x.A4)=true∧shAt (s.Al.take i) x.A4<0)∧(seq x.A7 ByteArray.empty||nmB x.A7)=true) rfl (by exact⟨hI2,by omega,λi z h=>by omega⟩) (λn x t hx ht hI=>?_) (λt h=>⟨h.1,h.2.1,λi z hz=>h.2.2 i z (gS.1 hz).1 hz⟩)) (λt3 hI3=>?_)
 ·refine Q2f (m:=ofT t) k (by omega) hI.1 hx (λe he=>Ite.t (by simpa using he) hF) (λl a nm m' hm'=>Ite.f rfl ⟨by show w64 (lst t+1)=_;rw [show lst t=(n:Int) from ht],hm',by omega,λi x' hi hx'=>?_⟩);by_cases e:i=n
  ·subst e;rw [hx] at hx';cases hx';exact⟨a,nm⟩
  ·exact hI.2.2 i x' (by omega) hx'
 obtain⟨hI3,hs3,hsh⟩:=hI3;refine Jn.mk (λt:T16=>MAll s (of16 t)∧s.Ak.length≤200∧∀(i:Nat) x,s.Ak[i]?=some x->isC s.A9 x.A4=true∧0≤x.A6∧x.A6≤1000000∧kd s.A9 x.A4≠0∧rbAt (s.Ak.take i) x.A4=false)
  (XE k.Ak.1 (λt:T17 Int=>lst t) (λn (t:T17 Int)=>MInv s s.Au.length s.A3.length s.Al.length n (ofT t)∧n≤200∧∀(i:Nat) x,i<n->s.Ak[i]?=some x->isC s.A9 x.A4=true∧0≤x.A6∧x.A6≤1000000∧kd s.A9 x.A4≠0∧rbAt (s.Ak.take i) x.A4=false) rfl (by exact⟨hI3,by omega,λi z h=>by omega⟩) (λn x t hx ht hI=>?_) (λt h=>⟨h.1,h.2.1,λi z hz=>h.2.2 i z (gS.1 hz).1 hz⟩)) (λt4 hI4=>?_)
 ·refine Q2M (m:=ofT t) k (by omega) hI.1 hx (λe he=>Ite.t (by simpa using he) hF) (λl a m' hm'=>Ite.f rfl ⟨by show w64 (lst t+1)=_;rw [show lst t=(n:Int) from ht],hm',by omega,λi x' hi hx'=>?_⟩);by_cases e:i=n
  ·subst e;rw [hx] at hx';cases hx';exact a
  ·exact hI.2.2 i x' (by omega) hx'
 obtain⟨hI4,hr2,hrb⟩:=hI4;refine Jn.mk' (Q0E (m:=of16 t4) k hf hI4 (λx hx=>?_) (λi hi _=>Ite.f (by simp) hF) (λhbs=>Ite.t (by decide) ?_))
 ·obtain⟨i,hi⟩:=gO hx;exact (hsh i x hi).1.1
 ·unfold Xb;have hzs:(of16 t4).Bf.Au=s.Au:=hI4.zs';show Qi (of16 t4).Bf.Au (of16 t4) _;rw [hzs];unfold Qi;refine Z5 k.Au.1 (λz=>decide ((z.A5.countP (YO s):Nat)<z.Ab)) (T:=λz post=>Kx z (of16 t4) post) (λz hz {q} hq=>ZP k hI4 (k.Au.2 z hz).A5.1 (λc hc=>?_) hq) (Ite.mk (λh=>?_) (λ_=>hF))
  ·obtain⟨i,hi⟩:=gO hz;exact ((hzone i z hi).1.cell c hc).1
  ·unfold Xe;have hfl:(of16 t4).Bf.A9=s.A9:=hI4.fl;show Qv (of16 t4).Bf.A9.Ac 3 _;rw [hfl];refine KE k.A9.Ac.1 ?_;cases hch:s.A9.Ac.contains 3
   ·exact hF
   ·refine hT ⟨hf,hz64,λi z hz=>(hzone i z hz).1,hs3,hr2,λi x hx=>(hap i x hx).1,λi x hx=>(hsh i x hx).1,hrb,λz hz=>?_,hbs,hch⟩ ⟨λi z hz=>(hzone i z hz).2,λi x hx=>(hap i x hx).2,λi x hx=>(hsh i x hx).2⟩;rcases Wb (λz:K7=>decide (((z.A5.countP (YO s):Nat):Int)<z.Ab)) s.Au with ⟨i,y,hy,e,_⟩ | ⟨e,hb⟩
    ·exfalso;rw [e] at h;have:=of_decide_eq_true h;omega
    ·have:=hb z hz;simp at this;exact this
def stB(s:Q5)(c:Int):Bool:=isC s.A9 c&&Q1h (kd s.A9 c)
def clsS(s:Q5)(i:Int):ByteArray:=if 0≤i∧i<s.Al.length then (s.Al.getD i.toNat default).A7 else ByteArray.empty
def nev(s:Q5)(a b:ByteArray):Bool:=apB s.A3 a b
def carr(st:Q7)(i:Int):Int:=if i<0 then -1 else fidx (λr:Q2=>r.Ae == i) st.Ak
def carB(st:Q7)(i:Int):Bool:=decide (0≤carr st i)
theorem Q5S{st:Q7}{i:Int}(h:0≤i):carB st i=st.Ak.any λr=>r.Ae == i:=by
 unfold carB carr;rw [gC (by omega)];have:=Zs (p:=λr:Q2=>r.Ae == i) (xs:=st.Ak);rw [<-this]
def optI(x:Int):Option Int:=if 0≤x then some x else none
def atP(st:Q7)(c:Int)(i:Nat):Bool:=(st.Al.getD i 0 == c)&&!carB st i
def atS(st:Q7)(c:Int):Int:=fnat (atP st c) st.Al.length
theorem Q6C{p:Nat->Bool}{a n:Nat}(h:a<n):fnat (λi=>decide (a≤i)&&p i) n=if p a=true then (a:Int) else fnat (λi=>decide (a+1≤i)&&p i) n:=by
 by_cases hp:p a=true
 ·rw [gF hp];exact Q6F h (by simp [hp]) (λj hj=>by simp;intro h';omega)
 ·rw [gC hp];have:(λi=>decide (a≤i)&&p i)=λi=>decide (a+1≤i)&&p i:=by
   funext i;by_cases e:i=a
   ·subst e;simp [hp]
   ·have:(a≤i)=(a+1≤i):=by simp;omega
    simp only [this]
  rw [this]
theorem Q9u(p:Nat->Bool)(n:Nat):fnat (λi=>decide (0≤i)&&p i) n=fnat p n:=by simp
theorem Qac(p:Nat->Bool)(n:Nat):fnat (λi=>decide (n≤i)&&p i) n=-1:=Q6h λi hi=>by simp;intro;omega
section
variable {s:Q5} {st:Q7}
theorem Q4r{c:Int}{post:Bool->Prop}(hp:post (stB s c)):WP s c post:=by
 unfold WP XU;refine Jn.mk (λb=>b=stB s c) (Q0K (Ite.mk (λh=>?_) (λh=>?_))) (λb hb=>by rw [hb];exact hp)
 ·have hc:isC s.A9 c=true:=h;refine⟨_,Q0l hc,?_⟩;unfold stB Q1h;rw [hc];refine Ite.mk (λh'=>by simp [h']) (λh'=>by simp [h'])
 ·have hc:isC s.A9 c=false:=h;unfold stB;rw [hc];rfl
theorem Q20{i:Int}{post:ByteArray->Prop}(hp:post (clsS s i)):WH s i post:=by
 unfold WH;refine Jor2 (Ite.mk (λh=>?_) (λh=>?_))
 ·unfold clsS at hp;rw [gC (by simp at h;omega)] at hp;exact hp
 ·have h':0≤i∧i<s.Al.length:=by simp at h;omega
  unfold clsS at hp;rw [gF h'] at hp;refine⟨s.Al.getD i.toNat default,?_,hp⟩;rw [Q0O h'.1 h'.2,gD,gE (by omega)];rfl
theorem Q3D(k:QF s){post:List (Qp×Bool)->Prop}(hp:∀m:List (Qp×Bool),(∀a b,(lk m ⟨a,b⟩).getD false=s.A3.any λx=>(seq x.A a&&seq x.B b)||(seq x.A b&&seq x.B a))->post m):WD s post:=by
 unfold WD;refine Jn.mk (λm=>∀a b,(lk m ⟨a,b⟩).getD false=s.A3.any λx=>(seq x.A a&&seq x.B b)||(seq x.A b&&seq x.B a))
  (XE k.A3.1 (λt:List (Qp×Bool)×Int=>t.2) (λn (t:List (Qp×Bool)×Int)=>∀a b,(lk t.1 ⟨a,b⟩).getD false=(s.A3.take n).any λx=>(seq x.A a&&seq x.B b)||(seq x.A b&&seq x.B a)) rfl (λa b=>rfl) (λn x t hx ht hI=>⟨by rw [ht],λa b=>?_⟩) (λt h=>by rwa [List.take_length] at h)) (λm h=>hp m h)
 rw [Kt hx,List.any_append,GR,GR];by_cases e1:(⟨x.B,x.A⟩:Qp)=⟨a,b⟩
 ·rw [gF e1];simp only [Qp.mk.injEq] at e1;simp [e1.1,e1.2,Q1q.2]
 ·rw [gC e1];by_cases e2:x=⟨a,b⟩
  ·rw [gF e2];subst e2;simp [Q1q.2]
  ·rw [gC e2,hI];have h1:(seq x.A a&&seq x.B b)=false:=by
    rw [Bool.eq_false_iff];intro h;simp only [gP,Q1q] at h;exact e2 (by cases x;simp at h;simp [h])
   have h2:(seq x.A b&&seq x.B a)=false:=by
    rw [Bool.eq_false_iff];intro h;simp only [gP,Q1q] at h;exact e1 (by rw [h.1,h.2])
   simp [h1,h2]
theorem QbT{m:List (Qp×Bool)}(hm:∀a b,(lk m ⟨a,b⟩).getD false=s.A3.any λx=>(seq x.A a&&seq x.B b)||(seq x.A b&&seq x.B a)){a b:ByteArray}(ha:nosh a=false)(hb:nosh b=false):(lk m ⟨a,b⟩).getD false=nev s a b:=by
 rw [hm];unfold nev apB;rw [ha,hb];rfl
theorem Q5k(k:QF s){a b:ByteArray}{post:Bool->Prop}(hp:post (nev s a b)):Yk s a b post:=by
 unfold Yk;refine Jn.mk (λr=>r=nev s a b) (Ite.mk (λh=>?_) (λh=>Ite.mk (λh'=>?_) (λh'=>Q3D k (λm hm=>QbT hm h h')))) (λr hr=>by rw [hr];exact hp)
 ·have:nosh a=true:=h;unfold nev apB;rw [this];rfl
 ·have:nosh b=true:=h';unfold nev apB;rw [this];simp
theorem Q0L(k:KK st){i:Int}{post:Int->Prop}(hp:post (carr st i)):GG st i post:=by
 unfold GG;refine Ite.mk (λh=>?_) (λh=>?_)
 ·unfold carr at hp;rw [gF (by simpa using h)] at hp;exact hp
 ·unfold carr at hp;rw [gC (by simpa using h)] at hp;unfold QK;refine Z5 k.Ak.1 (λr:Q2=>r.Ae == i) (T:=λr post=>GC r i post) (λr _ q hq=>?_) hp;unfold GC;exact hq
theorem Q31(k:KK st)(hl:st.Al.length≤1000000){post:List (Int×Int)->Prop}(hp:∀m:List (Int×Int),(∀c,lk m c=optI (atS st c))->post m):W6 st post:=by
 unfold W6;refine Jn.mk (λm=>∀i:Int,(lk m i).getD false=st.Ak.any λr=>r.Ae == i)
  (XE k.Ak.1 (λt:List (Int×Bool)×Int=>t.2) (λn (t:List (Int×Bool)×Int)=>∀i:Int,(lk t.1 i).getD false=(st.Ak.take n).any λr=>r.Ae == i) rfl (λi=>rfl) (λn r t hr ht hI=>⟨by rw [ht],λi=>?_⟩) (λt h=>by rwa [List.take_length] at h)) (λcm hcm=>?_)
 ·rw [Kt hr,List.any_append,GR];by_cases e:r.Ae=i
  ·rw [gF e];simp [e]
  ·rw [gC e,hI];simp [e]
 unfold Xm;refine⟨by omega,Each.inv (bkw st.Al) (λj m=>∀c,lk m c=optI (fnat (λi=>decide (st.Al.length-j≤i)&&atP st c i) st.Al.length)) (λc=>?_) (λj x m hx hI Y hY=>?_) (λm h=>hp m (λc=>?_))⟩
 ·rw [Nat.sub_zero,Qac];rfl
 ·have hj:j<st.Al.length:=by have:=(gS.1 hx).1;rwa [Q6Y] at this
  have hg:=Q8v (xs:=st.Al) (m:=st.Al.length-(j+1)) (by omega);rw [show st.Al.length-(st.Al.length-(j+1)+1)=j by omega,hx] at hg;cases hg;have e1:st.Al.length-j=st.Al.length-(j+1)+1:=by omega
  have hcar:(lk cm ((st.Al.length-(j+1):Nat):Int)).getD false=carB st ((st.Al.length-(j+1):Nat):Int):=by rw [hcm,Q5S (by omega)]
  refine Jn.mk' ?_;dsimp only;rw [hcar];refine Ite.mk (λh=>hY _ (λc=>?_)) (λh=>hY _ (λc=>?_))
  ·rw [GR,Q6C (by omega)];by_cases e:st.Al.getD (st.Al.length-(j+1)) 0=c
   ·rw [gF e,gF (by unfold atP;simp only [gP,beq_iff_eq];exact⟨e,h⟩)];unfold optI;rw [gF (by omega)]
   ·rw [gC e,gC (by unfold atP;simp only [gP,beq_iff_eq];exact λh=>e h.1),hI,e1]
  ·rw [Q6C (by omega),gC (by unfold atP;simp only [gP];exact λh'=>by rw [h] at h';cases h'.2),hI,e1]
 ·rw [h c,Q6Y,Nat.sub_self];unfold atS;rw [Q9u]
theorem Qay(st:Q7)(c:Int):-1≤atS st c∧atS st c<st.Al.length:=by
 rcases ZX (atP st c) st.Al.length with ⟨i,h1,h2,_⟩ | ⟨h,_⟩ <;> unfold atS <;> omega
theorem Q7k(x:Int):(optI x).isSome=decide (0≤x):=by
 unfold optI;by_cases h:0≤x <;> simp [h]
theorem Q4H(k:KK st)(hl:st.Al.length≤1000000){c:Int}{post:Int->Prop}(hp:post (atS st c)):YW s st c post:=by
 unfold YW;refine Q31 k hl (λm hm=>?_);have:=Qay st c;rw [hm,Q7k];refine Ite.mk (λh=>?_) (λh=>?_)
 ·simp at h;unfold optI;rw [gF h];exact hp
 ·simp at h;rw [show (-1:Int)=atS st c by omega];exact hp
end
def Q2G(f:Qe)(a b:Int):Bool:=isC f b&&([0,1,2,3]:List Int).any λd=>nbr f a d == b
theorem Q2U{f:Qe}(h:RF f){a b:Int}{post:Bool->Prop}(hp:post (Q2G f a b)):Y3 f a b post:=by
 unfold Y3;refine Q2w h (Ite.mk (λhb=>?_) (λhb=>?_))
 ·simp only [Bool.not_eq_true'] at hb;unfold Q2G at hp;rw [hb] at hp;exact hp
 ·simp only [Bool.not_eq_false'] at hb;unfold Q2G at hp;rw [hb] at hp;exact QaD (xs:=[0,1,2,3]) (by simp [maxLen]) (λd=>nbr f a d == b) (T:=λx q=>Gs f a x (λr=>q (r == b))) (λx _ q hq=>Q1s h hq) hp
section
variable {s:Q5} {st:Q7}
def badP(s:Q5)(st:Q7)(a b:Nat):Bool:=Q2G s.A9 (st.Al.getD a 0) (st.Al.getD b 0)&&nev s (clsS s a) (clsS s b)&&!carB st a&&!carB st b
def Q2x(s:Q5)(st:Q7)(a:Nat):Int:=fnat (λb=>decide (a<b)&&badP s st a b) st.Al.length
def ZU(s:Q5)(st:Q7):Int×Int×Bool:=
 let a:=fnat (λa=>decide (0≤Q2x s st a)) st.Al.length
 if a<0 then (0,0,false) else (a,Q2x s st a.toNat,true)
end
end Go.Taq
