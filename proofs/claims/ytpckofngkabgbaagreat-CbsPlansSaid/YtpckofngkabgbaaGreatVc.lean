/- The verification conditions of the Go functions that are reached, in plain data (written by a program of the prover). -/
import Derived.Test.YtpckofngkabgbaaGreatLibX
import Derived.Test.YtpckofngkabgbaaGreatLibZY
set_option linter.unusedVariables false
namespace Go.Taq
open Go
structure ApiFloor where
 W:Int
 H:Int
 D:Int
 Kind:List Int
 Out:List Int
deriving DecidableEq,Inhabited
structure QF where
 From:Int
 To:Int
deriving DecidableEq,Inhabited
structure Qx where
 Name:ByteArray
 Cells:List Int
 Speed:Int
 Keep:Int
 Shut:List QF
deriving DecidableEq,Inhabited
structure Qk where
 A:ByteArray
 B:ByteArray
deriving DecidableEq,Inhabited
structure QB where
 Cell:Int
 Class:ByteArray
deriving DecidableEq,Inhabited
structure QK where
 Cell:Int
 Charge:Int
deriving DecidableEq,Inhabited
structure ApiSite where
 Floor:ApiFloor
 Zones:List Qx
 Aparts:List Qk
 Shelves:List QB
 Robots:List QK
deriving DecidableEq,Inhabited
structure ApiTrip where
 From:Int
 To:Int
deriving DecidableEq,Inhabited
structure CbsProblem where
 s:ApiSite
 trips:List ApiTrip
 tick:Int
 avoid:List Int
 most:Int
deriving DecidableEq,Inhabited
structure CbsPlace where
 cell:Int
 rest:Int
 done:Bool
deriving DecidableEq,Inhabited
structure Arr4CbsPlace where
 e0:CbsPlace
 e1:CbsPlace
 e2:CbsPlace
 e3:CbsPlace
deriving DecidableEq,Inhabited
structure Arr4Int where
 e0:Int
 e1:Int
 e2:Int
 e3:Int
deriving DecidableEq,Inhabited
structure CbsStep where
 cost:Int
 from_:Arr4CbsPlace
 acts:Arr4Int
deriving DecidableEq,Inhabited
structure Ke where
 act:Int
 to_:CbsPlace
deriving DecidableEq,Inhabited
structure Kf where
 x:Int
 y:Int
 z:Int
deriving DecidableEq,Inhabited
structure GP where
 e0:Kf
 e1:Kf
 e2:Kf
 e3:Kf
 e4:Kf
 e5:Kf
deriving DecidableEq,Inhabited
structure Kl where
 robot:Int
 cell:Int
 tick:Int
deriving DecidableEq,Inhabited
structure CbsOrigin where
 from_:CbsPlace
 act:Int
deriving DecidableEq,Inhabited
structure Qw where
 bans:List (Kl×Bool)
 plan:List (List Int)
deriving DecidableEq,Inhabited
structure We where
 a:Int
 b:Int
 tick:Int
 cell:Int
deriving DecidableEq,Inhabited
structure QX where
 e0:Bool
 e1:Bool
deriving DecidableEq,Inhabited
structure SurveyMaker where
 site:ApiSite
 shelf:List (Int×Int)
 robot:List (Int×Bool)
 zoned:List (Int×Bool)
 names:List (ByteArray×Int)
 oneways:List (Int×Bool)
 shelves:List Int
 zones:List Int
deriving DecidableEq,Inhabited
structure ApiTaken where
 Cell:Int
 Span:QF
deriving DecidableEq,Inhabited
structure RouteWalk where
 site:ApiSite
 tick:Int
 avoid:List Int
 taken:List (Int×List QF)
deriving DecidableEq,Inhabited
structure QP where
 cell:Int
 rest:Int
deriving DecidableEq,Inhabited
structure Q0U (x:ApiFloor):Prop where
 W:I64 x.W
 H:I64 x.H
 D:I64 x.D
 Kind:(OkL I64) x.Kind
 Out:(OkL I64) x.Out
structure Q0z (x:QF):Prop where
 From:I64 x.From
 To:I64 x.To
structure Q0m (x:Qx):Prop where
 Name:OkS x.Name
 Cells:(OkL I64) x.Cells
 Speed:I64 x.Speed
 Keep:I64 x.Keep
 Shut:(OkL Q0z) x.Shut
structure Zx (x:Qk):Prop where
 A:OkS x.A
 B:OkS x.B
structure Ze (x:QB):Prop where
 Cell:I64 x.Cell
 Class:OkS x.Class
structure Zy (x:QK):Prop where
 Cell:I64 x.Cell
 Charge:I64 x.Charge
structure OkApiSite (x:ApiSite):Prop where
 Floor:Q0U x.Floor
 Zones:(OkL Q0m) x.Zones
 Aparts:(OkL Zx) x.Aparts
 Shelves:(OkL Ze) x.Shelves
 Robots:(OkL Zy) x.Robots
structure Q0k (x:ApiTrip):Prop where
 From:I64 x.From
 To:I64 x.To
def Xi (post:ApiSite→Prop):Prop:=
 post ({Floor:=({W:=3,H:=2,D:=1,Kind:=([1,1,1,1,1,3]:List Int),Out:=([15,15,15,15,15,15]:List Int):ApiFloor}),Zones:=[],Aparts:=[],Shelves:=[],Robots:=[]:ApiSite})
def XQ (s_1:ApiSite) (c:Int) (post:Bool→Prop):Prop:=
 Jn (fun (J4:Bool→Prop)=>Ite (decide (c≥0)) (Ite (decide (c<(s_1.Floor.Kind.length:Int))) (∃x7,idx s_1.Floor.Kind c=some x7∧J4 (x7 != 0)) (J4 false)) (J4 false)) (fun x3=>post x3)
def XT (s_1:ApiSite) (trips:List ApiTrip) (post:Bool→Prop):Prop:=
 Jn (fun (J8:Unit→Prop)=>Loop (fun (s9:List (Int×Bool)×List (Int×Bool)×Int) Y10=>Ite (decide (s9.2.2<(trips.length:Int))) (∃x16,idx trips s9.2.2=some x16∧Jn (fun (J18:Bool→Prop)=>XQ s_1 x16.From (fun x19=>Ite x19 (XQ s_1 x16.To (fun x21=>Ite x21 (Ite ((lk s9.1 x16.From).getD false) (J18 true) (J18 ((lk s9.2.1 x16.To).getD false))) (J18 true))) (J18 true))) (fun x17=>Ite x17 (post false) (Y10 ((upd s9.1 x16.From true),(upd s9.2.1 x16.To true),w64 (s9.2.2+1))))) (J8 ())) ((([]:List (Int×Bool)),([]:List (Int×Bool)),0):List (Int×Bool)×List (Int×Bool)×Int)) (fun x7=>Jn (fun (J32:Bool→Prop)=>Ite (decide ((trips.length:Int)≥1)) (J32 (decide ((trips.length:Int)≤4))) (J32 false)) (fun x31=>post x31))
def XP (x_1:Int) (post:Bool→Prop):Prop:=
 post (x_1 != x_1)
def GC (x_1:Int) (y_1:Int) (post:Bool→Prop):Prop:=
 Jn (fun (J4:Bool→Prop)=>XP x_1 (fun x5=>Ite x5 (XP y_1 (fun x7=>Ite x7 (J4 (decide (x_1<y_1))) (J4 true))) (J4 (decide (x_1<y_1))))) (fun x3=>post x3)
def Xg (x_1:Int) (post:Bool→Prop):Prop:=
 post (x_1 != x_1)
def QR (x_1:List Int) (target:Int) (post:(Int×Bool)→Prop):Prop:=
 Jn (fun (J8:Int→Prop)=>Loop (fun (s9:Int×Int) Y10=>Ite (decide (s9.1<s9.2)) (∃x19,idx x_1 (IntKind.wrap .i64 (shrI .u64 (IntKind.wrap .u64 (w64 (s9.1+s9.2))) 1))=some x19∧GC x19 target (fun x20=>Jn (fun (J22:(Int×Int)→Prop)=>Ite x20 (J22 (w64 ((IntKind.wrap .i64 (shrI .u64 (IntKind.wrap .u64 (w64 (s9.1+s9.2))) 1))+1),s9.2)) (J22 (s9.1,IntKind.wrap .i64 (shrI .u64 (IntKind.wrap .u64 (w64 (s9.1+s9.2))) 1)))) (fun x21=>Y10 (x21.1,x21.2)))) (J8 s9.1)) (0,(x_1.length:Int))) (fun x7=>Jn (fun (J29:Bool→Prop)=>Ite (decide (x7<(x_1.length:Int))) (∃x31,idx x_1 x7=some x31∧Ite (x31 == target) (J29 true) (Xg x31 (fun x33=>Ite x33 (Xg target (fun x35=>J29 x35)) (J29 false)))) (J29 false)) (fun x28=>post (x7,x28)))
def Xz (z:Qx) (c0:Int) (post:Bool→Prop):Prop:=
 QR z.Cells c0 (fun x5=>post x5.2)
def Qs (s_1:List Qx) (f_c0:Int) (post:Int→Prop):Prop:=
 Jn (fun (J6:Unit→Prop)=>Loop (fun (s7:Int) Y8=>Ite (decide (s7<(s_1.length:Int))) (∃x16,idx s_1 s7=some x16∧Xz x16 f_c0 (fun x17=>Ite x17 (post s7) (Y8 (w64 (s7+1))))) (J6 ())) 0) (fun x5=>post (-1))
def XC (s_1:ApiSite) (c:Int) (post:Int→Prop):Prop:=
 Qs s_1.Zones c (fun x5=>post x5)
def Xy (s_1:ApiSite) (c:Int) (post:Int→Prop):Prop:=
 XC s_1 c (fun x5=>Ite (decide (x5≥0)) (∃x11,idx s_1.Zones x5=some x11∧post x11.Speed) (post 1))
def Kz (p:CbsProblem) (post:Bool→Prop):Prop:=
 Jn (fun (J8:(Int×Int)→Prop)=>Loop (fun (s9:Int×Int×Int) Y10=>Ite (decide (s9.2.2<(p.s.Floor.Kind.length:Int))) (Xy p.s s9.2.2 (fun x18=>XQ p.s s9.2.2 (fun x21=>Jn (fun (J23:Int→Prop)=>Ite x21 (J23 (w64 (s9.1+1))) (J23 s9.1)) (fun x22=>Y10 (x22,imax s9.2.1 x18,w64 (s9.2.2+1)))))) (J8 (s9.1,s9.2.1))) (0,1,0)) (fun x7=>Jn (fun (J32:Int→Prop)=>Loop (fun (s33:Int×Int) Y34=>Ite (decide (s33.2<(p.trips.length:Int))) (Y34 (imin (w64 ((w64 (s33.1*x7.1))*x7.2)) 3001,w64 (s33.2+1))) (J32 s33.1)) (1,0)) (fun x31=>Jn (fun (J43:Bool→Prop)=>Ite (decide (x31≤3000)) (J43 (decide (p.most≤20))) (J43 false)) (fun x42=>post x42)))
def Gf (vals:List Int) (post:Int→Prop):Prop:=
 Jn (fun (J8:Unit→Prop)=>Loop (fun (s9:Int) Y10=>Ite (decide (s9<(vals.length:Int))) (∃x16,idx vals s9=some x16∧Ite (x16 != 0) (post x16) (Y10 (w64 (s9+1)))) (J8 ())) 0) (fun x7=>post 0)
def XS (a:CbsPlace) (b:CbsPlace) (post:Int→Prop):Prop:=
 Gf ([w64 (a.cell-b.cell),w64 (a.rest-b.rest)]:List Int) (fun x5=>Jn (fun (J7:Bool→Prop)=>Ite (x5 == 0) (J7 (!(a.done == b.done))) (J7 false)) (fun x6=>Jn (fun (J10:Int→Prop)=>Ite x6 (Jn (fun (J17:Int→Prop)=>Ite a.done (J17 1) (J17 (-1))) (fun x16=>J10 x16)) (J10 x5)) (fun x9=>post x9)))
def Qb (s1_1:List CbsPlace) (s2_1:List CbsPlace) (post:Int→Prop):Prop:=
 Jn (fun (J6:Unit→Prop)=>Loop (fun (s7:Int) Y8=>Ite (decide (s7<(s1_1.length:Int))) (∃x14,idx s1_1 s7=some x14∧Ite (decide (s7≥(s2_1.length:Int))) (post 1) (∃x22,idx s2_1 s7=some x22∧XS x14 x22 (fun x25=>Ite (x25 != 0) (post x25) (Y8 (w64 (s7+1)))))) (J6 ())) 0) (fun x5=>Ite (decide ((s1_1.length:Int)<(s2_1.length:Int))) (post (-1)) (post 0))
def XN (a:Arr4CbsPlace) (b:Arr4CbsPlace) (post:Int→Prop):Prop:=
 Qb ([a.e0,a.e1,a.e2,a.e3]:List CbsPlace) ([b.e0,b.e1,b.e2,b.e3]:List CbsPlace) (fun x5=>post x5)
def Qm (p0:List Arr4CbsPlace) (post:List Arr4CbsPlace→Prop):Prop:=
 ∃(p:Arr4CbsPlace→Prop) (cf:Arr4CbsPlace→Arr4CbsPlace→Int),p default∧(SWOc fun x y:Subtype p=>cf x.1 y.1)∧(∀x,x∈p0→p x)∧(∀x y,p x→p y→XN x y (fun r=>r=cf x y))∧p0.length≤1099511627776∧∀ys,ys.Perm p0→ys.Pairwise (fun x y=>¬cf y x<0)→post ys
def Gl (layer:List (Arr4CbsPlace×CbsStep)) (post:(List Arr4CbsPlace)→Prop):Prop:=
 Jn (fun (J8:(List Arr4CbsPlace)→Prop)=>Loop (fun (s9:List Arr4CbsPlace×List Arr4CbsPlace) Y10=>(∀x11 x12,lk layer x11=some x12∧x11∉s9.2→(s9.1.length+([x11]:List Arr4CbsPlace).length≤1099511627776)∧Y10 ((s9.1++([x11]:List Arr4CbsPlace)),(x11 :: s9.2)))∧((∀x,lk layer x≠none→x∈s9.2)→J8 s9.1)) (([],([]:List Arr4CbsPlace)):List Arr4CbsPlace×List Arr4CbsPlace)) (fun x7=>Qm x7 (fun x22=>post x22))
def KB (p:CbsProblem) (at_1:Arr4CbsPlace) (post:Bool→Prop):Prop:=
 Jn (fun (J6:Unit→Prop)=>Loop (fun (s7:Int) Y8=>Ite (decide (s7<(p.trips.length:Int))) (∃x14,idx p.trips s7=some x14∧∃x18,idx ([at_1.e0,at_1.e1,at_1.e2,at_1.e3]:List CbsPlace) s7=some x18∧Ite (x18.cell != x14.To) (post false) (Y8 (w64 (s7+1)))) (J6 ())) 0) (fun x5=>post true)
def Ko (s_1:List Int) (v:Int) (post:Int→Prop):Prop:=
 Jn (fun (J6:Unit→Prop)=>Loop (fun (s7:Int) Y8=>Ite (decide (s7<(s_1.length:Int))) (∃x16,idx s_1 s7=some x16∧Ite (v == x16) (post s7) (Y8 (w64 (s7+1)))) (J6 ())) 0) (fun x5=>post (-1))
def Qy (s_1:List Int) (v:Int) (post:Bool→Prop):Prop:=
 Ko s_1 v (fun x5=>post (decide (x5≥0)))
def QZ (c:Int) (c0:List Int) (post:Bool→Prop):Prop:=
 Qy c0 c (fun x5=>post x5)
def Qu (s_1:List Int) (f_c0:List Int) (post:Int→Prop):Prop:=
 Jn (fun (J6:Unit→Prop)=>Loop (fun (s7:Int) Y8=>Ite (decide (s7<(s_1.length:Int))) (∃x16,idx s_1 s7=some x16∧QZ x16 f_c0 (fun x17=>Ite x17 (post s7) (Y8 (w64 (s7+1))))) (J6 ())) 0) (fun x5=>post (-1))
def Qp (s_1:List Int) (f_c0:List Int) (post:Bool→Prop):Prop:=
 Qu s_1 f_c0 (fun x5=>post (decide (x5≥0)))
def QW (cells:List Int) (c0:List Int) (post:Bool→Prop):Prop:=
 Qp cells c0 (fun x5=>post (!x5))
def QV (s_1:List Int) (post:(List Int)→Prop):Prop:=
 ∀hb5:Bool,(hb5=true→s_1=[])→Ite (hb5 == true) (post []) ((([]:List Int).length+s_1.length≤1099511627776)∧post (([]:List Int)++s_1))
def XU (f:ApiFloor) (post:Int→Prop):Prop:=
 post (w64 ((w64 (f.W*f.H))*f.D))
def GS (f:ApiFloor) (c:Int) (post:Bool→Prop):Prop:=
 Jn (fun (J4:Bool→Prop)=>Ite (decide (c≥0)) (XU f (fun x6=>J4 (decide (c<x6)))) (J4 false)) (fun x3=>post x3)
def GR (f:ApiFloor) (c:Int) (post:(Int×Int×Int)→Prop):Prop:=
 GS f c (fun x5=>Ite (!x5) (post (0,0,0)) ((f.W≠0)∧(f.W≠0)∧(f.H≠0)∧((w64 (f.W*f.H))≠0)∧post (c.tmod f.W,(w64 (c.tdiv f.W)).tmod f.H,w64 (c.tdiv (w64 (f.W*f.H))))))
def GL (post:GP→Prop):Prop:=
 post ({e0:=({x:=1,y:=0,z:=0:Kf}),e1:=({x:=0,y:=1,z:=0:Kf}),e2:=({x:=(-1),y:=0,z:=0:Kf}),e3:=({x:=0,y:=(-1),z:=0:Kf}),e4:=({x:=0,y:=0,z:=1:Kf}),e5:=({x:=0,y:=0,z:=(-1):Kf}):GP})
def X9 (f:ApiFloor) (x_1:Int) (y_1:Int) (z:Int) (post:Int→Prop):Prop:=
 Jn (fun (J4:Bool→Prop)=>Ite (decide ((imin (imin x_1 y_1) z)<0)) (J4 true) (Ite (decide (x_1≥f.W)) (J4 true) (Ite (decide (y_1≥f.H)) (J4 true) (J4 (decide (z≥f.D)))))) (fun x3=>Ite x3 (post (-1)) (post (w64 ((w64 ((w64 ((w64 (z*f.H))+y_1))*f.W))+x_1))))
def G8 (f:ApiFloor) (c:Int) (d:Int) (post:Int→Prop):Prop:=
 Jn (fun (J4:Bool→Prop)=>GS f c (fun x5=>Ite x5 (Ite (decide (d<0)) (J4 true) (J4 (decide (d≥6)))) (J4 true))) (fun x3=>Ite x3 (post (-1)) (GR f c (fun x13=>GL (fun x16=>∃x17,idx ([x16.e0,x16.e1,x16.e2,x16.e3,x16.e4,x16.e5]:List Kf) d=some x17∧X9 f (w64 (x13.1+x17.x)) (w64 (x13.2.1+x17.y)) (w64 (x13.2.2+x17.z)) (fun x20=>post x20)))))
def Xt (f:ApiFloor) (c:Int) (d:Int) (post:(Int×Bool)→Prop):Prop:=
 G8 f c d (fun x5=>Jn (fun (J7:Bool→Prop)=>Ite (decide (x5<0)) (J7 true) (∃x9,idx f.Kind c=some x9∧Ite (x9 == 0) (J7 true) (∃x11,idx f.Kind x5=some x11∧Ite (x11 == 0) (J7 true) (∃x13,idx f.Out c=some x13∧(0≤d)∧J7 ((band .i64 (shrI .i64 x13 d) 1) == 0))))) (fun x6=>Ite x6 (post (0,false)) (Jn (fun (J19:Bool→Prop)=>Ite (d == 4) (∃x21,idx f.Kind c=some x21∧Ite (x21 != 6) (J19 true) (∃x23,idx f.Kind x5=some x23∧J19 (x23 != 6))) (Ite (d == 5) (∃x25,idx f.Kind c=some x25∧Ite (x25 != 6) (J19 true) (∃x27,idx f.Kind x5=some x27∧J19 (x27 != 6))) (J19 false))) (fun x18=>Ite x18 (post (0,false)) (post (x5,true))))))
def XA (s_1:ApiSite) (c:Int) (post:Bool→Prop):Prop:=
 Jn (fun (J4:Bool→Prop)=>Ite (decide (c≥0)) (J4 (decide (c<(s_1.Floor.Kind.length:Int)))) (J4 false)) (fun x3=>post x3)
def G6 (x_1:QF) (c0:Int) (post:Bool→Prop):Prop:=
 Jn (fun (J4:Bool→Prop)=>Ite (decide (x_1.From≤c0)) (J4 (decide (c0<x_1.To))) (J4 false)) (fun x3=>post x3)
def Qv (s_1:List QF) (f_c0:Int) (post:Int→Prop):Prop:=
 Jn (fun (J6:Unit→Prop)=>Loop (fun (s7:Int) Y8=>Ite (decide (s7<(s_1.length:Int))) (∃x16,idx s_1 s7=some x16∧G6 x16 f_c0 (fun x17=>Ite x17 (post s7) (Y8 (w64 (s7+1))))) (J6 ())) 0) (fun x5=>post (-1))
def Qh (s_1:List QF) (f_c0:Int) (post:Bool→Prop):Prop:=
 Qv s_1 f_c0 (fun x5=>post (decide (x5≥0)))
def Gg (s_1:ApiSite) (c:Int) (tick:Int) (post:Bool→Prop):Prop:=
 XC s_1 c (fun x5=>Jn (fun (J7:Bool→Prop)=>XA s_1 c (fun x8=>Ite x8 (J7 (decide (x5<0))) (J7 true))) (fun x6=>Ite x6 (XA s_1 c (fun x13=>post x13)) (∃x16,idx s_1.Zones x5=some x16∧Qh x16.Shut tick (fun x17=>post (!x17)))))
def Kt (p:CbsProblem) (at_1:CbsPlace) (k:Int) (post:(List Ke)→Prop):Prop:=
 Jn (fun (J8:(List Ke)→Prop)=>Loop (fun (s9:List Ke×Int) Y10=>Ite (decide (s9.2<6)) (Xt p.s.Floor at_1.cell s9.2 (fun x18=>Jn (fun (J20:Bool→Prop)=>Ite x18.2 (Ite (at_1.rest == 0) (Gg p.s x18.1 (w64 (p.tick+k)) (fun x23=>Ite x23 (Qy p.avoid x18.1 (fun x25=>J20 (!x25))) (J20 false))) (J20 false)) (J20 false)) (fun x19=>Jn (fun (J27:(List Ke)→Prop)=>Ite x19 (Xy p.s x18.1 (fun x31=>(s9.1.length+([({act:=w64 (1+s9.2),to_:=({cell:=x18.1,rest:=w64 (x31-1),done:=false:CbsPlace}):Ke})]:List Ke).length≤1099511627776)∧J27 (s9.1++([({act:=w64 (1+s9.2),to_:=({cell:=x18.1,rest:=w64 (x31-1),done:=false:CbsPlace}):Ke})]:List Ke)))) (J27 s9.1)) (fun x26=>Y10 (x26,w64 (s9.2+1)))))) (J8 s9.1)) (([({act:=0,to_:=({cell:=at_1.cell,rest:=imax 0 (w64 (at_1.rest-1)),done:=false:CbsPlace}):Ke})]:List Ke),0)) (fun x7=>post x7)
def QH (self:(CbsProblem×Int×Int×Arr4CbsPlace×List Int×CbsStep×List (Arr4CbsPlace×CbsStep))→((List (Arr4CbsPlace×CbsStep))→Prop)→Prop) (p:CbsProblem) (i:Int) (k:Int) (to_1:Arr4CbsPlace) (used:List Int) (x_1:CbsStep) (layer:List (Arr4CbsPlace×CbsStep)) (post:(List (Arr4CbsPlace×CbsStep))→Prop):Prop:=
 Ite (i == (p.trips.length:Int)) (Jn (fun (J9:Bool→Prop)=>Ite ((lk layer to_1).isSome) (J9 (decide (x_1.cost<(((lk layer to_1).getD ({cost:=0,from_:=({e0:=({cell:=0,rest:=0,done:=false:CbsPlace}),e1:=({cell:=0,rest:=0,done:=false:CbsPlace}),e2:=({cell:=0,rest:=0,done:=false:CbsPlace}),e3:=({cell:=0,rest:=0,done:=false:CbsPlace}):Arr4CbsPlace}),acts:=({e0:=0,e1:=0,e2:=0,e3:=0:Arr4Int}):CbsStep})).cost)))) (J9 true)) (fun x8=>Jn (fun (J12:(List (Arr4CbsPlace×CbsStep))→Prop)=>Ite x8 (J12 (upd layer to_1 x_1)) (J12 layer)) (fun x11=>post x11))) (∃x19,idx ([x_1.from_.e0,x_1.from_.e1,x_1.from_.e2,x_1.from_.e3]:List CbsPlace) i=some x19∧Jn (fun (J23:Bool→Prop)=>Ite x19.done (QW ([x19.cell]:List Int) used (fun x25=>J23 x25)) (∃x26,idx p.trips i=some x26∧Ite (x19.cell == x26.To) (QW ([x19.cell]:List Int) used (fun x28=>J23 x28)) (J23 false))) (fun x22=>Jn (fun (J30:(List (Arr4CbsPlace×CbsStep))→Prop)=>Ite x22 (∃x37,idx ([to_1.e0,to_1.e1,to_1.e2,to_1.e3]:List CbsPlace) i=some x37∧∃x38:Arr4CbsPlace,([to_1.e0,to_1.e1,to_1.e2,to_1.e3]:List CbsPlace).set (Int.toNat i) ({cell:=x19.cell,rest:=0,done:=true:CbsPlace})=([x38.e0,x38.e1,x38.e2,x38.e3]:List CbsPlace)∧∃x40,idx ([x_1.acts.e0,x_1.acts.e1,x_1.acts.e2,x_1.acts.e3]:List Int) i=some x40∧∃x41:Arr4Int,([x_1.acts.e0,x_1.acts.e1,x_1.acts.e2,x_1.acts.e3]:List Int).set (Int.toNat i) (-1)=([x41.e0,x41.e1,x41.e2,x41.e3]:List Int)∧QV used (fun x44=>(x44.length+([x19.cell]:List Int).length≤1099511627776)∧self (p,w64 (i+1),k,x38,(x44++([x19.cell]:List Int)),({cost:=x_1.cost,from_:=x_1.from_,acts:=x41:CbsStep}),layer) (fun x46=>J30 x46))) (J30 layer)) (fun x29=>Ite x19.done (post x29) (Kt p x19 k (fun x52=>Jn (fun (J54:(List (Arr4CbsPlace×CbsStep))→Prop)=>Loop (fun (s55:List (Arr4CbsPlace×CbsStep)×Int) Y56=>Ite (decide (s55.2<(x52.length:Int))) (∃x62,idx x52 s55.2=some x62∧QW ([x19.cell,x62.to_.cell]:List Int) used (fun x65=>Jn (fun (J67:(List (Arr4CbsPlace×CbsStep))→Prop)=>Ite x65 (∃x74,idx ([to_1.e0,to_1.e1,to_1.e2,to_1.e3]:List CbsPlace) i=some x74∧∃x75:Arr4CbsPlace,([to_1.e0,to_1.e1,to_1.e2,to_1.e3]:List CbsPlace).set (Int.toNat i) x62.to_=([x75.e0,x75.e1,x75.e2,x75.e3]:List CbsPlace)∧∃x77,idx ([x_1.acts.e0,x_1.acts.e1,x_1.acts.e2,x_1.acts.e3]:List Int) i=some x77∧∃x78:Arr4Int,([x_1.acts.e0,x_1.acts.e1,x_1.acts.e2,x_1.acts.e3]:List Int).set (Int.toNat i) x62.act=([x78.e0,x78.e1,x78.e2,x78.e3]:List Int)∧QV used (fun x83=>(x83.length+([x19.cell,x62.to_.cell]:List Int).length≤1099511627776)∧self (p,w64 (i+1),k,x75,(x83++([x19.cell,x62.to_.cell]:List Int)),({cost:=w64 (x_1.cost+1),from_:=x_1.from_,acts:=x78:CbsStep}),s55.1) (fun x85=>J67 x85))) (J67 s55.1)) (fun x66=>Y56 (x66,w64 (s55.2+1))))) (J54 s55.1)) (x29,0)) (fun x53=>post x53))))))
def KF (p:CbsProblem) (i:Int) (k:Int) (to_1:Arr4CbsPlace) (used:List Int) (x_1:CbsStep) (layer:List (Arr4CbsPlace×CbsStep)) (post:(List (Arr4CbsPlace×CbsStep))→Prop):Prop:=
 Rec (fun self (a:CbsProblem×Int×Int×Arr4CbsPlace×List Int×CbsStep×List (Arr4CbsPlace×CbsStep)) (post:(List (Arr4CbsPlace×CbsStep))→Prop)=>QH self a.1 a.2.1 a.2.2.1 a.2.2.2.1 a.2.2.2.2.1 a.2.2.2.2.2.1 a.2.2.2.2.2.2 post) (p,i,k,to_1,used,x_1,layer) post
def QL (s_1:List Int) (post:(List Int)→Prop):Prop:=
 Jn (fun (J4:(List Int)→Prop)=>Loop (fun (s5:List Int×Int×Int) Y6=>Ite (decide (s5.2.1<s5.2.2)) (∃x12,idx s5.1 s5.2.2=some x12∧∃x13,idx s5.1 s5.2.1=some x13∧∃x14,idx (s5.1.set (Int.toNat s5.2.1) x12) s5.2.2=some x14∧Y6 (((s5.1.set (Int.toNat s5.2.1) x12).set (Int.toNat s5.2.2) x13),w64 (s5.2.1+1),w64 (s5.2.2-1))) (J4 s5.1)) (s_1,0,w64 ((s_1.length:Int)-1))) (fun x3=>post x3)
def KV (p:CbsProblem) (post:(List (List Int)×Int)→Prop):Prop:=
 Jn (fun (J8:Arr4CbsPlace→Prop)=>Loop (fun (s9:Arr4CbsPlace×Int) Y10=>Ite (decide (s9.2<(p.trips.length:Int))) (∃x16,idx p.trips s9.2=some x16∧∃x20,idx ([s9.1.e0,s9.1.e1,s9.1.e2,s9.1.e3]:List CbsPlace) s9.2=some x20∧∃x21:Arr4CbsPlace,([s9.1.e0,s9.1.e1,s9.1.e2,s9.1.e3]:List CbsPlace).set (Int.toNat s9.2) ({cell:=x16.From,rest:=0,done:=false:CbsPlace})=([x21.e0,x21.e1,x21.e2,x21.e3]:List CbsPlace)∧Y10 (x21,w64 (s9.2+1))) (J8 s9.1)) (({e0:=({cell:=0,rest:=0,done:=false:CbsPlace}),e1:=({cell:=0,rest:=0,done:=false:CbsPlace}),e2:=({cell:=0,rest:=0,done:=false:CbsPlace}),e3:=({cell:=0,rest:=0,done:=false:CbsPlace}):Arr4CbsPlace}),0)) (fun x7=>Jn (fun (J33:(List (List (Arr4CbsPlace×CbsStep))×Arr4CbsPlace×Int×Int)→Prop)=>Loop (fun (s34:List (List (Arr4CbsPlace×CbsStep))×Arr4CbsPlace×Int×Int×Int) Y35=>Ite (decide (s34.2.2.2.2≤p.most)) (Jn (fun (J40:(List (List (Arr4CbsPlace×CbsStep))×Arr4CbsPlace×Int×Int)→Prop)=>∃x45,idx s34.1 s34.2.2.2.2=some x45∧Gl x45 (fun x46=>Jn (fun (J48:(List (List (Arr4CbsPlace×CbsStep))×Arr4CbsPlace×Int×Int×List (Arr4CbsPlace×CbsStep))→Prop)=>Loop (fun (s49:List (List (Arr4CbsPlace×CbsStep))×Arr4CbsPlace×Int×Int×List (Arr4CbsPlace×CbsStep)×Int) Y50=>Ite (decide (s49.2.2.2.2.2<(x46.length:Int))) (∃x56,idx x46 s49.2.2.2.2.2=some x56∧∃x59,idx s49.1 s34.2.2.2.2=some x59∧Jn (fun (J61:Bool→Prop)=>KB p x56 (fun x62=>Ite x62 (Ite (decide (s49.2.2.1<0)) (J61 true) (J61 (decide ((((lk x59 x56).getD ({cost:=0,from_:=({e0:=({cell:=0,rest:=0,done:=false:CbsPlace}),e1:=({cell:=0,rest:=0,done:=false:CbsPlace}),e2:=({cell:=0,rest:=0,done:=false:CbsPlace}),e3:=({cell:=0,rest:=0,done:=false:CbsPlace}):Arr4CbsPlace}),acts:=({e0:=0,e1:=0,e2:=0,e3:=0:Arr4Int}):CbsStep})).cost)<s49.2.2.1)))) (J61 false))) (fun x60=>Jn (fun (J66:(Arr4CbsPlace×Int×Int)→Prop)=>Ite x60 (J66 (x56,((lk x59 x56).getD ({cost:=0,from_:=({e0:=({cell:=0,rest:=0,done:=false:CbsPlace}),e1:=({cell:=0,rest:=0,done:=false:CbsPlace}),e2:=({cell:=0,rest:=0,done:=false:CbsPlace}),e3:=({cell:=0,rest:=0,done:=false:CbsPlace}):Arr4CbsPlace}),acts:=({e0:=0,e1:=0,e2:=0,e3:=0:Arr4Int}):CbsStep})).cost,s34.2.2.2.2)) (J66 (s49.2.1,s49.2.2.1,s49.2.2.2.1))) (fun x65=>Jn (fun (J73:(List (Arr4CbsPlace×CbsStep))→Prop)=>Ite (decide (s34.2.2.2.2<p.most)) (KF p 0 s34.2.2.2.2 ({e0:=({cell:=0,rest:=0,done:=false:CbsPlace}),e1:=({cell:=0,rest:=0,done:=false:CbsPlace}),e2:=({cell:=0,rest:=0,done:=false:CbsPlace}),e3:=({cell:=0,rest:=0,done:=false:CbsPlace}):Arr4CbsPlace}) [] ({cost:=((lk x59 x56).getD ({cost:=0,from_:=({e0:=({cell:=0,rest:=0,done:=false:CbsPlace}),e1:=({cell:=0,rest:=0,done:=false:CbsPlace}),e2:=({cell:=0,rest:=0,done:=false:CbsPlace}),e3:=({cell:=0,rest:=0,done:=false:CbsPlace}):Arr4CbsPlace}),acts:=({e0:=0,e1:=0,e2:=0,e3:=0:Arr4Int}):CbsStep})).cost,from_:=x56,acts:=({e0:=0,e1:=0,e2:=0,e3:=0:Arr4Int}):CbsStep}) s49.2.2.2.2.1 (fun x77=>J73 x77)) (J73 s49.2.2.2.2.1)) (fun x72=>Y50 ((s49.1.set (Int.toNat s34.2.2.2.2) x59),x65.1,x65.2.1,x65.2.2,x72,w64 (s49.2.2.2.2.2+1)))))) (J48 (s49.1,s49.2.1,s49.2.2.1,s49.2.2.2.1,s49.2.2.2.2.1))) (((s34.1.set (Int.toNat s34.2.2.2.2) x45),s34.2.1,s34.2.2.1,s34.2.2.2.1,([]:List (Arr4CbsPlace×CbsStep)),0):List (List (Arr4CbsPlace×CbsStep))×Arr4CbsPlace×Int×Int×List (Arr4CbsPlace×CbsStep)×Int)) (fun x47=>(x47.1.length+1≤1099511627776)∧J40 (((x47.1++[x47.2.2.2.2]).set (x47.1.length) x47.2.2.2.2),x47.2.1,x47.2.2.1,x47.2.2.2.1)))) (fun x39=>Y35 (x39.1,x39.2.1,x39.2.2.1,x39.2.2.2,w64 (s34.2.2.2.2+1)))) (J33 (s34.1,s34.2.1,s34.2.2.1,s34.2.2.2.1))) ((([(upd ([]:List (Arr4CbsPlace×CbsStep)) x7 ({cost:=0,from_:=({e0:=({cell:=0,rest:=0,done:=false:CbsPlace}),e1:=({cell:=0,rest:=0,done:=false:CbsPlace}),e2:=({cell:=0,rest:=0,done:=false:CbsPlace}),e3:=({cell:=0,rest:=0,done:=false:CbsPlace}):Arr4CbsPlace}),acts:=({e0:=0,e1:=0,e2:=0,e3:=0:Arr4Int}):CbsStep}))].set 0 (upd ([]:List (Arr4CbsPlace×CbsStep)) x7 ({cost:=0,from_:=({e0:=({cell:=0,rest:=0,done:=false:CbsPlace}),e1:=({cell:=0,rest:=0,done:=false:CbsPlace}),e2:=({cell:=0,rest:=0,done:=false:CbsPlace}),e3:=({cell:=0,rest:=0,done:=false:CbsPlace}):Arr4CbsPlace}),acts:=({e0:=0,e1:=0,e2:=0,e3:=0:Arr4Int}):CbsStep}))),({e0:=({cell:=0,rest:=0,done:=false:CbsPlace}),e1:=({cell:=0,rest:=0,done:=false:CbsPlace}),e2:=({cell:=0,rest:=0,done:=false:CbsPlace}),e3:=({cell:=0,rest:=0,done:=false:CbsPlace}):Arr4CbsPlace}),(-1),0,0):List (List (Arr4CbsPlace×CbsStep))×Arr4CbsPlace×Int×Int×Int)) (fun x32=>Ite (decide (x32.2.2.1<0)) (post ([],14)) ((0≤(p.trips.length:Int)∧(p.trips.length:Int)≤1099511627776)∧Jn (fun (J94:(List (List Int))→Prop)=>Loop (fun (s95:List (List (Arr4CbsPlace×CbsStep))×Arr4CbsPlace×Int×List (List Int)) Y96=>Ite (decide (s95.2.2.1>0)) (Jn (fun (J101:(List (List (Arr4CbsPlace×CbsStep))×Arr4CbsPlace×List (List Int))→Prop)=>∃x104,idx s95.1 s95.2.2.1=some x104∧Jn (fun (J108:(List (List Int))→Prop)=>Loop (fun (s109:List (List Int)×Int) Y110=>Ite (decide (s109.2<(s95.2.2.2.length:Int))) (∃x119,idx ([((lk x104 s95.2.1).getD ({cost:=0,from_:=({e0:=({cell:=0,rest:=0,done:=false:CbsPlace}),e1:=({cell:=0,rest:=0,done:=false:CbsPlace}),e2:=({cell:=0,rest:=0,done:=false:CbsPlace}),e3:=({cell:=0,rest:=0,done:=false:CbsPlace}):Arr4CbsPlace}),acts:=({e0:=0,e1:=0,e2:=0,e3:=0:Arr4Int}):CbsStep})).acts.e0,((lk x104 s95.2.1).getD ({cost:=0,from_:=({e0:=({cell:=0,rest:=0,done:=false:CbsPlace}),e1:=({cell:=0,rest:=0,done:=false:CbsPlace}),e2:=({cell:=0,rest:=0,done:=false:CbsPlace}),e3:=({cell:=0,rest:=0,done:=false:CbsPlace}):Arr4CbsPlace}),acts:=({e0:=0,e1:=0,e2:=0,e3:=0:Arr4Int}):CbsStep})).acts.e1,((lk x104 s95.2.1).getD ({cost:=0,from_:=({e0:=({cell:=0,rest:=0,done:=false:CbsPlace}),e1:=({cell:=0,rest:=0,done:=false:CbsPlace}),e2:=({cell:=0,rest:=0,done:=false:CbsPlace}),e3:=({cell:=0,rest:=0,done:=false:CbsPlace}):Arr4CbsPlace}),acts:=({e0:=0,e1:=0,e2:=0,e3:=0:Arr4Int}):CbsStep})).acts.e2,((lk x104 s95.2.1).getD ({cost:=0,from_:=({e0:=({cell:=0,rest:=0,done:=false:CbsPlace}),e1:=({cell:=0,rest:=0,done:=false:CbsPlace}),e2:=({cell:=0,rest:=0,done:=false:CbsPlace}),e3:=({cell:=0,rest:=0,done:=false:CbsPlace}):Arr4CbsPlace}),acts:=({e0:=0,e1:=0,e2:=0,e3:=0:Arr4Int}):CbsStep})).acts.e3]:List Int) s109.2=some x119∧Jn (fun (J121:(List (List Int))→Prop)=>Ite (decide (x119≥0)) (∃x125,idx s109.1 s109.2=some x125∧(x125.length+([x119]:List Int).length≤1099511627776)∧J121 (s109.1.set (Int.toNat s109.2) (x125++([x119]:List Int)))) (J121 s109.1)) (fun x120=>Y110 (x120,w64 (s109.2+1)))) (J108 s109.1)) (s95.2.2.2,0)) (fun x107=>J101 ((s95.1.set (Int.toNat s95.2.2.1) x104),((lk x104 s95.2.1).getD ({cost:=0,from_:=({e0:=({cell:=0,rest:=0,done:=false:CbsPlace}),e1:=({cell:=0,rest:=0,done:=false:CbsPlace}),e2:=({cell:=0,rest:=0,done:=false:CbsPlace}),e3:=({cell:=0,rest:=0,done:=false:CbsPlace}):Arr4CbsPlace}),acts:=({e0:=0,e1:=0,e2:=0,e3:=0:Arr4Int}):CbsStep})).from_,x107))) (fun x100=>Y96 (x100.1,x100.2.1,w64 (s95.2.2.1-1),x100.2.2))) (J94 s95.2.2.2)) ((x32.1,x32.2.1,x32.2.2.2,(List.replicate (Int.toNat (p.trips.length:Int)) [])):List (List (Arr4CbsPlace×CbsStep))×Arr4CbsPlace×Int×List (List Int))) (fun x93=>Jn (fun (J137:(List (List Int))→Prop)=>Loop (fun (s138:List (List Int)×Int) Y139=>Ite (decide (s138.2<(x93.length:Int))) (∃x145,idx s138.1 s138.2=some x145∧QL x145 (fun x148=>Y139 ((s138.1.set (Int.toNat s138.2) x148),w64 (s138.2+1)))) (J137 s138.1)) (x93,0)) (fun x136=>post (x136,0))))))
def Kv (a:CbsPlace) (b:CbsPlace) (post:Int→Prop):Prop:=
 Gf ([w64 (a.cell-b.cell),w64 (a.rest-b.rest)]:List Int) (fun x5=>post x5)
def Qq (p0:List CbsPlace) (post:List CbsPlace→Prop):Prop:=
 ∃(p:CbsPlace→Prop) (cf:CbsPlace→CbsPlace→Int),p default∧(SWOc fun x y:Subtype p=>cf x.1 y.1)∧(∀x,x∈p0→p x)∧(∀x y,p x→p y→Kv x y (fun r=>r=cf x y))∧p0.length≤1099511627776∧∀ys,ys.Perm p0→ys.Pairwise (fun x y=>¬cf y x<0)→post ys
def Kn (layer:List (CbsPlace×CbsOrigin)) (post:(List CbsPlace)→Prop):Prop:=
 Jn (fun (J8:(List CbsPlace)→Prop)=>Loop (fun (s9:List CbsPlace×List CbsPlace) Y10=>(∀x11 x12,lk layer x11=some x12∧x11∉s9.2→(s9.1.length+([x11]:List CbsPlace).length≤1099511627776)∧Y10 ((s9.1++([x11]:List CbsPlace)),(x11 :: s9.2)))∧((∀x,lk layer x≠none→x∈s9.2)→J8 s9.1)) (([],([]:List CbsPlace)):List CbsPlace×List CbsPlace)) (fun x7=>Qq x7 (fun x20=>post x20))
def KD (p:CbsProblem) (i:Int) (bans:List (Kl×Bool)) (post:(List Int×Bool)→Prop):Prop:=
 Jn (fun (J8:Int→Prop)=>Loop (fun (s9:Int×List Kl) Y10=>(∀x11 x12,lk bans x11=some x12∧x11∉s9.2→Jn (fun (J16:Bool→Prop)=>Ite (x11.robot == i) (∃x18,idx p.trips i=some x18∧J16 (x11.cell == x18.To)) (J16 false)) (fun x15=>Jn (fun (J20:Int→Prop)=>Ite x15 (J20 (imax s9.1 x11.tick)) (J20 s9.1)) (fun x19=>Y10 (x19,(x11 :: s9.2)))))∧((∀x,lk bans x≠none→x∈s9.2)→J8 s9.1)) (((-1),([]:List Kl)):Int×List Kl)) (fun x7=>∃x26,idx p.trips i=some x26∧Jn (fun (J30:Unit→Prop)=>Loop (fun (s31:List (List (CbsPlace×CbsOrigin))×Int) Y32=>Ite (decide (s31.2≤p.most)) (Jn (fun (J37:(List (List (CbsPlace×CbsOrigin)))→Prop)=>∃x42,idx s31.1 s31.2=some x42∧Kn x42 (fun x43=>Jn (fun (J45:(List (CbsPlace×CbsOrigin))→Prop)=>Loop (fun (s46:List (CbsPlace×CbsOrigin)×Int) Y47=>Ite (decide (s46.2<(x43.length:Int))) (Jn (fun (J52:(List (CbsPlace×CbsOrigin))→Prop)=>∃x55,idx x43 s46.2=some x55∧Jn (fun (J57:Bool→Prop)=>∃x58,idx p.trips i=some x58∧Ite (x55.cell == x58.To) (J57 (decide (s31.2>x7))) (J57 false)) (fun x56=>Ite x56 (Jn (fun (J64:(List Int)→Prop)=>Loop (fun (s65:List (List (CbsPlace×CbsOrigin))×Int×Int×Int×Bool×List Int) Y66=>Ite (decide (s65.2.1>0)) (∃x72,idx s65.1 s65.2.1=some x72∧(s65.2.2.2.2.2.length+([((lk x72 ({cell:=s65.2.2.1,rest:=s65.2.2.2.1,done:=s65.2.2.2.2.1:CbsPlace})).getD ({from_:=({cell:=0,rest:=0,done:=false:CbsPlace}),act:=0:CbsOrigin})).act]:List Int).length≤1099511627776)∧Y66 ((s65.1.set (Int.toNat s65.2.1) x72),w64 (s65.2.1-1),((lk x72 ({cell:=s65.2.2.1,rest:=s65.2.2.2.1,done:=s65.2.2.2.2.1:CbsPlace})).getD ({from_:=({cell:=0,rest:=0,done:=false:CbsPlace}),act:=0:CbsOrigin})).from_.cell,((lk x72 ({cell:=s65.2.2.1,rest:=s65.2.2.2.1,done:=s65.2.2.2.2.1:CbsPlace})).getD ({from_:=({cell:=0,rest:=0,done:=false:CbsPlace}),act:=0:CbsOrigin})).from_.rest,((lk x72 ({cell:=s65.2.2.1,rest:=s65.2.2.2.1,done:=s65.2.2.2.2.1:CbsPlace})).getD ({from_:=({cell:=0,rest:=0,done:=false:CbsPlace}),act:=0:CbsOrigin})).from_.done,(s65.2.2.2.2.2++([((lk x72 ({cell:=s65.2.2.1,rest:=s65.2.2.2.1,done:=s65.2.2.2.2.1:CbsPlace})).getD ({from_:=({cell:=0,rest:=0,done:=false:CbsPlace}),act:=0:CbsOrigin})).act]:List Int)))) (J64 s65.2.2.2.2.2)) (((s31.1.set (Int.toNat s31.2) x42),s31.2,x55.cell,x55.rest,x55.done,[]):List (List (CbsPlace×CbsOrigin))×Int×Int×Int×Bool×List Int)) (fun x63=>QL x63 (fun x80=>post (x80,true)))) (Ite ((lk bans ({robot:=i,cell:=x55.cell,tick:=s31.2:Kl})).getD false) (J52 s46.1) (Kt p x55 s31.2 (fun x88=>Jn (fun (J90:(List (CbsPlace×CbsOrigin))→Prop)=>Loop (fun (s91:List (CbsPlace×CbsOrigin)×Int) Y92=>Ite (decide (s91.2<(x88.length:Int))) (∃x98,idx x88 s91.2=some x98∧Jn (fun (J102:Bool→Prop)=>Ite ((lk s91.1 x98.to_).isSome) (J102 false) (J102 (!((lk bans ({robot:=i,cell:=x98.to_.cell,tick:=s31.2:Kl})).getD false)))) (fun x101=>Jn (fun (J105:(List (CbsPlace×CbsOrigin))→Prop)=>Ite x101 (J105 (upd s91.1 x98.to_ ({from_:=x55,act:=x98.act:CbsOrigin}))) (J105 s91.1)) (fun x104=>Y92 (x104,w64 (s91.2+1))))) (J90 s91.1)) (s46.1,0)) (fun x89=>J52 x89)))))) (fun x51=>Y47 (x51,w64 (s46.2+1)))) (J45 s46.1)) ((([]:List (CbsPlace×CbsOrigin)),0):List (CbsPlace×CbsOrigin)×Int)) (fun x44=>((s31.1.set (Int.toNat s31.2) x42).length+1≤1099511627776)∧J37 (((s31.1.set (Int.toNat s31.2) x42)++[x44]).set ((s31.1.set (Int.toNat s31.2) x42).length) x44)))) (fun x36=>Y32 (x36,w64 (s31.2+1)))) (J30 ())) ((([(upd ([]:List (CbsPlace×CbsOrigin)) ({cell:=x26.From,rest:=0,done:=false:CbsPlace}) ({from_:=({cell:=0,rest:=0,done:=false:CbsPlace}),act:=0:CbsOrigin}))].set 0 (upd ([]:List (CbsPlace×CbsOrigin)) ({cell:=x26.From,rest:=0,done:=false:CbsPlace}) ({from_:=({cell:=0,rest:=0,done:=false:CbsPlace}),act:=0:CbsOrigin}))),0):List (List (CbsPlace×CbsOrigin))×Int)) (fun x29=>post ([],false)))
def Gq (s_1:ApiSite) (from_1:Int) (acts:List Int) (post:(List Int)→Prop):Prop:=
 Jn (fun (J4:Bool→Prop)=>Ite (decide (from_1<0)) (J4 true) (J4 (decide (from_1≥(s_1.Floor.Kind.length:Int))))) (fun x3=>Ite x3 (post []) (Jn (fun (J14:(List Int)→Prop)=>Loop (fun (s15:Int×List Int×Int) Y16=>Ite (decide (s15.2.2<(acts.length:Int))) (∃x22,idx acts s15.2.2=some x22∧Xt s_1.Floor s15.1 (w64 (x22-1)) (fun x25=>Jn (fun (J29:Int→Prop)=>Ite x25.2 (J29 x25.1) (J29 s15.1)) (fun x28=>(s15.2.1.length+([x28]:List Int).length≤1099511627776)∧Y16 (x28,(s15.2.1++([x28]:List Int)),w64 (s15.2.2+1))))) (J14 s15.2.1)) (from_1,([from_1]:List Int),0)) (fun x13=>post x13)))
def Gk (c:Int) (post:Bool→Prop):Prop:=
 Jn (fun (J4:Bool→Prop)=>Ite (decide (c≥0)) (J4 (decide (c<4096))) (J4 false)) (fun x3=>post x3)
def X6 (c:Int) (post:Bool→Prop):Prop:=
 Gk c (fun x5=>post (!x5))
def QJ (s_1:List Int) (post:Int→Prop):Prop:=
 Jn (fun (J6:Unit→Prop)=>Loop (fun (s7:Int) Y8=>Ite (decide (s7<(s_1.length:Int))) (∃x16,idx s_1 s7=some x16∧X6 x16 (fun x17=>Ite x17 (post s7) (Y8 (w64 (s7+1))))) (J6 ())) 0) (fun x5=>post (-1))
def QE (s_1:List Int) (post:(List Int)→Prop):Prop:=
 QJ s_1 (fun x5=>Ite (x5 == (-1)) (post s_1) (Jn (fun (J14:(List Int×Int)→Prop)=>Loop (fun (s15:List Int×Int×Int) Y16=>Ite (decide (s15.2.2<(s15.1.length:Int))) (∃x22,idx s15.1 s15.2.2=some x22∧X6 x22 (fun x25=>Jn (fun (J27:(List Int×Int)→Prop)=>Ite (!x25) (∃x31,idx s15.1 s15.2.1=some x31∧J27 ((s15.1.set (Int.toNat s15.2.1) x22),w64 (s15.2.1+1))) (J27 (s15.1,s15.2.1))) (fun x26=>Y16 (x26.1,x26.2,w64 (s15.2.2+1))))) (J14 (s15.1,s15.2.1))) (s_1,x5,w64 (x5+1))) (fun x13=>(0≤x13.2∧x13.2≤(x13.1.length:Int)∧(x13.1.length:Int)≤(x13.1.length:Int))∧((Int.toNat x13.2)+(Int.toNat ((x13.1.length:Int)-x13.2))≤x13.1.length)∧(0≤(0:Int)∧(0:Int)≤x13.2∧x13.2≤((x13.1.take (Int.toNat x13.2)++(List.replicate (Int.toNat ((x13.1.length:Int)-x13.2)) 0++x13.1.drop ((Int.toNat x13.2)+(Int.toNat ((x13.1.length:Int)-x13.2))))).length:Int))∧post (sub (x13.1.take (Int.toNat x13.2)++(List.replicate (Int.toNat ((x13.1.length:Int)-x13.2)) 0++x13.1.drop ((Int.toNat x13.2)+(Int.toNat ((x13.1.length:Int)-x13.2))))) 0 x13.2))))
def Kd (p0:List Int) (post:List Int→Prop):Prop:=
 p0.length≤1099511627776∧post (p0.mergeSort fun x y=>decide (x≤y))
def V_slices_Compact_int_int__o0 (s_1:List Int) (post:(List Int)→Prop):Prop:=
 Ite (decide ((s_1.length:Int)<2)) (post s_1) (Jn (fun (J11:Unit→Prop)=>Loop (fun (s12:Int) Y13=>Ite (decide (s12<(s_1.length:Int))) (Jn (fun (J18:Unit→Prop)=>∃x21,idx s_1 s12=some x21∧∃x22,idx s_1 (w64 (s12-1))=some x22∧Ite (x21 == x22) ((0≤s12∧s12≤(s_1.length:Int)∧(s_1.length:Int)≤(s_1.length:Int))∧Jn (fun (J30:(List Int×Int)→Prop)=>Loop (fun (s31:List Int×Int×Int) Y32=>Ite (decide (s31.2.2<((Int.toNat ((s_1.length:Int)-s12)):Int))) ((0≤s31.2.2∧s31.2.2<((Int.toNat ((s_1.length:Int)-s12)):Int))∧∃x39,s31.1[((Int.toNat s12)+Int.toNat s31.2.2)]?=some x39∧(0≤(w64 (s31.2.2-1))∧(w64 (s31.2.2-1))<((Int.toNat ((s_1.length:Int)-s12)):Int))∧∃x41,s31.1[((Int.toNat s12)+Int.toNat (w64 (s31.2.2-1)))]?=some x41∧Jn (fun (J43:(List Int×Int)→Prop)=>Ite (x39 != x41) ((0≤s31.2.2∧s31.2.2<((Int.toNat ((s_1.length:Int)-s12)):Int))∧∃x48,idx s31.1 s31.2.1=some x48∧J43 ((s31.1.set (Int.toNat s31.2.1) x39),w64 (s31.2.1+1))) (J43 (s31.1,s31.2.1))) (fun x42=>Y32 (x42.1,x42.2,w64 (s31.2.2+1)))) (J30 (s31.1,s31.2.1))) (s_1,s12,1)) (fun x29=>(0≤x29.2∧x29.2≤(x29.1.length:Int)∧(x29.1.length:Int)≤(x29.1.length:Int))∧((Int.toNat x29.2)+(Int.toNat ((x29.1.length:Int)-x29.2))≤x29.1.length)∧(0≤(0:Int)∧(0:Int)≤x29.2∧x29.2≤((x29.1.take (Int.toNat x29.2)++(List.replicate (Int.toNat ((x29.1.length:Int)-x29.2)) 0++x29.1.drop ((Int.toNat x29.2)+(Int.toNat ((x29.1.length:Int)-x29.2))))).length:Int))∧post (sub (x29.1.take (Int.toNat x29.2)++(List.replicate (Int.toNat ((x29.1.length:Int)-x29.2)) 0++x29.1.drop ((Int.toNat x29.2)+(Int.toNat ((x29.1.length:Int)-x29.2))))) 0 x29.2))) (J18 ())) (fun x17=>Y13 (w64 (s12+1)))) (J11 ())) 1) (fun x10=>post s_1))
def GZ (l:List Int) (post:(List Int)→Prop):Prop:=
 QV l (fun x5=>QE x5 (fun x6=>Kd x6 (fun x9=>V_slices_Compact_int_int__o0 x9 (fun x12=>post x12))))
def XX (s_1:ApiSite) (from_1:Int) (acts:List Int) (k:Int) (post:(List Int)→Prop):Prop:=
 Gq s_1 from_1 acts (fun x5=>Jn (fun (J7:Bool→Prop)=>Ite ((x5.length:Int) == 0) (J7 true) (J7 (decide (k<0)))) (fun x6=>Ite x6 (post []) (∃x14,idx x5 (imin k (w64 ((x5.length:Int)-1)))=some x14∧Jn (fun (J16:Bool→Prop)=>Ite (decide (k<(acts.length:Int))) (∃x18,idx acts k=some x18∧Ite (decide (x18≥1)) (J16 (decide (x18<7))) (J16 false)) (J16 false)) (fun x15=>Jn (fun (J21:Unit→Prop)=>Ite x15 (∃x25,idx acts k=some x25∧Xt s_1.Floor x14 (w64 (x25-1)) (fun x26=>Ite x26.2 (GZ ([x14,x26.1]:List Int) (fun x32=>post x32)) (J21 ()))) (J21 ())) (fun x20=>post ([x14]:List Int))))))
def Gm (a:List Int) (b:List Int) (post:(List Int×List Int)→Prop):Prop:=
 post (a,b)
def Kh (c0:List Int) (c1:List Int) (oy:Option (List (Int×QX))) (post:(Option (List (Int×QX)))→Prop):Prop:=
 Jn (fun (J2:(List Int×List Int×Option (List (Int×QX)))→Prop)=>Loop (fun (s3:List Int×List Int×Option (List (Int×QX))) Y4=>Ite (decide ((w64 ((s3.1.length:Int)+(s3.2.1.length:Int)))>0)) (Jn (fun (J9:Bool→Prop)=>Ite ((s3.2.1.length:Int) == 0) (J9 true) (Ite (decide ((s3.1.length:Int)>0)) (∃x12,idx s3.1 0=some x12∧∃x13,idx s3.2.1 0=some x13∧J9 (decide (x12≤x13))) (J9 false))) (fun x8=>Jn (fun (J15:Bool→Prop)=>Ite ((s3.1.length:Int) == 0) (J15 true) (Ite (decide ((s3.2.1.length:Int)>0)) (∃x18,idx s3.2.1 0=some x18∧∃x19,idx s3.1 0=some x19∧J15 (decide (x18≤x19))) (J15 false))) (fun x14=>Jn (fun (J25:(List Int×Int)→Prop)=>Ite x8 (∃x29,idx s3.1 0=some x29∧(0≤(1:Int)∧(1:Int)≤(s3.1.length:Int)∧(s3.1.length:Int)≤(s3.1.length:Int))∧J25 ((sub s3.1 1 (s3.1.length:Int)),x29)) (J25 (s3.1,0))) (fun x24=>Jn (fun (J34:(List Int×Int)→Prop)=>Ite x14 (∃x38,idx s3.2.1 0=some x38∧(0≤(1:Int)∧(1:Int)≤(s3.2.1.length:Int)∧(s3.2.1.length:Int)≤(s3.2.1.length:Int))∧J34 ((sub s3.2.1 1 (s3.2.1.length:Int)),x38)) (J34 (s3.2.1,x24.2))) (fun x33=>Yld s3.2.2 (x33.2,({e0:=x8,e1:=x14:QX})) (fun x40=>Ite (!x40.1) (post x40.2) (Y4 (x24.1,x33.1,x40.2)))))))) (J2 (s3.1,s3.2.1,s3.2.2))) (c0,c1,oy)) (fun x1=>post x1.2.2)
def G5 (a:List Int) (b:List Int) (post:(List Int)→Prop):Prop:=
 Gm a b (fun x7=>∃ys8:List (Int×QX),(Kh x7.1 x7.2 (some ys8) (fun r=>r=none∨r=some []))∧Each (fun (x9:Int×QX) (s10:List Int) Y11=>Jn (fun (J18:Bool→Prop)=>Ite x9.2.e0 (J18 x9.2.e1) (J18 false)) (fun x17=>Jn (fun (J23:(List Int)→Prop)=>Ite x17 ((s10.length+([x9.1]:List Int).length≤1099511627776)∧J23 (s10++([x9.1]:List Int))) (J23 s10)) (fun x22=>Y11 x22))) (fun (s28:List Int)=>post s28) ys8 ([]:List Int))
def Gy (s_1:ApiSite) (trips:List ApiTrip) (plan:List (List Int)) (post:(We×Bool)→Prop):Prop:=
 Jn (fun (J8:Int→Prop)=>Loop (fun (s9:Int×Int) Y10=>Ite (decide (s9.2<(plan.length:Int))) (∃x16,idx plan s9.2=some x16∧Y10 (imax s9.1 (x16.length:Int),w64 (s9.2+1))) (J8 s9.1)) (0,0)) (fun x7=>Jn (fun (J24:Unit→Prop)=>Loop (fun (s25:Int) Y26=>Ite (decide (s25<(w64 (x7+1)))) (Jn (fun (J31:Unit→Prop)=>Jn (fun (J37:Unit→Prop)=>Loop (fun (s38:Int) Y39=>Ite (decide (s38<(plan.length:Int))) (Jn (fun (J44:Unit→Prop)=>∃x49,idx trips s38=some x49∧∃x50,idx plan s38=some x50∧XX s_1 x49.From x50 s25 (fun x51=>Jn (fun (J55:Unit→Prop)=>Loop (fun (s56:Int) Y57=>Ite (decide (s56<(plan.length:Int))) (∃x63,idx trips s56=some x63∧∃x64,idx plan s56=some x64∧XX s_1 x63.From x64 s25 (fun x65=>G5 x51 x65 (fun x66=>Ite (decide ((x66.length:Int)>0)) (∃x72,idx x66 0=some x72∧post (({a:=s38,b:=s56,tick:=s25,cell:=x72:We}),true)) (Y57 (w64 (s56+1)))))) (J55 ())) (w64 (s38+1))) (fun x54=>J44 ()))) (fun x43=>Y39 (w64 (s38+1)))) (J37 ())) 0) (fun x36=>J31 ())) (fun x30=>Y26 (w64 (s25+1)))) (J24 ())) 0) (fun x23=>post (({a:=0,b:=0,tick:=0,cell:=0:We}),false)))
def Kb (s_1:List (List Int)) (post:(List (List Int))→Prop):Prop:=
 ∀hb5:Bool,(hb5=true→s_1=[])→Ite (hb5 == true) (post []) ((([]:List (List Int)).length+s_1.length≤1099511627776)∧post (([]:List (List Int))++s_1))
def KE (p:CbsProblem) (n:Qw) (b:Kl) (post:(Qw×Bool)→Prop):Prop:=
 Kb n.plan (fun x5=>Jn (fun (J9:(List (Kl×Bool))→Prop)=>Loop (fun (s10:List (Kl×Bool)×List Kl) Y11=>(∀x12 x13,lk n.bans x12=some x13∧x12∉s10.2→Y11 ((upd s10.1 x12 true),(x12 :: s10.2)))∧((∀x,lk n.bans x≠none→x∈s10.2)→J9 s10.1)) (((upd ([]:List (Kl×Bool)) b true),([]:List Kl)):List (Kl×Bool)×List Kl)) (fun x8=>KD p b.robot x8 (fun x20=>∃x23,idx x5 b.robot=some x23∧post (({bans:=x8,plan:=(x5.set (Int.toNat b.robot) x20.1):Qw}),x20.2))))
def KX (plan:List (List Int)) (post:Int→Prop):Prop:=
 Jn (fun (J8:Int→Prop)=>Loop (fun (s9:Int×Int) Y10=>Ite (decide (s9.2<(plan.length:Int))) (∃x16,idx plan s9.2=some x16∧Y10 (w64 (s9.1+(x16.length:Int)),w64 (s9.2+1))) (J8 s9.1)) (0,0)) (fun x7=>post x7)
def Ka (o_1:Qw) (t:Int) (post:Int→Prop):Prop:=
 KX o_1.plan (fun x5=>post (w64 (x5-t)))
def Q7 (x_1:List Qw) (target:Int) (post:(Int×Bool)→Prop):Prop:=
 Jn (fun (J8:Int→Prop)=>Loop (fun (s9:Int×Int) Y10=>Ite (decide (s9.1<s9.2)) (∃x19,idx x_1 (IntKind.wrap .i64 (shrI .u64 (IntKind.wrap .u64 (w64 (s9.1+s9.2))) 1))=some x19∧Ka x19 target (fun x20=>Jn (fun (J22:(Int×Int)→Prop)=>Ite (decide (x20<0)) (J22 (w64 ((IntKind.wrap .i64 (shrI .u64 (IntKind.wrap .u64 (w64 (s9.1+s9.2))) 1))+1),s9.2)) (J22 (s9.1,IntKind.wrap .i64 (shrI .u64 (IntKind.wrap .u64 (w64 (s9.1+s9.2))) 1)))) (fun x21=>Y10 (x21.1,x21.2)))) (J8 s9.1)) (0,(x_1.length:Int))) (fun x7=>Jn (fun (J29:Bool→Prop)=>Ite (decide (x7<(x_1.length:Int))) (∃x31,idx x_1 x7=some x31∧Ka x31 target (fun x32=>J29 (x32 == 0))) (J29 false)) (fun x28=>post (x7,x28)))
def QC (i:Int) (s_1:List Qw) (v:List Qw) (post:(List Qw×List Qw)→Prop):Prop:=
 (0≤i∧i≤(s_1.length:Int)∧(s_1.length:Int)≤(s_1.length:Int))∧Ite ((v.length:Int) == 0) (post (s_1,v)) (Ite (i == (s_1.length:Int)) ((s_1.length+v.length≤1099511627776)∧post ((s_1++v),v)) (False))
def Qn (i:Int) (xs:List Qw) (ys:List Qw) (post:List Qw→Prop):Prop:=
 QC i xs ys (fun y=>post y.1)∨(0≤i∧i<(xs.length:Int))∧0<ys.length∧xs.length+ys.length≤1099511627776∧post (xs.take (Int.toNat i)++(ys++xs.drop (Int.toNat i)))
def KJ (p:CbsProblem) (post:(List (List Int)×Int)→Prop):Prop:=
 (0≤(p.trips.length:Int)∧(p.trips.length:Int)≤1099511627776)∧Jn (fun (J9:(List (List Int))→Prop)=>Loop (fun (s10:List (List Int)×Int) Y11=>Ite (decide (s10.2<(p.trips.length:Int))) (KD p s10.2 [] (fun x19=>Ite (!x19.2) (post ([],14)) (∃x27,idx s10.1 s10.2=some x27∧Y11 ((s10.1.set (Int.toNat s10.2) x19.1),w64 (s10.2+1))))) (J9 s10.1)) (((List.replicate (Int.toNat (p.trips.length:Int)) []),0):List (List Int)×Int)) (fun x8=>Jn (fun (J35:Unit→Prop)=>Loop (fun (s36:List Qw×Int) Y37=>Ite (decide (s36.2<500)) (Jn (fun (J42:(List Qw)→Prop)=>Ite ((s36.1.length:Int) == 0) (post ([],14)) (∃x50,idx s36.1 0=some x50∧(0≤(1:Int)∧(1:Int)≤(s36.1.length:Int)∧(s36.1.length:Int)≤(s36.1.length:Int))∧Gy p.s p.trips x50.plan (fun x56=>Ite (!x56.2) (post (x50.plan,0)) (Jn (fun (J65:(List Qw)→Prop)=>Loop (fun (s66:List Qw×Int) Y67=>Ite (decide (s66.2<(([x56.1.a,x56.1.b]:List Int).length:Int))) (∃x73,idx ([x56.1.a,x56.1.b]:List Int) s66.2=some x73∧KE p x50 ({robot:=x73,cell:=x56.1.cell,tick:=x56.1.tick:Kl}) (fun x76=>Jn (fun (J80:(List Qw)→Prop)=>Ite x76.2 (KX x76.1.plan (fun x84=>Q7 s66.1 (w64 (x84+1)) (fun x85=>Qn x85.1 s66.1 ([x76.1]:List Qw) (fun x88=>J80 x88)))) (J80 s66.1)) (fun x79=>Y67 (x79,w64 (s66.2+1))))) (J65 s66.1)) ((sub s36.1 1 (s36.1.length:Int)),0)) (fun x64=>J42 x64))))) (fun x41=>Y37 (x41,w64 (s36.2+1)))) (J35 ())) ((([({bans:=[],plan:=x8:Qw})]:List Qw),0):List Qw×Int)) (fun x34=>post ([],27)))
def KR (s_1:ApiSite) (trips:List ApiTrip) (tick:Int) (avoid:List Int) (most:Int) (post:(List (List Int)×Int)→Prop):Prop:=
 Jn (fun (J6:Bool→Prop)=>XT s_1 trips (fun x7=>Ite x7 (Ite (decide (tick<0)) (J6 true) (Ite (decide (tick>20000)) (J6 true) (J6 (decide (most<0))))) (J6 true))) (fun x5=>Ite x5 (post ([],1)) (Ite (decide (most>60)) (post ([],27)) (Kz ({s:=s_1,trips:=trips,tick:=tick,avoid:=avoid,most:=most:CbsProblem}) (fun x21=>Ite x21 (KV ({s:=s_1,trips:=trips,tick:=tick,avoid:=avoid,most:=most:CbsProblem}) (fun x25=>post (x25.1,x25.2))) (KJ ({s:=s_1,trips:=trips,tick:=tick,avoid:=avoid,most:=most:CbsProblem}) (fun x29=>post (x29.1,x29.2)))))))
def Km (a:List Int) (b:List Int) (post:Bool→Prop):Prop:=
 Ite ((a.length:Int) != (b.length:Int)) (post false) (Jn (fun (J11:Unit→Prop)=>Loop (fun (s12:Int) Y13=>Ite (decide (s12<(a.length:Int))) (∃x19,idx a s12=some x19∧∃x20,idx b s12=some x20∧Ite (x19 != x20) (post false) (Y13 (w64 (s12+1)))) (J11 ())) 0) (fun x10=>post true))
def V_taquinlaw24_small (post:Bool→Prop):Prop:=
 Xi (fun x5=>KR x5 ([({From:=0,To:=2:ApiTrip})]:List ApiTrip) 0 [] 20 (fun x9=>KR x5 ([({From:=0,To:=1:ApiTrip}),({From:=1,To:=0:ApiTrip})]:List ApiTrip) 0 [] 20 (fun x15=>KR x5 ([({From:=0,To:=1:ApiTrip}),({From:=1,To:=0:ApiTrip})]:List ApiTrip) 0 [] 2 (fun x18=>Jn (fun (J20:Bool→Prop)=>XX x5 0 ([1]:List Int) 0 (fun x21=>Km x21 ([0,1]:List Int) (fun x22=>Ite x22 (XX x5 0 ([1]:List Int) 1 (fun x24=>Km x24 ([1]:List Int) (fun x25=>J20 x25))) (J20 false)))) (fun x19=>Jn (fun (J27:Bool→Prop)=>Ite (x9.2 == 0) (KX x9.1 (fun x29=>Ite (x29 == 2) (Ite (x15.2 == 0) (KX x15.1 (fun x32=>Ite (x32 == 5) (Ite (x18.2 == 14) (J27 x19) (J27 false)) (J27 false))) (J27 false)) (J27 false))) (J27 false)) (fun x26=>post x26))))))
def Xl (f:ApiFloor) (n:Int) (post:Bool→Prop):Prop:=
 Jn (fun (J4:Bool→Prop)=>Ite (decide ((f.Kind.length:Int)≤n)) (J4 (decide ((f.Out.length:Int)≤n))) (J4 false)) (fun x3=>post x3)
def Xp (s_1:ApiSite) (cells:Int) (most:Int) (post:Bool→Prop):Prop:=
 Jn (fun (J6:Unit→Prop)=>Loop (fun (s7:Int) Y8=>Jn (fun (J10:Bool→Prop)=>Ite (decide (s7<(s_1.Zones.length:Int))) (J10 (decide (s7≤most))) (J10 false)) (fun x9=>Ite x9 (Jn (fun (J14:Bool→Prop)=>∃x15,idx s_1.Zones s7=some x15∧Ite (decide ((x15.Cells.length:Int)>cells)) (J14 true) (Ite (decide ((x15.Shut.length:Int)>20)) (J14 true) (J14 (decide ((x15.Name.size:Int)>40))))) (fun x13=>Ite x13 (post false) (Y8 (w64 (s7+1))))) (J6 ()))) 0) (fun x5=>Jn (fun (J26:Unit→Prop)=>Loop (fun (s27:Int) Y28=>Jn (fun (J30:Bool→Prop)=>Ite (decide (s27<(s_1.Aparts.length:Int))) (J30 (decide (s27≤most))) (J30 false)) (fun x29=>Ite x29 (Jn (fun (J34:Bool→Prop)=>∃x35,idx s_1.Aparts s27=some x35∧Ite (decide ((x35.A.size:Int)>40)) (J34 true) (J34 (decide ((x35.B.size:Int)>40)))) (fun x33=>Ite x33 (post false) (Y28 (w64 (s27+1))))) (J26 ()))) 0) (fun x25=>Jn (fun (J45:Unit→Prop)=>Loop (fun (s46:Int) Y47=>Jn (fun (J49:Bool→Prop)=>Ite (decide (s46<(s_1.Shelves.length:Int))) (J49 (decide (s46≤most))) (J49 false)) (fun x48=>Ite x48 (∃x54,idx s_1.Shelves s46=some x54∧Ite (decide ((x54.Class.size:Int)>40)) (post false) (Y47 (w64 (s46+1)))) (J45 ()))) 0) (fun x44=>Jn (fun (J61:Bool→Prop)=>Xl s_1.Floor cells (fun x62=>Ite x62 (Ite (decide ((s_1.Zones.length:Int)≤most)) (Ite (decide ((s_1.Aparts.length:Int)≤most)) (Ite (decide ((s_1.Shelves.length:Int)≤most)) (J61 (decide ((s_1.Robots.length:Int)≤most))) (J61 false)) (J61 false)) (J61 false)) (J61 false))) (fun x60=>post x60))))
def Gp (f:ApiFloor) (post:Bool→Prop):Prop:=
 Jn (fun (J4:Bool→Prop)=>Ite (decide ((imin (imin f.W f.H) f.D)<1)) (J4 true) (Ite (decide (f.D>4)) (J4 true) (J4 (decide ((imax f.W f.H)>4096))))) (fun x3=>Ite x3 (post false) (XU f (fun x12=>Jn (fun (J14:Bool→Prop)=>Ite (decide (x12>4096)) (J14 true) (Ite ((f.Kind.length:Int) != x12) (J14 true) (J14 ((f.Out.length:Int) != x12)))) (fun x13=>Ite x13 (post false) (Jn (fun (J23:Unit→Prop)=>Loop (fun (s24:Int) Y25=>Ite (decide (s24<(f.Kind.length:Int))) (∃x31,idx f.Kind s24=some x31∧Jn (fun (J33:Bool→Prop)=>Ite (decide (x31<0)) (J33 true) (Ite (decide (x31≥7)) (J33 true) (∃x36,idx f.Out s24=some x36∧Ite (decide (x36<0)) (J33 true) (J33 (decide (x36>63)))))) (fun x32=>Ite x32 (post false) (Y25 (w64 (s24+1))))) (J23 ())) 0) (fun x22=>post true))))))
def XV (f:ApiFloor) (post:SurveyMaker→Prop):Prop:=
 post ({site:=({Floor:=f,Zones:=[],Aparts:=[],Shelves:=[],Robots:=[]:ApiSite}),shelf:=([]:List (Int×Int)),robot:=([]:List (Int×Bool)),zoned:=([]:List (Int×Bool)),names:=([]:List (ByteArray×Int)),oneways:=([]:List (Int×Bool)),shelves:=[],zones:=[]:SurveyMaker})
def W5 (s_1:ByteArray) (c:Int) (post:Int→Prop):Prop:=
 post (Q0e s_1 c)
def KP (s_1:ByteArray) (post:Bool→Prop):Prop:=
 Jn (fun (J4:Bool→Prop)=>Ite (decide ((s_1.size:Int)<1)) (J4 true) (Ite (decide ((s_1.size:Int)>20)) (J4 true) (∃x7,idx s_1.data.toList 0=some x7∧Ite (decide ((x7.toNat:Int)≥48)) (J4 (decide ((x7.toNat:Int)≤57))) (J4 false)))) (fun x3=>Ite x3 (post false) (Jn (fun (J15:Unit→Prop)=>Loop (fun (s16:Int) Y17=>Ite (decide (s16<(s_1.size:Int))) (∃x25,idx s_1.data.toList s16=some x25∧W5 (ByteArray.mk #[97,98,99,100,101,102,103,104,105,106,107,108,109,110,111,112,113,114,115,116,117,118,119,120,121,122,65,66,67,68,69,70,71,72,73,74,75,76,77,78,79,80,81,82,83,84,85,86,87,88,89,90,48,49,50,51,52,53,54,55,56,57,95,45]) (x25.toNat:Int) (fun x26=>Ite (decide (x26<0)) (post false) (Y17 (w64 (s16+1))))) (J15 ())) 0) (fun x14=>post true)))
def Xn (n:Int) (from_1:Int) (to_1:Int) (post:Bool→Prop):Prop:=
 Jn (fun (J4:Bool→Prop)=>Ite (decide (n≥from_1)) (J4 (decide (n≤to_1))) (J4 false)) (fun x3=>post x3)
def Gj (l:List QF) (post:Bool→Prop):Prop:=
 Jn (fun (J8:Unit→Prop)=>Loop (fun (s9:Int×Int) Y10=>Ite (decide (s9.2<(l.length:Int))) (∃x16,idx l s9.2=some x16∧Jn (fun (J18:Bool→Prop)=>Ite (decide (x16.From<s9.1)) (J18 true) (Ite (decide (x16.From≥x16.To)) (J18 true) (J18 (decide (x16.To>20000))))) (fun x17=>Ite x17 (post false) (Y10 (x16.To,w64 (s9.2+1))))) (J8 ())) (0,0)) (fun x7=>post true)
def QO (m:SurveyMaker) (c:Int) (post:(Int×Bool)→Prop):Prop:=
 Jn (fun (J4:Bool→Prop)=>Ite (decide (c<0)) (J4 true) (J4 (decide (c≥(m.site.Floor.Kind.length:Int))))) (fun x3=>Ite x3 (post (0,false)) (∃x11,idx m.site.Floor.Kind c=some x11∧post (x11,true)))
def KM (m:SurveyMaker) (l:List Int) (post:Bool→Prop):Prop:=
 Jn (fun (J6:Unit→Prop)=>Loop (fun (s7:Int) Y8=>Ite (decide (s7<(l.length:Int))) (∃x14,idx l s7=some x14∧QO m x14 (fun x17=>Jn (fun (J19:Bool→Prop)=>Ite x17.2 (Ite (decide (s7>0)) (∃x22,idx l (w64 (s7-1))=some x22∧J19 (decide (x22≥x14))) (J19 false)) (J19 true)) (fun x18=>Ite x18 (post false) (Y8 (w64 (s7+1)))))) (J6 ())) 0) (fun x5=>post (decide ((l.length:Int)>0)))
def G7 (kind:Int) (post:Bool→Prop):Prop:=
 Jn (fun (J4:Bool→Prop)=>Ite (kind != 0) (Ite (kind != 4) (J4 (kind != 5)) (J4 false)) (J4 false)) (fun x3=>post x3)
def K7 (z:Qx) (m:SurveyMaker) (post:(Int×SurveyMaker)→Prop):Prop:=
 Ite ((lk m.names z.Name).isSome) (post (5,m)) (Ite (decide ((m.site.Zones.length:Int)≥64)) (post (6,m)) (Jn (fun (J18:Unit→Prop)=>Loop (fun (s19:Int) Y20=>Ite (decide (s19<(z.Cells.length:Int))) (∃x26,idx z.Cells s19=some x26∧QO m x26 (fun x29=>Jn (fun (J31:Bool→Prop)=>G7 x29.1 (fun x32=>Ite x32 (J31 ((lk m.zoned x26).getD false)) (J31 true))) (fun x30=>Ite x30 (post (13,m)) (Y20 (w64 (s19+1)))))) (J18 ())) 0) (fun x17=>Jn (fun (J42:(List (Int×Bool))→Prop)=>Loop (fun (s43:List (Int×Bool)×Int) Y44=>Ite (decide (s43.2<(z.Cells.length:Int))) (∃x50,idx z.Cells s43.2=some x50∧Y44 ((upd s43.1 x50 true),w64 (s43.2+1))) (J42 s43.1)) (m.zoned,0)) (fun x41=>(m.site.Zones.length+([z]:List Qx).length≤1099511627776)∧post (0,({site:=({Floor:=m.site.Floor,Zones:=(m.site.Zones++([z]:List Qx)),Aparts:=m.site.Aparts,Shelves:=m.site.Shelves,Robots:=m.site.Robots:ApiSite}),shelf:=m.shelf,robot:=m.robot,zoned:=x41,names:=(upd m.names z.Name (m.site.Zones.length:Int)),oneways:=m.oneways,shelves:=m.shelves,zones:=m.zones:SurveyMaker}))))))
def QT (s_1:List Qk) (v:Qk) (post:Int→Prop):Prop:=
 Jn (fun (J6:Unit→Prop)=>Loop (fun (s7:Int) Y8=>Ite (decide (s7<(s_1.length:Int))) (∃x16,idx s_1 s7=some x16∧Ite (seq v.A x16.A&&(seq v.B x16.B&&true)) (post s7) (Y8 (w64 (s7+1)))) (J6 ())) 0) (fun x5=>post (-1))
def Qt (s_1:List Qk) (v:Qk) (post:Bool→Prop):Prop:=
 QT s_1 v (fun x5=>post (decide (x5≥0)))
def XD (l:List Qk) (a:ByteArray) (b:ByteArray) (post:Bool→Prop):Prop:=
 Jn (fun (J4:Bool→Prop)=>Ite (seq a ByteArray.empty) (J4 true) (J4 (seq b ByteArray.empty))) (fun x3=>Ite x3 (post false) (Jn (fun (J10:Bool→Prop)=>Qt l ({A:=a,B:=b:Qk}) (fun x11=>Ite x11 (J10 true) (Qt l ({A:=b,B:=a:Qk}) (fun x13=>J10 x13)))) (fun x9=>post x9)))
def K4 (x_1:Qk) (m:SurveyMaker) (post:(Int×SurveyMaker)→Prop):Prop:=
 Jn (fun (J4:Bool→Prop)=>KP x_1.A (fun x5=>Ite x5 (KP x_1.B (fun x7=>J4 (!x7))) (J4 true))) (fun x3=>Ite x3 (post (12,m)) (XD m.site.Aparts x_1.A x_1.B (fun x13=>Ite x13 (post (5,m)) ((m.site.Aparts.length+([x_1]:List Qk).length≤1099511627776)∧post (0,({site:=({Floor:=m.site.Floor,Zones:=m.site.Zones,Aparts:=(m.site.Aparts++([x_1]:List Qk)),Shelves:=m.site.Shelves,Robots:=m.site.Robots:ApiSite}),shelf:=m.shelf,robot:=m.robot,zoned:=m.zoned,names:=m.names,oneways:=m.oneways,shelves:=m.shelves,zones:=m.zones:SurveyMaker}))))))
def Xj (kind:Int) (post:Bool→Prop):Prop:=
 Jn (fun (J4:Bool→Prop)=>Ite (kind == 1) (J4 true) (J4 (kind == 2))) (fun x3=>post x3)
def K3 (x_1:QB) (m:SurveyMaker) (post:(Int×SurveyMaker)→Prop):Prop:=
 Jn (fun (J4:Bool→Prop)=>Ite (seq x_1.Class ByteArray.empty) (J4 false) (KP x_1.Class (fun x6=>J4 (!x6)))) (fun x3=>Ite x3 (post (12,m)) (QO m x_1.Cell (fun x12=>Ite (!x12.2) (post (3,m)) (Xj x12.1 (fun x20=>Ite (!x20) (post (13,m)) (Ite ((lk m.shelf x_1.Cell).isSome) (post (5,m)) (Ite (decide ((m.site.Shelves.length:Int)≥3000)) (post (6,m)) ((m.site.Shelves.length+([x_1]:List QB).length≤1099511627776)∧post (0,({site:=({Floor:=m.site.Floor,Zones:=m.site.Zones,Aparts:=m.site.Aparts,Shelves:=(m.site.Shelves++([x_1]:List QB)),Robots:=m.site.Robots:ApiSite}),shelf:=(upd m.shelf x_1.Cell (m.site.Shelves.length:Int)),robot:=m.robot,zoned:=m.zoned,names:=m.names,oneways:=m.oneways,shelves:=m.shelves,zones:=m.zones:SurveyMaker}))))))))))
def K2 (x_1:QK) (m:SurveyMaker) (post:(Int×SurveyMaker)→Prop):Prop:=
 QO m x_1.Cell (fun x5=>Jn (fun (J7:Bool→Prop)=>Ite x5.2 (Xn x_1.Charge 0 1000000 (fun x9=>J7 (!x9))) (J7 true)) (fun x6=>Ite x6 (post (3,m)) (Ite (x5.1 == 0) (post (13,m)) (Ite ((lk m.robot x_1.Cell).getD false) (post (5,m)) (Ite (decide ((m.site.Robots.length:Int)≥200)) (post (6,m)) ((m.site.Robots.length+([x_1]:List QK).length≤1099511627776)∧post (0,({site:=({Floor:=m.site.Floor,Zones:=m.site.Zones,Aparts:=m.site.Aparts,Shelves:=m.site.Shelves,Robots:=(m.site.Robots++([x_1]:List QK)):ApiSite}),shelf:=m.shelf,robot:=(upd m.robot x_1.Cell true),zoned:=m.zoned,names:=m.names,oneways:=m.oneways,shelves:=m.shelves,zones:=m.zones:SurveyMaker}))))))))
def KA (m:SurveyMaker) (post:Int→Prop):Prop:=
 Jn (fun (J8:Unit→Prop)=>Loop (fun (s9:Int) Y10=>Ite (decide (s9<(m.site.Shelves.length:Int))) (Jn (fun (J15:Unit→Prop)=>∃x18,idx m.site.Shelves s9=some x18∧GR m.site.Floor x18.Cell (fun x21=>X9 m.site.Floor (w64 (x21.1+1)) x21.2.1 x21.2.2 (fun x24=>X9 m.site.Floor x21.1 (w64 (x21.2.1+1)) x21.2.2 (fun x25=>X9 m.site.Floor (w64 (x21.1-1)) x21.2.1 x21.2.2 (fun x26=>X9 m.site.Floor x21.1 (w64 (x21.2.1-1)) x21.2.2 (fun x27=>Jn (fun (J29:Unit→Prop)=>Loop (fun (s30:Int) Y31=>Ite (decide (s30<(([x24,x25,x26,x27]:List Int).length:Int))) (∃x37,idx ([x24,x25,x26,x27]:List Int) s30=some x37∧Jn (fun (J41:Bool→Prop)=>Ite ((lk m.shelf x37).isSome) (Ite (decide (((lk m.shelf x37).getD 0)<s9)) (∃x44,idx m.site.Shelves ((lk m.shelf x37).getD 0)=some x44∧XD m.site.Aparts x18.Class x44.Class (fun x45=>J41 x45)) (J41 false)) (J41 false)) (fun x40=>Ite x40 (post s9) (Y31 (w64 (s30+1))))) (J29 ())) 0) (fun x28=>J15 ()))))))) (fun x14=>Y10 (w64 (s9+1)))) (J8 ())) 0) (fun x7=>post (-1))
def K0 (z:Qx) (c0:SurveyMaker) (post:Bool→Prop):Prop:=
 Jn (fun (J8:Int→Prop)=>Loop (fun (s9:Int×Int) Y10=>Ite (decide (s9.2<(z.Cells.length:Int))) (∃x16,idx z.Cells s9.2=some x16∧Jn (fun (J20:Bool→Prop)=>Ite ((lk c0.shelf x16).isSome) (J20 false) (∃x22,idx c0.site.Floor.Kind x16=some x22∧Xj x22 (fun x23=>J20 x23))) (fun x19=>Jn (fun (J25:Int→Prop)=>Ite x19 (J25 (w64 (s9.1+1))) (J25 s9.1)) (fun x24=>Y10 (x24,w64 (s9.2+1))))) (J8 s9.1)) (0,0)) (fun x7=>post (decide (x7<z.Keep)))
def Qd (s_1:List Qx) (f_c0:SurveyMaker) (post:Int→Prop):Prop:=
 Jn (fun (J6:Unit→Prop)=>Loop (fun (s7:Int) Y8=>Ite (decide (s7<(s_1.length:Int))) (∃x16,idx s_1 s7=some x16∧K0 x16 f_c0 (fun x17=>Ite x17 (post s7) (Y8 (w64 (s7+1))))) (J6 ())) 0) (fun x5=>post (-1))
def X0 (m:SurveyMaker) (post:Int→Prop):Prop:=
 Qd m.site.Zones m (fun x5=>post x5)
def X3 (m:SurveyMaker) (post:Bool→Prop):Prop:=
 Qy m.site.Floor.Kind 3 (fun x5=>post x5)
def G9 (s_1:ApiSite) (post:Bool→Prop):Prop:=
 Gp s_1.Floor (fun x5=>Ite (!x5) (post false) (XV s_1.Floor (fun x11=>Jn (fun (J15:(Int×Int×Int×List Int×List Int×List Qx×List Qk×List QB×List QK×List (Int×Int)×List (Int×Bool)×List (Int×Bool)×List (ByteArray×Int)×List (Int×Bool)×List Int×List Int)→Prop)=>Loop (fun (s16:Int×Int×Int×List Int×List Int×List Qx×List Qk×List QB×List QK×List (Int×Int)×List (Int×Bool)×List (Int×Bool)×List (ByteArray×Int)×List (Int×Bool)×List Int×List Int×Int) Y17=>Ite (decide (s16.2.2.2.2.2.2.2.2.2.2.2.2.2.2.2.2<(s_1.Zones.length:Int))) (∃x23,idx s_1.Zones s16.2.2.2.2.2.2.2.2.2.2.2.2.2.2.2.2=some x23∧Jn (fun (J25:(Int×Int×Int×List Int×List Int×List Qx×List Qk×List QB×List QK×List (Int×Int)×List (Int×Bool)×List (Int×Bool)×List (ByteArray×Int)×List (Int×Bool)×List Int×List Int×Bool)→Prop)=>KP x23.Name (fun x26=>Ite x26 (Xn x23.Speed 1 100 (fun x28=>Ite x28 (Ite (decide (x23.Keep<0)) (J25 (s16.1,s16.2.1,s16.2.2.1,s16.2.2.2.1,s16.2.2.2.2.1,s16.2.2.2.2.2.1,s16.2.2.2.2.2.2.1,s16.2.2.2.2.2.2.2.1,s16.2.2.2.2.2.2.2.2.1,s16.2.2.2.2.2.2.2.2.2.1,s16.2.2.2.2.2.2.2.2.2.2.1,s16.2.2.2.2.2.2.2.2.2.2.2.1,s16.2.2.2.2.2.2.2.2.2.2.2.2.1,s16.2.2.2.2.2.2.2.2.2.2.2.2.2.1,s16.2.2.2.2.2.2.2.2.2.2.2.2.2.2.1,s16.2.2.2.2.2.2.2.2.2.2.2.2.2.2.2.1,true)) (Gj x23.Shut (fun x31=>Ite x31 (KM ({site:=({Floor:=({W:=s16.1,H:=s16.2.1,D:=s16.2.2.1,Kind:=s16.2.2.2.1,Out:=s16.2.2.2.2.1:ApiFloor}),Zones:=s16.2.2.2.2.2.1,Aparts:=s16.2.2.2.2.2.2.1,Shelves:=s16.2.2.2.2.2.2.2.1,Robots:=s16.2.2.2.2.2.2.2.2.1:ApiSite}),shelf:=s16.2.2.2.2.2.2.2.2.2.1,robot:=s16.2.2.2.2.2.2.2.2.2.2.1,zoned:=s16.2.2.2.2.2.2.2.2.2.2.2.1,names:=s16.2.2.2.2.2.2.2.2.2.2.2.2.1,oneways:=s16.2.2.2.2.2.2.2.2.2.2.2.2.2.1,shelves:=s16.2.2.2.2.2.2.2.2.2.2.2.2.2.2.1,zones:=s16.2.2.2.2.2.2.2.2.2.2.2.2.2.2.2.1:SurveyMaker}) x23.Cells (fun x33=>Ite x33 (K7 x23 ({site:=({Floor:=({W:=s16.1,H:=s16.2.1,D:=s16.2.2.1,Kind:=s16.2.2.2.1,Out:=s16.2.2.2.2.1:ApiFloor}),Zones:=s16.2.2.2.2.2.1,Aparts:=s16.2.2.2.2.2.2.1,Shelves:=s16.2.2.2.2.2.2.2.1,Robots:=s16.2.2.2.2.2.2.2.2.1:ApiSite}),shelf:=s16.2.2.2.2.2.2.2.2.2.1,robot:=s16.2.2.2.2.2.2.2.2.2.2.1,zoned:=s16.2.2.2.2.2.2.2.2.2.2.2.1,names:=s16.2.2.2.2.2.2.2.2.2.2.2.2.1,oneways:=s16.2.2.2.2.2.2.2.2.2.2.2.2.2.1,shelves:=s16.2.2.2.2.2.2.2.2.2.2.2.2.2.2.1,zones:=s16.2.2.2.2.2.2.2.2.2.2.2.2.2.2.2.1:SurveyMaker}) (fun x35=>J25 (x35.2.site.Floor.W,x35.2.site.Floor.H,x35.2.site.Floor.D,x35.2.site.Floor.Kind,x35.2.site.Floor.Out,x35.2.site.Zones,x35.2.site.Aparts,x35.2.site.Shelves,x35.2.site.Robots,x35.2.shelf,x35.2.robot,x35.2.zoned,x35.2.names,x35.2.oneways,x35.2.shelves,x35.2.zones,(x35.1 != 0)))) (J25 (s16.1,s16.2.1,s16.2.2.1,s16.2.2.2.1,s16.2.2.2.2.1,s16.2.2.2.2.2.1,s16.2.2.2.2.2.2.1,s16.2.2.2.2.2.2.2.1,s16.2.2.2.2.2.2.2.2.1,s16.2.2.2.2.2.2.2.2.2.1,s16.2.2.2.2.2.2.2.2.2.2.1,s16.2.2.2.2.2.2.2.2.2.2.2.1,s16.2.2.2.2.2.2.2.2.2.2.2.2.1,s16.2.2.2.2.2.2.2.2.2.2.2.2.2.1,s16.2.2.2.2.2.2.2.2.2.2.2.2.2.2.1,s16.2.2.2.2.2.2.2.2.2.2.2.2.2.2.2.1,true)))) (J25 (s16.1,s16.2.1,s16.2.2.1,s16.2.2.2.1,s16.2.2.2.2.1,s16.2.2.2.2.2.1,s16.2.2.2.2.2.2.1,s16.2.2.2.2.2.2.2.1,s16.2.2.2.2.2.2.2.2.1,s16.2.2.2.2.2.2.2.2.2.1,s16.2.2.2.2.2.2.2.2.2.2.1,s16.2.2.2.2.2.2.2.2.2.2.2.1,s16.2.2.2.2.2.2.2.2.2.2.2.2.1,s16.2.2.2.2.2.2.2.2.2.2.2.2.2.1,s16.2.2.2.2.2.2.2.2.2.2.2.2.2.2.1,s16.2.2.2.2.2.2.2.2.2.2.2.2.2.2.2.1,true))))) (J25 (s16.1,s16.2.1,s16.2.2.1,s16.2.2.2.1,s16.2.2.2.2.1,s16.2.2.2.2.2.1,s16.2.2.2.2.2.2.1,s16.2.2.2.2.2.2.2.1,s16.2.2.2.2.2.2.2.2.1,s16.2.2.2.2.2.2.2.2.2.1,s16.2.2.2.2.2.2.2.2.2.2.1,s16.2.2.2.2.2.2.2.2.2.2.2.1,s16.2.2.2.2.2.2.2.2.2.2.2.2.1,s16.2.2.2.2.2.2.2.2.2.2.2.2.2.1,s16.2.2.2.2.2.2.2.2.2.2.2.2.2.2.1,s16.2.2.2.2.2.2.2.2.2.2.2.2.2.2.2.1,true)))) (J25 (s16.1,s16.2.1,s16.2.2.1,s16.2.2.2.1,s16.2.2.2.2.1,s16.2.2.2.2.2.1,s16.2.2.2.2.2.2.1,s16.2.2.2.2.2.2.2.1,s16.2.2.2.2.2.2.2.2.1,s16.2.2.2.2.2.2.2.2.2.1,s16.2.2.2.2.2.2.2.2.2.2.1,s16.2.2.2.2.2.2.2.2.2.2.2.1,s16.2.2.2.2.2.2.2.2.2.2.2.2.1,s16.2.2.2.2.2.2.2.2.2.2.2.2.2.1,s16.2.2.2.2.2.2.2.2.2.2.2.2.2.2.1,s16.2.2.2.2.2.2.2.2.2.2.2.2.2.2.2.1,true)))) (fun x24=>Ite x24.2.2.2.2.2.2.2.2.2.2.2.2.2.2.2.2 (post false) (Y17 (x24.1,x24.2.1,x24.2.2.1,x24.2.2.2.1,x24.2.2.2.2.1,x24.2.2.2.2.2.1,x24.2.2.2.2.2.2.1,x24.2.2.2.2.2.2.2.1,x24.2.2.2.2.2.2.2.2.1,x24.2.2.2.2.2.2.2.2.2.1,x24.2.2.2.2.2.2.2.2.2.2.1,x24.2.2.2.2.2.2.2.2.2.2.2.1,x24.2.2.2.2.2.2.2.2.2.2.2.2.1,x24.2.2.2.2.2.2.2.2.2.2.2.2.2.1,x24.2.2.2.2.2.2.2.2.2.2.2.2.2.2.1,x24.2.2.2.2.2.2.2.2.2.2.2.2.2.2.2.1,w64 (s16.2.2.2.2.2.2.2.2.2.2.2.2.2.2.2.2+1))))) (J15 (s16.1,s16.2.1,s16.2.2.1,s16.2.2.2.1,s16.2.2.2.2.1,s16.2.2.2.2.2.1,s16.2.2.2.2.2.2.1,s16.2.2.2.2.2.2.2.1,s16.2.2.2.2.2.2.2.2.1,s16.2.2.2.2.2.2.2.2.2.1,s16.2.2.2.2.2.2.2.2.2.2.1,s16.2.2.2.2.2.2.2.2.2.2.2.1,s16.2.2.2.2.2.2.2.2.2.2.2.2.1,s16.2.2.2.2.2.2.2.2.2.2.2.2.2.1,s16.2.2.2.2.2.2.2.2.2.2.2.2.2.2.1,s16.2.2.2.2.2.2.2.2.2.2.2.2.2.2.2.1))) (x11.site.Floor.W,x11.site.Floor.H,x11.site.Floor.D,x11.site.Floor.Kind,x11.site.Floor.Out,x11.site.Zones,x11.site.Aparts,x11.site.Shelves,x11.site.Robots,x11.shelf,x11.robot,x11.zoned,x11.names,x11.oneways,x11.shelves,x11.zones,0)) (fun x14=>Jn (fun (J44:(Int×Int×Int×List Int×List Int×List Qx×List Qk×List QB×List QK×List (Int×Int)×List (Int×Bool)×List (Int×Bool)×List (ByteArray×Int)×List (Int×Bool)×List Int×List Int)→Prop)=>Loop (fun (s45:Int×Int×Int×List Int×List Int×List Qx×List Qk×List QB×List QK×List (Int×Int)×List (Int×Bool)×List (Int×Bool)×List (ByteArray×Int)×List (Int×Bool)×List Int×List Int×Int) Y46=>Ite (decide (s45.2.2.2.2.2.2.2.2.2.2.2.2.2.2.2.2<(s_1.Aparts.length:Int))) (∃x52,idx s_1.Aparts s45.2.2.2.2.2.2.2.2.2.2.2.2.2.2.2.2=some x52∧K4 x52 ({site:=({Floor:=({W:=s45.1,H:=s45.2.1,D:=s45.2.2.1,Kind:=s45.2.2.2.1,Out:=s45.2.2.2.2.1:ApiFloor}),Zones:=s45.2.2.2.2.2.1,Aparts:=s45.2.2.2.2.2.2.1,Shelves:=s45.2.2.2.2.2.2.2.1,Robots:=s45.2.2.2.2.2.2.2.2.1:ApiSite}),shelf:=s45.2.2.2.2.2.2.2.2.2.1,robot:=s45.2.2.2.2.2.2.2.2.2.2.1,zoned:=s45.2.2.2.2.2.2.2.2.2.2.2.1,names:=s45.2.2.2.2.2.2.2.2.2.2.2.2.1,oneways:=s45.2.2.2.2.2.2.2.2.2.2.2.2.2.1,shelves:=s45.2.2.2.2.2.2.2.2.2.2.2.2.2.2.1,zones:=s45.2.2.2.2.2.2.2.2.2.2.2.2.2.2.2.1:SurveyMaker}) (fun x55=>Ite (x55.1 != 0) (post false) (Y46 (x55.2.site.Floor.W,x55.2.site.Floor.H,x55.2.site.Floor.D,x55.2.site.Floor.Kind,x55.2.site.Floor.Out,x55.2.site.Zones,x55.2.site.Aparts,x55.2.site.Shelves,x55.2.site.Robots,x55.2.shelf,x55.2.robot,x55.2.zoned,x55.2.names,x55.2.oneways,x55.2.shelves,x55.2.zones,w64 (s45.2.2.2.2.2.2.2.2.2.2.2.2.2.2.2.2+1))))) (J44 (s45.1,s45.2.1,s45.2.2.1,s45.2.2.2.1,s45.2.2.2.2.1,s45.2.2.2.2.2.1,s45.2.2.2.2.2.2.1,s45.2.2.2.2.2.2.2.1,s45.2.2.2.2.2.2.2.2.1,s45.2.2.2.2.2.2.2.2.2.1,s45.2.2.2.2.2.2.2.2.2.2.1,s45.2.2.2.2.2.2.2.2.2.2.2.1,s45.2.2.2.2.2.2.2.2.2.2.2.2.1,s45.2.2.2.2.2.2.2.2.2.2.2.2.2.1,s45.2.2.2.2.2.2.2.2.2.2.2.2.2.2.1,s45.2.2.2.2.2.2.2.2.2.2.2.2.2.2.2.1))) (x14.1,x14.2.1,x14.2.2.1,x14.2.2.2.1,x14.2.2.2.2.1,x14.2.2.2.2.2.1,x14.2.2.2.2.2.2.1,x14.2.2.2.2.2.2.2.1,x14.2.2.2.2.2.2.2.2.1,x14.2.2.2.2.2.2.2.2.2.1,x14.2.2.2.2.2.2.2.2.2.2.1,x14.2.2.2.2.2.2.2.2.2.2.2.1,x14.2.2.2.2.2.2.2.2.2.2.2.2.1,x14.2.2.2.2.2.2.2.2.2.2.2.2.2.1,x14.2.2.2.2.2.2.2.2.2.2.2.2.2.2.1,x14.2.2.2.2.2.2.2.2.2.2.2.2.2.2.2,0)) (fun x43=>Jn (fun (J64:(Int×Int×Int×List Int×List Int×List Qx×List Qk×List QB×List QK×List (Int×Int)×List (Int×Bool)×List (Int×Bool)×List (ByteArray×Int)×List (Int×Bool)×List Int×List Int)→Prop)=>Loop (fun (s65:Int×Int×Int×List Int×List Int×List Qx×List Qk×List QB×List QK×List (Int×Int)×List (Int×Bool)×List (Int×Bool)×List (ByteArray×Int)×List (Int×Bool)×List Int×List Int×Int) Y66=>Ite (decide (s65.2.2.2.2.2.2.2.2.2.2.2.2.2.2.2.2<(s_1.Shelves.length:Int))) (∃x72,idx s_1.Shelves s65.2.2.2.2.2.2.2.2.2.2.2.2.2.2.2.2=some x72∧K3 x72 ({site:=({Floor:=({W:=s65.1,H:=s65.2.1,D:=s65.2.2.1,Kind:=s65.2.2.2.1,Out:=s65.2.2.2.2.1:ApiFloor}),Zones:=s65.2.2.2.2.2.1,Aparts:=s65.2.2.2.2.2.2.1,Shelves:=s65.2.2.2.2.2.2.2.1,Robots:=s65.2.2.2.2.2.2.2.2.1:ApiSite}),shelf:=s65.2.2.2.2.2.2.2.2.2.1,robot:=s65.2.2.2.2.2.2.2.2.2.2.1,zoned:=s65.2.2.2.2.2.2.2.2.2.2.2.1,names:=s65.2.2.2.2.2.2.2.2.2.2.2.2.1,oneways:=s65.2.2.2.2.2.2.2.2.2.2.2.2.2.1,shelves:=s65.2.2.2.2.2.2.2.2.2.2.2.2.2.2.1,zones:=s65.2.2.2.2.2.2.2.2.2.2.2.2.2.2.2.1:SurveyMaker}) (fun x75=>Ite (x75.1 != 0) (post false) (Y66 (x75.2.site.Floor.W,x75.2.site.Floor.H,x75.2.site.Floor.D,x75.2.site.Floor.Kind,x75.2.site.Floor.Out,x75.2.site.Zones,x75.2.site.Aparts,x75.2.site.Shelves,x75.2.site.Robots,x75.2.shelf,x75.2.robot,x75.2.zoned,x75.2.names,x75.2.oneways,x75.2.shelves,x75.2.zones,w64 (s65.2.2.2.2.2.2.2.2.2.2.2.2.2.2.2.2+1))))) (J64 (s65.1,s65.2.1,s65.2.2.1,s65.2.2.2.1,s65.2.2.2.2.1,s65.2.2.2.2.2.1,s65.2.2.2.2.2.2.1,s65.2.2.2.2.2.2.2.1,s65.2.2.2.2.2.2.2.2.1,s65.2.2.2.2.2.2.2.2.2.1,s65.2.2.2.2.2.2.2.2.2.2.1,s65.2.2.2.2.2.2.2.2.2.2.2.1,s65.2.2.2.2.2.2.2.2.2.2.2.2.1,s65.2.2.2.2.2.2.2.2.2.2.2.2.2.1,s65.2.2.2.2.2.2.2.2.2.2.2.2.2.2.1,s65.2.2.2.2.2.2.2.2.2.2.2.2.2.2.2.1))) (x43.1,x43.2.1,x43.2.2.1,x43.2.2.2.1,x43.2.2.2.2.1,x43.2.2.2.2.2.1,x43.2.2.2.2.2.2.1,x43.2.2.2.2.2.2.2.1,x43.2.2.2.2.2.2.2.2.1,x43.2.2.2.2.2.2.2.2.2.1,x43.2.2.2.2.2.2.2.2.2.2.1,x43.2.2.2.2.2.2.2.2.2.2.2.1,x43.2.2.2.2.2.2.2.2.2.2.2.2.1,x43.2.2.2.2.2.2.2.2.2.2.2.2.2.1,x43.2.2.2.2.2.2.2.2.2.2.2.2.2.2.1,x43.2.2.2.2.2.2.2.2.2.2.2.2.2.2.2,0)) (fun x63=>Jn (fun (J84:(Int×Int×Int×List Int×List Int×List Qx×List Qk×List QB×List QK×List (Int×Int)×List (Int×Bool)×List (Int×Bool)×List (ByteArray×Int)×List (Int×Bool)×List Int×List Int)→Prop)=>Loop (fun (s85:Int×Int×Int×List Int×List Int×List Qx×List Qk×List QB×List QK×List (Int×Int)×List (Int×Bool)×List (Int×Bool)×List (ByteArray×Int)×List (Int×Bool)×List Int×List Int×Int) Y86=>Ite (decide (s85.2.2.2.2.2.2.2.2.2.2.2.2.2.2.2.2<(s_1.Robots.length:Int))) (∃x92,idx s_1.Robots s85.2.2.2.2.2.2.2.2.2.2.2.2.2.2.2.2=some x92∧K2 x92 ({site:=({Floor:=({W:=s85.1,H:=s85.2.1,D:=s85.2.2.1,Kind:=s85.2.2.2.1,Out:=s85.2.2.2.2.1:ApiFloor}),Zones:=s85.2.2.2.2.2.1,Aparts:=s85.2.2.2.2.2.2.1,Shelves:=s85.2.2.2.2.2.2.2.1,Robots:=s85.2.2.2.2.2.2.2.2.1:ApiSite}),shelf:=s85.2.2.2.2.2.2.2.2.2.1,robot:=s85.2.2.2.2.2.2.2.2.2.2.1,zoned:=s85.2.2.2.2.2.2.2.2.2.2.2.1,names:=s85.2.2.2.2.2.2.2.2.2.2.2.2.1,oneways:=s85.2.2.2.2.2.2.2.2.2.2.2.2.2.1,shelves:=s85.2.2.2.2.2.2.2.2.2.2.2.2.2.2.1,zones:=s85.2.2.2.2.2.2.2.2.2.2.2.2.2.2.2.1:SurveyMaker}) (fun x95=>Ite (x95.1 != 0) (post false) (Y86 (x95.2.site.Floor.W,x95.2.site.Floor.H,x95.2.site.Floor.D,x95.2.site.Floor.Kind,x95.2.site.Floor.Out,x95.2.site.Zones,x95.2.site.Aparts,x95.2.site.Shelves,x95.2.site.Robots,x95.2.shelf,x95.2.robot,x95.2.zoned,x95.2.names,x95.2.oneways,x95.2.shelves,x95.2.zones,w64 (s85.2.2.2.2.2.2.2.2.2.2.2.2.2.2.2.2+1))))) (J84 (s85.1,s85.2.1,s85.2.2.1,s85.2.2.2.1,s85.2.2.2.2.1,s85.2.2.2.2.2.1,s85.2.2.2.2.2.2.1,s85.2.2.2.2.2.2.2.1,s85.2.2.2.2.2.2.2.2.1,s85.2.2.2.2.2.2.2.2.2.1,s85.2.2.2.2.2.2.2.2.2.2.1,s85.2.2.2.2.2.2.2.2.2.2.2.1,s85.2.2.2.2.2.2.2.2.2.2.2.2.1,s85.2.2.2.2.2.2.2.2.2.2.2.2.2.1,s85.2.2.2.2.2.2.2.2.2.2.2.2.2.2.1,s85.2.2.2.2.2.2.2.2.2.2.2.2.2.2.2.1))) (x63.1,x63.2.1,x63.2.2.1,x63.2.2.2.1,x63.2.2.2.2.1,x63.2.2.2.2.2.1,x63.2.2.2.2.2.2.1,x63.2.2.2.2.2.2.2.1,x63.2.2.2.2.2.2.2.2.1,x63.2.2.2.2.2.2.2.2.2.1,x63.2.2.2.2.2.2.2.2.2.2.1,x63.2.2.2.2.2.2.2.2.2.2.2.1,x63.2.2.2.2.2.2.2.2.2.2.2.2.1,x63.2.2.2.2.2.2.2.2.2.2.2.2.2.1,x63.2.2.2.2.2.2.2.2.2.2.2.2.2.2.1,x63.2.2.2.2.2.2.2.2.2.2.2.2.2.2.2,0)) (fun x83=>Jn (fun (J102:Bool→Prop)=>KA ({site:=({Floor:=({W:=x83.1,H:=x83.2.1,D:=x83.2.2.1,Kind:=x83.2.2.2.1,Out:=x83.2.2.2.2.1:ApiFloor}),Zones:=x83.2.2.2.2.2.1,Aparts:=x83.2.2.2.2.2.2.1,Shelves:=x83.2.2.2.2.2.2.2.1,Robots:=x83.2.2.2.2.2.2.2.2.1:ApiSite}),shelf:=x83.2.2.2.2.2.2.2.2.2.1,robot:=x83.2.2.2.2.2.2.2.2.2.2.1,zoned:=x83.2.2.2.2.2.2.2.2.2.2.2.1,names:=x83.2.2.2.2.2.2.2.2.2.2.2.2.1,oneways:=x83.2.2.2.2.2.2.2.2.2.2.2.2.2.1,shelves:=x83.2.2.2.2.2.2.2.2.2.2.2.2.2.2.1,zones:=x83.2.2.2.2.2.2.2.2.2.2.2.2.2.2.2:SurveyMaker}) (fun x103=>Ite (decide (x103<0)) (X0 ({site:=({Floor:=({W:=x83.1,H:=x83.2.1,D:=x83.2.2.1,Kind:=x83.2.2.2.1,Out:=x83.2.2.2.2.1:ApiFloor}),Zones:=x83.2.2.2.2.2.1,Aparts:=x83.2.2.2.2.2.2.1,Shelves:=x83.2.2.2.2.2.2.2.1,Robots:=x83.2.2.2.2.2.2.2.2.1:ApiSite}),shelf:=x83.2.2.2.2.2.2.2.2.2.1,robot:=x83.2.2.2.2.2.2.2.2.2.2.1,zoned:=x83.2.2.2.2.2.2.2.2.2.2.2.1,names:=x83.2.2.2.2.2.2.2.2.2.2.2.2.1,oneways:=x83.2.2.2.2.2.2.2.2.2.2.2.2.2.1,shelves:=x83.2.2.2.2.2.2.2.2.2.2.2.2.2.2.1,zones:=x83.2.2.2.2.2.2.2.2.2.2.2.2.2.2.2:SurveyMaker}) (fun x105=>Ite (decide (x105<0)) (X3 ({site:=({Floor:=({W:=x83.1,H:=x83.2.1,D:=x83.2.2.1,Kind:=x83.2.2.2.1,Out:=x83.2.2.2.2.1:ApiFloor}),Zones:=x83.2.2.2.2.2.1,Aparts:=x83.2.2.2.2.2.2.1,Shelves:=x83.2.2.2.2.2.2.2.1,Robots:=x83.2.2.2.2.2.2.2.2.1:ApiSite}),shelf:=x83.2.2.2.2.2.2.2.2.2.1,robot:=x83.2.2.2.2.2.2.2.2.2.2.1,zoned:=x83.2.2.2.2.2.2.2.2.2.2.2.1,names:=x83.2.2.2.2.2.2.2.2.2.2.2.2.1,oneways:=x83.2.2.2.2.2.2.2.2.2.2.2.2.2.1,shelves:=x83.2.2.2.2.2.2.2.2.2.2.2.2.2.2.1,zones:=x83.2.2.2.2.2.2.2.2.2.2.2.2.2.2.2:SurveyMaker}) (fun x107=>J102 x107)) (J102 false))) (J102 false))) (fun x101=>post x101))))))))
def KU (r:List Int) (c:Int) (post:Bool→Prop):Prop:=
 Jn (fun (J8:Int→Prop)=>Loop (fun (s9:Int×Int) Y10=>Ite (decide (s9.1<s9.2)) (∃x19,idx r (w64 ((w64 (s9.1+s9.2)).tdiv 2))=some x19∧Jn (fun (J21:(Int×Int)→Prop)=>Ite (decide (x19<c)) (J21 (w64 ((w64 ((w64 (s9.1+s9.2)).tdiv 2))+1),s9.2)) (J21 (s9.1,w64 ((w64 (s9.1+s9.2)).tdiv 2)))) (fun x20=>Y10 (x20.1,x20.2))) (J8 s9.1)) (0,(r.length:Int))) (fun x7=>Ite (x7 == (r.length:Int)) (post false) (∃x34,idx r x7=some x34∧post (x34 == c)))
def KL (s_1:ApiSite) (c:Int) (post:Int→Prop):Prop:=
 Jn (fun (J6:Unit→Prop)=>Loop (fun (s7:Int) Y8=>Ite (decide (s7<(s_1.Zones.length:Int))) (∃x14,idx s_1.Zones s7=some x14∧KU x14.Cells c (fun x15=>Ite x15 (post s7) (Y8 (w64 (s7+1))))) (J6 ())) 0) (fun x5=>post (-1))
def KZ (s_1:ApiSite) (c:Int) (post:Int→Prop):Prop:=
 KL s_1 c (fun x5=>Ite (decide (x5<0)) (post 1) (∃x13,idx s_1.Zones x5=some x13∧post x13.Speed))
def Kg (s_1:ApiSite) (post:Int→Prop):Prop:=
 Jn (fun (J8:Int→Prop)=>Loop (fun (s9:Int×Int) Y10=>Ite (decide (s9.2<(s_1.Floor.Kind.length:Int))) (KZ s_1 s9.2 (fun x16=>Y10 (imax s9.1 x16,w64 (s9.2+1)))) (J8 s9.1)) (1,0)) (fun x7=>post x7)
def Xe (s_1:ApiSite) (avoid:List Int) (n:Int) (post:Bool→Prop):Prop:=
 Jn (fun (J4:Bool→Prop)=>Xp s_1 n 20 (fun x5=>Ite x5 (Ite (decide ((avoid.length:Int)>20)) (J4 true) (G9 s_1 (fun x8=>J4 (!x8)))) (J4 true))) (fun x3=>Ite x3 (post false) (Kg s_1 (fun x14=>post (decide (x14≤2)))))
def KW (s_1:ApiSite) (trips:List ApiTrip) (most:Int) (post:Bool→Prop):Prop:=
 Jn (fun (J8:Int→Prop)=>Loop (fun (s9:Int×Int) Y10=>Ite (decide (s9.2<(s_1.Floor.Kind.length:Int))) (∃x16,idx s_1.Floor.Kind s9.2=some x16∧Jn (fun (J18:Int→Prop)=>Ite (x16 != 0) (J18 (w64 (s9.1+1))) (J18 s9.1)) (fun x17=>Y10 (x17,w64 (s9.2+1)))) (J8 s9.1)) (0,0)) (fun x7=>Kg s_1 (fun x26=>Jn (fun (J32:Int→Prop)=>Loop (fun (s33:Int×Int) Y34=>Jn (fun (J36:Bool→Prop)=>Ite (decide (s33.2<(trips.length:Int))) (J36 (decide (s33.1≤3000))) (J36 false)) (fun x35=>Ite x35 (Y34 (w64 (s33.1*(w64 (x7*x26))),w64 (s33.2+1))) (J32 s33.1))) (1,0)) (fun x31=>Jn (fun (J44:Bool→Prop)=>Ite (decide (x31≤3000)) (J44 (decide (most≤20))) (J44 false)) (fun x43=>post x43))))
def Gs (s_1:ApiSite) (from_1:Int) (to_1:Int) (tick:Int) (post:Bool→Prop):Prop:=
 Jn (fun (J6:Unit→Prop)=>Loop (fun (s7:Int) Y8=>Ite (decide (s7<(([from_1,to_1]:List Int).length:Int))) (∃x14,idx ([from_1,to_1]:List Int) s7=some x14∧Jn (fun (J16:Bool→Prop)=>Ite (decide (x14<0)) (J16 true) (Ite (decide (x14≥(s_1.Floor.Kind.length:Int))) (J16 true) (∃x19,idx s_1.Floor.Kind x14=some x19∧J16 (x19 == 0)))) (fun x15=>Ite x15 (post false) (Y8 (w64 (s7+1))))) (J6 ())) 0) (fun x5=>Jn (fun (J26:Bool→Prop)=>Ite (decide (tick≥0)) (J26 (decide (tick≤20000))) (J26 false)) (fun x25=>post x25))
def XJ (a:Int) (post:Bool→Prop):Prop:=
 Jn (fun (J4:Bool→Prop)=>Ite (decide (a<0)) (J4 true) (J4 (decide (a≥7)))) (fun x3=>post x3)
def QG (s_1:List Int) (post:Int→Prop):Prop:=
 Jn (fun (J6:Unit→Prop)=>Loop (fun (s7:Int) Y8=>Ite (decide (s7<(s_1.length:Int))) (∃x16,idx s_1 s7=some x16∧XJ x16 (fun x17=>Ite x17 (post s7) (Y8 (w64 (s7+1))))) (J6 ())) 0) (fun x5=>post (-1))
def Qr (s_1:List Int) (post:Bool→Prop):Prop:=
 QG s_1 (fun x5=>post (decide (x5≥0)))
def XO (s_1:ApiSite) (tick:Int) (taken:List ApiTaken) (avoid:List Int) (post:RouteWalk→Prop):Prop:=
 Jn (fun (J8:(List (Int×List QF))→Prop)=>Loop (fun (s9:List (Int×List QF)×Int) Y10=>Ite (decide (s9.2<(taken.length:Int))) (∃x16,idx taken s9.2=some x16∧Jn (fun (J18:(List (Int×List QF))→Prop)=>(∀x19,lk s9.1 x16.Cell=some x19→(x19.length+([x16.Span]:List QF).length≤1099511627776)∧J18 (upd s9.1 x16.Cell (x19++([x16.Span]:List QF))))∧(lk s9.1 x16.Cell=none→(([x16.Span]:List QF).length≤1099511627776)∧J18 (upd (upd s9.1 x16.Cell []) x16.Cell ([x16.Span]:List QF)))) (fun x17=>Y10 (x17,w64 (s9.2+1)))) (J8 s9.1)) ((([]:List (Int×List QF)),0):List (Int×List QF)×Int)) (fun x7=>post ({site:=s_1,tick:=tick,avoid:=avoid,taken:=x7:RouteWalk}))
def KY (x_1:QF) (c0:Int) (post:Bool→Prop):Prop:=
 Jn (fun (J4:Bool→Prop)=>Ite (decide (x_1.From≤c0)) (J4 (decide (c0<x_1.To))) (J4 false)) (fun x3=>post x3)
def Ql (s_1:List QF) (f_c0:Int) (post:Int→Prop):Prop:=
 Jn (fun (J6:Unit→Prop)=>Loop (fun (s7:Int) Y8=>Ite (decide (s7<(s_1.length:Int))) (∃x16,idx s_1 s7=some x16∧KY x16 f_c0 (fun x17=>Ite x17 (post s7) (Y8 (w64 (s7+1))))) (J6 ())) 0) (fun x5=>post (-1))
def Qg (s_1:List QF) (f_c0:Int) (post:Bool→Prop):Prop:=
 Ql s_1 f_c0 (fun x5=>post (decide (x5≥0)))
def Ki (w:RouteWalk) (c:Int) (k:Int) (post:Bool→Prop):Prop:=
 Qg ((lk w.taken c).getD []) (w64 (w.tick+k)) (fun x7=>post x7)
def Xm (w:RouteWalk) (at_1:QP) (k:Int) (act:Int) (post:(QP×Int)→Prop):Prop:=
 Ite (act == 0) (Ki w at_1.cell k (fun x8=>Ite x8 (post (({cell:=0,rest:=0:QP}),15)) (post (({cell:=at_1.cell,rest:=imax (w64 (at_1.rest-1)) 0:QP}),0)))) (Xt w.site.Floor at_1.cell (w64 (act-1)) (fun x16=>Ite (decide (at_1.rest>0)) (post (({cell:=0,rest:=0:QP}),8)) (Jn (fun (J23:Bool→Prop)=>Ite x16.2 (Qy w.avoid x16.1 (fun x25=>J23 x25)) (J23 true)) (fun x22=>Ite x22 (post (({cell:=0,rest:=0:QP}),14)) (Gg w.site x16.1 (w64 (w.tick+k)) (fun x31=>Ite (!x31) (post (({cell:=0,rest:=0:QP}),18)) (Jn (fun (J36:Bool→Prop)=>Ki w at_1.cell k (fun x37=>Ite x37 (J36 true) (Ki w x16.1 k (fun x39=>J36 x39)))) (fun x35=>Ite x35 (post (({cell:=0,rest:=0:QP}),15)) (Xy w.site x16.1 (fun x45=>post (({cell:=x16.1,rest:=w64 (x45-1):QP}),0)))))))))))
def Gr (s_1:ApiSite) (from_1:Int) (to_1:Int) (tick:Int) (taken:List ApiTaken) (avoid:List Int) (acts:List Int) (post:Int→Prop):Prop:=
 Jn (fun (J6:Bool→Prop)=>Gs s_1 from_1 to_1 tick (fun x7=>Ite x7 (Qr acts (fun x9=>J6 x9)) (J6 true))) (fun x5=>Ite x5 (post 1) (XO s_1 tick taken avoid (fun x15=>Jn (fun (J21:(Int×Int)→Prop)=>Loop (fun (s22:Int×Int×Int) Y23=>Ite (decide (s22.2.2<(acts.length:Int))) (∃x29,idx acts s22.2.2=some x29∧Xm x15 ({cell:=s22.1,rest:=s22.2.1:QP}) s22.2.2 x29 (fun x32=>Ite (x32.2 != 0) (post x32.2) (Y23 (x32.1.cell,x32.1.rest,w64 (s22.2.2+1))))) (J21 (s22.1,s22.2.1))) (from_1,0,0)) (fun x20=>Ki x15 x20.1 (acts.length:Int) (fun x44=>Ite x44 (post 15) (Ite (x20.1 != to_1) (post 13) (post 0)))))))
def GY (s_1:ApiSite) (trips:List ApiTrip) (tick:Int) (avoid:List Int) (most:Int) (plan:List (List Int)) (post:(Int×Int)→Prop):Prop:=
 Jn (fun (J4:Bool→Prop)=>XT s_1 trips (fun x5=>Ite x5 (Ite (decide (tick<0)) (J4 true) (Ite (decide (tick>20000)) (J4 true) (Ite (decide (most<0)) (J4 true) (J4 ((plan.length:Int) != (trips.length:Int)))))) (J4 true))) (fun x3=>Ite x3 (post ((-1),1)) (Jn (fun (J16:Unit→Prop)=>Loop (fun (s17:Int) Y18=>Ite (decide (s17<(plan.length:Int))) (∃x24,idx plan s17=some x24∧∃x27,idx trips s17=some x27∧Gr s_1 x27.From x27.To tick [] avoid x24 (fun x28=>Ite (x28 != 0) (post (s17,x28)) (Ite (decide ((x24.length:Int)>most)) (post (s17,20)) (Y18 (w64 (s17+1)))))) (J16 ())) 0) (fun x15=>Gy s_1 trips plan (fun x43=>Ite x43.2 (post (x43.1.a,15)) (post ((-1),0))))))
def V_taquinlaw24_CbsPlans (s_1:ApiSite) (trips:List ApiTrip) (tick:Int) (avoid:List Int) (most:Int) (post:Bool→Prop):Prop:=
 V_taquinlaw24_small (fun x5=>Jn (fun (J7:Bool→Prop)=>Xe s_1 avoid 16 (fun x8=>Ite x8 (Ite (decide ((trips.length:Int)>3)) (J7 true) (Ite (decide (most>15)) (J7 (decide (most≤60))) (J7 false))) (J7 true))) (fun x6=>Ite x6 (post x5) (KR s_1 trips tick avoid most (fun x17=>Jn (fun (J19:Bool→Prop)=>XT s_1 trips (fun x20=>Ite x20 (Ite (decide (tick<0)) (J19 true) (Ite (decide (tick>20000)) (J19 true) (J19 (decide (most<0))))) (J19 true))) (fun x18=>Jn (fun (J25:Bool→Prop)=>Ite x18 (J25 true) (J25 (decide (most>60)))) (fun x24=>Ite x24 (Jn (fun (J29:Bool→Prop)=>Ite x5 (Ite ((x17.1.length:Int) == 0) (Ite (x18 == (x17.2 == 1)) (Ite x18 (J29 true) (J29 (x17.2 == 27))) (J29 false)) (J29 false)) (J29 false)) (fun x28=>post x28)) (Ite (x17.2 != 0) (Jn (fun (J38:Bool→Prop)=>Ite x5 (Ite ((x17.1.length:Int) == 0) (Ite (x17.2 == 14) (J38 true) (Ite (x17.2 == 27) (KW s_1 trips most (fun x43=>J38 (!x43))) (J38 false))) (J38 false)) (J38 false)) (fun x37=>post x37)) (GY s_1 trips tick avoid most x17.1 (fun x46=>Jn (fun (J48:Bool→Prop)=>Ite x5 (Ite (x46.1 == (-1)) (J48 (x46.2 == 0)) (J48 false)) (J48 false)) (fun x47=>post x47))))))))))
end Go.Taq
