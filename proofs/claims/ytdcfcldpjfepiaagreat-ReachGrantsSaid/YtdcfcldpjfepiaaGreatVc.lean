/- The verification conditions of the Go functions that are reached, in plain data (written by a program of the prover). -/
import Derived.Test.YtdcfcldpjfepiaaGreatLibX
import Derived.Test.YtdcfcldpjfepiaaGreatLibZR
set_option linter.unusedVariables false
namespace Go.Taq
open Go
structure ApiFloor where
 W:Int
 H:Int
 D:Int
 Kind:List Int
 Out:List Int
deriving DecidableEq,Inhabited
structure Xe where
 From:Int
 To:Int
deriving DecidableEq,Inhabited
structure Qt where
 Name:ByteArray
 Cells:List Int
 Speed:Int
 Keep:Int
 Shut:List Xe
deriving DecidableEq,Inhabited
structure Q5 where
 A:ByteArray
 B:ByteArray
deriving DecidableEq,Inhabited
structure Qu where
 Cell:Int
 Class:ByteArray
deriving DecidableEq,Inhabited
structure QF where
 Cell:Int
 Charge:Int
deriving DecidableEq,Inhabited
structure ApiSite where
 Floor:ApiFloor
 Zones:List Qt
 Aparts:List Q5
 Shelves:List Qu
 Robots:List QF
deriving DecidableEq,Inhabited
structure Q0 where
 Cell:Int
 Load:Int
 Charge:Int
 Rest:Int
 Mute:Int
 Dead:Bool
deriving DecidableEq,Inhabited
structure K1 where
 Cell:Int
 Left:Int
deriving DecidableEq,Inhabited
structure ApiState where
 Tick:Int
 Shelves:List Int
 Robots:List Q0
 People:List Int
 Dead:List Int
 Stuck:List K1
deriving DecidableEq,Inhabited
structure ReachStep where
 to_:Int
 price:Int
deriving DecidableEq,Inhabited
structure QY where
 x:Int
 y:Int
 z:Int
deriving DecidableEq,Inhabited
structure Gd where
 e0:QY
 e1:QY
 e2:QY
 e3:QY
 e4:QY
 e5:QY
deriving DecidableEq,Inhabited
structure ReachGraph where
 out:List (List ReachStep)
 in_:List (List Int)
 home:List Bool
deriving DecidableEq,Inhabited
structure SurveyMaker where
 site:ApiSite
 shelf:List (Int×Int)
 robot:List (Int×Bool)
 zoned:List (Int×Bool)
 names:List (ByteArray×Int)
 oneways:List (Int×Bool)
 shelves:List Int
 zones:List Int
deriving DecidableEq,Inhabited
structure Q0o (x:ApiFloor):Prop where
 W:I64 x.W
 H:I64 x.H
 D:I64 x.D
 Kind:(OkL I64) x.Kind
 Out:(OkL I64) x.Out
structure ZW (x:Xe):Prop where
 From:I64 x.From
 To:I64 x.To
structure ZN (x:Qt):Prop where
 Name:OkS x.Name
 Cells:(OkL I64) x.Cells
 Speed:I64 x.Speed
 Keep:I64 x.Keep
 Shut:(OkL ZW) x.Shut
structure Z2 (x:Q5):Prop where
 A:OkS x.A
 B:OkS x.B
structure YX (x:Qu):Prop where
 Cell:I64 x.Cell
 Class:OkS x.Class
structure Z1 (x:QF):Prop where
 Cell:I64 x.Cell
 Charge:I64 x.Charge
structure OkApiSite (x:ApiSite):Prop where
 Floor:Q0o x.Floor
 Zones:(OkL ZN) x.Zones
 Aparts:(OkL Z2) x.Aparts
 Shelves:(OkL YX) x.Shelves
 Robots:(OkL Z1) x.Robots
structure YW (x:Q0):Prop where
 Cell:I64 x.Cell
 Load:I64 x.Load
 Charge:I64 x.Charge
 Rest:I64 x.Rest
 Mute:I64 x.Mute
 Dead:(fun (_:Bool)=>True) x.Dead
structure Z9 (x:K1):Prop where
 Cell:I64 x.Cell
 Left:I64 x.Left
structure OkApiState (x:ApiState):Prop where
 Tick:I64 x.Tick
 Shelves:(OkL I64) x.Shelves
 Robots:(OkL YW) x.Robots
 People:(OkL I64) x.People
 Dead:(OkL I64) x.Dead
 Stuck:(OkL Z9) x.Stuck
def KK (post:ApiSite→Prop):Prop:=
 post ({Floor:=({W:=4,H:=1,D:=1,Kind:=([3,1,1,3]:List Int),Out:=([5,5,5,5]:List Int):ApiFloor}),Zones:=[],Aparts:=[],Shelves:=[],Robots:=[]:ApiSite})
def Xu (act:Int) (laden:Bool) (post:Int→Prop):Prop:=
 Jn (fun (J8:Bool→Prop)=>Ite (act == 0) (J8 (act == 0)) (J8 (act == 8))) (fun x7=>Ite x7 (post 1) (Ite (act == 7) (post 3) (Jn (fun (J27:Bool→Prop)=>Ite ((w64 (act-1)) == 0) (J27 ((w64 (act-1)) == 0)) (Jn (fun (J32:Bool→Prop)=>Ite ((w64 (act-1)) == 1) (J32 ((w64 (act-1)) == 1)) (Jn (fun (J37:Bool→Prop)=>Ite ((w64 (act-1)) == 2) (J37 ((w64 (act-1)) == 2)) (J37 ((w64 (act-1)) == 3))) (fun x36=>J32 x36))) (fun x31=>J27 x31))) (fun x26=>Jn (fun (J42:Int→Prop)=>Ite x26 (J42 2) (Jn (fun (J49:Int→Prop)=>Ite ((w64 (act-1)) == 4) (J49 5) (Jn (fun (J56:Int→Prop)=>Ite ((w64 (act-1)) == 5) (J56 1) (J56 0)) (fun x55=>J49 x55))) (fun x48=>J42 x48))) (fun x41=>Jn (fun (J61:Bool→Prop)=>Ite (decide (x41>0)) (J61 laden) (J61 false)) (fun x60=>Jn (fun (J64:Int→Prop)=>Ite x60 (J64 (w64 (x41+2))) (J64 x41)) (fun x63=>post x63)))))))
def KE (tick:Int) (act:Int) (laden:Bool) (post:Int→Prop):Prop:=
 Xu act laden (fun x8=>post (w64 ((w64 ((w64 (x8*(w64 (10+(w64 ((imin (imax tick 0) 20000).tdiv 1000))))))+9)).tdiv 10)))
def KZ (post:Int→Prop):Prop:=
 KE 20000 0 true (fun x5=>post x5)
def Xa (s_1:ApiSite) (c:Int) (post:Bool→Prop):Prop:=
 Jn (fun (J4:Bool→Prop)=>Ite (decide (c≥0)) (J4 (decide (c<(s_1.Floor.Kind.length:Int)))) (J4 false)) (fun x3=>post x3)
def Km (s_1:ApiSite) (c:Int) (post:Bool→Prop):Prop:=
 ∃x5,idx s_1.Floor.Kind c=some x5∧post (x5 == 3)
def Xf (x_1:Int) (post:Bool→Prop):Prop:=
 post (x_1 != x_1)
def XS (x_1:Int) (y_1:Int) (post:Bool→Prop):Prop:=
 Jn (fun (J4:Bool→Prop)=>Xf x_1 (fun x5=>Ite x5 (Xf y_1 (fun x7=>Ite x7 (J4 (decide (x_1<y_1))) (J4 true))) (J4 (decide (x_1<y_1))))) (fun x3=>post x3)
def Kz (x_1:Int) (post:Bool→Prop):Prop:=
 post (x_1 != x_1)
def QK (x_1:List Int) (target:Int) (post:(Int×Bool)→Prop):Prop:=
 Jn (fun (J8:Int→Prop)=>Loop (fun (s9:Int×Int) Y10=>Ite (decide (s9.1<s9.2)) (∃x19,idx x_1 (IntKind.wrap .i64 (shrI .u64 (IntKind.wrap .u64 (w64 (s9.1+s9.2))) 1))=some x19∧XS x19 target (fun x20=>Jn (fun (J22:(Int×Int)→Prop)=>Ite x20 (J22 (w64 ((IntKind.wrap .i64 (shrI .u64 (IntKind.wrap .u64 (w64 (s9.1+s9.2))) 1))+1),s9.2)) (J22 (s9.1,IntKind.wrap .i64 (shrI .u64 (IntKind.wrap .u64 (w64 (s9.1+s9.2))) 1)))) (fun x21=>Y10 (x21.1,x21.2)))) (J8 s9.1)) (0,(x_1.length:Int))) (fun x7=>Jn (fun (J29:Bool→Prop)=>Ite (decide (x7<(x_1.length:Int))) (∃x31,idx x_1 x7=some x31∧Ite (x31 == target) (J29 true) (Kz x31 (fun x33=>Ite x33 (Kz target (fun x35=>J29 x35)) (J29 false)))) (J29 false)) (fun x28=>post (x7,x28)))
def X3 (z:Qt) (c0:Int) (post:Bool→Prop):Prop:=
 QK z.Cells c0 (fun x5=>post x5.2)
def Ql (s_1:List Qt) (f_c0:Int) (post:Int→Prop):Prop:=
 Jn (fun (J6:Unit→Prop)=>Loop (fun (s7:Int) Y8=>Ite (decide (s7<(s_1.length:Int))) (∃x16,idx s_1 s7=some x16∧X3 x16 f_c0 (fun x17=>Ite x17 (post s7) (Y8 (w64 (s7+1))))) (J6 ())) 0) (fun x5=>post (-1))
def X9 (s_1:ApiSite) (c:Int) (post:Int→Prop):Prop:=
 Ql s_1.Zones c (fun x5=>post x5)
def Xo (s_1:ApiSite) (c:Int) (post:Int→Prop):Prop:=
 X9 s_1 c (fun x5=>Ite (decide (x5≥0)) (∃x11,idx s_1.Zones x5=some x11∧post x11.Speed) (post 1))
def X1 (s_1:ApiSite) (d:Int) (x_1:Int) (post:Int→Prop):Prop:=
 Jn (fun (J4:Bool→Prop)=>Ite (decide (d<0)) (J4 true) (Ite (decide (d≥6)) (J4 true) (Xa s_1 x_1 (fun x7=>J4 (!x7))))) (fun x3=>Ite x3 (post 0) (KE 20000 (w64 (1+d)) true (fun x13=>Km s_1 x_1 (fun x16=>Jn (fun (J18:Int→Prop)=>Ite (!x16) (Xo s_1 x_1 (fun x22=>KZ (fun x23=>J18 (w64 (x13+(w64 ((w64 (x22-1))*x23))))))) (J18 x13)) (fun x17=>post x17)))))
def Xg (f:ApiFloor) (post:Int→Prop):Prop:=
 post (w64 ((w64 (f.W*f.H))*f.D))
def XO (f:ApiFloor) (c:Int) (post:Bool→Prop):Prop:=
 Jn (fun (J4:Bool→Prop)=>Ite (decide (c≥0)) (Xg f (fun x6=>J4 (decide (c<x6)))) (J4 false)) (fun x3=>post x3)
def Gi (f:ApiFloor) (c:Int) (post:(Int×Int×Int)→Prop):Prop:=
 XO f c (fun x5=>Ite (!x5) (post (0,0,0)) ((f.W≠0)∧(f.W≠0)∧(f.H≠0)∧((w64 (f.W*f.H))≠0)∧post (c.tmod f.W,(w64 (c.tdiv f.W)).tmod f.H,w64 (c.tdiv (w64 (f.W*f.H))))))
def Ga (post:Gd→Prop):Prop:=
 post ({e0:=({x:=1,y:=0,z:=0:QY}),e1:=({x:=0,y:=1,z:=0:QY}),e2:=({x:=(-1),y:=0,z:=0:QY}),e3:=({x:=0,y:=(-1),z:=0:QY}),e4:=({x:=0,y:=0,z:=1:QY}),e5:=({x:=0,y:=0,z:=(-1):QY}):Gd})
def KA (f:ApiFloor) (x_1:Int) (y_1:Int) (z:Int) (post:Int→Prop):Prop:=
 Jn (fun (J4:Bool→Prop)=>Ite (decide ((imin (imin x_1 y_1) z)<0)) (J4 true) (Ite (decide (x_1≥f.W)) (J4 true) (Ite (decide (y_1≥f.H)) (J4 true) (J4 (decide (z≥f.D)))))) (fun x3=>Ite x3 (post (-1)) (post (w64 ((w64 ((w64 ((w64 (z*f.H))+y_1))*f.W))+x_1))))
def KB (f:ApiFloor) (c:Int) (d:Int) (post:Int→Prop):Prop:=
 Jn (fun (J4:Bool→Prop)=>XO f c (fun x5=>Ite x5 (Ite (decide (d<0)) (J4 true) (J4 (decide (d≥6)))) (J4 true))) (fun x3=>Ite x3 (post (-1)) (Gi f c (fun x13=>Ga (fun x16=>∃x17,idx ([x16.e0,x16.e1,x16.e2,x16.e3,x16.e4,x16.e5]:List QY) d=some x17∧KA f (w64 (x13.1+x17.x)) (w64 (x13.2.1+x17.y)) (w64 (x13.2.2+x17.z)) (fun x20=>post x20)))))
def Xj (f:ApiFloor) (c:Int) (d:Int) (post:(Int×Bool)→Prop):Prop:=
 KB f c d (fun x5=>Jn (fun (J7:Bool→Prop)=>Ite (decide (x5<0)) (J7 true) (∃x9,idx f.Kind c=some x9∧Ite (x9 == 0) (J7 true) (∃x11,idx f.Kind x5=some x11∧Ite (x11 == 0) (J7 true) (∃x13,idx f.Out c=some x13∧(0≤d)∧J7 ((band .i64 (shrI .i64 x13 d) 1) == 0))))) (fun x6=>Ite x6 (post (0,false)) (Jn (fun (J19:Bool→Prop)=>Ite (d == 4) (∃x21,idx f.Kind c=some x21∧Ite (x21 != 6) (J19 true) (∃x23,idx f.Kind x5=some x23∧J19 (x23 != 6))) (Ite (d == 5) (∃x25,idx f.Kind c=some x25∧Ite (x25 != 6) (J19 true) (∃x27,idx f.Kind x5=some x27∧J19 (x27 != 6))) (J19 false))) (fun x18=>Ite x18 (post (0,false)) (post (x5,true))))))
def K2 (s_1:List Int) (v:Int) (post:Int→Prop):Prop:=
 Jn (fun (J6:Unit→Prop)=>Loop (fun (s7:Int) Y8=>Ite (decide (s7<(s_1.length:Int))) (∃x16,idx s_1 s7=some x16∧Ite (v == x16) (post s7) (Y8 (w64 (s7+1)))) (J6 ())) 0) (fun x5=>post (-1))
def Qg (s_1:List Int) (v:Int) (post:Bool→Prop):Prop:=
 K2 s_1 v (fun x5=>post (decide (x5≥0)))
def Kw (s_1:ApiSite) (blocked:List Int) (post:ReachGraph→Prop):Prop:=
 (0≤(s_1.Floor.Kind.length:Int)∧(s_1.Floor.Kind.length:Int)≤1099511627776)∧(0≤(s_1.Floor.Kind.length:Int)∧(s_1.Floor.Kind.length:Int)≤1099511627776)∧(0≤(s_1.Floor.Kind.length:Int)∧(s_1.Floor.Kind.length:Int)≤1099511627776)∧Jn (fun (J13:(List (List ReachStep)×List (List Int)×List Bool)→Prop)=>Loop (fun (s14:List (List ReachStep)×List (List Int)×List Bool×Int) Y15=>Ite (decide (s14.2.2.2<(s_1.Floor.Kind.length:Int))) (Jn (fun (J20:(List (List ReachStep)×List (List Int)×List Bool)→Prop)=>Km s_1 s14.2.2.2 (fun x25=>∃x26,idx s14.2.2.1 s14.2.2.2=some x26∧Jn (fun (J30:(List (List ReachStep)×List (List Int))→Prop)=>Loop (fun (s31:List (List ReachStep)×List (List Int)×Int) Y32=>Ite (decide (s31.2.2<6)) (Xj s_1.Floor s14.2.2.2 s31.2.2 (fun x40=>Jn (fun (J42:Bool→Prop)=>Ite x40.2 (Qg blocked x40.1 (fun x44=>J42 (!x44))) (J42 false)) (fun x41=>Jn (fun (J46:(List (List ReachStep)×List (List Int))→Prop)=>Ite x41 (∃x50,idx s31.1 s14.2.2.2=some x50∧X1 s_1 s31.2.2 x40.1 (fun x51=>(x50.length+([({to_:=x40.1,price:=x51:ReachStep})]:List ReachStep).length≤1099511627776)∧∃x55,idx s31.2.1 x40.1=some x55∧(x55.length+([s14.2.2.2]:List Int).length≤1099511627776)∧J46 ((s31.1.set (Int.toNat s14.2.2.2) (x50++([({to_:=x40.1,price:=x51:ReachStep})]:List ReachStep))),(s31.2.1.set (Int.toNat x40.1) (x55++([s14.2.2.2]:List Int)))))) (J46 (s31.1,s31.2.1))) (fun x45=>Y32 (x45.1,x45.2,w64 (s31.2.2+1)))))) (J30 (s31.1,s31.2.1))) (s14.1,s14.2.1,0)) (fun x29=>J20 (x29.1,x29.2,(s14.2.2.1.set (Int.toNat s14.2.2.2) x25))))) (fun x19=>Y15 (x19.1,x19.2.1,x19.2.2,w64 (s14.2.2.2+1)))) (J13 (s14.1,s14.2.1,s14.2.2.1))) (((List.replicate (Int.toNat (s_1.Floor.Kind.length:Int)) []),(List.replicate (Int.toNat (s_1.Floor.Kind.length:Int)) []),(List.replicate (Int.toNat (s_1.Floor.Kind.length:Int)) false),0):List (List ReachStep)×List (List Int)×List Bool×Int)) (fun x12=>post ({out:=x12.1,in_:=x12.2.1,home:=x12.2.2:ReachGraph}))
def Kd (p0:Int) (post:Bool→Prop):Prop:=
 post true
def QP (g_1:ReachGraph) (fuel:List Int) (c:Int) (but:Int) (post:(Int×Int)→Prop):Prop:=
 ∃x7,idx g_1.out c=some x7∧Jn (fun (J9:(Int×Int)→Prop)=>Loop (fun (s10:Int×Int×Int) Y11=>Ite (decide (s10.2.2<(x7.length:Int))) (∃x17,idx x7 s10.2.2=some x17∧∃x20,idx fuel x17.to_=some x20∧Jn (fun (J22:Bool→Prop)=>Ite (x17.to_ != but) (Ite (decide (x20≥0)) (Ite (decide (s10.1<0)) (J22 true) (J22 (decide ((w64 (x20+x17.price))<s10.1)))) (J22 false)) (J22 false)) (fun x21=>Jn (fun (J27:(Int×Int)→Prop)=>Ite x21 (J27 (w64 (x20+x17.price),x17.to_)) (J27 (s10.1,s10.2.1))) (fun x26=>Y11 (x26.1,x26.2,w64 (s10.2.2+1))))) (J9 (s10.1,s10.2.1))) ((-1),(-1),0)) (fun x8=>post (x8.1,x8.2))
def Qs (g_1:ReachGraph) (but:Int) (fuel:List Int) (queue:List Int) (post:(List Int)→Prop):Prop:=
 Jn (fun (J2:(List Int)→Prop)=>Loop (fun (s3:List Int×List Int) Y4=>Ite (decide ((s3.2.length:Int)>0)) (Jn (fun (J9:(List Int×List Int)→Prop)=>∃x12,idx s3.2 0=some x12∧∃x13,idx g_1.in_ x12=some x13∧Jn (fun (J15:(List Int×List Int)→Prop)=>Loop (fun (s16:List Int×List Int×Int) Y17=>Ite (decide (s16.2.2<(x13.length:Int))) (Jn (fun (J22:(List Int×List Int)→Prop)=>∃x25,idx x13 s16.2.2=some x25∧Jn (fun (J27:Bool→Prop)=>∃x28,idx g_1.home x25=some x28∧Ite x28 (J27 true) (Kd x25 (fun x30=>J27 (!x30)))) (fun x26=>Ite x26 (J22 (s16.1,s16.2.1)) (QP g_1 s16.1 x25 but (fun x34=>Jn (fun (J36:Bool→Prop)=>Ite (decide (x34.1≥0)) (∃x38,idx s16.1 x25=some x38∧Ite (decide (x38<0)) (J36 true) (J36 (decide (x34.1<x38)))) (J36 false)) (fun x35=>Jn (fun (J41:(List Int×List Int)→Prop)=>Ite x35 (∃x45,idx s16.1 x25=some x45∧(s16.2.1.length+([x25]:List Int).length≤1099511627776)∧J41 ((s16.1.set (Int.toNat x25) x34.1),(s16.2.1++([x25]:List Int)))) (J41 (s16.1,s16.2.1))) (fun x40=>J22 (x40.1,x40.2))))))) (fun x21=>Y17 (x21.1,x21.2,w64 (s16.2.2+1)))) (J15 (s16.1,s16.2.1))) (s3.1,s3.2,0)) (fun x14=>J9 (x14.1,x14.2))) (fun x8=>(0≤(1:Int)∧(1:Int)≤(x8.2.length:Int)∧(x8.2.length:Int)≤(x8.2.length:Int))∧Y4 (x8.1,(sub x8.2 1 (x8.2.length:Int))))) (J2 s3.1)) (fuel,queue)) (fun x1=>post x1)
def K7 (g_1:ReachGraph) (post:(List Int)→Prop):Prop:=
 (0≤(g_1.home.length:Int)∧(g_1.home.length:Int)≤1099511627776)∧Jn (fun (J11:(List Int×List Int)→Prop)=>Loop (fun (s12:List Int×List Int×Int) Y13=>Ite (decide (s12.2.2<(g_1.home.length:Int))) (∃x19,idx g_1.home s12.2.2=some x19∧∃x22,idx s12.1 s12.2.2=some x22∧Jn (fun (J26:(List Int×List Int)→Prop)=>Ite x19 ((s12.2.1.length+([s12.2.2]:List Int).length≤1099511627776)∧J26 (((s12.1.set (Int.toNat s12.2.2) (-1)).set (Int.toNat s12.2.2) 0),(s12.2.1++([s12.2.2]:List Int)))) (J26 ((s12.1.set (Int.toNat s12.2.2) (-1)),s12.2.1))) (fun x25=>Y13 (x25.1,x25.2,w64 (s12.2.2+1)))) (J11 (s12.1,s12.2.1))) (((List.replicate (Int.toNat (g_1.home.length:Int)) (0:Int)),[],0):List Int×List Int×Int)) (fun x10=>Qs g_1 (-1) x10.1 x10.2 (fun x37=>post x37))
def Xz (s_1:ApiSite) (blocked:List Int) (post:(List Int)→Prop):Prop:=
 Kw s_1 blocked (fun x5=>K7 x5 (fun x6=>post x6))
def K8 (a:List Int) (b:List Int) (post:Bool→Prop):Prop:=
 Ite ((a.length:Int) != (b.length:Int)) (post false) (Jn (fun (J11:Unit→Prop)=>Loop (fun (s12:Int) Y13=>Ite (decide (s12<(a.length:Int))) (∃x19,idx a s12=some x19∧∃x20,idx b s12=some x20∧Ite (x19 != x20) (post false) (Y13 (w64 (s12+1)))) (J11 ())) 0) (fun x10=>post true))
def Qr (s_1:List Int) (post:(List Int)→Prop):Prop:=
 ∀hb5:Bool,(hb5=true→s_1=[])→Ite (hb5 == true) (post []) ((([]:List Int).length+s_1.length≤1099511627776)∧post (([]:List Int)++s_1))
def QV (c:Int) (c0:List (Int×Int)) (post:Bool→Prop):Prop:=
 post ((lk c0 c).isSome)
def Qq (g_1:ReachGraph) (but:Int) (may_c0:List (Int×Int)) (fuel:List Int) (queue:List Int) (post:(List Int)→Prop):Prop:=
 Jn (fun (J2:(List Int)→Prop)=>Loop (fun (s3:List Int×List Int) Y4=>Ite (decide ((s3.2.length:Int)>0)) (Jn (fun (J9:(List Int×List Int)→Prop)=>∃x12,idx s3.2 0=some x12∧∃x13,idx g_1.in_ x12=some x13∧Jn (fun (J15:(List Int×List Int)→Prop)=>Loop (fun (s16:List Int×List Int×Int) Y17=>Ite (decide (s16.2.2<(x13.length:Int))) (Jn (fun (J22:(List Int×List Int)→Prop)=>∃x25,idx x13 s16.2.2=some x25∧Jn (fun (J27:Bool→Prop)=>∃x28,idx g_1.home x25=some x28∧Ite x28 (J27 true) (QV x25 may_c0 (fun x30=>J27 (!x30)))) (fun x26=>Ite x26 (J22 (s16.1,s16.2.1)) (QP g_1 s16.1 x25 but (fun x34=>Jn (fun (J36:Bool→Prop)=>Ite (decide (x34.1≥0)) (∃x38,idx s16.1 x25=some x38∧Ite (decide (x38<0)) (J36 true) (J36 (decide (x34.1<x38)))) (J36 false)) (fun x35=>Jn (fun (J41:(List Int×List Int)→Prop)=>Ite x35 (∃x45,idx s16.1 x25=some x45∧(s16.2.1.length+([x25]:List Int).length≤1099511627776)∧J41 ((s16.1.set (Int.toNat x25) x34.1),(s16.2.1++([x25]:List Int)))) (J41 (s16.1,s16.2.1))) (fun x40=>J22 (x40.1,x40.2))))))) (fun x21=>Y17 (x21.1,x21.2,w64 (s16.2.2+1)))) (J15 (s16.1,s16.2.1))) (s3.1,s3.2,0)) (fun x14=>J9 (x14.1,x14.2))) (fun x8=>(0≤(1:Int)∧(1:Int)≤(x8.2.length:Int)∧(x8.2.length:Int)≤(x8.2.length:Int))∧Y4 (x8.1,(sub x8.2 1 (x8.2.length:Int))))) (J2 s3.1)) (fuel,queue)) (fun x1=>post x1)
def K5 (g_1:ReachGraph) (fuel:List Int) (children:List (List Int)) (x_1:Int) (post:(Sum (Unit) (List (Int×Int)))→Prop):Prop:=
 ∃x5,idx children x_1=some x5∧Qr x5 (fun x6=>Jn (fun (J10:(List Int)→Prop)=>Loop (fun (s11:List Int×Int) Y12=>Ite (decide (s11.2<(s11.1.length:Int))) (∃x18,idx s11.1 s11.2=some x18∧∃x19,idx children x18=some x19∧(s11.1.length+x19.length≤1099511627776)∧Y12 ((s11.1++x19),w64 (s11.2+1))) (J10 s11.1)) (x6,0)) (fun x9=>Ite ((x9.length:Int) == 0) (post (.inl ())) (Qr fuel (fun x30=>Jn (fun (J36:(List Int×List (Int×Int))→Prop)=>Loop (fun (s37:List Int×List (Int×Int)×Int) Y38=>Ite (decide (s37.2.2<(x9.length:Int))) (∃x44,idx x9 s37.2.2=some x44∧∃x47,idx s37.1 x44=some x47∧Y38 ((s37.1.set (Int.toNat x44) (-1)),(upd s37.2.1 x44 (-1)),w64 (s37.2.2+1))) (J36 (s37.1,s37.2.1))) ((x30,([]:List (Int×Int)),0):List Int×List (Int×Int)×Int)) (fun x35=>Jn (fun (J55:(List (Int×Int))→Prop)=>Loop (fun (s56:List (Int×Int)×Int) Y57=>Ite (decide (s56.2<(x9.length:Int))) (∃x63,idx x9 s56.2=some x63∧QP g_1 x35.1 x63 x_1 (fun x66=>Jn (fun (J70:(List (Int×Int))→Prop)=>Ite (decide (x66.1≥0)) (J70 (upd s56.1 x63 x66.1)) (J70 s56.1)) (fun x69=>Y57 (x69,w64 (s56.2+1))))) (J55 s56.1)) (x35.2,0)) (fun x54=>Jn (fun (J79:(List Int×List Int)→Prop)=>Loop (fun (s80:List Int×List Int×Int) Y81=>Ite (decide (s80.2.2<(x9.length:Int))) (∃x87,idx x9 s80.2.2=some x87∧∃x90,idx s80.1 x87=some x90∧Jn (fun (J94:(List Int)→Prop)=>Ite (decide (((lk x54 x87).getD 0)≥0)) ((s80.2.1.length+([x87]:List Int).length≤1099511627776)∧J94 (s80.2.1++([x87]:List Int))) (J94 s80.2.1)) (fun x93=>Y81 ((s80.1.set (Int.toNat x87) ((lk x54 x87).getD 0)),x93,w64 (s80.2.2+1)))) (J79 (s80.1,s80.2.1))) ((x35.1,[],0):List Int×List Int×Int)) (fun x78=>Qq g_1 x_1 x54 x78.1 x78.2 (fun x103=>Jn (fun (J107:(List (Int×Int))→Prop)=>Loop (fun (s108:List (Int×Int)×Int) Y109=>Ite (decide (s108.2<(x9.length:Int))) (∃x115,idx x9 s108.2=some x115∧∃x118,idx x103 x115=some x118∧Y109 ((upd s108.1 x115 x118),w64 (s108.2+1))) (J107 s108.1)) (x54,0)) (fun x106=>post (.inr x106))))))))))
def V_reach_Needs (s_1:ApiSite) (blocked:List Int) (delay:Int) (post:(List Int)→Prop):Prop:=
 Kw s_1 blocked (fun x5=>K7 x5 (fun x8=>Qr x8 (fun x11=>(0≤(x8.length:Int)∧(x8.length:Int)≤1099511627776)∧Jn (fun (J18:(List Int×List (List Int))→Prop)=>Loop (fun (s19:List Int×List (List Int)×Int) Y20=>Ite (decide (s19.2.2<(x8.length:Int))) (Jn (fun (J25:(List Int×List (List Int))→Prop)=>∃x28,idx x8 s19.2.2=some x28∧Ite (decide (x28<0)) (J25 (s19.1,s19.2.1)) (KZ (fun x34=>∃x35,idx s19.1 s19.2.2=some x35∧QP x5 x8 s19.2.2 (-1) (fun x38=>∃x41,idx x5.home s19.2.2=some x41∧Jn (fun (J43:(List (List Int))→Prop)=>Ite (!x41) (∃x47,idx s19.2.1 x38.2=some x47∧(x47.length+([s19.2.2]:List Int).length≤1099511627776)∧J43 (s19.2.1.set (Int.toNat x38.2) (x47++([s19.2.2]:List Int)))) (J43 s19.2.1)) (fun x42=>J25 ((s19.1.set (Int.toNat s19.2.2) (w64 (x28+(w64 (delay*x34))))),x42)))))) (fun x24=>Y20 (x24.1,x24.2,w64 (s19.2.2+1)))) (J18 (s19.1,s19.2.1))) ((x11,(List.replicate (Int.toNat (x8.length:Int)) []),0):List Int×List (List Int)×Int)) (fun x17=>Jn (fun (J54:(List Int)→Prop)=>Loop (fun (s55:List Int×Int) Y56=>Ite (decide (s55.2<(x8.length:Int))) (Jn (fun (J61:(List Int)→Prop)=>K5 x5 x8 x17.2 s55.2 (Sum.elim (fun x64=>Jn (fun (J66:(List Int)→Prop)=>Loop (fun (s67:List Int) Y68=>J66 s67) s55.1) (fun x65=>J61 x65)) (fun x64=>Jn (fun (J70:(List Int)→Prop)=>Loop (fun (s71:List Int×List Int) Y72=>(∀x73 x74,lk x64 x73=some x74∧x73∉s71.2→Jn (fun (J78:Bool→Prop)=>Ite (decide (x74<0)) (J78 true) (∃x80,idx s71.1 x73=some x80∧J78 (decide (x80<0)))) (fun x77=>Jn (fun (J82:(List Int)→Prop)=>Ite x77 (∃x86,idx s71.1 x73=some x86∧J82 (s71.1.set (Int.toNat x73) (-1))) (∃x89,idx s71.1 x73=some x89∧J82 (s71.1.set (Int.toNat x73) (imax x89 x74)))) (fun x81=>Y72 (x81,(x73 :: s71.2)))))∧((∀x,lk x64 x≠none→x∈s71.2)→J70 s71.1)) ((s55.1,([]:List Int)):List Int×List Int)) (fun x69=>J61 x69)))) (fun x60=>Y56 (x60,w64 (s55.2+1)))) (J54 s55.1)) (x17.1,0)) (fun x53=>post x53)))))
def X0 (s_1:ApiSite) (blocked:List Int) (c:Int) (delay:Int) (post:Int→Prop):Prop:=
 Xa s_1 c (fun x5=>Ite (!x5) (post (-1)) (V_reach_Needs s_1 blocked delay (fun x11=>∃x12,idx x11 c=some x12∧post x12)))
def Ko (post:Bool→Prop):Prop:=
 KK (fun x5=>Jn (fun (J7:Bool→Prop)=>KZ (fun x8=>Ite (x8 == 3) (X1 x5 2 1 (fun x10=>Ite (x10 == 12) (Xz x5 [] (fun x12=>K8 x12 ([0,12,12,0]:List Int) (fun x13=>Ite x13 (X0 x5 [] 1 0 (fun x15=>Ite (x15 == 24) (X0 x5 ([0]:List Int) 1 0 (fun x17=>J7 (x17 == (-1)))) (J7 false))) (J7 false)))) (J7 false))) (J7 false))) (fun x6=>post x6))
def KV (f:ApiFloor) (n:Int) (post:Bool→Prop):Prop:=
 Jn (fun (J4:Bool→Prop)=>Ite (decide ((f.Kind.length:Int)≤n)) (J4 (decide ((f.Out.length:Int)≤n))) (J4 false)) (fun x3=>post x3)
def KN (s_1:ApiSite) (cells:Int) (most:Int) (post:Bool→Prop):Prop:=
 Jn (fun (J6:Unit→Prop)=>Loop (fun (s7:Int) Y8=>Jn (fun (J10:Bool→Prop)=>Ite (decide (s7<(s_1.Zones.length:Int))) (J10 (decide (s7≤most))) (J10 false)) (fun x9=>Ite x9 (Jn (fun (J14:Bool→Prop)=>∃x15,idx s_1.Zones s7=some x15∧Ite (decide ((x15.Cells.length:Int)>cells)) (J14 true) (Ite (decide ((x15.Shut.length:Int)>20)) (J14 true) (J14 (decide ((x15.Name.size:Int)>40))))) (fun x13=>Ite x13 (post false) (Y8 (w64 (s7+1))))) (J6 ()))) 0) (fun x5=>Jn (fun (J26:Unit→Prop)=>Loop (fun (s27:Int) Y28=>Jn (fun (J30:Bool→Prop)=>Ite (decide (s27<(s_1.Aparts.length:Int))) (J30 (decide (s27≤most))) (J30 false)) (fun x29=>Ite x29 (Jn (fun (J34:Bool→Prop)=>∃x35,idx s_1.Aparts s27=some x35∧Ite (decide ((x35.A.size:Int)>40)) (J34 true) (J34 (decide ((x35.B.size:Int)>40)))) (fun x33=>Ite x33 (post false) (Y28 (w64 (s27+1))))) (J26 ()))) 0) (fun x25=>Jn (fun (J45:Unit→Prop)=>Loop (fun (s46:Int) Y47=>Jn (fun (J49:Bool→Prop)=>Ite (decide (s46<(s_1.Shelves.length:Int))) (J49 (decide (s46≤most))) (J49 false)) (fun x48=>Ite x48 (∃x54,idx s_1.Shelves s46=some x54∧Ite (decide ((x54.Class.size:Int)>40)) (post false) (Y47 (w64 (s46+1)))) (J45 ()))) 0) (fun x44=>Jn (fun (J61:Bool→Prop)=>KV s_1.Floor cells (fun x62=>Ite x62 (Ite (decide ((s_1.Zones.length:Int)≤most)) (Ite (decide ((s_1.Aparts.length:Int)≤most)) (Ite (decide ((s_1.Shelves.length:Int)≤most)) (J61 (decide ((s_1.Robots.length:Int)≤most))) (J61 false)) (J61 false)) (J61 false)) (J61 false))) (fun x60=>post x60))))
def XJ (f:ApiFloor) (post:Bool→Prop):Prop:=
 Jn (fun (J4:Bool→Prop)=>Ite (decide ((imin (imin f.W f.H) f.D)<1)) (J4 true) (Ite (decide (f.D>4)) (J4 true) (J4 (decide ((imax f.W f.H)>4096))))) (fun x3=>Ite x3 (post false) (Xg f (fun x12=>Jn (fun (J14:Bool→Prop)=>Ite (decide (x12>4096)) (J14 true) (Ite ((f.Kind.length:Int) != x12) (J14 true) (J14 ((f.Out.length:Int) != x12)))) (fun x13=>Ite x13 (post false) (Jn (fun (J23:Unit→Prop)=>Loop (fun (s24:Int) Y25=>Ite (decide (s24<(f.Kind.length:Int))) (∃x31,idx f.Kind s24=some x31∧Jn (fun (J33:Bool→Prop)=>Ite (decide (x31<0)) (J33 true) (Ite (decide (x31≥7)) (J33 true) (∃x36,idx f.Out s24=some x36∧Ite (decide (x36<0)) (J33 true) (J33 (decide (x36>63)))))) (fun x32=>Ite x32 (post false) (Y25 (w64 (s24+1))))) (J23 ())) 0) (fun x22=>post true))))))
def Xq (f:ApiFloor) (post:SurveyMaker→Prop):Prop:=
 post ({site:=({Floor:=f,Zones:=[],Aparts:=[],Shelves:=[],Robots:=[]:ApiSite}),shelf:=([]:List (Int×Int)),robot:=([]:List (Int×Bool)),zoned:=([]:List (Int×Bool)),names:=([]:List (ByteArray×Int)),oneways:=([]:List (Int×Bool)),shelves:=[],zones:=[]:SurveyMaker})
def Gk (s_1:ByteArray) (c:Int) (post:Int→Prop):Prop:=
 post (ZG s_1 c)
def Kj (s_1:ByteArray) (post:Bool→Prop):Prop:=
 Jn (fun (J4:Bool→Prop)=>Ite (decide ((s_1.size:Int)<1)) (J4 true) (Ite (decide ((s_1.size:Int)>20)) (J4 true) (∃x7,idx s_1.data.toList 0=some x7∧Ite (decide ((x7.toNat:Int)≥48)) (J4 (decide ((x7.toNat:Int)≤57))) (J4 false)))) (fun x3=>Ite x3 (post false) (Jn (fun (J15:Unit→Prop)=>Loop (fun (s16:Int) Y17=>Ite (decide (s16<(s_1.size:Int))) (∃x25,idx s_1.data.toList s16=some x25∧Gk (ByteArray.mk #[97,98,99,100,101,102,103,104,105,106,107,108,109,110,111,112,113,114,115,116,117,118,119,120,121,122,65,66,67,68,69,70,71,72,73,74,75,76,77,78,79,80,81,82,83,84,85,86,87,88,89,90,48,49,50,51,52,53,54,55,56,57,95,45]) (x25.toNat:Int) (fun x26=>Ite (decide (x26<0)) (post false) (Y17 (w64 (s16+1))))) (J15 ())) 0) (fun x14=>post true)))
def KQ (n:Int) (from_1:Int) (to_1:Int) (post:Bool→Prop):Prop:=
 Jn (fun (J4:Bool→Prop)=>Ite (decide (n≥from_1)) (J4 (decide (n≤to_1))) (J4 false)) (fun x3=>post x3)
def XI (l:List Xe) (post:Bool→Prop):Prop:=
 Jn (fun (J8:Unit→Prop)=>Loop (fun (s9:Int×Int) Y10=>Ite (decide (s9.2<(l.length:Int))) (∃x16,idx l s9.2=some x16∧Jn (fun (J18:Bool→Prop)=>Ite (decide (x16.From<s9.1)) (J18 true) (Ite (decide (x16.From≥x16.To)) (J18 true) (J18 (decide (x16.To>20000))))) (fun x17=>Ite x17 (post false) (Y10 (x16.To,w64 (s9.2+1))))) (J8 ())) (0,0)) (fun x7=>post true)
def QI (m:SurveyMaker) (c:Int) (post:(Int×Bool)→Prop):Prop:=
 Jn (fun (J4:Bool→Prop)=>Ite (decide (c<0)) (J4 true) (J4 (decide (c≥(m.site.Floor.Kind.length:Int))))) (fun x3=>Ite x3 (post (0,false)) (∃x11,idx m.site.Floor.Kind c=some x11∧post (x11,true)))
def Kb (m:SurveyMaker) (l:List Int) (post:Bool→Prop):Prop:=
 Jn (fun (J6:Unit→Prop)=>Loop (fun (s7:Int) Y8=>Ite (decide (s7<(l.length:Int))) (∃x14,idx l s7=some x14∧QI m x14 (fun x17=>Jn (fun (J19:Bool→Prop)=>Ite x17.2 (Ite (decide (s7>0)) (∃x22,idx l (w64 (s7-1))=some x22∧J19 (decide (x22≥x14))) (J19 false)) (J19 true)) (fun x18=>Ite x18 (post false) (Y8 (w64 (s7+1)))))) (J6 ())) 0) (fun x5=>post (decide ((l.length:Int)>0)))
def Xr (kind:Int) (post:Bool→Prop):Prop:=
 Jn (fun (J4:Bool→Prop)=>Ite (kind != 0) (Ite (kind != 4) (J4 (kind != 5)) (J4 false)) (J4 false)) (fun x3=>post x3)
def QW (z:Qt) (m:SurveyMaker) (post:(Int×SurveyMaker)→Prop):Prop:=
 Ite ((lk m.names z.Name).isSome) (post (5,m)) (Ite (decide ((m.site.Zones.length:Int)≥64)) (post (6,m)) (Jn (fun (J18:Unit→Prop)=>Loop (fun (s19:Int) Y20=>Ite (decide (s19<(z.Cells.length:Int))) (∃x26,idx z.Cells s19=some x26∧QI m x26 (fun x29=>Jn (fun (J31:Bool→Prop)=>Xr x29.1 (fun x32=>Ite x32 (J31 ((lk m.zoned x26).getD false)) (J31 true))) (fun x30=>Ite x30 (post (13,m)) (Y20 (w64 (s19+1)))))) (J18 ())) 0) (fun x17=>Jn (fun (J42:(List (Int×Bool))→Prop)=>Loop (fun (s43:List (Int×Bool)×Int) Y44=>Ite (decide (s43.2<(z.Cells.length:Int))) (∃x50,idx z.Cells s43.2=some x50∧Y44 ((upd s43.1 x50 true),w64 (s43.2+1))) (J42 s43.1)) (m.zoned,0)) (fun x41=>(m.site.Zones.length+([z]:List Qt).length≤1099511627776)∧post (0,({site:=({Floor:=m.site.Floor,Zones:=(m.site.Zones++([z]:List Qt)),Aparts:=m.site.Aparts,Shelves:=m.site.Shelves,Robots:=m.site.Robots:ApiSite}),shelf:=m.shelf,robot:=m.robot,zoned:=x41,names:=(upd m.names z.Name (m.site.Zones.length:Int)),oneways:=m.oneways,shelves:=m.shelves,zones:=m.zones:SurveyMaker}))))))
def QL (s_1:List Q5) (v:Q5) (post:Int→Prop):Prop:=
 Jn (fun (J6:Unit→Prop)=>Loop (fun (s7:Int) Y8=>Ite (decide (s7<(s_1.length:Int))) (∃x16,idx s_1 s7=some x16∧Ite (seq v.A x16.A&&(seq v.B x16.B&&true)) (post s7) (Y8 (w64 (s7+1)))) (J6 ())) 0) (fun x5=>post (-1))
def Qm (s_1:List Q5) (v:Q5) (post:Bool→Prop):Prop:=
 QL s_1 v (fun x5=>post (decide (x5≥0)))
def X7 (l:List Q5) (a:ByteArray) (b:ByteArray) (post:Bool→Prop):Prop:=
 Jn (fun (J4:Bool→Prop)=>Ite (seq a ByteArray.empty) (J4 true) (J4 (seq b ByteArray.empty))) (fun x3=>Ite x3 (post false) (Jn (fun (J10:Bool→Prop)=>Qm l ({A:=a,B:=b:Q5}) (fun x11=>Ite x11 (J10 true) (Qm l ({A:=b,B:=a:Q5}) (fun x13=>J10 x13)))) (fun x9=>post x9)))
def QR (x_1:Q5) (m:SurveyMaker) (post:(Int×SurveyMaker)→Prop):Prop:=
 Jn (fun (J4:Bool→Prop)=>Kj x_1.A (fun x5=>Ite x5 (Kj x_1.B (fun x7=>J4 (!x7))) (J4 true))) (fun x3=>Ite x3 (post (12,m)) (X7 m.site.Aparts x_1.A x_1.B (fun x13=>Ite x13 (post (5,m)) ((m.site.Aparts.length+([x_1]:List Q5).length≤1099511627776)∧post (0,({site:=({Floor:=m.site.Floor,Zones:=m.site.Zones,Aparts:=(m.site.Aparts++([x_1]:List Q5)),Shelves:=m.site.Shelves,Robots:=m.site.Robots:ApiSite}),shelf:=m.shelf,robot:=m.robot,zoned:=m.zoned,names:=m.names,oneways:=m.oneways,shelves:=m.shelves,zones:=m.zones:SurveyMaker}))))))
def KO (kind:Int) (post:Bool→Prop):Prop:=
 Jn (fun (J4:Bool→Prop)=>Ite (kind == 1) (J4 true) (J4 (kind == 2))) (fun x3=>post x3)
def QT (x_1:Qu) (m:SurveyMaker) (post:(Int×SurveyMaker)→Prop):Prop:=
 Jn (fun (J4:Bool→Prop)=>Ite (seq x_1.Class ByteArray.empty) (J4 false) (Kj x_1.Class (fun x6=>J4 (!x6)))) (fun x3=>Ite x3 (post (12,m)) (QI m x_1.Cell (fun x12=>Ite (!x12.2) (post (3,m)) (KO x12.1 (fun x20=>Ite (!x20) (post (13,m)) (Ite ((lk m.shelf x_1.Cell).isSome) (post (5,m)) (Ite (decide ((m.site.Shelves.length:Int)≥3000)) (post (6,m)) ((m.site.Shelves.length+([x_1]:List Qu).length≤1099511627776)∧post (0,({site:=({Floor:=m.site.Floor,Zones:=m.site.Zones,Aparts:=m.site.Aparts,Shelves:=(m.site.Shelves++([x_1]:List Qu)),Robots:=m.site.Robots:ApiSite}),shelf:=(upd m.shelf x_1.Cell (m.site.Shelves.length:Int)),robot:=m.robot,zoned:=m.zoned,names:=m.names,oneways:=m.oneways,shelves:=m.shelves,zones:=m.zones:SurveyMaker}))))))))))
def QS (x_1:QF) (m:SurveyMaker) (post:(Int×SurveyMaker)→Prop):Prop:=
 QI m x_1.Cell (fun x5=>Jn (fun (J7:Bool→Prop)=>Ite x5.2 (KQ x_1.Charge 0 1000000 (fun x9=>J7 (!x9))) (J7 true)) (fun x6=>Ite x6 (post (3,m)) (Ite (x5.1 == 0) (post (13,m)) (Ite ((lk m.robot x_1.Cell).getD false) (post (5,m)) (Ite (decide ((m.site.Robots.length:Int)≥200)) (post (6,m)) ((m.site.Robots.length+([x_1]:List QF).length≤1099511627776)∧post (0,({site:=({Floor:=m.site.Floor,Zones:=m.site.Zones,Aparts:=m.site.Aparts,Shelves:=m.site.Shelves,Robots:=(m.site.Robots++([x_1]:List QF)):ApiSite}),shelf:=m.shelf,robot:=(upd m.robot x_1.Cell true),zoned:=m.zoned,names:=m.names,oneways:=m.oneways,shelves:=m.shelves,zones:=m.zones:SurveyMaker}))))))))
def K6 (m:SurveyMaker) (post:Int→Prop):Prop:=
 Jn (fun (J8:Unit→Prop)=>Loop (fun (s9:Int) Y10=>Ite (decide (s9<(m.site.Shelves.length:Int))) (Jn (fun (J15:Unit→Prop)=>∃x18,idx m.site.Shelves s9=some x18∧Gi m.site.Floor x18.Cell (fun x21=>KA m.site.Floor (w64 (x21.1+1)) x21.2.1 x21.2.2 (fun x24=>KA m.site.Floor x21.1 (w64 (x21.2.1+1)) x21.2.2 (fun x25=>KA m.site.Floor (w64 (x21.1-1)) x21.2.1 x21.2.2 (fun x26=>KA m.site.Floor x21.1 (w64 (x21.2.1-1)) x21.2.2 (fun x27=>Jn (fun (J29:Unit→Prop)=>Loop (fun (s30:Int) Y31=>Ite (decide (s30<(([x24,x25,x26,x27]:List Int).length:Int))) (∃x37,idx ([x24,x25,x26,x27]:List Int) s30=some x37∧Jn (fun (J41:Bool→Prop)=>Ite ((lk m.shelf x37).isSome) (Ite (decide (((lk m.shelf x37).getD 0)<s9)) (∃x44,idx m.site.Shelves ((lk m.shelf x37).getD 0)=some x44∧X7 m.site.Aparts x18.Class x44.Class (fun x45=>J41 x45)) (J41 false)) (J41 false)) (fun x40=>Ite x40 (post s9) (Y31 (w64 (s30+1))))) (J29 ())) 0) (fun x28=>J15 ()))))))) (fun x14=>Y10 (w64 (s9+1)))) (J8 ())) 0) (fun x7=>post (-1))
def QQ (z:Qt) (c0:SurveyMaker) (post:Bool→Prop):Prop:=
 Jn (fun (J8:Int→Prop)=>Loop (fun (s9:Int×Int) Y10=>Ite (decide (s9.2<(z.Cells.length:Int))) (∃x16,idx z.Cells s9.2=some x16∧Jn (fun (J20:Bool→Prop)=>Ite ((lk c0.shelf x16).isSome) (J20 false) (∃x22,idx c0.site.Floor.Kind x16=some x22∧KO x22 (fun x23=>J20 x23))) (fun x19=>Jn (fun (J25:Int→Prop)=>Ite x19 (J25 (w64 (s9.1+1))) (J25 s9.1)) (fun x24=>Y10 (x24,w64 (s9.2+1))))) (J8 s9.1)) (0,0)) (fun x7=>post (decide (x7<z.Keep)))
def Q9 (s_1:List Qt) (f_c0:SurveyMaker) (post:Int→Prop):Prop:=
 Jn (fun (J6:Unit→Prop)=>Loop (fun (s7:Int) Y8=>Ite (decide (s7<(s_1.length:Int))) (∃x16,idx s_1 s7=some x16∧QQ x16 f_c0 (fun x17=>Ite x17 (post s7) (Y8 (w64 (s7+1))))) (J6 ())) 0) (fun x5=>post (-1))
def Ks (m:SurveyMaker) (post:Int→Prop):Prop:=
 Q9 m.site.Zones m (fun x5=>post x5)
def Kr (m:SurveyMaker) (post:Bool→Prop):Prop:=
 Qg m.site.Floor.Kind 3 (fun x5=>post x5)
def X5 (s_1:ApiSite) (post:Bool→Prop):Prop:=
 XJ s_1.Floor (fun x5=>Ite (!x5) (post false) (Xq s_1.Floor (fun x11=>Jn (fun (J15:(Int×Int×Int×List Int×List Int×List Qt×List Q5×List Qu×List QF×List (Int×Int)×List (Int×Bool)×List (Int×Bool)×List (ByteArray×Int)×List (Int×Bool)×List Int×List Int)→Prop)=>Loop (fun (s16:Int×Int×Int×List Int×List Int×List Qt×List Q5×List Qu×List QF×List (Int×Int)×List (Int×Bool)×List (Int×Bool)×List (ByteArray×Int)×List (Int×Bool)×List Int×List Int×Int) Y17=>Ite (decide (s16.2.2.2.2.2.2.2.2.2.2.2.2.2.2.2.2<(s_1.Zones.length:Int))) (∃x23,idx s_1.Zones s16.2.2.2.2.2.2.2.2.2.2.2.2.2.2.2.2=some x23∧Jn (fun (J25:(Int×Int×Int×List Int×List Int×List Qt×List Q5×List Qu×List QF×List (Int×Int)×List (Int×Bool)×List (Int×Bool)×List (ByteArray×Int)×List (Int×Bool)×List Int×List Int×Bool)→Prop)=>Kj x23.Name (fun x26=>Ite x26 (KQ x23.Speed 1 100 (fun x28=>Ite x28 (Ite (decide (x23.Keep<0)) (J25 (s16.1,s16.2.1,s16.2.2.1,s16.2.2.2.1,s16.2.2.2.2.1,s16.2.2.2.2.2.1,s16.2.2.2.2.2.2.1,s16.2.2.2.2.2.2.2.1,s16.2.2.2.2.2.2.2.2.1,s16.2.2.2.2.2.2.2.2.2.1,s16.2.2.2.2.2.2.2.2.2.2.1,s16.2.2.2.2.2.2.2.2.2.2.2.1,s16.2.2.2.2.2.2.2.2.2.2.2.2.1,s16.2.2.2.2.2.2.2.2.2.2.2.2.2.1,s16.2.2.2.2.2.2.2.2.2.2.2.2.2.2.1,s16.2.2.2.2.2.2.2.2.2.2.2.2.2.2.2.1,true)) (XI x23.Shut (fun x31=>Ite x31 (Kb ({site:=({Floor:=({W:=s16.1,H:=s16.2.1,D:=s16.2.2.1,Kind:=s16.2.2.2.1,Out:=s16.2.2.2.2.1:ApiFloor}),Zones:=s16.2.2.2.2.2.1,Aparts:=s16.2.2.2.2.2.2.1,Shelves:=s16.2.2.2.2.2.2.2.1,Robots:=s16.2.2.2.2.2.2.2.2.1:ApiSite}),shelf:=s16.2.2.2.2.2.2.2.2.2.1,robot:=s16.2.2.2.2.2.2.2.2.2.2.1,zoned:=s16.2.2.2.2.2.2.2.2.2.2.2.1,names:=s16.2.2.2.2.2.2.2.2.2.2.2.2.1,oneways:=s16.2.2.2.2.2.2.2.2.2.2.2.2.2.1,shelves:=s16.2.2.2.2.2.2.2.2.2.2.2.2.2.2.1,zones:=s16.2.2.2.2.2.2.2.2.2.2.2.2.2.2.2.1:SurveyMaker}) x23.Cells (fun x33=>Ite x33 (QW x23 ({site:=({Floor:=({W:=s16.1,H:=s16.2.1,D:=s16.2.2.1,Kind:=s16.2.2.2.1,Out:=s16.2.2.2.2.1:ApiFloor}),Zones:=s16.2.2.2.2.2.1,Aparts:=s16.2.2.2.2.2.2.1,Shelves:=s16.2.2.2.2.2.2.2.1,Robots:=s16.2.2.2.2.2.2.2.2.1:ApiSite}),shelf:=s16.2.2.2.2.2.2.2.2.2.1,robot:=s16.2.2.2.2.2.2.2.2.2.2.1,zoned:=s16.2.2.2.2.2.2.2.2.2.2.2.1,names:=s16.2.2.2.2.2.2.2.2.2.2.2.2.1,oneways:=s16.2.2.2.2.2.2.2.2.2.2.2.2.2.1,shelves:=s16.2.2.2.2.2.2.2.2.2.2.2.2.2.2.1,zones:=s16.2.2.2.2.2.2.2.2.2.2.2.2.2.2.2.1:SurveyMaker}) (fun x35=>J25 (x35.2.site.Floor.W,x35.2.site.Floor.H,x35.2.site.Floor.D,x35.2.site.Floor.Kind,x35.2.site.Floor.Out,x35.2.site.Zones,x35.2.site.Aparts,x35.2.site.Shelves,x35.2.site.Robots,x35.2.shelf,x35.2.robot,x35.2.zoned,x35.2.names,x35.2.oneways,x35.2.shelves,x35.2.zones,(x35.1 != 0)))) (J25 (s16.1,s16.2.1,s16.2.2.1,s16.2.2.2.1,s16.2.2.2.2.1,s16.2.2.2.2.2.1,s16.2.2.2.2.2.2.1,s16.2.2.2.2.2.2.2.1,s16.2.2.2.2.2.2.2.2.1,s16.2.2.2.2.2.2.2.2.2.1,s16.2.2.2.2.2.2.2.2.2.2.1,s16.2.2.2.2.2.2.2.2.2.2.2.1,s16.2.2.2.2.2.2.2.2.2.2.2.2.1,s16.2.2.2.2.2.2.2.2.2.2.2.2.2.1,s16.2.2.2.2.2.2.2.2.2.2.2.2.2.2.1,s16.2.2.2.2.2.2.2.2.2.2.2.2.2.2.2.1,true)))) (J25 (s16.1,s16.2.1,s16.2.2.1,s16.2.2.2.1,s16.2.2.2.2.1,s16.2.2.2.2.2.1,s16.2.2.2.2.2.2.1,s16.2.2.2.2.2.2.2.1,s16.2.2.2.2.2.2.2.2.1,s16.2.2.2.2.2.2.2.2.2.1,s16.2.2.2.2.2.2.2.2.2.2.1,s16.2.2.2.2.2.2.2.2.2.2.2.1,s16.2.2.2.2.2.2.2.2.2.2.2.2.1,s16.2.2.2.2.2.2.2.2.2.2.2.2.2.1,s16.2.2.2.2.2.2.2.2.2.2.2.2.2.2.1,s16.2.2.2.2.2.2.2.2.2.2.2.2.2.2.2.1,true))))) (J25 (s16.1,s16.2.1,s16.2.2.1,s16.2.2.2.1,s16.2.2.2.2.1,s16.2.2.2.2.2.1,s16.2.2.2.2.2.2.1,s16.2.2.2.2.2.2.2.1,s16.2.2.2.2.2.2.2.2.1,s16.2.2.2.2.2.2.2.2.2.1,s16.2.2.2.2.2.2.2.2.2.2.1,s16.2.2.2.2.2.2.2.2.2.2.2.1,s16.2.2.2.2.2.2.2.2.2.2.2.2.1,s16.2.2.2.2.2.2.2.2.2.2.2.2.2.1,s16.2.2.2.2.2.2.2.2.2.2.2.2.2.2.1,s16.2.2.2.2.2.2.2.2.2.2.2.2.2.2.2.1,true)))) (J25 (s16.1,s16.2.1,s16.2.2.1,s16.2.2.2.1,s16.2.2.2.2.1,s16.2.2.2.2.2.1,s16.2.2.2.2.2.2.1,s16.2.2.2.2.2.2.2.1,s16.2.2.2.2.2.2.2.2.1,s16.2.2.2.2.2.2.2.2.2.1,s16.2.2.2.2.2.2.2.2.2.2.1,s16.2.2.2.2.2.2.2.2.2.2.2.1,s16.2.2.2.2.2.2.2.2.2.2.2.2.1,s16.2.2.2.2.2.2.2.2.2.2.2.2.2.1,s16.2.2.2.2.2.2.2.2.2.2.2.2.2.2.1,s16.2.2.2.2.2.2.2.2.2.2.2.2.2.2.2.1,true)))) (fun x24=>Ite x24.2.2.2.2.2.2.2.2.2.2.2.2.2.2.2.2 (post false) (Y17 (x24.1,x24.2.1,x24.2.2.1,x24.2.2.2.1,x24.2.2.2.2.1,x24.2.2.2.2.2.1,x24.2.2.2.2.2.2.1,x24.2.2.2.2.2.2.2.1,x24.2.2.2.2.2.2.2.2.1,x24.2.2.2.2.2.2.2.2.2.1,x24.2.2.2.2.2.2.2.2.2.2.1,x24.2.2.2.2.2.2.2.2.2.2.2.1,x24.2.2.2.2.2.2.2.2.2.2.2.2.1,x24.2.2.2.2.2.2.2.2.2.2.2.2.2.1,x24.2.2.2.2.2.2.2.2.2.2.2.2.2.2.1,x24.2.2.2.2.2.2.2.2.2.2.2.2.2.2.2.1,w64 (s16.2.2.2.2.2.2.2.2.2.2.2.2.2.2.2.2+1))))) (J15 (s16.1,s16.2.1,s16.2.2.1,s16.2.2.2.1,s16.2.2.2.2.1,s16.2.2.2.2.2.1,s16.2.2.2.2.2.2.1,s16.2.2.2.2.2.2.2.1,s16.2.2.2.2.2.2.2.2.1,s16.2.2.2.2.2.2.2.2.2.1,s16.2.2.2.2.2.2.2.2.2.2.1,s16.2.2.2.2.2.2.2.2.2.2.2.1,s16.2.2.2.2.2.2.2.2.2.2.2.2.1,s16.2.2.2.2.2.2.2.2.2.2.2.2.2.1,s16.2.2.2.2.2.2.2.2.2.2.2.2.2.2.1,s16.2.2.2.2.2.2.2.2.2.2.2.2.2.2.2.1))) (x11.site.Floor.W,x11.site.Floor.H,x11.site.Floor.D,x11.site.Floor.Kind,x11.site.Floor.Out,x11.site.Zones,x11.site.Aparts,x11.site.Shelves,x11.site.Robots,x11.shelf,x11.robot,x11.zoned,x11.names,x11.oneways,x11.shelves,x11.zones,0)) (fun x14=>Jn (fun (J44:(Int×Int×Int×List Int×List Int×List Qt×List Q5×List Qu×List QF×List (Int×Int)×List (Int×Bool)×List (Int×Bool)×List (ByteArray×Int)×List (Int×Bool)×List Int×List Int)→Prop)=>Loop (fun (s45:Int×Int×Int×List Int×List Int×List Qt×List Q5×List Qu×List QF×List (Int×Int)×List (Int×Bool)×List (Int×Bool)×List (ByteArray×Int)×List (Int×Bool)×List Int×List Int×Int) Y46=>Ite (decide (s45.2.2.2.2.2.2.2.2.2.2.2.2.2.2.2.2<(s_1.Aparts.length:Int))) (∃x52,idx s_1.Aparts s45.2.2.2.2.2.2.2.2.2.2.2.2.2.2.2.2=some x52∧QR x52 ({site:=({Floor:=({W:=s45.1,H:=s45.2.1,D:=s45.2.2.1,Kind:=s45.2.2.2.1,Out:=s45.2.2.2.2.1:ApiFloor}),Zones:=s45.2.2.2.2.2.1,Aparts:=s45.2.2.2.2.2.2.1,Shelves:=s45.2.2.2.2.2.2.2.1,Robots:=s45.2.2.2.2.2.2.2.2.1:ApiSite}),shelf:=s45.2.2.2.2.2.2.2.2.2.1,robot:=s45.2.2.2.2.2.2.2.2.2.2.1,zoned:=s45.2.2.2.2.2.2.2.2.2.2.2.1,names:=s45.2.2.2.2.2.2.2.2.2.2.2.2.1,oneways:=s45.2.2.2.2.2.2.2.2.2.2.2.2.2.1,shelves:=s45.2.2.2.2.2.2.2.2.2.2.2.2.2.2.1,zones:=s45.2.2.2.2.2.2.2.2.2.2.2.2.2.2.2.1:SurveyMaker}) (fun x55=>Ite (x55.1 != 0) (post false) (Y46 (x55.2.site.Floor.W,x55.2.site.Floor.H,x55.2.site.Floor.D,x55.2.site.Floor.Kind,x55.2.site.Floor.Out,x55.2.site.Zones,x55.2.site.Aparts,x55.2.site.Shelves,x55.2.site.Robots,x55.2.shelf,x55.2.robot,x55.2.zoned,x55.2.names,x55.2.oneways,x55.2.shelves,x55.2.zones,w64 (s45.2.2.2.2.2.2.2.2.2.2.2.2.2.2.2.2+1))))) (J44 (s45.1,s45.2.1,s45.2.2.1,s45.2.2.2.1,s45.2.2.2.2.1,s45.2.2.2.2.2.1,s45.2.2.2.2.2.2.1,s45.2.2.2.2.2.2.2.1,s45.2.2.2.2.2.2.2.2.1,s45.2.2.2.2.2.2.2.2.2.1,s45.2.2.2.2.2.2.2.2.2.2.1,s45.2.2.2.2.2.2.2.2.2.2.2.1,s45.2.2.2.2.2.2.2.2.2.2.2.2.1,s45.2.2.2.2.2.2.2.2.2.2.2.2.2.1,s45.2.2.2.2.2.2.2.2.2.2.2.2.2.2.1,s45.2.2.2.2.2.2.2.2.2.2.2.2.2.2.2.1))) (x14.1,x14.2.1,x14.2.2.1,x14.2.2.2.1,x14.2.2.2.2.1,x14.2.2.2.2.2.1,x14.2.2.2.2.2.2.1,x14.2.2.2.2.2.2.2.1,x14.2.2.2.2.2.2.2.2.1,x14.2.2.2.2.2.2.2.2.2.1,x14.2.2.2.2.2.2.2.2.2.2.1,x14.2.2.2.2.2.2.2.2.2.2.2.1,x14.2.2.2.2.2.2.2.2.2.2.2.2.1,x14.2.2.2.2.2.2.2.2.2.2.2.2.2.1,x14.2.2.2.2.2.2.2.2.2.2.2.2.2.2.1,x14.2.2.2.2.2.2.2.2.2.2.2.2.2.2.2,0)) (fun x43=>Jn (fun (J64:(Int×Int×Int×List Int×List Int×List Qt×List Q5×List Qu×List QF×List (Int×Int)×List (Int×Bool)×List (Int×Bool)×List (ByteArray×Int)×List (Int×Bool)×List Int×List Int)→Prop)=>Loop (fun (s65:Int×Int×Int×List Int×List Int×List Qt×List Q5×List Qu×List QF×List (Int×Int)×List (Int×Bool)×List (Int×Bool)×List (ByteArray×Int)×List (Int×Bool)×List Int×List Int×Int) Y66=>Ite (decide (s65.2.2.2.2.2.2.2.2.2.2.2.2.2.2.2.2<(s_1.Shelves.length:Int))) (∃x72,idx s_1.Shelves s65.2.2.2.2.2.2.2.2.2.2.2.2.2.2.2.2=some x72∧QT x72 ({site:=({Floor:=({W:=s65.1,H:=s65.2.1,D:=s65.2.2.1,Kind:=s65.2.2.2.1,Out:=s65.2.2.2.2.1:ApiFloor}),Zones:=s65.2.2.2.2.2.1,Aparts:=s65.2.2.2.2.2.2.1,Shelves:=s65.2.2.2.2.2.2.2.1,Robots:=s65.2.2.2.2.2.2.2.2.1:ApiSite}),shelf:=s65.2.2.2.2.2.2.2.2.2.1,robot:=s65.2.2.2.2.2.2.2.2.2.2.1,zoned:=s65.2.2.2.2.2.2.2.2.2.2.2.1,names:=s65.2.2.2.2.2.2.2.2.2.2.2.2.1,oneways:=s65.2.2.2.2.2.2.2.2.2.2.2.2.2.1,shelves:=s65.2.2.2.2.2.2.2.2.2.2.2.2.2.2.1,zones:=s65.2.2.2.2.2.2.2.2.2.2.2.2.2.2.2.1:SurveyMaker}) (fun x75=>Ite (x75.1 != 0) (post false) (Y66 (x75.2.site.Floor.W,x75.2.site.Floor.H,x75.2.site.Floor.D,x75.2.site.Floor.Kind,x75.2.site.Floor.Out,x75.2.site.Zones,x75.2.site.Aparts,x75.2.site.Shelves,x75.2.site.Robots,x75.2.shelf,x75.2.robot,x75.2.zoned,x75.2.names,x75.2.oneways,x75.2.shelves,x75.2.zones,w64 (s65.2.2.2.2.2.2.2.2.2.2.2.2.2.2.2.2+1))))) (J64 (s65.1,s65.2.1,s65.2.2.1,s65.2.2.2.1,s65.2.2.2.2.1,s65.2.2.2.2.2.1,s65.2.2.2.2.2.2.1,s65.2.2.2.2.2.2.2.1,s65.2.2.2.2.2.2.2.2.1,s65.2.2.2.2.2.2.2.2.2.1,s65.2.2.2.2.2.2.2.2.2.2.1,s65.2.2.2.2.2.2.2.2.2.2.2.1,s65.2.2.2.2.2.2.2.2.2.2.2.2.1,s65.2.2.2.2.2.2.2.2.2.2.2.2.2.1,s65.2.2.2.2.2.2.2.2.2.2.2.2.2.2.1,s65.2.2.2.2.2.2.2.2.2.2.2.2.2.2.2.1))) (x43.1,x43.2.1,x43.2.2.1,x43.2.2.2.1,x43.2.2.2.2.1,x43.2.2.2.2.2.1,x43.2.2.2.2.2.2.1,x43.2.2.2.2.2.2.2.1,x43.2.2.2.2.2.2.2.2.1,x43.2.2.2.2.2.2.2.2.2.1,x43.2.2.2.2.2.2.2.2.2.2.1,x43.2.2.2.2.2.2.2.2.2.2.2.1,x43.2.2.2.2.2.2.2.2.2.2.2.2.1,x43.2.2.2.2.2.2.2.2.2.2.2.2.2.1,x43.2.2.2.2.2.2.2.2.2.2.2.2.2.2.1,x43.2.2.2.2.2.2.2.2.2.2.2.2.2.2.2,0)) (fun x63=>Jn (fun (J84:(Int×Int×Int×List Int×List Int×List Qt×List Q5×List Qu×List QF×List (Int×Int)×List (Int×Bool)×List (Int×Bool)×List (ByteArray×Int)×List (Int×Bool)×List Int×List Int)→Prop)=>Loop (fun (s85:Int×Int×Int×List Int×List Int×List Qt×List Q5×List Qu×List QF×List (Int×Int)×List (Int×Bool)×List (Int×Bool)×List (ByteArray×Int)×List (Int×Bool)×List Int×List Int×Int) Y86=>Ite (decide (s85.2.2.2.2.2.2.2.2.2.2.2.2.2.2.2.2<(s_1.Robots.length:Int))) (∃x92,idx s_1.Robots s85.2.2.2.2.2.2.2.2.2.2.2.2.2.2.2.2=some x92∧QS x92 ({site:=({Floor:=({W:=s85.1,H:=s85.2.1,D:=s85.2.2.1,Kind:=s85.2.2.2.1,Out:=s85.2.2.2.2.1:ApiFloor}),Zones:=s85.2.2.2.2.2.1,Aparts:=s85.2.2.2.2.2.2.1,Shelves:=s85.2.2.2.2.2.2.2.1,Robots:=s85.2.2.2.2.2.2.2.2.1:ApiSite}),shelf:=s85.2.2.2.2.2.2.2.2.2.1,robot:=s85.2.2.2.2.2.2.2.2.2.2.1,zoned:=s85.2.2.2.2.2.2.2.2.2.2.2.1,names:=s85.2.2.2.2.2.2.2.2.2.2.2.2.1,oneways:=s85.2.2.2.2.2.2.2.2.2.2.2.2.2.1,shelves:=s85.2.2.2.2.2.2.2.2.2.2.2.2.2.2.1,zones:=s85.2.2.2.2.2.2.2.2.2.2.2.2.2.2.2.1:SurveyMaker}) (fun x95=>Ite (x95.1 != 0) (post false) (Y86 (x95.2.site.Floor.W,x95.2.site.Floor.H,x95.2.site.Floor.D,x95.2.site.Floor.Kind,x95.2.site.Floor.Out,x95.2.site.Zones,x95.2.site.Aparts,x95.2.site.Shelves,x95.2.site.Robots,x95.2.shelf,x95.2.robot,x95.2.zoned,x95.2.names,x95.2.oneways,x95.2.shelves,x95.2.zones,w64 (s85.2.2.2.2.2.2.2.2.2.2.2.2.2.2.2.2+1))))) (J84 (s85.1,s85.2.1,s85.2.2.1,s85.2.2.2.1,s85.2.2.2.2.1,s85.2.2.2.2.2.1,s85.2.2.2.2.2.2.1,s85.2.2.2.2.2.2.2.1,s85.2.2.2.2.2.2.2.2.1,s85.2.2.2.2.2.2.2.2.2.1,s85.2.2.2.2.2.2.2.2.2.2.1,s85.2.2.2.2.2.2.2.2.2.2.2.1,s85.2.2.2.2.2.2.2.2.2.2.2.2.1,s85.2.2.2.2.2.2.2.2.2.2.2.2.2.1,s85.2.2.2.2.2.2.2.2.2.2.2.2.2.2.1,s85.2.2.2.2.2.2.2.2.2.2.2.2.2.2.2.1))) (x63.1,x63.2.1,x63.2.2.1,x63.2.2.2.1,x63.2.2.2.2.1,x63.2.2.2.2.2.1,x63.2.2.2.2.2.2.1,x63.2.2.2.2.2.2.2.1,x63.2.2.2.2.2.2.2.2.1,x63.2.2.2.2.2.2.2.2.2.1,x63.2.2.2.2.2.2.2.2.2.2.1,x63.2.2.2.2.2.2.2.2.2.2.2.1,x63.2.2.2.2.2.2.2.2.2.2.2.2.1,x63.2.2.2.2.2.2.2.2.2.2.2.2.2.1,x63.2.2.2.2.2.2.2.2.2.2.2.2.2.2.1,x63.2.2.2.2.2.2.2.2.2.2.2.2.2.2.2,0)) (fun x83=>Jn (fun (J102:Bool→Prop)=>K6 ({site:=({Floor:=({W:=x83.1,H:=x83.2.1,D:=x83.2.2.1,Kind:=x83.2.2.2.1,Out:=x83.2.2.2.2.1:ApiFloor}),Zones:=x83.2.2.2.2.2.1,Aparts:=x83.2.2.2.2.2.2.1,Shelves:=x83.2.2.2.2.2.2.2.1,Robots:=x83.2.2.2.2.2.2.2.2.1:ApiSite}),shelf:=x83.2.2.2.2.2.2.2.2.2.1,robot:=x83.2.2.2.2.2.2.2.2.2.2.1,zoned:=x83.2.2.2.2.2.2.2.2.2.2.2.1,names:=x83.2.2.2.2.2.2.2.2.2.2.2.2.1,oneways:=x83.2.2.2.2.2.2.2.2.2.2.2.2.2.1,shelves:=x83.2.2.2.2.2.2.2.2.2.2.2.2.2.2.1,zones:=x83.2.2.2.2.2.2.2.2.2.2.2.2.2.2.2:SurveyMaker}) (fun x103=>Ite (decide (x103<0)) (Ks ({site:=({Floor:=({W:=x83.1,H:=x83.2.1,D:=x83.2.2.1,Kind:=x83.2.2.2.1,Out:=x83.2.2.2.2.1:ApiFloor}),Zones:=x83.2.2.2.2.2.1,Aparts:=x83.2.2.2.2.2.2.1,Shelves:=x83.2.2.2.2.2.2.2.1,Robots:=x83.2.2.2.2.2.2.2.2.1:ApiSite}),shelf:=x83.2.2.2.2.2.2.2.2.2.1,robot:=x83.2.2.2.2.2.2.2.2.2.2.1,zoned:=x83.2.2.2.2.2.2.2.2.2.2.2.1,names:=x83.2.2.2.2.2.2.2.2.2.2.2.2.1,oneways:=x83.2.2.2.2.2.2.2.2.2.2.2.2.2.1,shelves:=x83.2.2.2.2.2.2.2.2.2.2.2.2.2.2.1,zones:=x83.2.2.2.2.2.2.2.2.2.2.2.2.2.2.2:SurveyMaker}) (fun x105=>Ite (decide (x105<0)) (Kr ({site:=({Floor:=({W:=x83.1,H:=x83.2.1,D:=x83.2.2.1,Kind:=x83.2.2.2.1,Out:=x83.2.2.2.2.1:ApiFloor}),Zones:=x83.2.2.2.2.2.1,Aparts:=x83.2.2.2.2.2.2.1,Shelves:=x83.2.2.2.2.2.2.2.1,Robots:=x83.2.2.2.2.2.2.2.2.1:ApiSite}),shelf:=x83.2.2.2.2.2.2.2.2.2.1,robot:=x83.2.2.2.2.2.2.2.2.2.2.1,zoned:=x83.2.2.2.2.2.2.2.2.2.2.2.1,names:=x83.2.2.2.2.2.2.2.2.2.2.2.2.1,oneways:=x83.2.2.2.2.2.2.2.2.2.2.2.2.2.1,shelves:=x83.2.2.2.2.2.2.2.2.2.2.2.2.2.2.1,zones:=x83.2.2.2.2.2.2.2.2.2.2.2.2.2.2.2:SurveyMaker}) (fun x107=>J102 x107)) (J102 false))) (J102 false))) (fun x101=>post x101))))))))
def Ky (s_1:ApiSite) (n:Int) (post:Bool→Prop):Prop:=
 Jn (fun (J4:Bool→Prop)=>KN s_1 n 20 (fun x5=>Ite x5 (X5 s_1 (fun x7=>J4 x7)) (J4 false))) (fun x3=>post x3)
def KP (st:ApiState) (post:Bool→Prop):Prop:=
 Jn (fun (J4:Bool→Prop)=>Ite (decide ((st.Shelves.length:Int)>12)) (J4 true) (Ite (decide ((st.Robots.length:Int)>12)) (J4 true) (Ite (decide ((st.People.length:Int)>12)) (J4 true) (Ite (decide ((st.Dead.length:Int)>12)) (J4 true) (J4 (decide ((st.Stuck.length:Int)>12))))))) (fun x3=>Ite x3 (post false) ((([]:List Int).length+st.Shelves.length≤1099511627776)∧((([]:List Int)++st.Shelves).length+st.People.length≤1099511627776)∧(((([]:List Int)++st.Shelves)++st.People).length+st.Dead.length≤1099511627776)∧Jn (fun (J20:(List Int)→Prop)=>Loop (fun (s21:List Int×Int) Y22=>Ite (decide (s21.2<(st.Robots.length:Int))) (∃x28,idx st.Robots s21.2=some x28∧(s21.1.length+([x28.Cell]:List Int).length≤1099511627776)∧Y22 ((s21.1++([x28.Cell]:List Int)),w64 (s21.2+1))) (J20 s21.1)) (((((([]:List Int)++st.Shelves)++st.People)++st.Dead),0):List Int×Int)) (fun x19=>Jn (fun (J35:Unit→Prop)=>Loop (fun (s36:Int) Y37=>Ite (decide (s36<(x19.length:Int))) (Jn (fun (J42:Bool→Prop)=>∃x43,idx x19 s36=some x43∧Ite (decide (x43<(-1152921504606846976))) (J42 true) (J42 (decide (x43>1152921504606846976)))) (fun x41=>Ite x41 (post false) (Y37 (w64 (s36+1))))) (J35 ())) 0) (fun x34=>post true))))
def QZ (n:Int) (from_1:Int) (to_1:Int) (post:Bool→Prop):Prop:=
 Jn (fun (J4:Bool→Prop)=>Ite (decide (n≥from_1)) (J4 (decide (n≤to_1))) (J4 false)) (fun x3=>post x3)
def XF (s_1:ApiSite) (st:ApiState) (post:Bool→Prop):Prop:=
 Jn (fun (J8:Unit→Prop)=>Loop (fun (s9:List (Int×Bool)×Int) Y10=>Ite (decide (s9.2<(st.Robots.length:Int))) (∃x16,idx st.Robots s9.2=some x16∧Jn (fun (J18:Bool→Prop)=>Ite (decide (x16.Cell<0)) (J18 true) (Ite (decide (x16.Cell≥(s_1.Floor.Kind.length:Int))) (J18 true) (∃x21,idx s_1.Floor.Kind x16.Cell=some x21∧Ite (x21 == 0) (J18 true) (QZ x16.Load (-1) (w64 ((st.Shelves.length:Int)-1)) (fun x23=>J18 (!x23)))))) (fun x17=>Ite x17 (post false) (Jn (fun (J28:Bool→Prop)=>QZ x16.Charge 0 1000000 (fun x29=>Ite x29 (QZ x16.Rest 0 20000 (fun x31=>Ite x31 (QZ x16.Mute 0 20000 (fun x33=>J28 (!x33))) (J28 true))) (J28 true))) (fun x27=>Ite x27 (post false) (Jn (fun (J38:Bool→Prop)=>Ite (decide (x16.Load≥0)) (Ite ((lk s9.1 x16.Load).getD false) (J38 true) (∃x41,idx st.Shelves x16.Load=some x41∧J38 (x41 != x16.Cell))) (J38 false)) (fun x37=>Ite x37 (post false) (Y10 ((upd s9.1 x16.Load true),w64 (s9.2+1))))))))) (J8 ())) ((([]:List (Int×Bool)),0):List (Int×Bool)×Int)) (fun x7=>post true)
def Xw (f:ApiFloor) (c:Int) (kinds:List Int) (post:Bool→Prop):Prop:=
 Jn (fun (J4:Bool→Prop)=>Ite (decide (c≥0)) (Ite (decide (c<(f.Kind.length:Int))) (∃x7,idx f.Kind c=some x7∧Qg kinds x7 (fun x8=>J4 x8)) (J4 false)) (J4 false)) (fun x3=>post x3)
def Gr (f:ApiFloor) (st:ApiState) (post:Bool→Prop):Prop:=
 Jn (fun (J6:Unit→Prop)=>Loop (fun (s7:Int) Y8=>Ite (decide (s7<(st.Dead.length:Int))) (∃x14,idx st.Dead s7=some x14∧Jn (fun (J16:Bool→Prop)=>Ite (decide (x14<0)) (J16 true) (Ite (decide (x14≥(f.Kind.length:Int))) (J16 true) (Ite (decide (s7>0)) (∃x20,idx st.Dead (w64 (s7-1))=some x20∧J16 (decide (x14≤x20))) (J16 false)))) (fun x15=>Ite x15 (post false) (Y8 (w64 (s7+1))))) (J6 ())) 0) (fun x5=>Jn (fun (J29:Unit→Prop)=>Loop (fun (s30:Int) Y31=>Ite (decide (s30<(st.Stuck.length:Int))) (∃x37,idx st.Stuck s30=some x37∧Jn (fun (J39:Bool→Prop)=>Xw f x37.Cell ([6]:List Int) (fun x40=>Ite x40 (QZ x37.Left 1 20000 (fun x42=>Ite x42 (Ite (decide (s30>0)) (∃x45,idx st.Stuck (w64 (s30-1))=some x45∧J39 (decide (x37.Cell≤x45.Cell))) (J39 false)) (J39 true))) (J39 true))) (fun x38=>Ite x38 (post false) (Y31 (w64 (s30+1))))) (J29 ())) 0) (fun x28=>post true))
def X2 (r:Q0) (c0:Int) (post:Bool→Prop):Prop:=
 post (r.Load == c0)
def Qi (s_1:List Q0) (f_c0:Int) (post:Int→Prop):Prop:=
 Jn (fun (J6:Unit→Prop)=>Loop (fun (s7:Int) Y8=>Ite (decide (s7<(s_1.length:Int))) (∃x16,idx s_1 s7=some x16∧X2 x16 f_c0 (fun x17=>Ite x17 (post s7) (Y8 (w64 (s7+1))))) (J6 ())) 0) (fun x5=>post (-1))
def KD (st:ApiState) (shelf:Int) (post:Int→Prop):Prop:=
 Ite (decide (shelf<0)) (post (-1)) (Qi st.Robots shelf (fun x10=>post x10))
def Xm (c:Int) (post:Int→Prop):Prop:=
 post (w64 (2*c))
def KG (c:Int) (post:Int→Prop):Prop:=
 post (w64 ((w64 (2*c))+1))
def Wz (r:Q0) (c:Int) (post:(List Int)→Prop):Prop:=
 Ite (decide (r.Load≥0)) (Xm c (fun x8=>KG c (fun x9=>post ([x8,x9]:List Int)))) (Xm c (fun x12=>post ([x12]:List Int)))
def XA (st:ApiState) (i:Int) (post:(List Int)→Prop):Prop:=
 Jn (fun (J4:Bool→Prop)=>Ite (decide (i<0)) (J4 true) (J4 (decide (i≥(st.Robots.length:Int))))) (fun x3=>Ite x3 (post []) (∃x11,idx st.Robots i=some x11∧Wz x11 x11.Cell (fun x12=>post x12)))
def XB (st:ApiState) (s_1:Int) (post:(List Int)→Prop):Prop:=
 Jn (fun (J4:Bool→Prop)=>Ite (decide (s_1<0)) (J4 true) (Ite (decide (s_1≥(st.Shelves.length:Int))) (J4 true) (KD st s_1 (fun x7=>J4 (decide (x7≥0)))))) (fun x3=>Ite x3 (post []) (∃x13,idx st.Shelves s_1=some x13∧KG x13 (fun x14=>post ([x14]:List Int))))
def Xl (st:ApiState) (p:Int) (post:(List Int)→Prop):Prop:=
 Jn (fun (J4:Bool→Prop)=>Ite (decide (p<0)) (J4 true) (J4 (decide (p≥(st.People.length:Int))))) (fun x3=>Ite x3 (post []) (∃x11,idx st.People p=some x11∧Xm x11 (fun x12=>KG x11 (fun x13=>post ([x12,x13]:List Int)))))
def Gf (st:ApiState) (post:(List Int)→Prop):Prop:=
 Jn (fun (J8:(List Int)→Prop)=>Loop (fun (s9:List Int×Int) Y10=>Ite (decide (s9.2<(st.Robots.length:Int))) (XA st s9.2 (fun x18=>(s9.1.length+x18.length≤1099511627776)∧Y10 ((s9.1++x18),w64 (s9.2+1)))) (J8 s9.1)) (([],0):List Int×Int)) (fun x7=>Jn (fun (J25:(List Int)→Prop)=>Loop (fun (s26:List Int×Int) Y27=>Ite (decide (s26.2<(st.Shelves.length:Int))) (XB st s26.2 (fun x35=>(s26.1.length+x35.length≤1099511627776)∧Y27 ((s26.1++x35),w64 (s26.2+1)))) (J25 s26.1)) (x7,0)) (fun x24=>Jn (fun (J42:(List Int)→Prop)=>Loop (fun (s43:List Int×Int) Y44=>Ite (decide (s43.2<(st.People.length:Int))) (Xl st s43.2 (fun x52=>(s43.1.length+x52.length≤1099511627776)∧Y44 ((s43.1++x52),w64 (s43.2+1)))) (J42 s43.1)) (x24,0)) (fun x41=>post x41)))
def Ki (s_1:List Int) (post:(List Int)→Prop):Prop:=
 post (s_1)
def Qj (seq_c0:List Int) (s_1:List Int) (post:(List Int)→Prop):Prop:=
 (seq_c0.length≤1099511627776)∧Each (fun (x5:Int) (s6:List Int) Y7=>(s6.length+([x5]:List Int).length≤1099511627776)∧Y7 (s6++([x5]:List Int))) (fun (s12:List Int)=>post s12) seq_c0 s_1
def Qv (seq_c0:List Int) (post:(List Int)→Prop):Prop:=
 Qj seq_c0 [] (fun x5=>post x5)
def QB (p0:List Int) (post:List Int→Prop):Prop:=
 p0.length≤1099511627776∧post (p0.mergeSort fun x y=>decide (x≤y))
def Qx (seq_c0:List Int) (post:(List Int)→Prop):Prop:=
 Qv seq_c0 (fun x5=>QB x5 (fun x8=>post x8))
def G6 (slots:List Int) (post:(Int×Bool)→Prop):Prop:=
 Ki slots (fun x5=>Qx x5 (fun x6=>Jn (fun (J10:Unit→Prop)=>Loop (fun (s11:Int) Y12=>Ite (decide (s11<(x6.length:Int))) (∃x18,idx x6 s11=some x18∧∃x19,idx x6 (w64 (s11-1))=some x19∧Ite (x18 == x19) (post (x18,true)) (Y12 (w64 (s11+1)))) (J10 ())) 1) (fun x9=>post (0,false))))
def G0 (s_1:ApiSite) (st:ApiState) (post:Bool→Prop):Prop:=
 Jn (fun (J4:Bool→Prop)=>QZ st.Tick 0 20000 (fun x5=>Ite x5 (Ite ((st.Shelves.length:Int) != (s_1.Shelves.length:Int)) (J4 true) (Ite ((st.Robots.length:Int) != (s_1.Robots.length:Int)) (J4 true) (Ite (decide ((st.People.length:Int)>20)) (J4 true) (XF s_1 st (fun x10=>Ite x10 (Gr s_1.Floor st (fun x12=>J4 (!x12))) (J4 true)))))) (J4 true))) (fun x3=>Ite x3 (post false) (Jn (fun (J19:Unit→Prop)=>Loop (fun (s20:Int) Y21=>Ite (decide (s20<(st.Shelves.length:Int))) (∃x27,idx st.Shelves s20=some x27∧Jn (fun (J29:Bool→Prop)=>KD st s20 (fun x30=>Ite (decide (x30<0)) (Xw s_1.Floor x27 ([1,2]:List Int) (fun x32=>J29 (!x32))) (J29 false))) (fun x28=>Ite x28 (post false) (Y21 (w64 (s20+1))))) (J19 ())) 0) (fun x18=>Jn (fun (J41:Unit→Prop)=>Loop (fun (s42:Int) Y43=>Ite (decide (s42<(st.People.length:Int))) (∃x49,idx st.People s42=some x49∧Xw s_1.Floor x49 ([4,5]:List Int) (fun x52=>Ite (!x52) (post false) (Y43 (w64 (s42+1))))) (J41 ())) 0) (fun x40=>Gf st (fun x60=>G6 x60 (fun x61=>post (!x61.2)))))))
def V_slices_Compact_int_int__o0 (s_1:List Int) (post:(List Int)→Prop):Prop:=
 Ite (decide ((s_1.length:Int)<2)) (post s_1) (Jn (fun (J11:Unit→Prop)=>Loop (fun (s12:Int) Y13=>Ite (decide (s12<(s_1.length:Int))) (Jn (fun (J18:Unit→Prop)=>∃x21,idx s_1 s12=some x21∧∃x22,idx s_1 (w64 (s12-1))=some x22∧Ite (x21 == x22) ((0≤s12∧s12≤(s_1.length:Int)∧(s_1.length:Int)≤(s_1.length:Int))∧Jn (fun (J30:(List Int×Int)→Prop)=>Loop (fun (s31:List Int×Int×Int) Y32=>Ite (decide (s31.2.2<((Int.toNat ((s_1.length:Int)-s12)):Int))) ((0≤s31.2.2∧s31.2.2<((Int.toNat ((s_1.length:Int)-s12)):Int))∧∃x39,s31.1[((Int.toNat s12)+Int.toNat s31.2.2)]?=some x39∧(0≤(w64 (s31.2.2-1))∧(w64 (s31.2.2-1))<((Int.toNat ((s_1.length:Int)-s12)):Int))∧∃x41,s31.1[((Int.toNat s12)+Int.toNat (w64 (s31.2.2-1)))]?=some x41∧Jn (fun (J43:(List Int×Int)→Prop)=>Ite (x39 != x41) ((0≤s31.2.2∧s31.2.2<((Int.toNat ((s_1.length:Int)-s12)):Int))∧∃x48,idx s31.1 s31.2.1=some x48∧J43 ((s31.1.set (Int.toNat s31.2.1) x39),w64 (s31.2.1+1))) (J43 (s31.1,s31.2.1))) (fun x42=>Y32 (x42.1,x42.2,w64 (s31.2.2+1)))) (J30 (s31.1,s31.2.1))) (s_1,s12,1)) (fun x29=>(0≤x29.2∧x29.2≤(x29.1.length:Int)∧(x29.1.length:Int)≤(x29.1.length:Int))∧((Int.toNat x29.2)+(Int.toNat ((x29.1.length:Int)-x29.2))≤x29.1.length)∧(0≤(0:Int)∧(0:Int)≤x29.2∧x29.2≤((x29.1.take (Int.toNat x29.2)++(List.replicate (Int.toNat ((x29.1.length:Int)-x29.2)) 0++x29.1.drop ((Int.toNat x29.2)+(Int.toNat ((x29.1.length:Int)-x29.2))))).length:Int))∧post (sub (x29.1.take (Int.toNat x29.2)++(List.replicate (Int.toNat ((x29.1.length:Int)-x29.2)) 0++x29.1.drop ((Int.toNat x29.2)+(Int.toNat ((x29.1.length:Int)-x29.2))))) 0 x29.2))) (J18 ())) (fun x17=>Y13 (w64 (s12+1)))) (J11 ())) 1) (fun x10=>post s_1))
def KT (st:ApiState) (post:(List Int)→Prop):Prop:=
 Qr st.Dead (fun x5=>Jn (fun (J9:(List Int)→Prop)=>Loop (fun (s10:List Int×Int) Y11=>Ite (decide (s10.2<(st.Robots.length:Int))) (∃x17,idx st.Robots s10.2=some x17∧Jn (fun (J21:(List Int)→Prop)=>Ite x17.Dead ((s10.1.length+([x17.Cell]:List Int).length≤1099511627776)∧J21 (s10.1++([x17.Cell]:List Int))) (J21 s10.1)) (fun x20=>Y11 (x20,w64 (s10.2+1)))) (J9 s10.1)) (x5,0)) (fun x8=>QB x8 (fun x30=>V_slices_Compact_int_int__o0 x30 (fun x33=>post x33))))
def KF (st:ApiState) (robot:Int) (needs:List Int) (post:(Int×Bool)→Prop):Prop:=
 Jn (fun (J4:Bool→Prop)=>Ite (decide (robot<0)) (J4 true) (J4 (decide (robot≥(st.Robots.length:Int))))) (fun x3=>Ite x3 (post (0,false)) (∃x11,idx st.Robots robot=some x11∧Jn (fun (J13:Bool→Prop)=>Ite x11.Dead (J13 true) (∃x15,idx needs x11.Cell=some x15∧J13 (decide (x15<0)))) (fun x12=>Ite x12 (post (0,false)) (∃x21,idx needs x11.Cell=some x21∧KZ (fun x22=>post (w64 ((w64 (x11.Charge-x21))-(w64 ((w64 (x11.Rest+x11.Mute))*x22))),true))))))
def X8 (s_1:ApiSite) (st:ApiState) (robot:Int) (delay:Int) (post:(Int×Bool)→Prop):Prop:=
 KT st (fun x5=>V_reach_Needs s_1 x5 delay (fun x6=>KF st robot x6 (fun x7=>post (x7.1,x7.2))))
def KM (act:Int) (post:(Int×Bool)→Prop):Prop:=
 Jn (fun (J6:Bool→Prop)=>Ite (decide ((w64 (act-1))≥0)) (J6 (decide ((w64 (act-1))<6))) (J6 false)) (fun x5=>post (w64 (act-1),x5))
def K9 (n:Int) (post:Bool→Prop):Prop:=
 Jn (fun (J4:Bool→Prop)=>Ite (decide (n≥0)) (J4 (decide (n≤1000000))) (J4 false)) (fun x3=>post x3)
def Xi (charge:Int) (cost:Int) (post:(Int×Int)→Prop):Prop:=
 Jn (fun (J4:Bool→Prop)=>K9 charge (fun x5=>Ite x5 (J4 (decide (cost<0))) (J4 true))) (fun x3=>Ite x3 (post (charge,1)) (Ite (decide (charge<cost)) (post (charge,16)) (post (w64 (charge-cost),0))))
def KU (tick:Int) (charge:Int) (act:Int) (laden:Bool) (post:(Int×Int)→Prop):Prop:=
 Jn (fun (J4:Bool→Prop)=>K9 charge (fun x5=>Ite x5 (Ite (decide (act<0)) (J4 true) (J4 (decide (act≥10)))) (J4 true))) (fun x3=>Ite x3 (post (charge,1)) (Ite (act == 9) (post (imin (w64 (charge+20)) 1000000,0)) (KE tick act laden (fun x18=>Xi charge x18 (fun x19=>post (x19.1,x19.2))))))
def XY (x_1:K1) (c0:Q0) (c1:Int) (post:Bool→Prop):Prop:=
 Jn (fun (J4:Bool→Prop)=>Ite (x_1.Cell == c0.Cell) (J4 true) (J4 (x_1.Cell == c1))) (fun x3=>post x3)
def Qo (s_1:List K1) (f_c0:Q0) (f_c1:Int) (post:Int→Prop):Prop:=
 Jn (fun (J6:Unit→Prop)=>Loop (fun (s7:Int) Y8=>Ite (decide (s7<(s_1.length:Int))) (∃x16,idx s_1 s7=some x16∧XY x16 f_c0 f_c1 (fun x17=>Ite x17 (post s7) (Y8 (w64 (s7+1))))) (J6 ())) 0) (fun x5=>post (-1))
def Qd (s_1:List K1) (f_c0:Q0) (f_c1:Int) (post:Bool→Prop):Prop:=
 Qo s_1 f_c0 f_c1 (fun x5=>post (decide (x5≥0)))
def Kk (s_1:ApiSite) (c:Int) (post:Bool→Prop):Prop:=
 Jn (fun (J4:Bool→Prop)=>Ite (decide (c≥0)) (J4 (decide (c<(s_1.Floor.Kind.length:Int)))) (J4 false)) (fun x3=>post x3)
def Xs (x_1:Xe) (c0:Int) (post:Bool→Prop):Prop:=
 Jn (fun (J4:Bool→Prop)=>Ite (decide (x_1.From≤c0)) (J4 (decide (c0<x_1.To))) (J4 false)) (fun x3=>post x3)
def Qn (s_1:List Xe) (f_c0:Int) (post:Int→Prop):Prop:=
 Jn (fun (J6:Unit→Prop)=>Loop (fun (s7:Int) Y8=>Ite (decide (s7<(s_1.length:Int))) (∃x16,idx s_1 s7=some x16∧Xs x16 f_c0 (fun x17=>Ite x17 (post s7) (Y8 (w64 (s7+1))))) (J6 ())) 0) (fun x5=>post (-1))
def Qe (s_1:List Xe) (f_c0:Int) (post:Bool→Prop):Prop:=
 Qn s_1 f_c0 (fun x5=>post (decide (x5≥0)))
def XV (s_1:ApiSite) (c:Int) (tick:Int) (post:Bool→Prop):Prop:=
 X9 s_1 c (fun x5=>Jn (fun (J7:Bool→Prop)=>Kk s_1 c (fun x8=>Ite x8 (J7 (decide (x5<0))) (J7 true))) (fun x6=>Ite x6 (Kk s_1 c (fun x13=>post x13)) (∃x16,idx s_1.Zones x5=some x16∧Qe x16.Shut tick (fun x17=>post (!x17)))))
def W6 (st:ApiState) (post:(List Int)→Prop):Prop:=
 Gf st (fun x5=>QB x5 (fun x8=>post x8))
def W8 (s_1:ApiSite) (st:ApiState) (r:Q0) (d:Int) (post:Int→Prop):Prop:=
 Xj s_1.Floor r.Cell d (fun x5=>Jn (fun (J7:Bool→Prop)=>Ite x5.2 (Qg st.Dead x5.1 (fun x9=>J7 x9)) (J7 true)) (fun x6=>Ite x6 (post 14) (Jn (fun (J14:Bool→Prop)=>Ite (d == 4) (J14 true) (J14 (d == 5))) (fun x13=>Jn (fun (J17:Unit→Prop)=>Ite x13 (Qd st.Stuck r x5.1 (fun x23=>Ite x23 (post 14) (J17 ()))) (J17 ())) (fun x16=>XV s_1 x5.1 st.Tick (fun x29=>Ite (!x29) (post 18) (W6 st (fun x35=>Jn (fun (J37:Bool→Prop)=>Xm x5.1 (fun x38=>Qg x35 x38 (fun x39=>Ite x39 (J37 true) (Ite (decide (r.Load≥0)) (KG x5.1 (fun x42=>Qg x35 x42 (fun x43=>J37 x43))) (J37 false))))) (fun x36=>Ite x36 (post 15) (post 0))))))))))
def K4 (s_1:List Int) (post:(List Int)→Prop):Prop:=
 post (s_1)
def X4 (st:ApiState) (post:(List (Int×Int))→Prop):Prop:=
 Jn (fun (J8:(List (Int×Bool))→Prop)=>Loop (fun (s9:List (Int×Bool)×Int) Y10=>Ite (decide (s9.2<(st.Robots.length:Int))) (∃x16,idx st.Robots s9.2=some x16∧Y10 ((upd s9.1 x16.Load true),w64 (s9.2+1))) (J8 s9.1)) ((([]:List (Int×Bool)),0):List (Int×Bool)×Int)) (fun x7=>K4 st.Shelves (fun x25=>(x25.length≤1099511627776)∧Each (fun (x26:Int×Int) (s27:List (Int×Int)) Y28=>Jn (fun (J33:(List (Int×Int))→Prop)=>Ite (!((lk x7 x26.1).getD false)) (J33 (upd s27 x26.2 x26.1)) (J33 s27)) (fun x32=>Y28 x32)) (fun (s37:List (Int×Int))=>post s37) (bkw x25) (([]:List (Int×Int)):List (Int×Int))))
def Ge (s_1:ApiSite) (st:ApiState) (c:Int) (post:Int→Prop):Prop:=
 X4 st (fun x5=>Ite ((lk x5 c).isSome) (post ((lk x5 c).getD 0)) (post (-1)))
def Y0 (s_1:ApiSite) (st:ApiState) (r:Q0) (post:Int→Prop):Prop:=
 Ite (decide (r.Load≥0)) (post 7) (Ge s_1 st r.Cell (fun x10=>Ite (decide (x10<0)) (post 4) (post 0)))
def Xt (s_1:ApiSite) (c:Int) (post:Bool→Prop):Prop:=
 Jn (fun (J4:Bool→Prop)=>Kk s_1 c (fun x5=>Ite x5 (∃x7,idx s_1.Floor.Kind c=some x7∧Ite (x7 == 1) (J4 true) (J4 (x7 == 2))) (J4 false))) (fun x3=>post x3)
def G7 (f:ApiFloor) (a:Int) (b:Int) (post:Bool→Prop):Prop:=
 XO f b (fun x5=>Ite (!x5) (post false) (Jn (fun (J12:Unit→Prop)=>Loop (fun (s13:Int) Y14=>Ite (decide (s13<4)) (∃x20,idx ([0,1,2,3]:List Int) s13=some x20∧KB f a x20 (fun x23=>Ite (x23 == b) (post true) (Y14 (w64 (s13+1))))) (J12 ())) 0) (fun x11=>post false)))
def KL (r:Q0) (c0:Int) (post:Bool→Prop):Prop:=
 post (r.Load == c0)
def Qh (s_1:List Q0) (f_c0:Int) (post:Int→Prop):Prop:=
 Jn (fun (J6:Unit→Prop)=>Loop (fun (s7:Int) Y8=>Ite (decide (s7<(s_1.length:Int))) (∃x16,idx s_1 s7=some x16∧KL x16 f_c0 (fun x17=>Ite x17 (post s7) (Y8 (w64 (s7+1))))) (J6 ())) 0) (fun x5=>post (-1))
def KR (st:ApiState) (shelf:Int) (post:Int→Prop):Prop:=
 Ite (decide (shelf<0)) (post (-1)) (Qh st.Robots shelf (fun x10=>post x10))
def Xp (s_1:ApiSite) (shelf:Int) (post:ByteArray→Prop):Prop:=
 Jn (fun (J4:Bool→Prop)=>Ite (decide (shelf<0)) (J4 true) (J4 (decide (shelf≥(s_1.Shelves.length:Int))))) (fun x3=>Ite x3 (post ByteArray.empty) (∃x11,idx s_1.Shelves shelf=some x11∧post x11.Class))
def Xk (s_1:ApiSite) (post:(List (Q5×Bool))→Prop):Prop:=
 Jn (fun (J8:(List (Q5×Bool))→Prop)=>Loop (fun (s9:List (Q5×Bool)×Int) Y10=>Ite (decide (s9.2<(s_1.Aparts.length:Int))) (∃x16,idx s_1.Aparts s9.2=some x16∧Y10 ((upd (upd s9.1 x16 true) ({A:=x16.B,B:=x16.A:Q5}) true),w64 (s9.2+1))) (J8 s9.1)) ((([]:List (Q5×Bool)),0):List (Q5×Bool)×Int)) (fun x7=>post x7)
def XL (s_1:ApiSite) (a:ByteArray) (b:ByteArray) (post:Bool→Prop):Prop:=
 Jn (fun (J4:Bool→Prop)=>Ite (seq a ByteArray.empty) (J4 false) (Ite (seq b ByteArray.empty) (J4 false) (Xk s_1 (fun x7=>J4 ((lk x7 ({A:=a,B:=b:Q5})).getD false))))) (fun x3=>post x3)
def XW (s_1:ApiSite) (st:ApiState) (shelf:Int) (c:Int) (post:Int→Prop):Prop:=
 Jn (fun (J4:Bool→Prop)=>Ite (decide (shelf<0)) (J4 true) (J4 (decide (shelf≥(st.Shelves.length:Int))))) (fun x3=>Ite x3 (post 4) (Xt s_1 c (fun x11=>Ite (!x11) (post 13) (Jn (fun (J20:Int→Prop)=>Loop (fun (s21:Int×Int) Y22=>Ite (decide (s21.2<(st.Shelves.length:Int))) (Jn (fun (J27:Int→Prop)=>∃x30,idx st.Shelves s21.2=some x30∧Jn (fun (J32:Bool→Prop)=>Ite (s21.2 == shelf) (J32 true) (Ite (x30 != c) (G7 s_1.Floor x30 c (fun x35=>Ite x35 (KR st s21.2 (fun x37=>J32 (decide (x37≥0)))) (J32 true))) (KR st s21.2 (fun x38=>J32 (decide (x38≥0)))))) (fun x31=>Ite x31 (J27 s21.1) (Ite (x30 == c) (post 13) (Xp s_1 shelf (fun x47=>Xp s_1 s21.2 (fun x48=>XL s_1 x47 x48 (fun x49=>Jn (fun (J51:Int→Prop)=>Ite x49 (J51 17) (J51 s21.1)) (fun x50=>J27 x50)))))))) (fun x26=>Y22 (x26,w64 (s21.2+1)))) (J20 s21.1)) (0,0)) (fun x19=>post x19)))))
def Xy (s_1:ApiSite) (st:ApiState) (robot:Int) (act:Int) (post:Int→Prop):Prop:=
 Jn (fun (J4:Bool→Prop)=>Ite (decide (robot<0)) (J4 true) (J4 (decide (robot≥(st.Robots.length:Int))))) (fun x3=>Ite x3 (post 4) (Jn (fun (J10:Bool→Prop)=>Ite (decide (act<0)) (J10 true) (J10 (decide (act≥10)))) (fun x9=>Ite x9 (post 1) (Ite (act == 0) (post 0) (∃x22,idx st.Robots robot=some x22∧KM act (fun x25=>Jn (fun (J27:Bool→Prop)=>Ite x22.Dead (J27 true) (J27 (decide (x22.Mute>0)))) (fun x26=>Ite x26 (post 9) (Jn (fun (J33:Bool→Prop)=>Ite x25.2 (J33 (decide (x22.Rest>0))) (J33 false)) (fun x32=>Ite x32 (post 8) (KU st.Tick x22.Charge act (decide (x22.Load≥0)) (fun x40=>Ite (x40.2 == 16) (post x40.2) (Ite x25.2 (W8 s_1 st x22 x25.1 (fun x51=>post x51)) (Ite (act == 7) (Y0 s_1 st x22 (fun x57=>post x57)) (Jn (fun (J59:Bool→Prop)=>Ite (act == 8) (J59 (decide (x22.Load<0))) (J59 false)) (fun x58=>Ite x58 (post 7) (Ite (act == 8) (XW s_1 st x22.Load x22.Cell (fun x69=>post x69)) (∃x72,idx s_1.Floor.Kind x22.Cell=some x72∧Ite (x72 != 3) (post 13) (post 0))))))))))))))))))
def QE (s_1:List Q0) (post:(List Q0)→Prop):Prop:=
 ∀hb5:Bool,(hb5=true→s_1=[])→Ite (hb5 == true) (post []) ((([]:List Q0).length+s_1.length≤1099511627776)∧post (([]:List Q0)++s_1))
def QD (s_1:List K1) (post:(List K1)→Prop):Prop:=
 ∀hb5:Bool,(hb5=true→s_1=[])→Ite (hb5 == true) (post []) ((([]:List K1).length+s_1.length≤1099511627776)∧post (([]:List K1)++s_1))
def G5 (st:ApiState) (post:ApiState→Prop):Prop:=
 Qr st.Shelves (fun x5=>QE st.Robots (fun x6=>Qr st.People (fun x7=>Qr st.Dead (fun x8=>QD st.Stuck (fun x9=>post ({Tick:=st.Tick,Shelves:=x5,Robots:=x6,People:=x7,Dead:=x8,Stuck:=x9:ApiState}))))))
def Y5 (s_1:ApiSite) (st:ApiState) (robot:Int) (act:Int) (post:ApiState→Prop):Prop:=
 G5 st (fun x5=>Jn (fun (J7:Bool→Prop)=>Ite (decide (robot<0)) (J7 true) (Ite (decide (robot≥(x5.Robots.length:Int))) (J7 true) (∃x10,idx x5.Robots robot=some x10∧J7 x10.Dead))) (fun x6=>Ite x6 (post x5) (∃x16,idx x5.Robots robot=some x16∧KU st.Tick x16.Charge act (decide (x16.Load≥0)) (fun x19=>Jn (fun (J23:Int→Prop)=>Ite (x19.2 != 0) (J23 0) (J23 x19.1)) (fun x22=>Jn (fun (J34:(List Q0)→Prop)=>Ite (act == 7) (Ge s_1 st (({Cell:=x16.Cell,Load:=x16.Load,Charge:=x22,Rest:=x16.Rest,Mute:=x16.Mute,Dead:=x16.Dead:Q0}).Cell) (fun x38=>J34 ((x5.Robots.set (Int.toNat robot) ({Cell:=x16.Cell,Load:=x16.Load,Charge:=x22,Rest:=x16.Rest,Mute:=x16.Mute,Dead:=x16.Dead:Q0})).set (Int.toNat robot) ({Cell:=({Cell:=x16.Cell,Load:=x16.Load,Charge:=x22,Rest:=x16.Rest,Mute:=x16.Mute,Dead:=x16.Dead:Q0}).Cell,Load:=x38,Charge:=({Cell:=x16.Cell,Load:=x16.Load,Charge:=x22,Rest:=x16.Rest,Mute:=x16.Mute,Dead:=x16.Dead:Q0}).Charge,Rest:=({Cell:=x16.Cell,Load:=x16.Load,Charge:=x22,Rest:=x16.Rest,Mute:=x16.Mute,Dead:=x16.Dead:Q0}).Rest,Mute:=({Cell:=x16.Cell,Load:=x16.Load,Charge:=x22,Rest:=x16.Rest,Mute:=x16.Mute,Dead:=x16.Dead:Q0}).Mute,Dead:=({Cell:=x16.Cell,Load:=x16.Load,Charge:=x22,Rest:=x16.Rest,Mute:=x16.Mute,Dead:=x16.Dead:Q0}).Dead:Q0})))) (Jn (fun (J42:(List Q0)→Prop)=>Ite (act == 8) (J42 ((x5.Robots.set (Int.toNat robot) ({Cell:=x16.Cell,Load:=x16.Load,Charge:=x22,Rest:=x16.Rest,Mute:=x16.Mute,Dead:=x16.Dead:Q0})).set (Int.toNat robot) ({Cell:=({Cell:=x16.Cell,Load:=x16.Load,Charge:=x22,Rest:=x16.Rest,Mute:=x16.Mute,Dead:=x16.Dead:Q0}).Cell,Load:=(-1),Charge:=({Cell:=x16.Cell,Load:=x16.Load,Charge:=x22,Rest:=x16.Rest,Mute:=x16.Mute,Dead:=x16.Dead:Q0}).Charge,Rest:=({Cell:=x16.Cell,Load:=x16.Load,Charge:=x22,Rest:=x16.Rest,Mute:=x16.Mute,Dead:=x16.Dead:Q0}).Rest,Mute:=({Cell:=x16.Cell,Load:=x16.Load,Charge:=x22,Rest:=x16.Rest,Mute:=x16.Mute,Dead:=x16.Dead:Q0}).Mute,Dead:=({Cell:=x16.Cell,Load:=x16.Load,Charge:=x22,Rest:=x16.Rest,Mute:=x16.Mute,Dead:=x16.Dead:Q0}).Dead:Q0}))) (J42 (x5.Robots.set (Int.toNat robot) ({Cell:=x16.Cell,Load:=x16.Load,Charge:=x22,Rest:=x16.Rest,Mute:=x16.Mute,Dead:=x16.Dead:Q0})))) (fun x41=>J34 x41))) (fun x33=>KM act (fun x48=>Ite (!x48.2) (post ({Tick:=x5.Tick,Shelves:=x5.Shelves,Robots:=x33,People:=x5.People,Dead:=x5.Dead,Stuck:=x5.Stuck:ApiState})) (∃x56,idx x33 robot=some x56∧Xj s_1.Floor x56.Cell x48.1 (fun x57=>Jn (fun (J61:(List Int×List Q0)→Prop)=>Ite x57.2 (Xo s_1 x57.1 (fun x65=>Jn (fun (J69:(List Int)→Prop)=>Ite (decide ((({Cell:=({Cell:=x57.1,Load:=x56.Load,Charge:=x56.Charge,Rest:=x56.Rest,Mute:=x56.Mute,Dead:=x56.Dead:Q0}).Cell,Load:=({Cell:=x57.1,Load:=x56.Load,Charge:=x56.Charge,Rest:=x56.Rest,Mute:=x56.Mute,Dead:=x56.Dead:Q0}).Load,Charge:=({Cell:=x57.1,Load:=x56.Load,Charge:=x56.Charge,Rest:=x56.Rest,Mute:=x56.Mute,Dead:=x56.Dead:Q0}).Charge,Rest:=w64 (x65-1),Mute:=({Cell:=x57.1,Load:=x56.Load,Charge:=x56.Charge,Rest:=x56.Rest,Mute:=x56.Mute,Dead:=x56.Dead:Q0}).Mute,Dead:=({Cell:=x57.1,Load:=x56.Load,Charge:=x56.Charge,Rest:=x56.Rest,Mute:=x56.Mute,Dead:=x56.Dead:Q0}).Dead:Q0}).Load)≥0)) (∃x73,idx x5.Shelves (({Cell:=({Cell:=x57.1,Load:=x56.Load,Charge:=x56.Charge,Rest:=x56.Rest,Mute:=x56.Mute,Dead:=x56.Dead:Q0}).Cell,Load:=({Cell:=x57.1,Load:=x56.Load,Charge:=x56.Charge,Rest:=x56.Rest,Mute:=x56.Mute,Dead:=x56.Dead:Q0}).Load,Charge:=({Cell:=x57.1,Load:=x56.Load,Charge:=x56.Charge,Rest:=x56.Rest,Mute:=x56.Mute,Dead:=x56.Dead:Q0}).Charge,Rest:=w64 (x65-1),Mute:=({Cell:=x57.1,Load:=x56.Load,Charge:=x56.Charge,Rest:=x56.Rest,Mute:=x56.Mute,Dead:=x56.Dead:Q0}).Mute,Dead:=({Cell:=x57.1,Load:=x56.Load,Charge:=x56.Charge,Rest:=x56.Rest,Mute:=x56.Mute,Dead:=x56.Dead:Q0}).Dead:Q0}).Load)=some x73∧J69 (x5.Shelves.set (Int.toNat (({Cell:=({Cell:=x57.1,Load:=x56.Load,Charge:=x56.Charge,Rest:=x56.Rest,Mute:=x56.Mute,Dead:=x56.Dead:Q0}).Cell,Load:=({Cell:=x57.1,Load:=x56.Load,Charge:=x56.Charge,Rest:=x56.Rest,Mute:=x56.Mute,Dead:=x56.Dead:Q0}).Load,Charge:=({Cell:=x57.1,Load:=x56.Load,Charge:=x56.Charge,Rest:=x56.Rest,Mute:=x56.Mute,Dead:=x56.Dead:Q0}).Charge,Rest:=w64 (x65-1),Mute:=({Cell:=x57.1,Load:=x56.Load,Charge:=x56.Charge,Rest:=x56.Rest,Mute:=x56.Mute,Dead:=x56.Dead:Q0}).Mute,Dead:=({Cell:=x57.1,Load:=x56.Load,Charge:=x56.Charge,Rest:=x56.Rest,Mute:=x56.Mute,Dead:=x56.Dead:Q0}).Dead:Q0}).Load)) x57.1)) (J69 x5.Shelves)) (fun x68=>J61 (x68,((x33.set (Int.toNat robot) ({Cell:=x57.1,Load:=x56.Load,Charge:=x56.Charge,Rest:=x56.Rest,Mute:=x56.Mute,Dead:=x56.Dead:Q0})).set (Int.toNat robot) ({Cell:=({Cell:=x57.1,Load:=x56.Load,Charge:=x56.Charge,Rest:=x56.Rest,Mute:=x56.Mute,Dead:=x56.Dead:Q0}).Cell,Load:=({Cell:=x57.1,Load:=x56.Load,Charge:=x56.Charge,Rest:=x56.Rest,Mute:=x56.Mute,Dead:=x56.Dead:Q0}).Load,Charge:=({Cell:=x57.1,Load:=x56.Load,Charge:=x56.Charge,Rest:=x56.Rest,Mute:=x56.Mute,Dead:=x56.Dead:Q0}).Charge,Rest:=w64 (x65-1),Mute:=({Cell:=x57.1,Load:=x56.Load,Charge:=x56.Charge,Rest:=x56.Rest,Mute:=x56.Mute,Dead:=x56.Dead:Q0}).Mute,Dead:=({Cell:=x57.1,Load:=x56.Load,Charge:=x56.Charge,Rest:=x56.Rest,Mute:=x56.Mute,Dead:=x56.Dead:Q0}).Dead:Q0})))))) (J61 (x5.Shelves,x33))) (fun x60=>post ({Tick:=x5.Tick,Shelves:=x60.1,Robots:=x60.2,People:=x5.People,Dead:=x5.Dead,Stuck:=x5.Stuck:ApiState})))))))))))
def Xv (s_1:ApiSite) (st:ApiState) (robot:Int) (a:Int) (delay:Int) (post:Int→Prop):Prop:=
 Xy s_1 st robot a (fun x5=>Ite (x5 != 0) (post x5) (KT st (fun x13=>V_reach_Needs s_1 x13 delay (fun x14=>KF st robot x14 (fun x17=>Y5 s_1 st robot a (fun x20=>KF x20 robot x14 (fun x21=>Ite (!x21.2) (post 14) (Jn (fun (J28:Bool→Prop)=>Ite (decide (x21.1<0)) (Ite x17.2 (J28 (decide (x21.1<x17.1))) (J28 true)) (J28 false)) (fun x27=>Ite x27 (post 19) (post 0))))))))))
def V_taquinlaw33_ReachGrants (s_1:ApiSite) (st:ApiState) (robot:Int) (a:Int) (delay:Int) (post:Bool→Prop):Prop:=
 Ko (fun x5=>Jn (fun (J7:Bool→Prop)=>Ky s_1 24 (fun x8=>Ite x8 (Ite (decide (delay<0)) (J7 true) (Ite (decide (delay>20)) (J7 true) (KP st (fun x12=>Ite x12 (G0 s_1 st (fun x14=>Ite x14 (Ite (decide (robot<0)) (J7 true) (J7 (decide (robot≥(st.Robots.length:Int))))) (J7 true))) (J7 true))))) (J7 true))) (fun x6=>Ite x6 (post x5) (X8 s_1 st robot delay (fun x22=>Xv s_1 st robot a delay (fun x25=>Xy s_1 st robot a (fun x28=>Ite (x28 != 0) (Jn (fun (J31:Bool→Prop)=>Ite x5 (Xy s_1 st robot a (fun x33=>J31 (x25 == x33))) (J31 false)) (fun x30=>post x30)) (Y5 s_1 st robot a (fun x36=>X8 s_1 x36 robot delay (fun x39=>Jn (fun (J41:Bool→Prop)=>Ite x39.2 (Ite (decide (x39.1≥0)) (Ite ((x25 == 0) == true) (J41 ((x25 == 14) == x39.2)) (J41 true)) (Ite x22.2 (Ite ((x25 == 0) == (decide (x39.1≥x22.1))) (J41 ((x25 == 14) == x39.2)) (J41 true)) (Ite ((x25 == 0) == false) (J41 ((x25 == 14) == x39.2)) (J41 true)))) (Ite ((x25 == 0) == false) (J41 ((x25 == 14) == x39.2)) (J41 true))) (fun x40=>Ite x40 (post false) (∃x54,idx st.Robots robot=some x54∧Jn (fun (J56:Bool→Prop)=>Ite x5 (Ite (a != 9) (J56 true) (Ite x22.2 (Ite (decide (x39.1≥x22.1)) (J56 true) (J56 (x54.Charge == 1000000))) (J56 true))) (J56 false)) (fun x55=>post x55))))))))))))
end Go.Taq
