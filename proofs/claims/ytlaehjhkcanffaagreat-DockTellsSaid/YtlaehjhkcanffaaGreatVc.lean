/- The verification conditions of the Go functions that are reached, in plain data (written by a program of the prover). -/
import Derived.Test.YtlaehjhkcanffaaGreatLibX
import Derived.Test.YtlaehjhkcanffaaGreatLibZR
set_option linter.unusedVariables false
namespace Go.Taq
open Go
structure ApiFloor where
 W:Int
 H:Int
 D:Int
 Kind:List Int
 Out:List Int
deriving DecidableEq,Inhabited
structure GY where
 From:Int
 To:Int
deriving DecidableEq,Inhabited
structure ApiZone where
 Name:ByteArray
 Cells:List Int
 Speed:Int
 Keep:Int
 Shut:List GY
deriving DecidableEq,Inhabited
structure ApiApart where
 A:ByteArray
 B:ByteArray
deriving DecidableEq,Inhabited
structure ApiShelf where
 Cell:Int
 Class:ByteArray
deriving DecidableEq,Inhabited
structure ApiStart where
 Cell:Int
 Charge:Int
deriving DecidableEq,Inhabited
structure ApiSite where
 Floor:ApiFloor
 Zones:List ApiZone
 Aparts:List ApiApart
 Shelves:List ApiShelf
 Robots:List ApiStart
deriving DecidableEq,Inhabited
structure Qz where
 Cell:Int
 Load:Int
 Charge:Int
 Rest:Int
 Mute:Int
 Dead:Bool
deriving DecidableEq,Inhabited
structure Yy where
 Cell:Int
 Left:Int
deriving DecidableEq,Inhabited
structure ApiState where
 Tick:Int
 Shelves:List Int
 Robots:List Qz
 People:List Int
 Dead:List Int
 Stuck:List Yy
deriving DecidableEq,Inhabited
structure Q5 where
 lists:List (List Int)
 owner:List (Int×Int)
deriving DecidableEq,Inhabited
structure QL where
 x:Int
 y:Int
 z:Int
deriving DecidableEq,Inhabited
structure XU where
 e0:QL
 e1:QL
 e2:QL
 e3:QL
 e4:QL
 e5:QL
deriving DecidableEq,Inhabited
structure Q09 (x:ApiFloor):Prop where
 W:I64 x.W
 H:I64 x.H
 D:I64 x.D
 Kind:(OkL I64) x.Kind
 Out:(OkL I64) x.Out
structure ZJ (x:GY):Prop where
 From:I64 x.From
 To:I64 x.To
structure Zt (x:ApiZone):Prop where
 Name:OkS x.Name
 Cells:(OkL I64) x.Cells
 Speed:I64 x.Speed
 Keep:I64 x.Keep
 Shut:(OkL ZJ) x.Shut
structure YL (x:ApiApart):Prop where
 A:OkS x.A
 B:OkS x.B
structure YQ (x:ApiShelf):Prop where
 Cell:I64 x.Cell
 Class:OkS x.Class
structure YR (x:ApiStart):Prop where
 Cell:I64 x.Cell
 Charge:I64 x.Charge
structure OkApiSite (x:ApiSite):Prop where
 Floor:Q09 x.Floor
 Zones:(OkL Zt) x.Zones
 Aparts:(OkL YL) x.Aparts
 Shelves:(OkL YQ) x.Shelves
 Robots:(OkL YR) x.Robots
structure YP (x:Qz):Prop where
 Cell:I64 x.Cell
 Load:I64 x.Load
 Charge:I64 x.Charge
 Rest:I64 x.Rest
 Mute:I64 x.Mute
 Dead:(fun (_:Bool)=>True) x.Dead
structure Z2 (x:Yy):Prop where
 Cell:I64 x.Cell
 Left:I64 x.Left
structure OkApiState (x:ApiState):Prop where
 Tick:I64 x.Tick
 Shelves:(OkL I64) x.Shelves
 Robots:(OkL YP) x.Robots
 People:(OkL I64) x.People
 Dead:(OkL I64) x.Dead
 Stuck:(OkL Z2) x.Stuck
def Qg (self:(Int×Q5×List (Int×Bool)×Int)→((Bool×Q5×List (Int×Bool)×Int)→Prop)→Prop) (robot:Int) (v1:Q5) (c1:List (Int×Bool)) (c2:Int) (post:(Bool×Q5×List (Int×Bool)×Int)→Prop):Prop:=
 ∃x5,idx v1.lists robot=some x5∧Jn (fun (J7:(List (List Int)×List (Int×Int)×List (Int×Bool)×Int)→Prop)=>Loop (fun (s8:List (List Int)×List (Int×Int)×List (Int×Bool)×Int×Int) Y9=>Ite (decide (s8.2.2.2.2<(x5.length:Int))) (Jn (fun (J14:(List (List Int)×List (Int×Int)×List (Int×Bool)×Int)→Prop)=>∃x17,idx x5 s8.2.2.2.2=some x17∧Ite ((lk s8.2.2.1 x17).getD false) (J14 (s8.1,s8.2.1,s8.2.2.1,s8.2.2.2.1)) (Jn (fun (J26:(List (List Int)×List (Int×Int)×List (Int×Bool)×Int×Bool)→Prop)=>Ite ((lk s8.2.1 x17).isSome) (Ite (decide (((lk s8.2.1 x17).getD 0)≥s8.2.2.2.1)) (self (((lk s8.2.1 x17).getD 0),({lists:=s8.1,owner:=s8.2.1:Q5}),(upd s8.2.2.1 x17 true),s8.2.2.2.1) (fun x29=>J26 (x29.2.1.lists,x29.2.1.owner,x29.2.2.1,x29.2.2.2,x29.1))) (J26 (s8.1,s8.2.1,(upd s8.2.2.1 x17 true),s8.2.2.2.1,false))) (J26 (s8.1,s8.2.1,(upd s8.2.2.1 x17 true),s8.2.2.2.1,true))) (fun x25=>Ite x25.2.2.2.2 (post (true,({lists:=x25.1,owner:=(upd x25.2.1 x17 robot):Q5}),x25.2.2.1,x25.2.2.2.1)) (J14 (x25.1,x25.2.1,x25.2.2.1,x25.2.2.2.1))))) (fun x13=>Y9 (x13.1,x13.2.1,x13.2.2.1,x13.2.2.2,w64 (s8.2.2.2.2+1)))) (J7 (s8.1,s8.2.1,s8.2.2.1,s8.2.2.2.1))) (v1.lists,v1.owner,c1,c2,0)) (fun x6=>post (false,({lists:=x6.1,owner:=x6.2.1:Q5}),x6.2.2.1,x6.2.2.2))
def QH (robot:Int) (v1:Q5) (c1:List (Int×Bool)) (c2:Int) (post:(Bool×Q5×List (Int×Bool)×Int)→Prop):Prop:=
 Rec (fun self (a:Int×Q5×List (Int×Bool)×Int) (post:(Bool×Q5×List (Int×Bool)×Int)→Prop)=>Qg self a.1 a.2.1 a.2.2.1 a.2.2.2 post) (robot,v1,c1,c2) post
def QK (robot:Int) (first:Int) (m:Q5) (post:(Bool×Q5)→Prop):Prop:=
 QH robot m ([]:List (Int×Bool)) first (fun x11=>post (x11.1,x11.2.1))
def XF (l:List (List Int)) (given:List Int) (post:Int→Prop):Prop:=
 Jn (fun (J8:(List (Int×Int))→Prop)=>Loop (fun (s9:List (Int×Int)×Int) Y10=>Ite (decide (s9.2<(given.length:Int))) (∃x16,idx given s9.2=some x16∧Jn (fun (J20:(List (Int×Int))→Prop)=>Ite (decide (x16≥0)) (J20 (upd s9.1 x16 s9.2)) (J20 s9.1)) (fun x19=>Y10 (x19,w64 (s9.2+1)))) (J8 s9.1)) ((([]:List (Int×Int)),0):List (Int×Int)×Int)) (fun x7=>Jn (fun (J29:(List (List Int)×List (Int×Int))→Prop)=>Loop (fun (s30:List (List Int)×List (Int×Int)×Int) Y31=>Ite (decide (s30.2.2<(l.length:Int))) (QK s30.2.2 (given.length:Int) ({lists:=s30.1,owner:=s30.2.1:Q5}) (fun x37=>Y31 (x37.2.lists,x37.2.owner,w64 (s30.2.2+1)))) (J29 (s30.1,s30.2.1))) (l,x7,(given.length:Int))) (fun x28=>post (x28.2.length:Int)))
def QN (s_1:List Int) (post:(List Int)→Prop):Prop:=
 post (s_1)
def Q8 (seq_c0:List Int) (s_1:List Int) (post:(List Int)→Prop):Prop:=
 (seq_c0.length≤1099511627776)∧Each (fun (x5:Int) (s6:List Int) Y7=>(s6.length+([x5]:List Int).length≤1099511627776)∧Y7 (s6++([x5]:List Int))) (fun (s12:List Int)=>post s12) seq_c0 s_1
def Qf (seq_c0:List Int) (post:(List Int)→Prop):Prop:=
 Q8 seq_c0 [] (fun x5=>post x5)
def Qs (p0:List Int) (post:List Int→Prop):Prop:=
 p0.length≤1099511627776∧post (p0.mergeSort fun x y=>decide (x≤y))
def Qa (seq_c0:List Int) (post:(List Int)→Prop):Prop:=
 Qf seq_c0 (fun x5=>Qs x5 (fun x8=>post x8))
def V_slices_Compact_int_int__o0 (s_1:List Int) (post:(List Int)→Prop):Prop:=
 Ite (decide ((s_1.length:Int)<2)) (post s_1) (Jn (fun (J11:Unit→Prop)=>Loop (fun (s12:Int) Y13=>Ite (decide (s12<(s_1.length:Int))) (Jn (fun (J18:Unit→Prop)=>∃x21,idx s_1 s12=some x21∧∃x22,idx s_1 (w64 (s12-1))=some x22∧Ite (x21 == x22) ((0≤s12∧s12≤(s_1.length:Int)∧(s_1.length:Int)≤(s_1.length:Int))∧Jn (fun (J30:(List Int×Int)→Prop)=>Loop (fun (s31:List Int×Int×Int) Y32=>Ite (decide (s31.2.2<((Int.toNat ((s_1.length:Int)-s12)):Int))) ((0≤s31.2.2∧s31.2.2<((Int.toNat ((s_1.length:Int)-s12)):Int))∧∃x39,s31.1[((Int.toNat s12)+Int.toNat s31.2.2)]?=some x39∧(0≤(w64 (s31.2.2-1))∧(w64 (s31.2.2-1))<((Int.toNat ((s_1.length:Int)-s12)):Int))∧∃x41,s31.1[((Int.toNat s12)+Int.toNat (w64 (s31.2.2-1)))]?=some x41∧Jn (fun (J43:(List Int×Int)→Prop)=>Ite (x39 != x41) ((0≤s31.2.2∧s31.2.2<((Int.toNat ((s_1.length:Int)-s12)):Int))∧∃x48,idx s31.1 s31.2.1=some x48∧J43 ((s31.1.set (Int.toNat s31.2.1) x39),w64 (s31.2.1+1))) (J43 (s31.1,s31.2.1))) (fun x42=>Y32 (x42.1,x42.2,w64 (s31.2.2+1)))) (J30 (s31.1,s31.2.1))) (s_1,s12,1)) (fun x29=>(0≤x29.2∧x29.2≤(x29.1.length:Int)∧(x29.1.length:Int)≤(x29.1.length:Int))∧((Int.toNat x29.2)+(Int.toNat ((x29.1.length:Int)-x29.2))≤x29.1.length)∧(0≤(0:Int)∧(0:Int)≤x29.2∧x29.2≤((x29.1.take (Int.toNat x29.2)++(List.replicate (Int.toNat ((x29.1.length:Int)-x29.2)) 0++x29.1.drop ((Int.toNat x29.2)+(Int.toNat ((x29.1.length:Int)-x29.2))))).length:Int))∧post (sub (x29.1.take (Int.toNat x29.2)++(List.replicate (Int.toNat ((x29.1.length:Int)-x29.2)) 0++x29.1.drop ((Int.toNat x29.2)+(Int.toNat ((x29.1.length:Int)-x29.2))))) 0 x29.2))) (J18 ())) (fun x17=>Y13 (w64 (s12+1)))) (J11 ())) 1) (fun x10=>post s_1))
def QW (s_1:List Int) (v:Int) (post:Int→Prop):Prop:=
 Jn (fun (J6:Unit→Prop)=>Loop (fun (s7:Int) Y8=>Ite (decide (s7<(s_1.length:Int))) (∃x16,idx s_1 s7=some x16∧Ite (v == x16) (post s7) (Y8 (w64 (s7+1)))) (J6 ())) 0) (fun x5=>post (-1))
def Qr (s_1:List Int) (v:Int) (post:Bool→Prop):Prop:=
 QW s_1 v (fun x5=>post (decide (x5≥0)))
def QC (s_1:List Int) (post:(List Int)→Prop):Prop:=
 ∀hb5:Bool,(hb5=true→s_1=[])→Ite (hb5 == true) (post []) ((([]:List Int).length+s_1.length≤1099511627776)∧post (([]:List Int)++s_1))
def KQ (l:List (List Int)) (post:(List Int)→Prop):Prop:=
 XF l [] (fun x5=>Jn (fun (J11:(List Int)→Prop)=>Loop (fun (s12:List Int×Int) Y13=>Ite (decide (s12.2<(l.length:Int))) (Jn (fun (J18:(List Int)→Prop)=>∃x21,idx l s12.2=some x21∧QN x21 (fun x26=>Qa x26 (fun x27=>V_slices_Compact_int_int__o0 x27 (fun x28=>Jn (fun (J30:Int→Prop)=>Loop (fun (s31:Int) Y32=>Ite (decide (s31<(x28.length:Int))) (∃x38,idx x28 s31=some x38∧Jn (fun (J40:Bool→Prop)=>Qr s12.1 x38 (fun x41=>Ite x41 (J40 false) (QC s12.1 (fun x43=>(x43.length+([x38]:List Int).length≤1099511627776)∧XF l (x43++([x38]:List Int)) (fun x45=>J40 (x45 == x5)))))) (fun x39=>Ite x39 (J30 x38) (Y32 (w64 (s31+1))))) (J30 (-1))) 0) (fun x29=>(s12.1.length+([x29]:List Int).length≤1099511627776)∧J18 (s12.1++([x29]:List Int))))))) (fun x17=>Y13 (x17,w64 (s12.2+1)))) (J11 s12.1)) (([],0):List Int×Int)) (fun x10=>post x10))
def QF (s_1:List (List Int)) (post:(List (List Int))→Prop):Prop:=
 ∀hb5:Bool,(hb5=true→s_1=[])→Ite (hb5 == true) (post []) ((([]:List (List Int)).length+s_1.length≤1099511627776)∧post (([]:List (List Int))++s_1))
def Xo (c:Int) (post:Bool→Prop):Prop:=
 post (decide (c≥0))
def Qh (s_1:List Int) (post:Int→Prop):Prop:=
 Jn (fun (J6:Unit→Prop)=>Loop (fun (s7:Int) Y8=>Ite (decide (s7<(s_1.length:Int))) (∃x16,idx s_1 s7=some x16∧Xo x16 (fun x17=>Ite x17 (post s7) (Y8 (w64 (s7+1))))) (J6 ())) 0) (fun x5=>post (-1))
def Qc (s_1:List Int) (post:Bool→Prop):Prop:=
 Qh s_1 (fun x5=>post (decide (x5≥0)))
def X9 (l:List (List Int)) (post:(List (List Int))→Prop):Prop:=
 QF l (fun x5=>Loop (fun (s10:List (List Int)×List (List Int)) Y11=>Jn (fun (J13:(List (List Int)×List (List Int))→Prop)=>KQ s10.1 (fun x16=>Qc x16 (fun x19=>Ite (!x19) (post s10.2) (Jn (fun (J26:(List (List Int))→Prop)=>Loop (fun (s27:List (List Int)×Int) Y28=>Ite (decide (s27.2<(x16.length:Int))) (∃x34,idx x16 s27.2=some x34∧Jn (fun (J38:(List (List Int))→Prop)=>Ite (decide (x34≥0)) (∃x42,idx s27.1 s27.2=some x42∧J38 (s27.1.set (Int.toNat s27.2) [])) (J38 s27.1)) (fun x37=>Y28 (x37,w64 (s27.2+1)))) (J26 s27.1)) (s10.1,0)) (fun x25=>(s10.2.length+1≤1099511627776)∧J13 (x25,((s10.2++[x16]).set (s10.2.length) x16))))))) (fun x12=>Y11 (x12.1,x12.2))) ((x5,[]):List (List Int)×List (List Int)))
def Q7 (a:List Int) (b:List Int) (post:Bool→Prop):Prop:=
 Ite ((a.length:Int) != (b.length:Int)) (post false) (Jn (fun (J11:Unit→Prop)=>Loop (fun (s12:Int) Y13=>Ite (decide (s12<(a.length:Int))) (∃x19,idx a s12=some x19∧∃x20,idx b s12=some x20∧Ite (x19 != x20) (post false) (Y13 (w64 (s12+1)))) (J11 ())) 0) (fun x10=>post true))
def Km (post:Bool→Prop):Prop:=
 KQ ([([5,9]:List Int),([5]:List Int)]:List (List Int)) (fun x5=>KQ ([([5,9]:List Int),([5]:List Int),([9]:List Int)]:List (List Int)) (fun x8=>X9 ([([5,9]:List Int),([5]:List Int),([9]:List Int)]:List (List Int)) (fun x11=>X9 ([([5]:List Int),[],([5]:List Int)]:List (List Int)) (fun x14=>Jn (fun (J16:Bool→Prop)=>Ite ((x11.length:Int) != 2) (J16 true) (J16 ((x14.length:Int) != 2))) (fun x15=>Ite x15 (post false) (Jn (fun (J22:Bool→Prop)=>Q7 x5 ([9,5]:List Int) (fun x23=>Ite x23 (Q7 x8 ([5,(-1),9]:List Int) (fun x25=>Ite x25 (∃x27,idx x11 0=some x27∧Q7 x27 x8 (fun x28=>Ite x28 (∃x30,idx x11 1=some x30∧((Int.toNat 0)≠(Int.toNat 1))∧Q7 x30 ([(-1),5,(-1)]:List Int) (fun x32=>Ite x32 (∃x34,idx x14 0=some x34∧Q7 x34 ([5,(-1),(-1)]:List Int) (fun x35=>Ite x35 (∃x37,idx x14 1=some x37∧((Int.toNat 0)≠(Int.toNat 1))∧Q7 x37 ([(-1),(-1),5]:List Int) (fun x39=>J22 x39)) (J22 false))) (J22 false))) (J22 false))) (J22 false))) (J22 false))) (fun x21=>post x21)))))))
def KH (f:ApiFloor) (n:Int) (post:Bool→Prop):Prop:=
 Jn (fun (J4:Bool→Prop)=>Ite (decide ((f.Kind.length:Int)≤n)) (J4 (decide ((f.Out.length:Int)≤n))) (J4 false)) (fun x3=>post x3)
def KK (s_1:ApiSite) (cells:Int) (most:Int) (post:Bool→Prop):Prop:=
 Jn (fun (J6:Unit→Prop)=>Loop (fun (s7:Int) Y8=>Jn (fun (J10:Bool→Prop)=>Ite (decide (s7<(s_1.Zones.length:Int))) (J10 (decide (s7≤most))) (J10 false)) (fun x9=>Ite x9 (Jn (fun (J14:Bool→Prop)=>∃x15,idx s_1.Zones s7=some x15∧Ite (decide ((x15.Cells.length:Int)>cells)) (J14 true) (Ite (decide ((x15.Shut.length:Int)>20)) (J14 true) (J14 (decide ((x15.Name.size:Int)>40))))) (fun x13=>Ite x13 (post false) (Y8 (w64 (s7+1))))) (J6 ()))) 0) (fun x5=>Jn (fun (J26:Unit→Prop)=>Loop (fun (s27:Int) Y28=>Jn (fun (J30:Bool→Prop)=>Ite (decide (s27<(s_1.Aparts.length:Int))) (J30 (decide (s27≤most))) (J30 false)) (fun x29=>Ite x29 (Jn (fun (J34:Bool→Prop)=>∃x35,idx s_1.Aparts s27=some x35∧Ite (decide ((x35.A.size:Int)>40)) (J34 true) (J34 (decide ((x35.B.size:Int)>40)))) (fun x33=>Ite x33 (post false) (Y28 (w64 (s27+1))))) (J26 ()))) 0) (fun x25=>Jn (fun (J45:Unit→Prop)=>Loop (fun (s46:Int) Y47=>Jn (fun (J49:Bool→Prop)=>Ite (decide (s46<(s_1.Shelves.length:Int))) (J49 (decide (s46≤most))) (J49 false)) (fun x48=>Ite x48 (∃x54,idx s_1.Shelves s46=some x54∧Ite (decide ((x54.Class.size:Int)>40)) (post false) (Y47 (w64 (s46+1)))) (J45 ()))) 0) (fun x44=>Jn (fun (J61:Bool→Prop)=>KH s_1.Floor cells (fun x62=>Ite x62 (Ite (decide ((s_1.Zones.length:Int)≤most)) (Ite (decide ((s_1.Aparts.length:Int)≤most)) (Ite (decide ((s_1.Shelves.length:Int)≤most)) (J61 (decide ((s_1.Robots.length:Int)≤most))) (J61 false)) (J61 false)) (J61 false)) (J61 false))) (fun x60=>post x60))))
def Kx (f:ApiFloor) (post:Bool→Prop):Prop:=
 Jn (fun (J4:Bool→Prop)=>Ite (decide (f.W<1)) (J4 true) (Ite (decide (f.H<1)) (J4 true) (Ite (decide (f.D<1)) (J4 true) (Ite (decide (f.D>4)) (J4 true) (Ite (decide (f.W>4096)) (J4 true) (J4 (decide (f.H>4096)))))))) (fun x3=>Ite x3 (post false) (Jn (fun (J16:Bool→Prop)=>Ite (decide ((w64 ((w64 (f.W*f.H))*f.D))>4096)) (J16 true) (Ite ((f.Kind.length:Int) != (w64 ((w64 (f.W*f.H))*f.D))) (J16 true) (J16 ((f.Out.length:Int) != (w64 ((w64 (f.W*f.H))*f.D)))))) (fun x15=>Ite x15 (post false) (Jn (fun (J25:Unit→Prop)=>Loop (fun (s26:Int) Y27=>Ite (decide (s26<(w64 ((w64 (f.W*f.H))*f.D)))) (Jn (fun (J32:Bool→Prop)=>∃x33,idx f.Kind s26=some x33∧Ite (decide (x33<0)) (J32 true) (Ite (decide (x33≥7)) (J32 true) (∃x36,idx f.Out s26=some x36∧Ite (decide (x36<0)) (J32 true) (J32 (decide (x36>63)))))) (fun x31=>Ite x31 (post false) (Y27 (w64 (s26+1))))) (J25 ())) 0) (fun x24=>post true)))))
def Qy (s_1:ByteArray) (post:Bool→Prop):Prop:=
 Jn (fun (J6:Unit→Prop)=>Loop (fun (s7:Int) Y8=>Ite (decide (s7<(s_1.size:Int))) (∃x14,idx s_1.data.toList s7=some x14∧Jn (fun (J16:Bool→Prop)=>Ite (decide ((x14.toNat:Int)≥48)) (J16 (decide ((x14.toNat:Int)≤57))) (J16 false)) (fun x15=>Jn (fun (J19:Bool→Prop)=>Ite (decide ((x14.toNat:Int)≥97)) (Ite (decide ((x14.toNat:Int)≤122)) (Ite (s7 == 0) (J19 x15) (J19 false)) (Ite (decide ((x14.toNat:Int)≥65)) (Ite (decide ((x14.toNat:Int)≤90)) (Ite (s7 == 0) (J19 x15) (J19 false)) (Ite x15 (Ite (s7 == 0) (J19 x15) (J19 false)) (Ite ((x14.toNat:Int) == 95) (Ite (s7 == 0) (J19 x15) (J19 false)) (Ite ((x14.toNat:Int) == 45) (Ite (s7 == 0) (J19 x15) (J19 false)) (J19 true))))) (Ite x15 (Ite (s7 == 0) (J19 x15) (J19 false)) (Ite ((x14.toNat:Int) == 95) (Ite (s7 == 0) (J19 x15) (J19 false)) (Ite ((x14.toNat:Int) == 45) (Ite (s7 == 0) (J19 x15) (J19 false)) (J19 true)))))) (Ite (decide ((x14.toNat:Int)≥65)) (Ite (decide ((x14.toNat:Int)≤90)) (Ite (s7 == 0) (J19 x15) (J19 false)) (Ite x15 (Ite (s7 == 0) (J19 x15) (J19 false)) (Ite ((x14.toNat:Int) == 95) (Ite (s7 == 0) (J19 x15) (J19 false)) (Ite ((x14.toNat:Int) == 45) (Ite (s7 == 0) (J19 x15) (J19 false)) (J19 true))))) (Ite x15 (Ite (s7 == 0) (J19 x15) (J19 false)) (Ite ((x14.toNat:Int) == 95) (Ite (s7 == 0) (J19 x15) (J19 false)) (Ite ((x14.toNat:Int) == 45) (Ite (s7 == 0) (J19 x15) (J19 false)) (J19 true)))))) (fun x18=>Ite x18 (post false) (Y8 (w64 (s7+1)))))) (J6 ())) 0) (fun x5=>Jn (fun (J59:Bool→Prop)=>Ite (decide ((s_1.size:Int)≥1)) (J59 (decide ((s_1.size:Int)≤20))) (J59 false)) (fun x58=>post x58))
def Kq (l:List ApiZone) (name:ByteArray) (post:Int→Prop):Prop:=
 Jn (fun (J6:Unit→Prop)=>Loop (fun (s7:Int) Y8=>Ite (decide (s7<(l.length:Int))) (∃x14,idx l s7=some x14∧Ite (seq x14.Name name) (post s7) (Y8 (w64 (s7+1)))) (J6 ())) 0) (fun x5=>post (-1))
def Kv (l:List GY) (post:Bool→Prop):Prop:=
 Jn (fun (J8:Unit→Prop)=>Loop (fun (s9:Int×Int) Y10=>Ite (decide (s9.2<(l.length:Int))) (Jn (fun (J15:Bool→Prop)=>∃x16,idx l s9.2=some x16∧Ite (decide (x16.From<s9.1)) (J15 true) (Ite (decide (x16.From≥x16.To)) (J15 true) (J15 (decide (x16.To>20000))))) (fun x14=>Ite x14 (post false) (∃x24,idx l s9.2=some x24∧Y10 (x24.To,w64 (s9.2+1))))) (J8 ())) (0,0)) (fun x7=>post true)
def K8 (f:ApiFloor) (post:Int→Prop):Prop:=
 post (w64 ((w64 (f.W*f.H))*f.D))
def Qk (f:ApiFloor) (c:Int) (post:Bool→Prop):Prop:=
 Jn (fun (J4:Bool→Prop)=>Ite (decide (c≥0)) (K8 f (fun x6=>J4 (decide (c<x6)))) (J4 false)) (fun x3=>post x3)
def Kn (kind:Int) (post:Bool→Prop):Prop:=
 Jn (fun (J4:Bool→Prop)=>Ite (kind != 0) (Ite (kind != 4) (J4 (kind != 5)) (J4 false)) (J4 false)) (fun x3=>post x3)
def Qx (l:List Int) (n:Int) (post:Bool→Prop):Prop:=
 Jn (fun (J6:Unit→Prop)=>Loop (fun (s7:Int) Y8=>Ite (decide (s7<(l.length:Int))) (∃x14,idx l s7=some x14∧Ite (x14 == n) (post true) (Y8 (w64 (s7+1)))) (J6 ())) 0) (fun x5=>post false)
def Kb (l:List ApiZone) (c:Int) (post:Bool→Prop):Prop:=
 Jn (fun (J6:Unit→Prop)=>Loop (fun (s7:Int) Y8=>Ite (decide (s7<(l.length:Int))) (∃x14,idx l s7=some x14∧Qx x14.Cells c (fun x15=>Ite x15 (post true) (Y8 (w64 (s7+1))))) (J6 ())) 0) (fun x5=>post false)
def QJ (s_1:ApiSite) (post:Bool→Prop):Prop:=
 Jn (fun (J6:Unit→Prop)=>Loop (fun (s7:Int) Y8=>Ite (decide (s7<(s_1.Zones.length:Int))) (Jn (fun (J13:Unit→Prop)=>∃x16,idx s_1.Zones s7=some x16∧Jn (fun (J18:Bool→Prop)=>Qy x16.Name (fun x19=>Ite x19 ((0≤(0:Int)∧(0:Int)≤s7∧s7≤(s_1.Zones.length:Int))∧Kq (sub s_1.Zones 0 s7) x16.Name (fun x22=>Ite (decide (x22≥0)) (J18 true) (Ite ((x16.Cells.length:Int) == 0) (J18 true) (Ite (decide (x16.Speed<1)) (J18 true) (Ite (decide (x16.Speed>100)) (J18 true) (Ite (decide (x16.Keep<0)) (J18 true) (Kv x16.Shut (fun x28=>J18 (!x28))))))))) (J18 true))) (fun x17=>Ite x17 (post false) (Jn (fun (J35:Unit→Prop)=>Loop (fun (s36:Int) Y37=>Ite (decide (s36<(x16.Cells.length:Int))) (∃x43,idx x16.Cells s36=some x43∧Jn (fun (J45:Bool→Prop)=>Qk s_1.Floor x43 (fun x46=>Ite x46 (Ite (decide (s36>0)) (∃x49,idx x16.Cells (imax (w64 (s36-1)) 0)=some x49∧J45 (decide (x49≥x43))) (J45 false)) (J45 true))) (fun x44=>Ite x44 (post false) (Jn (fun (J54:Bool→Prop)=>∃x55,idx s_1.Floor.Kind x43=some x55∧Kn x55 (fun x56=>Ite x56 ((0≤(0:Int)∧(0:Int)≤s7∧s7≤(s_1.Zones.length:Int))∧Kb (sub s_1.Zones 0 s7) x43 (fun x59=>J54 x59)) (J54 true))) (fun x53=>Ite x53 (post false) (Y37 (w64 (s36+1))))))) (J35 ())) 0) (fun x34=>J13 ())))) (fun x12=>Y8 (w64 (s7+1)))) (J6 ())) 0) (fun x5=>post (decide ((s_1.Zones.length:Int)≤64)))
def K0 (l:List ApiApart) (a:ByteArray) (b:ByteArray) (post:Bool→Prop):Prop:=
 Jn (fun (J6:Unit→Prop)=>Loop (fun (s7:Int) Y8=>Jn (fun (J10:Bool→Prop)=>Ite (decide (s7<(l.length:Int))) (Ite (seq a ByteArray.empty) (J10 false) (J10 (!(seq b ByteArray.empty)))) (J10 false)) (fun x9=>Ite x9 (Jn (fun (J15:Bool→Prop)=>∃x16,idx l s7=some x16∧Ite (seq x16.A a) (Ite (seq x16.B b) (J15 true) (Ite (seq x16.A b) (J15 (seq x16.B a)) (J15 false))) (Ite (seq x16.A b) (J15 (seq x16.B a)) (J15 false))) (fun x14=>Ite x14 (post true) (Y8 (w64 (s7+1))))) (J6 ()))) 0) (fun x5=>post false)
def QS (kind:Int) (post:Bool→Prop):Prop:=
 Jn (fun (J4:Bool→Prop)=>Ite (kind == 1) (J4 true) (J4 (kind == 2))) (fun x3=>post x3)
def Qv (l:List ApiShelf) (c:Int) (post:Int→Prop):Prop:=
 Jn (fun (J6:Unit→Prop)=>Loop (fun (s7:Int) Y8=>Ite (decide (s7<(l.length:Int))) (∃x14,idx l s7=some x14∧Ite (x14.Cell == c) (post s7) (Y8 (w64 (s7+1)))) (J6 ())) 0) (fun x5=>post (-1))
def K6 (l:List ApiStart) (c:Int) (post:Bool→Prop):Prop:=
 Jn (fun (J6:Unit→Prop)=>Loop (fun (s7:Int) Y8=>Ite (decide (s7<(l.length:Int))) (∃x14,idx l s7=some x14∧Ite (x14.Cell == c) (post true) (Y8 (w64 (s7+1)))) (J6 ())) 0) (fun x5=>post false)
def Kg (s_1:ApiSite) (z:ApiZone) (post:Int→Prop):Prop:=
 Jn (fun (J8:Int→Prop)=>Loop (fun (s9:Int×Int) Y10=>Ite (decide (s9.2<(z.Cells.length:Int))) (Jn (fun (J15:Bool→Prop)=>∃x16,idx z.Cells s9.2=some x16∧∃x17,idx s_1.Floor.Kind x16=some x17∧QS x17 (fun x18=>Ite x18 (Qv s_1.Shelves x16 (fun x20=>J15 (decide (x20<0)))) (J15 false))) (fun x14=>Jn (fun (J22:Int→Prop)=>Ite x14 (J22 (w64 (s9.1+1))) (J22 s9.1)) (fun x21=>Y10 (x21,w64 (s9.2+1))))) (J8 s9.1)) (0,0)) (fun x7=>post x7)
def KT (f:ApiFloor) (c:Int) (post:(Int×Int×Int)→Prop):Prop:=
 Qk f c (fun x5=>Ite (!x5) (post (0,0,0)) ((f.W≠0)∧(f.W≠0)∧(f.H≠0)∧(f.W≠0)∧(f.H≠0)∧post (c.tmod f.W,(w64 (c.tdiv f.W)).tmod f.H,w64 ((w64 (c.tdiv f.W)).tdiv f.H))))
def Qm (f:ApiFloor) (x_1:Int) (y_1:Int) (z:Int) (post:Int→Prop):Prop:=
 Jn (fun (J4:Bool→Prop)=>Ite (decide (x_1<0)) (J4 true) (Ite (decide (x_1≥f.W)) (J4 true) (Ite (decide (y_1<0)) (J4 true) (Ite (decide (y_1≥f.H)) (J4 true) (Ite (decide (z<0)) (J4 true) (J4 (decide (z≥f.D)))))))) (fun x3=>Ite x3 (post (-1)) (post (w64 ((w64 ((w64 ((w64 (z*f.H))+y_1))*f.W))+x_1))))
def QR (f:ApiFloor) (c:Int) (d:Int) (post:Int→Prop):Prop:=
 Qk f c (fun x5=>Ite (!x5) (post (-1)) (KT f c (fun x11=>Ite (d == 0) (Qm f (w64 (x11.1+1)) x11.2.1 x11.2.2 (fun x19=>post x19)) (Ite (d == 1) (Qm f x11.1 (w64 (x11.2.1+1)) x11.2.2 (fun x25=>post x25)) (Ite (d == 2) (Qm f (w64 (x11.1-1)) x11.2.1 x11.2.2 (fun x31=>post x31)) (Ite (d == 3) (Qm f x11.1 (w64 (x11.2.1-1)) x11.2.2 (fun x37=>post x37)) (Ite (d == 4) (Qm f x11.1 x11.2.1 (w64 (x11.2.2+1)) (fun x43=>post x43)) (Ite (d == 5) (Qm f x11.1 x11.2.1 (w64 (x11.2.2-1)) (fun x49=>post x49)) (post (-1))))))))))
def Kf (s_1:ApiSite) (post:Int→Prop):Prop:=
 Jn (fun (J6:Unit→Prop)=>Loop (fun (s7:Int) Y8=>Ite (decide (s7<(s_1.Shelves.length:Int))) (Jn (fun (J13:Unit→Prop)=>Jn (fun (J17:Unit→Prop)=>Loop (fun (s18:Int) Y19=>Ite (decide (s18<4)) (∃x25,idx s_1.Shelves s7=some x25∧QR s_1.Floor x25.Cell s18 (fun x26=>Qv s_1.Shelves x26 (fun x29=>Jn (fun (J31:Bool→Prop)=>Ite (decide (x26≥0)) (Ite (decide (x29≥0)) (Ite (decide (x29<s7)) (∃x35,idx s_1.Shelves (imax x29 0)=some x35∧K0 s_1.Aparts x25.Class x35.Class (fun x36=>J31 x36)) (J31 false)) (J31 false)) (J31 false)) (fun x30=>Ite x30 (post s7) (Y19 (w64 (s18+1))))))) (J17 ())) 0) (fun x16=>J13 ())) (fun x12=>Y8 (w64 (s7+1)))) (J6 ())) 0) (fun x5=>post (-1))
def K4 (f:ApiFloor) (post:Bool→Prop):Prop:=
 Qx f.Kind 3 (fun x5=>post x5)
def Ks (s_1:ApiSite) (post:Bool→Prop):Prop:=
 Jn (fun (J4:Bool→Prop)=>Kx s_1.Floor (fun x5=>Ite x5 (QJ s_1 (fun x7=>Ite x7 (Ite (decide ((s_1.Shelves.length:Int)>3000)) (J4 true) (J4 (decide ((s_1.Robots.length:Int)>200)))) (J4 true))) (J4 true))) (fun x3=>Ite x3 (post false) (Jn (fun (J16:Unit→Prop)=>Loop (fun (s17:Int) Y18=>Ite (decide (s17<(s_1.Aparts.length:Int))) (∃x24,idx s_1.Aparts s17=some x24∧Jn (fun (J26:Bool→Prop)=>Qy x24.A (fun x27=>Ite x27 (Qy x24.B (fun x29=>Ite x29 ((0≤(0:Int)∧(0:Int)≤s17∧s17≤(s_1.Aparts.length:Int))∧K0 (sub s_1.Aparts 0 s17) x24.A x24.B (fun x32=>J26 x32)) (J26 true))) (J26 true))) (fun x25=>Ite x25 (post false) (Y18 (w64 (s17+1))))) (J16 ())) 0) (fun x15=>Jn (fun (J41:Unit→Prop)=>Loop (fun (s42:Int) Y43=>Ite (decide (s42<(s_1.Shelves.length:Int))) (∃x49,idx s_1.Shelves s42=some x49∧Jn (fun (J51:Bool→Prop)=>Qk s_1.Floor x49.Cell (fun x52=>Ite x52 (Ite (seq x49.Class ByteArray.empty) (J51 false) (Qy x49.Class (fun x55=>J51 (!x55)))) (J51 true))) (fun x50=>Ite x50 (post false) (Jn (fun (J60:Bool→Prop)=>∃x61,idx s_1.Floor.Kind x49.Cell=some x61∧QS x61 (fun x62=>Ite x62 ((0≤(0:Int)∧(0:Int)≤s42∧s42≤(s_1.Shelves.length:Int))∧Qv (sub s_1.Shelves 0 s42) x49.Cell (fun x65=>J60 (decide (x65≥0)))) (J60 true))) (fun x59=>Ite x59 (post false) (Y43 (w64 (s42+1))))))) (J41 ())) 0) (fun x40=>Jn (fun (J74:Unit→Prop)=>Loop (fun (s75:Int) Y76=>Ite (decide (s75<(s_1.Robots.length:Int))) (∃x82,idx s_1.Robots s75=some x82∧Jn (fun (J84:Bool→Prop)=>Qk s_1.Floor x82.Cell (fun x85=>Ite x85 (Ite (decide (x82.Charge<0)) (J84 true) (J84 (decide (x82.Charge>1000000)))) (J84 true))) (fun x83=>Ite x83 (post false) (Jn (fun (J92:Bool→Prop)=>∃x93,idx s_1.Floor.Kind x82.Cell=some x93∧Ite (x93 == 0) (J92 true) ((0≤(0:Int)∧(0:Int)≤s75∧s75≤(s_1.Robots.length:Int))∧K6 (sub s_1.Robots 0 s75) x82.Cell (fun x96=>J92 x96))) (fun x91=>Ite x91 (post false) (Y76 (w64 (s75+1))))))) (J74 ())) 0) (fun x73=>Jn (fun (J105:Unit→Prop)=>Loop (fun (s106:Int) Y107=>Ite (decide (s106<(s_1.Zones.length:Int))) (∃x113,idx s_1.Zones s106=some x113∧Kg s_1 x113 (fun x114=>Ite (decide (x114<x113.Keep)) (post false) (Y107 (w64 (s106+1))))) (J105 ())) 0) (fun x104=>Jn (fun (J121:Bool→Prop)=>Kf s_1 (fun x122=>Ite (decide (x122<0)) (K4 s_1.Floor (fun x124=>J121 x124)) (J121 false))) (fun x120=>post x120)))))))
def KG (st:ApiState) (post:Bool→Prop):Prop:=
 Jn (fun (J4:Bool→Prop)=>Ite (decide ((st.Shelves.length:Int)>12)) (J4 true) (Ite (decide ((st.Robots.length:Int)>12)) (J4 true) (Ite (decide ((st.People.length:Int)>12)) (J4 true) (Ite (decide ((st.Dead.length:Int)>12)) (J4 true) (J4 (decide ((st.Stuck.length:Int)>12))))))) (fun x3=>Ite x3 (post false) ((([]:List Int).length+st.Shelves.length≤1099511627776)∧((([]:List Int)++st.Shelves).length+st.People.length≤1099511627776)∧(((([]:List Int)++st.Shelves)++st.People).length+st.Dead.length≤1099511627776)∧Jn (fun (J20:(List Int)→Prop)=>Loop (fun (s21:List Int×Int) Y22=>Ite (decide (s21.2<(st.Robots.length:Int))) (∃x28,idx st.Robots s21.2=some x28∧(s21.1.length+([x28.Cell]:List Int).length≤1099511627776)∧Y22 ((s21.1++([x28.Cell]:List Int)),w64 (s21.2+1))) (J20 s21.1)) (((((([]:List Int)++st.Shelves)++st.People)++st.Dead),0):List Int×Int)) (fun x19=>Jn (fun (J35:Unit→Prop)=>Loop (fun (s36:Int) Y37=>Ite (decide (s36<(x19.length:Int))) (Jn (fun (J42:Bool→Prop)=>∃x43,idx x19 s36=some x43∧Ite (decide (x43<(-1152921504606846976))) (J42 true) (J42 (decide (x43>1152921504606846976)))) (fun x41=>Ite x41 (post false) (Y37 (w64 (s36+1))))) (J35 ())) 0) (fun x34=>post true))))
def Ql (f:ApiFloor) (c:Int) (post:Int→Prop):Prop:=
 Jn (fun (J4:Bool→Prop)=>Ite (decide (c<0)) (J4 true) (J4 (decide (c≥(f.Kind.length:Int))))) (fun x3=>Ite x3 (post (-1)) (∃x11,idx f.Kind c=some x11∧post x11))
def Qo (st:ApiState) (shelf:Int) (post:Int→Prop):Prop:=
 Jn (fun (J6:Unit→Prop)=>Loop (fun (s7:Int) Y8=>Jn (fun (J10:Bool→Prop)=>Ite (decide (s7<(st.Robots.length:Int))) (J10 (decide (shelf≥0))) (J10 false)) (fun x9=>Ite x9 (∃x15,idx st.Robots s7=some x15∧Ite (x15.Load == shelf) (post s7) (Y8 (w64 (s7+1)))) (J6 ()))) 0) (fun x5=>post (-1))
def QY (s_1:ApiSite) (st:ApiState) (i:Int) (post:Bool→Prop):Prop:=
 ∃x5,idx st.Robots i=some x5∧Ql s_1.Floor x5.Cell (fun x8=>Jn (fun (J10:Bool→Prop)=>Ite (decide (x8<0)) (J10 true) (Ite (x8 == 0) (J10 true) (Ite (decide (x5.Load<(-1))) (J10 true) (Ite (decide (x5.Load≥(st.Shelves.length:Int))) (J10 true) (Ite (decide (x5.Charge<0)) (J10 true) (Ite (decide (x5.Charge>1000000)) (J10 true) (Ite (decide (x5.Rest<0)) (J10 true) (Ite (decide (x5.Rest>20000)) (J10 true) (Ite (decide (x5.Mute<0)) (J10 true) (J10 (decide (x5.Mute>20000)))))))))))) (fun x9=>Ite x9 (post false) (Ite (decide (x5.Load≥0)) (Jn (fun (J27:Bool→Prop)=>Qo st x5.Load (fun x28=>Ite (x28 == i) (∃x30,idx st.Shelves x5.Load=some x30∧J27 (x30 == x5.Cell)) (J27 false))) (fun x26=>post x26)) (post true))))
def KV (r:Qz) (c:Int) (post:(List Int)→Prop):Prop:=
 Ite (decide (r.Load<0)) (post ([w64 (2*c)]:List Int)) (post ([w64 (2*c),w64 ((w64 (2*c))+1)]:List Int))
def K1 (st:ApiState) (i:Int) (post:(List Int)→Prop):Prop:=
 Jn (fun (J4:Bool→Prop)=>Ite (decide (i<0)) (J4 true) (J4 (decide (i≥(st.Robots.length:Int))))) (fun x3=>Ite x3 (post []) (∃x11,idx st.Robots i=some x11∧KV x11 x11.Cell (fun x12=>post x12)))
def QX (st:ApiState) (s_1:Int) (post:(List Int)→Prop):Prop:=
 Jn (fun (J4:Bool→Prop)=>Ite (decide (s_1<0)) (J4 true) (Ite (decide (s_1≥(st.Shelves.length:Int))) (J4 true) (Qo st s_1 (fun x7=>J4 (decide (x7≥0)))))) (fun x3=>Ite x3 (post []) (∃x13,idx st.Shelves s_1=some x13∧post ([w64 ((w64 (2*x13))+1)]:List Int)))
def QT (st:ApiState) (p:Int) (post:(List Int)→Prop):Prop:=
 Jn (fun (J4:Bool→Prop)=>Ite (decide (p<0)) (J4 true) (J4 (decide (p≥(st.People.length:Int))))) (fun x3=>Ite x3 (post []) (∃x11,idx st.People p=some x11∧post ([w64 (2*x11),w64 ((w64 (2*x11))+1)]:List Int)))
def KE (l:List Int) (n:Int) (post:(List Int)→Prop):Prop:=
 Jn (fun (J10:(List Int×Bool)→Prop)=>Loop (fun (s11:List Int×Bool×Int) Y12=>Ite (decide (s11.2.2<(l.length:Int))) (Jn (fun (J17:Bool→Prop)=>Ite s11.2.1 (J17 false) (∃x19,idx l s11.2.2=some x19∧J17 (decide (x19>n)))) (fun x16=>Jn (fun (J21:(List Int×Bool)→Prop)=>Ite x16 ((s11.1.length+([n]:List Int).length≤1099511627776)∧J21 ((s11.1++([n]:List Int)),true)) (J21 (s11.1,s11.2.1))) (fun x20=>∃x30,idx l s11.2.2=some x30∧(x20.1.length+([x30]:List Int).length≤1099511627776)∧Y12 ((x20.1++([x30]:List Int)),x20.2,w64 (s11.2.2+1))))) (J10 (s11.1,s11.2.1))) (([],false,0):List Int×Bool×Int)) (fun x9=>Jn (fun (J37:(List Int)→Prop)=>Ite (!x9.2) ((x9.1.length+([n]:List Int).length≤1099511627776)∧J37 (x9.1++([n]:List Int))) (J37 x9.1)) (fun x36=>post x36))
def Kh (l:List Int) (post:(List Int)→Prop):Prop:=
 Jn (fun (J8:(List Int)→Prop)=>Loop (fun (s9:List Int×Int) Y10=>Ite (decide (s9.2<(l.length:Int))) (∃x16,idx l s9.2=some x16∧KE s9.1 x16 (fun x17=>Y10 (x17,w64 (s9.2+1)))) (J8 s9.1)) (([],0):List Int×Int)) (fun x7=>post x7)
def KN (st:ApiState) (post:(List Int)→Prop):Prop:=
 Jn (fun (J8:(List Int)→Prop)=>Loop (fun (s9:List Int×Int) Y10=>Ite (decide (s9.2<(st.Robots.length:Int))) (K1 st s9.2 (fun x16=>(s9.1.length+x16.length≤1099511627776)∧Y10 ((s9.1++x16),w64 (s9.2+1)))) (J8 s9.1)) (([],0):List Int×Int)) (fun x7=>Jn (fun (J23:(List Int)→Prop)=>Loop (fun (s24:List Int×Int) Y25=>Ite (decide (s24.2<(st.Shelves.length:Int))) (QX st s24.2 (fun x31=>(s24.1.length+x31.length≤1099511627776)∧Y25 ((s24.1++x31),w64 (s24.2+1)))) (J23 s24.1)) (x7,0)) (fun x22=>Jn (fun (J38:(List Int)→Prop)=>Loop (fun (s39:List Int×Int) Y40=>Ite (decide (s39.2<(st.People.length:Int))) (QT st s39.2 (fun x46=>(s39.1.length+x46.length≤1099511627776)∧Y40 ((s39.1++x46),w64 (s39.2+1)))) (J38 s39.1)) (x22,0)) (fun x37=>Kh x37 (fun x52=>post x52))))
def Kr (slots:List Int) (post:(Int×Bool)→Prop):Prop:=
 Jn (fun (J10:(Bool×Int)→Prop)=>Loop (fun (s11:Bool×Int×Int) Y12=>Ite (decide (s11.2.2<(slots.length:Int))) (Jn (fun (J17:(Bool×Int)→Prop)=>Jn (fun (J21:(Bool×Int)→Prop)=>Loop (fun (s22:Bool×Int×Int) Y23=>Ite (decide (s22.2.2<s11.2.2)) (Jn (fun (J28:Bool→Prop)=>∃x29,idx slots s11.2.2=some x29∧∃x30,idx slots s22.2.2=some x30∧Ite (x29 == x30) (Ite s22.1 (J28 (decide (x29<s22.2.1))) (J28 true)) (J28 false)) (fun x27=>Jn (fun (J34:(Bool×Int)→Prop)=>Ite x27 (∃x38,idx slots s11.2.2=some x38∧J34 (true,x38)) (J34 (s22.1,s22.2.1))) (fun x33=>Y23 (x33.1,x33.2,w64 (s22.2.2+1))))) (J21 (s22.1,s22.2.1))) (s11.1,s11.2.1,0)) (fun x20=>J17 (x20.1,x20.2))) (fun x16=>Y12 (x16.1,x16.2,w64 (s11.2.2+1)))) (J10 (s11.1,s11.2.1))) (false,0,0)) (fun x9=>post (x9.2,x9.1))
def Kt (s_1:ApiSite) (st:ApiState) (post:Bool→Prop):Prop:=
 Jn (fun (J4:Bool→Prop)=>Ite (decide (st.Tick<0)) (J4 true) (Ite (decide (st.Tick>20000)) (J4 true) (Ite ((st.Shelves.length:Int) != (s_1.Shelves.length:Int)) (J4 true) (Ite ((st.Robots.length:Int) != (s_1.Robots.length:Int)) (J4 true) (J4 (decide ((st.People.length:Int)>20))))))) (fun x3=>Ite x3 (post false) (Jn (fun (J15:Unit→Prop)=>Loop (fun (s16:Int) Y17=>Ite (decide (s16<(st.Robots.length:Int))) (QY s_1 st s16 (fun x23=>Ite (!x23) (post false) (Y17 (w64 (s16+1))))) (J15 ())) 0) (fun x14=>Jn (fun (J32:Unit→Prop)=>Loop (fun (s33:Int) Y34=>Ite (decide (s33<(st.Shelves.length:Int))) (∃x40,idx st.Shelves s33=some x40∧Ql s_1.Floor x40 (fun x41=>Jn (fun (J43:Bool→Prop)=>Qo st s33 (fun x44=>Ite (decide (x44<0)) (Ite (x41 != 1) (J43 (x41 != 2)) (J43 false)) (J43 false))) (fun x42=>Ite x42 (post false) (Y34 (w64 (s33+1)))))) (J32 ())) 0) (fun x31=>Jn (fun (J55:Unit→Prop)=>Loop (fun (s56:Int) Y57=>Ite (decide (s56<(st.People.length:Int))) (∃x63,idx st.People s56=some x63∧Ql s_1.Floor x63 (fun x64=>Jn (fun (J66:Bool→Prop)=>Ite (x64 != 4) (J66 (x64 != 5)) (J66 false)) (fun x65=>Ite x65 (post false) (Y57 (w64 (s56+1)))))) (J55 ())) 0) (fun x54=>Jn (fun (J78:Unit→Prop)=>Loop (fun (s79:Int×Int) Y80=>Ite (decide (s79.2<(st.Dead.length:Int))) (Jn (fun (J85:Bool→Prop)=>∃x86,idx st.Dead s79.2=some x86∧Ite (decide (x86≤s79.1)) (J85 true) (J85 (decide (x86≥(s_1.Floor.Kind.length:Int))))) (fun x84=>Ite x84 (post false) (∃x93,idx st.Dead s79.2=some x93∧Y80 (x93,w64 (s79.2+1))))) (J78 ())) ((-1),0)) (fun x77=>Jn (fun (J101:Unit→Prop)=>Loop (fun (s102:Int×Int) Y103=>Ite (decide (s102.2<(st.Stuck.length:Int))) (∃x109,idx st.Stuck s102.2=some x109∧Jn (fun (J111:Bool→Prop)=>Ite (decide (x109.Cell≤s102.1)) (J111 true) (Ql s_1.Floor x109.Cell (fun x113=>Ite (x113 != 6) (J111 true) (Ite (decide (x109.Left<1)) (J111 true) (J111 (decide (x109.Left>20000))))))) (fun x110=>Ite x110 (post false) (Y103 (x109.Cell,w64 (s102.2+1))))) (J101 ())) ((-1),0)) (fun x100=>KN st (fun x125=>Kr x125 (fun x126=>post (!x126.2))))))))))
def Ky (s_1:ApiSite) (st:ApiState) (post:Bool→Prop):Prop:=
 Jn (fun (J4:Bool→Prop)=>KK s_1 50 20 (fun x5=>Ite x5 (Ks s_1 (fun x7=>Ite x7 (KG st (fun x9=>Ite x9 (Kt s_1 st (fun x11=>J4 x11)) (J4 false))) (J4 false))) (J4 false))) (fun x3=>post x3)
def V_taquinref34_Few (l:List (List Int)) (n:Int) (post:Bool→Prop):Prop:=
 Jn (fun (J6:Unit→Prop)=>Loop (fun (s7:Int) Y8=>Jn (fun (J10:Bool→Prop)=>Ite (decide (s7<(l.length:Int))) (J10 (decide (s7≤n))) (J10 false)) (fun x9=>Ite x9 (Jn (fun (J14:Unit→Prop)=>Jn (fun (J18:Unit→Prop)=>Loop (fun (s19:Int) Y20=>Jn (fun (J22:Bool→Prop)=>∃x23,idx l s7=some x23∧Ite (decide (s19<(x23.length:Int))) (J22 (decide (s19≤10))) (J22 false)) (fun x21=>Ite x21 (Jn (fun (J27:Bool→Prop)=>∃x28,idx l s7=some x28∧∃x29,idx x28 s19=some x29∧Ite (decide (x29<0)) (J27 true) (J27 (decide (x29>63)))) (fun x26=>Ite x26 (post false) (Y20 (w64 (s19+1))))) (J18 ()))) 0) (fun x17=>∃x38,idx l s7=some x38∧Ite (decide ((x38.length:Int)>10)) (post false) (J14 ()))) (fun x13=>Y8 (w64 (s7+1)))) (J6 ()))) 0) (fun x5=>post (decide ((l.length:Int)≤n)))
def Xf (x_1:Int) (y_1:Int) (post:(Int×Int)→Prop):Prop:=
 post (IntKind.wrap .u64 ((IntKind.wrap .u64 ((IntKind.wrap .u64 ((shrI .u64 x_1 32)*(shrI .u64 y_1 32)))+(shrI .u64 (IntKind.wrap .u64 ((IntKind.wrap .u64 ((shrI .u64 x_1 32)*(band .u64 y_1 4294967295)))+(shrI .u64 (IntKind.wrap .u64 ((band .u64 x_1 4294967295)*(band .u64 y_1 4294967295))) 32))) 32)))+(shrI .u64 (IntKind.wrap .u64 ((band .u64 (IntKind.wrap .u64 ((IntKind.wrap .u64 ((shrI .u64 x_1 32)*(band .u64 y_1 4294967295)))+(shrI .u64 (IntKind.wrap .u64 ((band .u64 x_1 4294967295)*(band .u64 y_1 4294967295))) 32))) 4294967295)+(IntKind.wrap .u64 ((band .u64 x_1 4294967295)*(shrI .u64 y_1 32))))) 32)),IntKind.wrap .u64 (x_1*y_1))
def X5 (x_1:Int) (y_1:Int) (post:(Int×Int)→Prop):Prop:=
 Xf x_1 y_1 (fun x5=>post (x5.1,x5.2))
def QP (x_1:List Int) (count:Int) (post:(List Int)→Prop):Prop:=
 Ite (decide (count<0)) (False) (X5 (IntKind.wrap .u64 (x_1.length:Int)) (IntKind.wrap .u64 count) (fun x12=>Jn (fun (J14:Bool→Prop)=>Ite (decide (x12.1>0)) (J14 true) (J14 (decide (x12.2>9223372036854775807)))) (fun x13=>Ite x13 (False) ((0≤(IntKind.wrap .i64 x12.2)∧(IntKind.wrap .i64 x12.2)≤1099511627776)∧Jn (fun (J27:(List Int)→Prop)=>Loop (fun (s28:List Int×Int) Y29=>Ite (decide (s28.2<(s28.1.length:Int))) ((0≤s28.2∧s28.2≤(s28.1.length:Int)∧(s28.1.length:Int)≤(s28.1.length:Int))∧(0≤(0:Int)∧(0:Int)≤s28.2∧s28.2≤(s28.1.length:Int))∧((Int.toNat s28.2)+(Int.toNat ((s28.1.length:Int)-s28.2))≤s28.1.length)∧((Int.toNat 0)+(Int.toNat (s28.2-0))≤s28.1.length)∧Y29 ((s28.1.take (Int.toNat s28.2)++(((s28.1.drop (Int.toNat 0)).take (Int.toNat (s28.2-0))).take (min ((s28.1.drop (Int.toNat 0)).take (Int.toNat (s28.2-0))).length (Int.toNat ((s28.1.length:Int)-s28.2)))++s28.1.drop ((Int.toNat s28.2)+(min ((s28.1.drop (Int.toNat 0)).take (Int.toNat (s28.2-0))).length (Int.toNat ((s28.1.length:Int)-s28.2)))))),w64 (s28.2+(((min ((s28.1.drop (Int.toNat 0)).take (Int.toNat (s28.2-0))).length (Int.toNat ((s28.1.length:Int)-s28.2))):Nat):Int)))) (J27 s28.1)) (((List.replicate (Int.toNat (IntKind.wrap .i64 x12.2)) (0:Int)).take 0++(x_1.take (min x_1.length ((List.replicate (Int.toNat (IntKind.wrap .i64 x12.2)) (0:Int)).length))++(List.replicate (Int.toNat (IntKind.wrap .i64 x12.2)) (0:Int)).drop (0+(min x_1.length ((List.replicate (Int.toNat (IntKind.wrap .i64 x12.2)) (0:Int)).length))))),(((min x_1.length ((List.replicate (Int.toNat (IntKind.wrap .i64 x12.2)) (0:Int)).length)):Nat):Int))) (fun x26=>post x26)))))
def Xc (x_1:Int) (post:Bool→Prop):Prop:=
 post (x_1 != x_1)
def XH (x_1:Int) (y_1:Int) (post:Bool→Prop):Prop:=
 Jn (fun (J4:Bool→Prop)=>Xc x_1 (fun x5=>Ite x5 (Xc y_1 (fun x7=>Ite x7 (J4 (decide (x_1<y_1))) (J4 true))) (J4 (decide (x_1<y_1))))) (fun x3=>post x3)
def KA (x_1:Int) (post:Bool→Prop):Prop:=
 post (x_1 != x_1)
def Qq (x_1:List Int) (target:Int) (post:(Int×Bool)→Prop):Prop:=
 Jn (fun (J8:Int→Prop)=>Loop (fun (s9:Int×Int) Y10=>Ite (decide (s9.1<s9.2)) (∃x19,idx x_1 (IntKind.wrap .i64 (shrI .u64 (IntKind.wrap .u64 (w64 (s9.1+s9.2))) 1))=some x19∧XH x19 target (fun x20=>Jn (fun (J22:(Int×Int)→Prop)=>Ite x20 (J22 (w64 ((IntKind.wrap .i64 (shrI .u64 (IntKind.wrap .u64 (w64 (s9.1+s9.2))) 1))+1),s9.2)) (J22 (s9.1,IntKind.wrap .i64 (shrI .u64 (IntKind.wrap .u64 (w64 (s9.1+s9.2))) 1)))) (fun x21=>Y10 (x21.1,x21.2)))) (J8 s9.1)) (0,(x_1.length:Int))) (fun x7=>Jn (fun (J29:Bool→Prop)=>Ite (decide (x7<(x_1.length:Int))) (∃x31,idx x_1 x7=some x31∧Ite (x31 == target) (J29 true) (KA x31 (fun x33=>Ite x33 (KA target (fun x35=>J29 x35)) (J29 false)))) (J29 false)) (fun x28=>post (x7,x28)))
def KW (z:ApiZone) (c0:Int) (post:Bool→Prop):Prop:=
 Qq z.Cells c0 (fun x5=>post x5.2)
def Qb (s_1:List ApiZone) (f_c0:Int) (post:Int→Prop):Prop:=
 Jn (fun (J6:Unit→Prop)=>Loop (fun (s7:Int) Y8=>Ite (decide (s7<(s_1.length:Int))) (∃x16,idx s_1 s7=some x16∧KW x16 f_c0 (fun x17=>Ite x17 (post s7) (Y8 (w64 (s7+1))))) (J6 ())) 0) (fun x5=>post (-1))
def Xk (s_1:ApiSite) (c:Int) (post:Int→Prop):Prop:=
 Qb s_1.Zones c (fun x5=>post x5)
def Xg (s_1:ApiSite) (c:Int) (post:Int→Prop):Prop:=
 Xk s_1 c (fun x5=>Ite (decide (x5≥0)) (∃x11,idx s_1.Zones x5=some x11∧post x11.Speed) (post 1))
def Xi (act:Int) (laden:Bool) (post:Int→Prop):Prop:=
 Jn (fun (J8:Bool→Prop)=>Ite (act == 0) (J8 (act == 0)) (J8 (act == 8))) (fun x7=>Ite x7 (post 1) (Ite (act == 7) (post 3) (Jn (fun (J27:Bool→Prop)=>Ite ((w64 (act-1)) == 0) (J27 ((w64 (act-1)) == 0)) (Jn (fun (J32:Bool→Prop)=>Ite ((w64 (act-1)) == 1) (J32 ((w64 (act-1)) == 1)) (Jn (fun (J37:Bool→Prop)=>Ite ((w64 (act-1)) == 2) (J37 ((w64 (act-1)) == 2)) (J37 ((w64 (act-1)) == 3))) (fun x36=>J32 x36))) (fun x31=>J27 x31))) (fun x26=>Jn (fun (J42:Int→Prop)=>Ite x26 (J42 2) (Jn (fun (J49:Int→Prop)=>Ite ((w64 (act-1)) == 4) (J49 5) (Jn (fun (J56:Int→Prop)=>Ite ((w64 (act-1)) == 5) (J56 1) (J56 0)) (fun x55=>J49 x55))) (fun x48=>J42 x48))) (fun x41=>Jn (fun (J61:Bool→Prop)=>Ite (decide (x41>0)) (J61 laden) (J61 false)) (fun x60=>Jn (fun (J64:Int→Prop)=>Ite x60 (J64 (w64 (x41+2))) (J64 x41)) (fun x63=>post x63)))))))
def KX (tick:Int) (act:Int) (laden:Bool) (post:Int→Prop):Prop:=
 Xi act laden (fun x8=>post (w64 ((w64 ((w64 (x8*(w64 (10+(w64 ((imin (imax tick 0) 20000).tdiv 1000))))))+9)).tdiv 10)))
def X4 (post:Int→Prop):Prop:=
 KX 20000 0 true (fun x5=>post x5)
def XY (s_1:ApiSite) (c:Int) (post:Int→Prop):Prop:=
 ∃x5,idx s_1.Floor.Kind c=some x5∧Ite (x5 != 3) (post 0) (Xg s_1 c (fun x11=>X4 (fun x12=>post (w64 ((w64 (x11-1))*x12)))))
def XN (f:ApiFloor) (post:Int→Prop):Prop:=
 post (w64 ((w64 (f.W*f.H))*f.D))
def XX (f:ApiFloor) (c:Int) (post:Bool→Prop):Prop:=
 Jn (fun (J4:Bool→Prop)=>Ite (decide (c≥0)) (XN f (fun x6=>J4 (decide (c<x6)))) (J4 false)) (fun x3=>post x3)
def Gy (f:ApiFloor) (c:Int) (post:(Int×Int×Int)→Prop):Prop:=
 XX f c (fun x5=>Ite (!x5) (post (0,0,0)) ((f.W≠0)∧(f.W≠0)∧(f.H≠0)∧((w64 (f.W*f.H))≠0)∧post (c.tmod f.W,(w64 (c.tdiv f.W)).tmod f.H,w64 (c.tdiv (w64 (f.W*f.H))))))
def XT (post:XU→Prop):Prop:=
 post ({e0:=({x:=1,y:=0,z:=0:QL}),e1:=({x:=0,y:=1,z:=0:QL}),e2:=({x:=(-1),y:=0,z:=0:QL}),e3:=({x:=0,y:=(-1),z:=0:QL}),e4:=({x:=0,y:=0,z:=1:QL}),e5:=({x:=0,y:=0,z:=(-1):QL}):XU})
def XL (f:ApiFloor) (x_1:Int) (y_1:Int) (z:Int) (post:Int→Prop):Prop:=
 Jn (fun (J4:Bool→Prop)=>Ite (decide ((imin (imin x_1 y_1) z)<0)) (J4 true) (Ite (decide (x_1≥f.W)) (J4 true) (Ite (decide (y_1≥f.H)) (J4 true) (J4 (decide (z≥f.D)))))) (fun x3=>Ite x3 (post (-1)) (post (w64 ((w64 ((w64 ((w64 (z*f.H))+y_1))*f.W))+x_1))))
def Xj (f:ApiFloor) (c:Int) (d:Int) (post:Int→Prop):Prop:=
 Jn (fun (J4:Bool→Prop)=>XX f c (fun x5=>Ite x5 (Ite (decide (d<0)) (J4 true) (J4 (decide (d≥6)))) (J4 true))) (fun x3=>Ite x3 (post (-1)) (Gy f c (fun x13=>XT (fun x16=>∃x17,idx ([x16.e0,x16.e1,x16.e2,x16.e3,x16.e4,x16.e5]:List QL) d=some x17∧XL f (w64 (x13.1+x17.x)) (w64 (x13.2.1+x17.y)) (w64 (x13.2.2+x17.z)) (fun x20=>post x20)))))
def XK (f:ApiFloor) (c:Int) (d:Int) (post:(Int×Bool)→Prop):Prop:=
 Xj f c d (fun x5=>Jn (fun (J7:Bool→Prop)=>Ite (decide (x5<0)) (J7 true) (∃x9,idx f.Kind c=some x9∧Ite (x9 == 0) (J7 true) (∃x11,idx f.Kind x5=some x11∧Ite (x11 == 0) (J7 true) (∃x13,idx f.Out c=some x13∧(0≤d)∧J7 ((band .i64 (shrI .i64 x13 d) 1) == 0))))) (fun x6=>Ite x6 (post (0,false)) (Jn (fun (J19:Bool→Prop)=>Ite (d == 4) (∃x21,idx f.Kind c=some x21∧Ite (x21 != 6) (J19 true) (∃x23,idx f.Kind x5=some x23∧J19 (x23 != 6))) (Ite (d == 5) (∃x25,idx f.Kind c=some x25∧Ite (x25 != 6) (J19 true) (∃x27,idx f.Kind x5=some x27∧J19 (x27 != 6))) (J19 false))) (fun x18=>Ite x18 (post (0,false)) (post (x5,true))))))
def XI (s_1:ApiSite) (c:Int) (post:Bool→Prop):Prop:=
 Jn (fun (J4:Bool→Prop)=>Ite (decide (c≥0)) (J4 (decide (c<(s_1.Floor.Kind.length:Int)))) (J4 false)) (fun x3=>post x3)
def Xd (s_1:ApiSite) (c:Int) (post:Bool→Prop):Prop:=
 ∃x5,idx s_1.Floor.Kind c=some x5∧post (x5 == 3)
def XC (s_1:ApiSite) (d:Int) (x_1:Int) (post:Int→Prop):Prop:=
 Jn (fun (J4:Bool→Prop)=>Ite (decide (d<0)) (J4 true) (Ite (decide (d≥6)) (J4 true) (XI s_1 x_1 (fun x7=>J4 (!x7))))) (fun x3=>Ite x3 (post 0) (KX 20000 (w64 (1+d)) true (fun x13=>Xd s_1 x_1 (fun x16=>Jn (fun (J18:Int→Prop)=>Ite (!x16) (Xg s_1 x_1 (fun x22=>X4 (fun x23=>J18 (w64 (x13+(w64 ((w64 (x22-1))*x23))))))) (J18 x13)) (fun x17=>post x17)))))
def KP (s_1:ApiSite) (blocked:List Int) (a:Int) (post:(List Int)→Prop):Prop:=
 QP ([(-1)]:List Int) (s_1.Floor.Kind.length:Int) (fun x5=>Jn (fun (J7:Bool→Prop)=>Ite (decide (a<0)) (J7 true) (Ite (decide (a≥(x5.length:Int))) (J7 true) (∃x10,idx s_1.Floor.Kind a=some x10∧J7 (x10 == 0)))) (fun x6=>Ite x6 (post x5) (∃x16,idx x5 a=some x16∧Jn (fun (J20:(List Int)→Prop)=>Loop (fun (s21:List Int×List Int) Y22=>Ite (decide ((s21.2.length:Int)>0)) (Jn (fun (J27:(List Int×List Int)→Prop)=>∃x30,idx s21.2 0=some x30∧(0≤(1:Int)∧(1:Int)≤(s21.2.length:Int)∧(s21.2.length:Int)≤(s21.2.length:Int))∧∃x36,idx s21.1 x30=some x36∧Jn (fun (J40:Int→Prop)=>Ite (x30 != a) (XY s_1 x30 (fun x44=>J40 (w64 (x36+x44)))) (J40 x36)) (fun x39=>Jn (fun (J48:(List Int×List Int)→Prop)=>Loop (fun (s49:List Int×List Int×Int) Y50=>Ite (decide (s49.2.2<6)) (Jn (fun (J55:(List Int×List Int)→Prop)=>XK s_1.Floor x30 s49.2.2 (fun x60=>Jn (fun (J62:Bool→Prop)=>Ite x60.2 (Qr blocked x60.1 (fun x64=>J62 x64)) (J62 true)) (fun x61=>Ite x61 (J55 (s49.1,s49.2.1)) (XC s_1 s49.2.2 x60.1 (fun x68=>Jn (fun (J70:Bool→Prop)=>∃x71,idx s49.1 x60.1=some x71∧Ite (decide (x71<0)) (J70 true) (J70 (decide ((w64 (x39+x68))<x71)))) (fun x69=>Jn (fun (J74:(List Int×List Int)→Prop)=>Ite x69 (∃x78,idx s49.1 x60.1=some x78∧(s49.2.1.length+([x60.1]:List Int).length≤1099511627776)∧J74 ((s49.1.set (Int.toNat x60.1) (w64 (x39+x68))),(s49.2.1++([x60.1]:List Int)))) (J74 (s49.1,s49.2.1))) (fun x73=>J55 (x73.1,x73.2)))))))) (fun x54=>Y50 (x54.1,x54.2,w64 (s49.2.2+1)))) (J48 (s49.1,s49.2.1))) (s21.1,(sub s21.2 1 (s21.2.length:Int)),0)) (fun x47=>J27 (x47.1,x47.2)))) (fun x26=>Y22 (x26.1,x26.2))) (J20 s21.1)) ((x5.set (Int.toNat a) 0),([a]:List Int))) (fun x19=>post x19))))
def Gb (s_1:ApiSite) (blocked:List Int) (a:Int) (b:Int) (post:Int→Prop):Prop:=
 Jn (fun (J4:Bool→Prop)=>Ite (decide (b<0)) (J4 true) (J4 (decide (b≥(s_1.Floor.Kind.length:Int))))) (fun x3=>Ite x3 (post (-1)) (KP s_1 blocked a (fun x11=>∃x12,idx x11 b=some x12∧post x12)))
def Kl (r:List Int) (c:Int) (post:Bool→Prop):Prop:=
 Jn (fun (J8:Int→Prop)=>Loop (fun (s9:Int×Int) Y10=>Ite (decide (s9.1<s9.2)) (∃x19,idx r (w64 ((w64 (s9.1+s9.2)).tdiv 2))=some x19∧Jn (fun (J21:(Int×Int)→Prop)=>Ite (decide (x19<c)) (J21 (w64 ((w64 ((w64 (s9.1+s9.2)).tdiv 2))+1),s9.2)) (J21 (s9.1,w64 ((w64 (s9.1+s9.2)).tdiv 2)))) (fun x20=>Y10 (x20.1,x20.2))) (J8 s9.1)) (0,(r.length:Int))) (fun x7=>Ite (x7 == (r.length:Int)) (post false) (∃x34,idx r x7=some x34∧post (x34 == c)))
def Ke (s_1:ApiSite) (c:Int) (post:Int→Prop):Prop:=
 Jn (fun (J6:Unit→Prop)=>Loop (fun (s7:Int) Y8=>Ite (decide (s7<(s_1.Zones.length:Int))) (∃x14,idx s_1.Zones s7=some x14∧Kl x14.Cells c (fun x15=>Ite x15 (post s7) (Y8 (w64 (s7+1))))) (J6 ())) 0) (fun x5=>post (-1))
def QZ (s_1:ApiSite) (c:Int) (post:Int→Prop):Prop:=
 Ke s_1 c (fun x5=>Ite (decide (x5<0)) (post 1) (∃x13,idx s_1.Zones x5=some x13∧post x13.Speed))
def KB (act:Int) (laden:Bool) (post:Int→Prop):Prop:=
 Jn (fun (J4:Bool→Prop)=>Ite (act == 0) (J4 true) (J4 (act == 8))) (fun x3=>Ite x3 (post 1) (Ite (act == 7) (post 3) (Jn (fun (J15:Bool→Prop)=>Ite (decide (act<1)) (J15 true) (J15 (decide (act≥7)))) (fun x14=>Ite x14 (post 0) (Jn (fun (J25:Int→Prop)=>Ite (act == 5) (J25 5) (J25 2)) (fun x24=>Jn (fun (J32:Int→Prop)=>Ite (act == 6) (J32 1) (J32 x24)) (fun x31=>Jn (fun (J39:Int→Prop)=>Ite laden (J39 (w64 (x31+2))) (J39 x31)) (fun x38=>post x38))))))))
def KJ (tick:Int) (post:Int→Prop):Prop:=
 Ite (decide (tick<0)) (post 0) (Ite (decide (tick>20000)) (post 20) (post (w64 (tick.tdiv 1000))))
def K9 (tick:Int) (act:Int) (laden:Bool) (post:Int→Prop):Prop:=
 KB act laden (fun x5=>KJ tick (fun x6=>Ite (decide (((w64 (x5*(w64 (10+x6)))).tmod 10)>0)) (post (w64 ((w64 ((w64 (x5*(w64 (10+x6)))).tdiv 10))+1))) (post (w64 ((w64 (x5*(w64 (10+x6)))).tdiv 10)))))
def QO (post:Int→Prop):Prop:=
 K9 20000 0 true (fun x5=>post x5)
def QM (s_1:ApiSite) (c:Int) (post:Int→Prop):Prop:=
 ∃x5,idx s_1.Floor.Kind c=some x5∧Ite (x5 != 3) (post 0) (QZ s_1 c (fun x11=>QO (fun x12=>post (w64 ((w64 (x11-1))*x12)))))
def Kz (f:ApiFloor) (c:Int) (d:Int) (post:(Int×Bool)→Prop):Prop:=
 QR f c d (fun x5=>Ite (decide (x5<0)) (post (0,false)) (Jn (fun (J12:Bool→Prop)=>∃x13,idx f.Kind c=some x13∧Ite (x13 == 0) (J12 true) (∃x15,idx f.Kind x5=some x15∧Ite (x15 == 0) (J12 true) (∃x17,idx f.Out c=some x17∧(0≤(IntKind.wrap .u64 d))∧J12 ((band .i64 (shrI .i64 x17 (IntKind.wrap .u64 d)) 1) == 0)))) (fun x11=>Ite x11 (post (0,false)) (Jn (fun (J23:Bool→Prop)=>Ite (decide (d≥4)) (∃x25,idx f.Kind c=some x25∧Ite (x25 != 6) (J23 true) (∃x27,idx f.Kind x5=some x27∧J23 (x27 != 6))) (J23 false)) (fun x22=>Ite x22 (post (0,false)) (post (x5,true)))))))
def Ko (s_1:ApiSite) (d:Int) (x_1:Int) (post:Int→Prop):Prop:=
 Jn (fun (J4:Bool→Prop)=>Ite (decide (d<0)) (J4 true) (Ite (decide (d≥6)) (J4 true) (Qk s_1.Floor x_1 (fun x7=>J4 (!x7))))) (fun x3=>Ite x3 (post 0) (K9 20000 (w64 (1+d)) true (fun x13=>∃x16,idx s_1.Floor.Kind x_1=some x16∧Jn (fun (J18:Int→Prop)=>Ite (x16 != 3) (QZ s_1 x_1 (fun x22=>QO (fun x23=>J18 (w64 (x13+(w64 ((w64 (x22-1))*x23))))))) (J18 x13)) (fun x17=>post x17))))
def Qw (s_1:ApiSite) (blocked:List Int) (a:Int) (post:(List Int)→Prop):Prop:=
 K8 s_1.Floor (fun x5=>(0≤x5∧x5≤1099511627776)∧(0≤((List.replicate (Int.toNat x5) (0:Int)).length:Int)∧((List.replicate (Int.toNat x5) (0:Int)).length:Int)≤1099511627776)∧Jn (fun (J13:(List Int)→Prop)=>Loop (fun (s14:List Int×Int) Y15=>Ite (decide (s14.2<(s14.1.length:Int))) (∃x21,idx s14.1 s14.2=some x21∧Y15 ((s14.1.set (Int.toNat s14.2) (-1)),w64 (s14.2+1))) (J13 s14.1)) ((List.replicate (Int.toNat x5) (0:Int)),0)) (fun x12=>Qk s_1.Floor a (fun x26=>Ite (!x26) (post x12) (∃x32,idx s_1.Floor.Kind a=some x32∧Ite (x32 == 0) (post x12) (∃x38,idx x12 a=some x38∧Jn (fun (J42:(List Int)→Prop)=>Loop (fun (s43:List Int×List Bool×Int) Y44=>Ite (decide (s43.2.2<(s43.1.length:Int))) (Jn (fun (J49:(List Int×List Bool)→Prop)=>Jn (fun (J55:Int→Prop)=>Loop (fun (s56:Int×Int) Y57=>Ite (decide (s56.2<(s43.1.length:Int))) (Jn (fun (J62:Bool→Prop)=>∃x63,idx s43.1 s56.2=some x63∧Ite (decide (x63≥0)) (∃x65,idx s43.2.1 s56.2=some x65∧Ite x65 (J62 false) (Ite (decide (s56.1<0)) (J62 true) (∃x68,idx s43.1 (imax s56.1 0)=some x68∧QM s_1 s56.2 (fun x69=>QM s_1 (imax s56.1 0) (fun x70=>J62 (decide ((w64 (x63+x69))<(w64 (x68+x70))))))))) (J62 false)) (fun x61=>Jn (fun (J72:Int→Prop)=>Ite x61 (J72 s56.2) (J72 s56.1)) (fun x71=>Y57 (x71,w64 (s56.2+1))))) (J55 s56.1)) ((-1),0)) (fun x54=>Ite (decide (x54<0)) (post s43.1) (∃x85,idx s43.2.1 x54=some x85∧Jn (fun (J89:(List Int)→Prop)=>Loop (fun (s90:List Int×Int) Y91=>Ite (decide (s90.2<6)) (Kz s_1.Floor x54 s90.2 (fun x97=>Jn (fun (J99:Bool→Prop)=>Ite x97.2 (Qx blocked x97.1 (fun x101=>J99 (!x101))) (J99 false)) (fun x98=>Jn (fun (J103:(List Int)→Prop)=>Ite x98 (∃x107,idx s90.1 x54=some x107∧Ko s_1 s90.2 x97.1 (fun x108=>Jn (fun (J112:Int→Prop)=>Ite (x54 != a) (QM s_1 x54 (fun x116=>J112 (w64 ((w64 (x107+x108))+x116)))) (J112 (w64 (x107+x108)))) (fun x111=>Jn (fun (J118:Bool→Prop)=>∃x119,idx s90.1 x97.1=some x119∧Ite (decide (x119<0)) (J118 true) (J118 (decide (x111<x119)))) (fun x117=>Jn (fun (J122:(List Int)→Prop)=>Ite x117 (∃x126,idx s90.1 x97.1=some x126∧J122 (s90.1.set (Int.toNat x97.1) x111)) (J122 s90.1)) (fun x121=>J103 x121))))) (J103 s90.1)) (fun x102=>Y91 (x102,w64 (s90.2+1)))))) (J89 s90.1)) (s43.1,0)) (fun x88=>J49 (x88,(s43.2.1.set (Int.toNat x54) true)))))) (fun x48=>Y44 (x48.1,x48.2,w64 (s43.2.2+1)))) (J42 s43.1)) ((x12.set (Int.toNat a) 0),(List.replicate (Int.toNat ((List.replicate (Int.toNat x5) (0:Int)).length:Int)) false),0)) (fun x41=>post x41))))))
def KD (s_1:ApiSite) (blocked:List Int) (a:Int) (b:Int) (post:Int→Prop):Prop:=
 Qw s_1 blocked a (fun x5=>Qk s_1.Floor b (fun x8=>Ite (!x8) (post (-1)) (∃x14,idx x5 b=some x14∧post x14)))
def Xb (st:ApiState) (post:(List Int)→Prop):Prop:=
 QC st.Dead (fun x5=>Jn (fun (J9:(List Int)→Prop)=>Loop (fun (s10:List Int×Int) Y11=>Ite (decide (s10.2<(st.Robots.length:Int))) (∃x17,idx st.Robots s10.2=some x17∧Jn (fun (J21:(List Int)→Prop)=>Ite x17.Dead ((s10.1.length+([x17.Cell]:List Int).length≤1099511627776)∧J21 (s10.1++([x17.Cell]:List Int))) (J21 s10.1)) (fun x20=>Y11 (x20,w64 (s10.2+1)))) (J9 s10.1)) (x5,0)) (fun x8=>Qs x8 (fun x30=>V_slices_Compact_int_int__o0 x30 (fun x33=>post x33))))
def Xv (s_1:ApiSite) (st:ApiState) (post:(List (List Int))→Prop):Prop:=
 (0≤(st.Robots.length:Int)∧(st.Robots.length:Int)≤1099511627776)∧Xb st (fun x8=>Jn (fun (J12:(List (List Int))→Prop)=>Loop (fun (s13:List (List Int)×Int) Y14=>Ite (decide (s13.2<(st.Robots.length:Int))) (Jn (fun (J19:(List (List Int))→Prop)=>∃x22,idx st.Robots s13.2=some x22∧Ite x22.Dead (J19 s13.1) (X4 (fun x28=>KP s_1 x8 x22.Cell (fun x31=>Jn (fun (J33:(List (List Int))→Prop)=>Loop (fun (s34:List (List Int)×Int) Y35=>Ite (decide (s34.2<(x31.length:Int))) (∃x41,idx x31 s34.2=some x41∧Jn (fun (J43:Bool→Prop)=>∃x44,idx s_1.Floor.Kind s34.2=some x44∧Ite (x44 == 3) (Ite (decide (x41≥0)) (J43 (decide (x41≤(w64 (x22.Charge-(w64 ((w64 (x22.Rest+x22.Mute))*x28))))))) (J43 false)) (J43 false)) (fun x42=>Jn (fun (J48:(List (List Int))→Prop)=>Ite x42 (∃x52,idx s34.1 s13.2=some x52∧(x52.length+([s34.2]:List Int).length≤1099511627776)∧J48 (s34.1.set (Int.toNat s13.2) (x52++([s34.2]:List Int)))) (J48 s34.1)) (fun x47=>Y35 (x47,w64 (s34.2+1))))) (J33 s34.1)) (s13.1,0)) (fun x32=>J19 x32))))) (fun x18=>Y14 (x18,w64 (s13.2+1)))) (J12 s13.1)) (((List.replicate (Int.toNat (st.Robots.length:Int)) []),0):List (List Int)×Int)) (fun x11=>post x11))
def K7 (st:ApiState) (post:(List Int)→Prop):Prop:=
 (([]:List Int).length+st.Dead.length≤1099511627776)∧Jn (fun (J9:(List Int)→Prop)=>Loop (fun (s10:List Int×Int) Y11=>Ite (decide (s10.2<(st.Robots.length:Int))) (∃x17,idx st.Robots s10.2=some x17∧Jn (fun (J19:(List Int)→Prop)=>Ite x17.Dead ((s10.1.length+([x17.Cell]:List Int).length≤1099511627776)∧J19 (s10.1++([x17.Cell]:List Int))) (J19 s10.1)) (fun x18=>Y11 (x18,w64 (s10.2+1)))) (J9 s10.1)) (((([]:List Int)++st.Dead),0):List Int×Int)) (fun x8=>Jn (fun (J29:(List Int)→Prop)=>Loop (fun (s30:List Int×List Int) Y31=>Ite (decide ((s30.1.length:Int)>0)) (Jn (fun (J36:(List Int×List Int)→Prop)=>∃x39,idx s30.1 0=some x39∧Jn (fun (J43:Int→Prop)=>Loop (fun (s44:Int×Int) Y45=>Ite (decide (s44.2<(s30.1.length:Int))) (∃x51,idx s30.1 s44.2=some x51∧Y45 (imin s44.1 x51,w64 (s44.2+1))) (J43 s44.1)) (x39,1)) (fun x42=>(s30.2.length+([x42]:List Int).length≤1099511627776)∧Jn (fun (J62:(List Int)→Prop)=>Loop (fun (s63:List Int×Int) Y64=>Ite (decide (s63.2<(s30.1.length:Int))) (∃x70,idx s30.1 s63.2=some x70∧Jn (fun (J72:(List Int)→Prop)=>Ite (x70 != x42) ((s63.1.length+([x70]:List Int).length≤1099511627776)∧J72 (s63.1++([x70]:List Int))) (J72 s63.1)) (fun x71=>Y64 (x71,w64 (s63.2+1)))) (J62 s63.1)) (([],0):List Int×Int)) (fun x61=>J36 (x61,(s30.2++([x42]:List Int)))))) (fun x35=>Y31 (x35.1,x35.2))) (J29 s30.2)) ((x8,[]):List Int×List Int)) (fun x28=>post x28))
def K2 (s_1:ApiSite) (st:ApiState) (post:(List (List Int))→Prop):Prop:=
 (0≤(st.Robots.length:Int)∧(st.Robots.length:Int)≤1099511627776)∧K7 st (fun x8=>Jn (fun (J12:(List (List Int))→Prop)=>Loop (fun (s13:List (List Int)×Int) Y14=>Ite (decide (s13.2<(st.Robots.length:Int))) (Jn (fun (J19:(List (List Int))→Prop)=>∃x22,idx st.Robots s13.2=some x22∧Qw s_1 x8 x22.Cell (fun x25=>Jn (fun (J29:(List (List Int))→Prop)=>Loop (fun (s30:List (List Int)×Int) Y31=>Jn (fun (J33:Bool→Prop)=>Ite (decide (s30.2<(x25.length:Int))) (J33 (!x22.Dead)) (J33 false)) (fun x32=>Ite x32 (Jn (fun (J37:Bool→Prop)=>∃x38,idx s_1.Floor.Kind s30.2=some x38∧Ite (x38 == 3) (∃x40,idx x25 s30.2=some x40∧Ite (decide (x40≥0)) (QO (fun x42=>J37 (decide (x22.Charge≥(w64 (x40+(w64 ((w64 (x22.Rest+x22.Mute))*x42)))))))) (J37 false)) (J37 false)) (fun x36=>Jn (fun (J44:(List (List Int))→Prop)=>Ite x36 (∃x48,idx s30.1 s13.2=some x48∧(x48.length+([s30.2]:List Int).length≤1099511627776)∧J44 (s30.1.set (Int.toNat s13.2) (x48++([s30.2]:List Int)))) (J44 s30.1)) (fun x43=>Y31 (x43,w64 (s30.2+1))))) (J29 s30.1))) (s13.1,0)) (fun x28=>J19 x28))) (fun x18=>Y14 (x18,w64 (s13.2+1)))) (J12 s13.1)) (((List.replicate (Int.toNat (st.Robots.length:Int)) []),0):List (List Int)×Int)) (fun x11=>post x11))
def QQ (a:List (List Int)) (b:List (List Int)) (post:Bool→Prop):Prop:=
 Ite ((a.length:Int) != (b.length:Int)) (post false) (Jn (fun (J11:Unit→Prop)=>Loop (fun (s12:Int) Y13=>Ite (decide (s12<(a.length:Int))) (∃x19,idx a s12=some x19∧∃x20,idx b s12=some x20∧Q7 x19 x20 (fun x21=>Ite (!x21) (post false) (Y13 (w64 (s12+1))))) (J11 ())) 0) (fun x10=>post true))
def K5 (l:List (List Int)) (post:Int→Prop):Prop:=
 Jn (fun (J8:Int→Prop)=>Loop (fun (s9:Int×Int) Y10=>Ite (decide (s9.2<(l.length:Int))) (Jn (fun (J15:Int→Prop)=>Jn (fun (J19:Int→Prop)=>Loop (fun (s20:Int×Int) Y21=>∃x24,idx l s9.2=some x24∧Ite (decide (s20.2<(x24.length:Int))) (∃x28,idx x24 s20.2=some x28∧Y21 (imax s20.1 (w64 (x28+1)),w64 (s20.2+1))) (J19 s20.1)) (s9.1,0)) (fun x18=>J15 x18)) (fun x14=>Y10 (x14,w64 (s9.2+1)))) (J8 s9.1)) (1,0)) (fun x7=>post x7)
def QG (self:(List (List Int)×Int×Int×List Int×List Bool)→((Bool×List Int×List Bool)→Prop)→Prop) (l:List (List Int)) (robot:Int) (first:Int) (owner:List Int) (seen:List Bool) (post:(Bool×List Int×List Bool)→Prop):Prop:=
 Jn (fun (J6:(List Int×List Bool)→Prop)=>Loop (fun (s7:List Int×List Bool×Int) Y8=>∃x11,idx l robot=some x11∧Ite (decide (s7.2.2<(x11.length:Int))) (Jn (fun (J14:(List Int×List Bool)→Prop)=>∃x17,idx x11 s7.2.2=some x17∧∃x20,idx s7.2.1 x17=some x20∧Ite x20 (J14 (s7.1,s7.2.1)) (∃x26,idx s7.1 x17=some x26∧Jn (fun (J28:(List Int×List Bool×Bool)→Prop)=>Ite (decide ((w64 (x26-1))<0)) (J28 (s7.1,(s7.2.1.set (Int.toNat x17) true),true)) (Ite (decide ((w64 (x26-1))≥first)) (self (l,w64 (x26-1),first,s7.1,(s7.2.1.set (Int.toNat x17) true)) (fun x31=>J28 (x31.2.1,x31.2.2,x31.1))) (J28 (s7.1,(s7.2.1.set (Int.toNat x17) true),false)))) (fun x27=>Ite x27.2.2 (∃x35,idx x27.1 x17=some x35∧post (true,(x27.1.set (Int.toNat x17) (w64 (robot+1))),x27.2.1)) (J14 (x27.1,x27.2.1))))) (fun x13=>Y8 (x13.1,x13.2,w64 (s7.2.2+1)))) (J6 (s7.1,s7.2.1))) (owner,seen,0)) (fun x5=>post (false,x5.1,x5.2))
def QD (l:List (List Int)) (robot:Int) (first:Int) (owner:List Int) (seen:List Bool) (post:(Bool×List Int×List Bool)→Prop):Prop:=
 Rec (fun self (a:List (List Int)×Int×Int×List Int×List Bool) (post:(Bool×List Int×List Bool)→Prop)=>QG self a.1 a.2.1 a.2.2.1 a.2.2.2.1 a.2.2.2.2 post) (l,robot,first,owner,seen) post
def QB (l:List (List Int)) (given:List Int) (post:Int→Prop):Prop:=
 K5 l (fun x5=>(0≤x5∧x5≤1099511627776)∧Jn (fun (J12:(List Int×Int)→Prop)=>Loop (fun (s13:List Int×Int×Int) Y14=>Ite (decide (s13.2.2<(given.length:Int))) (∃x20,idx given s13.2.2=some x20∧Jn (fun (J22:(List Int×Int)→Prop)=>Ite (decide (x20≥0)) (∃x26,idx s13.1 x20=some x26∧J22 ((s13.1.set (Int.toNat x20) (w64 (s13.2.2+1))),w64 (s13.2.1+1))) (J22 (s13.1,s13.2.1))) (fun x21=>Y14 (x21.1,x21.2,w64 (s13.2.2+1)))) (J12 (s13.1,s13.2.1))) ((List.replicate (Int.toNat x5) (0:Int)),0,0)) (fun x11=>Jn (fun (J34:Int→Prop)=>Loop (fun (s35:List Int×Int×Int) Y36=>Ite (decide (s35.2.2<(l.length:Int))) ((0≤(s35.1.length:Int)∧(s35.1.length:Int)≤1099511627776)∧QD l s35.2.2 (given.length:Int) s35.1 (List.replicate (Int.toNat (s35.1.length:Int)) false) (fun x43=>Jn (fun (J45:Int→Prop)=>Ite x43.1 (J45 (w64 (s35.2.1+1))) (J45 s35.2.1)) (fun x44=>Y36 (x43.2.1,x44,w64 (s35.2.2+1))))) (J34 s35.2.1)) (x11.1,x11.2,(given.length:Int))) (fun x33=>post x33)))
def K3 (l:List (List Int)) (post:(List Int)→Prop):Prop:=
 QB l [] (fun x5=>Jn (fun (J11:(List Int)→Prop)=>Loop (fun (s12:List Int×Int) Y13=>Ite (decide (s12.2<(l.length:Int))) (Jn (fun (J18:(List Int)→Prop)=>Jn (fun (J24:Int→Prop)=>Loop (fun (s25:Int×Int) Y26=>∃x29,idx l s12.2=some x29∧Ite (decide (s25.2<(x29.length:Int))) (∃x33,idx x29 s25.2=some x33∧Jn (fun (J35:Bool→Prop)=>Qx s12.1 x33 (fun x36=>Ite x36 (J35 false) (Ite (decide (s25.1<0)) ((([]:List Int).length+s12.1.length≤1099511627776)∧((([]:List Int)++s12.1).length+([x33]:List Int).length≤1099511627776)∧QB l ((([]:List Int)++s12.1)++([x33]:List Int)) (fun x41=>J35 (x41 == x5))) (Ite (decide (x33<s25.1)) ((([]:List Int).length+s12.1.length≤1099511627776)∧((([]:List Int)++s12.1).length+([x33]:List Int).length≤1099511627776)∧QB l ((([]:List Int)++s12.1)++([x33]:List Int)) (fun x45=>J35 (x45 == x5))) (J35 false))))) (fun x34=>Jn (fun (J47:Int→Prop)=>Ite x34 (J47 x33) (J47 s25.1)) (fun x46=>Y26 (x46,w64 (s25.2+1))))) (J24 s25.1)) ((-1),0)) (fun x23=>(s12.1.length+([x23]:List Int).length≤1099511627776)∧J18 (s12.1++([x23]:List Int)))) (fun x17=>Y13 (x17,w64 (s12.2+1)))) (J11 s12.1)) (([],0):List Int×Int)) (fun x10=>post x10))
def Kw (l:List (List Int)) (post:(List (List Int))→Prop):Prop:=
 (([]:List (List Int)).length+l.length≤1099511627776)∧Jn (fun (J11:(List (List Int))→Prop)=>Loop (fun (s12:List (List Int)×List (List Int)×Int) Y13=>Ite (decide (s12.2.2≤(l.length:Int))) (Jn (fun (J18:(List (List Int)×List (List Int))→Prop)=>K3 s12.1 (fun x21=>Jn (fun (J27:(List (List Int)×Bool)→Prop)=>Loop (fun (s28:List (List Int)×Bool×Int) Y29=>Ite (decide (s28.2.2<(x21.length:Int))) (∃x35,idx x21 s28.2.2=some x35∧Jn (fun (J37:(List (List Int)×Bool)→Prop)=>Ite (decide (x35≥0)) (∃x43,idx s28.1 s28.2.2=some x43∧J37 ((s28.1.set (Int.toNat s28.2.2) []),true)) (J37 (s28.1,s28.2.1))) (fun x36=>Y29 (x36.1,x36.2,w64 (s28.2.2+1)))) (J27 (s28.1,s28.2.1))) (s12.1,false,0)) (fun x26=>Ite (!x26.2) (post s12.2.1) ((s12.2.1.length+1≤1099511627776)∧J18 (x26.1,((s12.2.1++[x21]).set (s12.2.1.length) x21)))))) (fun x17=>Y13 (x17.1,x17.2,w64 (s12.2.2+1)))) (J11 s12.2.1)) (((([]:List (List Int))++l),[],0):List (List Int)×List (List Int)×Int)) (fun x10=>post x10)
def V_taquinlaw34_DockTells (s_1:ApiSite) (st:ApiState) (blocked:List Int) (a:Int) (b:Int) (l:List (List Int)) (post:Bool→Prop):Prop:=
 Km (fun x5=>Jn (fun (J7:Bool→Prop)=>Ky s_1 st (fun x8=>Ite x8 (Ite (decide ((blocked.length:Int)>30)) (J7 true) (V_taquinref34_Few l 12 (fun x11=>J7 (!x11)))) (J7 true))) (fun x6=>Ite x6 (post x5) (Jn (fun (J16:Bool→Prop)=>Gb s_1 blocked a b (fun x17=>KD s_1 blocked a b (fun x18=>Ite (x17 != x18) (J16 true) (KP s_1 blocked a (fun x20=>Qw s_1 blocked a (fun x21=>Q7 x20 x21 (fun x22=>Ite x22 (Xv s_1 st (fun x24=>K2 s_1 st (fun x25=>QQ x24 x25 (fun x26=>J16 (!x26))))) (J16 true)))))))) (fun x15=>Ite x15 (post false) (Jn (fun (J31:Bool→Prop)=>Ite x5 (KQ l (fun x33=>K3 l (fun x34=>Q7 x33 x34 (fun x35=>Ite x35 (X9 l (fun x37=>Kw l (fun x38=>QQ x37 x38 (fun x39=>J31 x39)))) (J31 false))))) (J31 false)) (fun x30=>post x30))))))
end Go.Taq
