/- The verification conditions of the Go functions that are reached, in plain data (written by a program of the prover). -/
import Derived.Test.YtlaehjhkcanffaaLibX
import Derived.Test.YtlaehjhkcanffaaLibZR
set_option linter.unusedVariables false
namespace Go.Taq
open Go
structure ApiFloor where
 W:Int
 H:Int
 D:Int
 Kind:List Int
 Out:List Int
deriving DecidableEq,Inhabited
structure XI where
 From:Int
 To:Int
deriving DecidableEq,Inhabited
structure ApiZone where
 Name:ByteArray
 Cells:List Int
 Speed:Int
 Keep:Int
 Shut:List XI
deriving DecidableEq,Inhabited
structure ApiApart where
 A:ByteArray
 B:ByteArray
deriving DecidableEq,Inhabited
structure ApiShelf where
 Cell:Int
 Class:ByteArray
deriving DecidableEq,Inhabited
structure ApiStart where
 Cell:Int
 Charge:Int
deriving DecidableEq,Inhabited
structure ApiSite where
 Floor:ApiFloor
 Zones:List ApiZone
 Aparts:List ApiApart
 Shelves:List ApiShelf
 Robots:List ApiStart
deriving DecidableEq,Inhabited
structure Q4 where
 lists:List (List Int)
 owner:List (Int×Int)
deriving DecidableEq,Inhabited
structure Qw where
 x:Int
 y:Int
 z:Int
deriving DecidableEq,Inhabited
structure Xd where
 e0:Qw
 e1:Qw
 e2:Qw
 e3:Qw
 e4:Qw
 e5:Qw
deriving DecidableEq,Inhabited
structure ReachStep where
 to_:Int
 price:Int
deriving DecidableEq,Inhabited
structure ReachGraph where
 out:List (List ReachStep)
 in_:List (List Int)
 home:List Bool
deriving DecidableEq,Inhabited
structure YP (x:ApiFloor):Prop where
 W:I64 x.W
 H:I64 x.H
 D:I64 x.D
 Kind:(OkL I64) x.Kind
 Out:(OkL I64) x.Out
structure Yg (x:XI):Prop where
 From:I64 x.From
 To:I64 x.To
structure WX (x:ApiZone):Prop where
 Name:OkS x.Name
 Cells:(OkL I64) x.Cells
 Speed:I64 x.Speed
 Keep:I64 x.Keep
 Shut:(OkL Yg) x.Shut
structure Wx (x:ApiApart):Prop where
 A:OkS x.A
 B:OkS x.B
structure Wq (x:ApiShelf):Prop where
 Cell:I64 x.Cell
 Class:OkS x.Class
structure Wu (x:ApiStart):Prop where
 Cell:I64 x.Cell
 Charge:I64 x.Charge
structure OkApiSite (x:ApiSite):Prop where
 Floor:YP x.Floor
 Zones:(OkL WX) x.Zones
 Aparts:(OkL Wx) x.Aparts
 Shelves:(OkL Wq) x.Shelves
 Robots:(OkL Wu) x.Robots
def Qd (self:(Int×Q4×List (Int×Bool)×Int)→((Bool×Q4×List (Int×Bool)×Int)→Prop)→Prop) (robot:Int) (v1:Q4) (c1:List (Int×Bool)) (c2:Int) (post:(Bool×Q4×List (Int×Bool)×Int)→Prop):Prop:=
 ∃x5,idx v1.lists robot=some x5∧Jn (fun (J7:(List (List Int)×List (Int×Int)×List (Int×Bool)×Int)→Prop)=>Loop (fun (s8:List (List Int)×List (Int×Int)×List (Int×Bool)×Int×Int) Y9=>Ite (decide (s8.2.2.2.2<(x5.length:Int))) (Jn (fun (J14:(List (List Int)×List (Int×Int)×List (Int×Bool)×Int)→Prop)=>∃x17,idx x5 s8.2.2.2.2=some x17∧Ite ((lk s8.2.2.1 x17).getD false) (J14 (s8.1,s8.2.1,s8.2.2.1,s8.2.2.2.1)) (Jn (fun (J26:(List (List Int)×List (Int×Int)×List (Int×Bool)×Int×Bool)→Prop)=>Ite ((lk s8.2.1 x17).isSome) (Ite (decide (((lk s8.2.1 x17).getD 0)≥s8.2.2.2.1)) (self (((lk s8.2.1 x17).getD 0),({lists:=s8.1,owner:=s8.2.1:Q4}),(upd s8.2.2.1 x17 true),s8.2.2.2.1) (fun x29=>J26 (x29.2.1.lists,x29.2.1.owner,x29.2.2.1,x29.2.2.2,x29.1))) (J26 (s8.1,s8.2.1,(upd s8.2.2.1 x17 true),s8.2.2.2.1,false))) (J26 (s8.1,s8.2.1,(upd s8.2.2.1 x17 true),s8.2.2.2.1,true))) (fun x25=>Ite x25.2.2.2.2 (post (true,({lists:=x25.1,owner:=(upd x25.2.1 x17 robot):Q4}),x25.2.2.1,x25.2.2.2.1)) (J14 (x25.1,x25.2.1,x25.2.2.1,x25.2.2.2.1))))) (fun x13=>Y9 (x13.1,x13.2.1,x13.2.2.1,x13.2.2.2,w64 (s8.2.2.2.2+1)))) (J7 (s8.1,s8.2.1,s8.2.2.1,s8.2.2.2.1))) (v1.lists,v1.owner,c1,c2,0)) (fun x6=>post (false,({lists:=x6.1,owner:=x6.2.1:Q4}),x6.2.2.1,x6.2.2.2))
def Qu (robot:Int) (v1:Q4) (c1:List (Int×Bool)) (c2:Int) (post:(Bool×Q4×List (Int×Bool)×Int)→Prop):Prop:=
 Rec (fun self (a:Int×Q4×List (Int×Bool)×Int) (post:(Bool×Q4×List (Int×Bool)×Int)→Prop)=>Qd self a.1 a.2.1 a.2.2.1 a.2.2.2 post) (robot,v1,c1,c2) post
def Qz (robot:Int) (first:Int) (m:Q4) (post:(Bool×Q4)→Prop):Prop:=
 Qu robot m ([]:List (Int×Bool)) first (fun x11=>post (x11.1,x11.2.1))
def X0 (l:List (List Int)) (given:List Int) (post:Int→Prop):Prop:=
 Jn (fun (J8:(List (Int×Int))→Prop)=>Loop (fun (s9:List (Int×Int)×Int) Y10=>Ite (decide (s9.2<(given.length:Int))) (∃x16,idx given s9.2=some x16∧Jn (fun (J20:(List (Int×Int))→Prop)=>Ite (decide (x16≥0)) (J20 (upd s9.1 x16 s9.2)) (J20 s9.1)) (fun x19=>Y10 (x19,w64 (s9.2+1)))) (J8 s9.1)) ((([]:List (Int×Int)),0):List (Int×Int)×Int)) (fun x7=>Jn (fun (J29:(List (List Int)×List (Int×Int))→Prop)=>Loop (fun (s30:List (List Int)×List (Int×Int)×Int) Y31=>Ite (decide (s30.2.2<(l.length:Int))) (Qz s30.2.2 (given.length:Int) ({lists:=s30.1,owner:=s30.2.1:Q4}) (fun x37=>Y31 (x37.2.lists,x37.2.owner,w64 (s30.2.2+1)))) (J29 (s30.1,s30.2.1))) (l,x7,(given.length:Int))) (fun x28=>post (x28.2.length:Int)))
def QC (s_1:List Int) (post:(List Int)→Prop):Prop:=
 post (s_1)
def Q5 (seq_c0:List Int) (s_1:List Int) (post:(List Int)→Prop):Prop:=
 (seq_c0.length≤1099511627776)∧Each (fun (x5:Int) (s6:List Int) Y7=>(s6.length+([x5]:List Int).length≤1099511627776)∧Y7 (s6++([x5]:List Int))) (fun (s12:List Int)=>post s12) seq_c0 s_1
def Qa (seq_c0:List Int) (post:(List Int)→Prop):Prop:=
 Q5 seq_c0 [] (fun x5=>post x5)
def QI (p0:List Int) (post:List Int→Prop):Prop:=
 p0.length≤1099511627776∧post (p0.mergeSort fun x y=>decide (x≤y))
def Q6 (seq_c0:List Int) (post:(List Int)→Prop):Prop:=
 Qa seq_c0 (fun x5=>QI x5 (fun x8=>post x8))
def V_slices_Compact_int_int__o0 (s_1:List Int) (post:(List Int)→Prop):Prop:=
 Ite (decide ((s_1.length:Int)<2)) (post s_1) (Jn (fun (J11:Unit→Prop)=>Loop (fun (s12:Int) Y13=>Ite (decide (s12<(s_1.length:Int))) (Jn (fun (J18:Unit→Prop)=>∃x21,idx s_1 s12=some x21∧∃x22,idx s_1 (w64 (s12-1))=some x22∧Ite (x21 == x22) ((0≤s12∧s12≤(s_1.length:Int)∧(s_1.length:Int)≤(s_1.length:Int))∧Jn (fun (J30:(List Int×Int)→Prop)=>Loop (fun (s31:List Int×Int×Int) Y32=>Ite (decide (s31.2.2<((Int.toNat ((s_1.length:Int)-s12)):Int))) ((0≤s31.2.2∧s31.2.2<((Int.toNat ((s_1.length:Int)-s12)):Int))∧∃x39,s31.1[((Int.toNat s12)+Int.toNat s31.2.2)]?=some x39∧(0≤(w64 (s31.2.2-1))∧(w64 (s31.2.2-1))<((Int.toNat ((s_1.length:Int)-s12)):Int))∧∃x41,s31.1[((Int.toNat s12)+Int.toNat (w64 (s31.2.2-1)))]?=some x41∧Jn (fun (J43:(List Int×Int)→Prop)=>Ite (x39 != x41) ((0≤s31.2.2∧s31.2.2<((Int.toNat ((s_1.length:Int)-s12)):Int))∧∃x48,idx s31.1 s31.2.1=some x48∧J43 ((s31.1.set (Int.toNat s31.2.1) x39),w64 (s31.2.1+1))) (J43 (s31.1,s31.2.1))) (fun x42=>Y32 (x42.1,x42.2,w64 (s31.2.2+1)))) (J30 (s31.1,s31.2.1))) (s_1,s12,1)) (fun x29=>(0≤x29.2∧x29.2≤(x29.1.length:Int)∧(x29.1.length:Int)≤(x29.1.length:Int))∧((Int.toNat x29.2)+(Int.toNat ((x29.1.length:Int)-x29.2))≤x29.1.length)∧(0≤(0:Int)∧(0:Int)≤x29.2∧x29.2≤((x29.1.take (Int.toNat x29.2)++(List.replicate (Int.toNat ((x29.1.length:Int)-x29.2)) 0++x29.1.drop ((Int.toNat x29.2)+(Int.toNat ((x29.1.length:Int)-x29.2))))).length:Int))∧post (sub (x29.1.take (Int.toNat x29.2)++(List.replicate (Int.toNat ((x29.1.length:Int)-x29.2)) 0++x29.1.drop ((Int.toNat x29.2)+(Int.toNat ((x29.1.length:Int)-x29.2))))) 0 x29.2))) (J18 ())) (fun x17=>Y13 (w64 (s12+1)))) (J11 ())) 1) (fun x10=>post s_1))
def QG (s_1:List Int) (v:Int) (post:Int→Prop):Prop:=
 Jn (fun (J6:Unit→Prop)=>Loop (fun (s7:Int) Y8=>Ite (decide (s7<(s_1.length:Int))) (∃x16,idx s_1 s7=some x16∧Ite (v == x16) (post s7) (Y8 (w64 (s7+1)))) (J6 ())) 0) (fun x5=>post (-1))
def Qg (s_1:List Int) (v:Int) (post:Bool→Prop):Prop:=
 QG s_1 v (fun x5=>post (decide (x5≥0)))
def QF (s_1:List Int) (post:(List Int)→Prop):Prop:=
 ∀hb5:Bool,(hb5=true→s_1=[])→Ite (hb5 == true) (post []) ((([]:List Int).length+s_1.length≤1099511627776)∧post (([]:List Int)++s_1))
def KC (l:List (List Int)) (post:(List Int)→Prop):Prop:=
 X0 l [] (fun x5=>Jn (fun (J11:(List Int)→Prop)=>Loop (fun (s12:List Int×Int) Y13=>Ite (decide (s12.2<(l.length:Int))) (Jn (fun (J18:(List Int)→Prop)=>∃x21,idx l s12.2=some x21∧QC x21 (fun x26=>Q6 x26 (fun x27=>V_slices_Compact_int_int__o0 x27 (fun x28=>Jn (fun (J30:Int→Prop)=>Loop (fun (s31:Int) Y32=>Ite (decide (s31<(x28.length:Int))) (∃x38,idx x28 s31=some x38∧Jn (fun (J40:Bool→Prop)=>Qg s12.1 x38 (fun x41=>Ite x41 (J40 false) (QF s12.1 (fun x43=>(x43.length+([x38]:List Int).length≤1099511627776)∧X0 l (x43++([x38]:List Int)) (fun x45=>J40 (x45 == x5)))))) (fun x39=>Ite x39 (J30 x38) (Y32 (w64 (s31+1))))) (J30 (-1))) 0) (fun x29=>(s12.1.length+([x29]:List Int).length≤1099511627776)∧J18 (s12.1++([x29]:List Int))))))) (fun x17=>Y13 (x17,w64 (s12.2+1)))) (J11 s12.1)) (([],0):List Int×Int)) (fun x10=>post x10))
def Qs (s_1:List (List Int)) (post:(List (List Int))→Prop):Prop:=
 ∀hb5:Bool,(hb5=true→s_1=[])→Ite (hb5 == true) (post []) ((([]:List (List Int)).length+s_1.length≤1099511627776)∧post (([]:List (List Int))++s_1))
def KH (c:Int) (post:Bool→Prop):Prop:=
 post (decide (c≥0))
def Qf (s_1:List Int) (post:Int→Prop):Prop:=
 Jn (fun (J6:Unit→Prop)=>Loop (fun (s7:Int) Y8=>Ite (decide (s7<(s_1.length:Int))) (∃x16,idx s_1 s7=some x16∧KH x16 (fun x17=>Ite x17 (post s7) (Y8 (w64 (s7+1))))) (J6 ())) 0) (fun x5=>post (-1))
def Q8 (s_1:List Int) (post:Bool→Prop):Prop:=
 Qf s_1 (fun x5=>post (decide (x5≥0)))
def KP (l:List (List Int)) (post:(List (List Int))→Prop):Prop:=
 Qs l (fun x5=>Loop (fun (s10:List (List Int)×List (List Int)) Y11=>Jn (fun (J13:(List (List Int)×List (List Int))→Prop)=>KC s10.1 (fun x16=>Q8 x16 (fun x19=>Ite (!x19) (post s10.2) (Jn (fun (J26:(List (List Int))→Prop)=>Loop (fun (s27:List (List Int)×Int) Y28=>Ite (decide (s27.2<(x16.length:Int))) (∃x34,idx x16 s27.2=some x34∧Jn (fun (J38:(List (List Int))→Prop)=>Ite (decide (x34≥0)) (∃x42,idx s27.1 s27.2=some x42∧J38 (s27.1.set (Int.toNat s27.2) [])) (J38 s27.1)) (fun x37=>Y28 (x37,w64 (s27.2+1)))) (J26 s27.1)) (s10.1,0)) (fun x25=>(s10.2.length+1≤1099511627776)∧J13 (x25,((s10.2++[x16]).set (s10.2.length) x16))))))) (fun x12=>Y11 (x12.1,x12.2))) ((x5,[]):List (List Int)×List (List Int)))
def Qc (a:List Int) (b:List Int) (post:Bool→Prop):Prop:=
 Ite ((a.length:Int) != (b.length:Int)) (post false) (Jn (fun (J11:Unit→Prop)=>Loop (fun (s12:Int) Y13=>Ite (decide (s12<(a.length:Int))) (∃x19,idx a s12=some x19∧∃x20,idx b s12=some x20∧Ite (x19 != x20) (post false) (Y13 (w64 (s12+1)))) (J11 ())) 0) (fun x10=>post true))
def K5 (post:Bool→Prop):Prop:=
 KC ([([5,9]:List Int),([5]:List Int)]:List (List Int)) (fun x5=>KC ([([5,9]:List Int),([5]:List Int),([9]:List Int)]:List (List Int)) (fun x8=>KP ([([5,9]:List Int),([5]:List Int),([9]:List Int)]:List (List Int)) (fun x11=>KP ([([5]:List Int),[],([5]:List Int)]:List (List Int)) (fun x14=>Jn (fun (J16:Bool→Prop)=>Ite ((x11.length:Int) != 2) (J16 true) (J16 ((x14.length:Int) != 2))) (fun x15=>Ite x15 (post false) (Jn (fun (J22:Bool→Prop)=>Qc x5 ([9,5]:List Int) (fun x23=>Ite x23 (Qc x8 ([5,(-1),9]:List Int) (fun x25=>Ite x25 (∃x27,idx x11 0=some x27∧Qc x27 x8 (fun x28=>Ite x28 (∃x30,idx x11 1=some x30∧((Int.toNat 0)≠(Int.toNat 1))∧Qc x30 ([(-1),5,(-1)]:List Int) (fun x32=>Ite x32 (∃x34,idx x14 0=some x34∧Qc x34 ([5,(-1),(-1)]:List Int) (fun x35=>Ite x35 (∃x37,idx x14 1=some x37∧((Int.toNat 0)≠(Int.toNat 1))∧Qc x37 ([(-1),(-1),5]:List Int) (fun x39=>J22 x39)) (J22 false))) (J22 false))) (J22 false))) (J22 false))) (J22 false))) (fun x21=>post x21)))))))
def Kh (f:ApiFloor) (n:Int) (post:Bool→Prop):Prop:=
 Jn (fun (J4:Bool→Prop)=>Ite (decide ((f.Kind.length:Int)≤n)) (J4 (decide ((f.Out.length:Int)≤n))) (J4 false)) (fun x3=>post x3)
def Kf (s_1:ApiSite) (cells:Int) (most:Int) (post:Bool→Prop):Prop:=
 Jn (fun (J6:Unit→Prop)=>Loop (fun (s7:Int) Y8=>Jn (fun (J10:Bool→Prop)=>Ite (decide (s7<(s_1.Zones.length:Int))) (J10 (decide (s7≤most))) (J10 false)) (fun x9=>Ite x9 (Jn (fun (J14:Bool→Prop)=>∃x15,idx s_1.Zones s7=some x15∧Ite (decide ((x15.Cells.length:Int)>cells)) (J14 true) (Ite (decide ((x15.Shut.length:Int)>20)) (J14 true) (J14 (decide ((x15.Name.size:Int)>40))))) (fun x13=>Ite x13 (post false) (Y8 (w64 (s7+1))))) (J6 ()))) 0) (fun x5=>Jn (fun (J26:Unit→Prop)=>Loop (fun (s27:Int) Y28=>Jn (fun (J30:Bool→Prop)=>Ite (decide (s27<(s_1.Aparts.length:Int))) (J30 (decide (s27≤most))) (J30 false)) (fun x29=>Ite x29 (Jn (fun (J34:Bool→Prop)=>∃x35,idx s_1.Aparts s27=some x35∧Ite (decide ((x35.A.size:Int)>40)) (J34 true) (J34 (decide ((x35.B.size:Int)>40)))) (fun x33=>Ite x33 (post false) (Y28 (w64 (s27+1))))) (J26 ()))) 0) (fun x25=>Jn (fun (J45:Unit→Prop)=>Loop (fun (s46:Int) Y47=>Jn (fun (J49:Bool→Prop)=>Ite (decide (s46<(s_1.Shelves.length:Int))) (J49 (decide (s46≤most))) (J49 false)) (fun x48=>Ite x48 (∃x54,idx s_1.Shelves s46=some x54∧Ite (decide ((x54.Class.size:Int)>40)) (post false) (Y47 (w64 (s46+1)))) (J45 ()))) 0) (fun x44=>Jn (fun (J61:Bool→Prop)=>Kh s_1.Floor cells (fun x62=>Ite x62 (Ite (decide ((s_1.Zones.length:Int)≤most)) (Ite (decide ((s_1.Aparts.length:Int)≤most)) (Ite (decide ((s_1.Shelves.length:Int)≤most)) (J61 (decide ((s_1.Robots.length:Int)≤most))) (J61 false)) (J61 false)) (J61 false)) (J61 false))) (fun x60=>post x60))))
def K0 (f:ApiFloor) (post:Bool→Prop):Prop:=
 Jn (fun (J4:Bool→Prop)=>Ite (decide (f.W<1)) (J4 true) (Ite (decide (f.H<1)) (J4 true) (Ite (decide (f.D<1)) (J4 true) (Ite (decide (f.D>4)) (J4 true) (Ite (decide (f.W>4096)) (J4 true) (J4 (decide (f.H>4096)))))))) (fun x3=>Ite x3 (post false) (Jn (fun (J16:Bool→Prop)=>Ite (decide ((w64 ((w64 (f.W*f.H))*f.D))>4096)) (J16 true) (Ite ((f.Kind.length:Int) != (w64 ((w64 (f.W*f.H))*f.D))) (J16 true) (J16 ((f.Out.length:Int) != (w64 ((w64 (f.W*f.H))*f.D)))))) (fun x15=>Ite x15 (post false) (Jn (fun (J25:Unit→Prop)=>Loop (fun (s26:Int) Y27=>Ite (decide (s26<(w64 ((w64 (f.W*f.H))*f.D)))) (Jn (fun (J32:Bool→Prop)=>∃x33,idx f.Kind s26=some x33∧Ite (decide (x33<0)) (J32 true) (Ite (decide (x33≥7)) (J32 true) (∃x36,idx f.Out s26=some x36∧Ite (decide (x36<0)) (J32 true) (J32 (decide (x36>63)))))) (fun x31=>Ite x31 (post false) (Y27 (w64 (s26+1))))) (J25 ())) 0) (fun x24=>post true)))))
def Qr (s_1:ByteArray) (post:Bool→Prop):Prop:=
 Jn (fun (J6:Unit→Prop)=>Loop (fun (s7:Int) Y8=>Ite (decide (s7<(s_1.size:Int))) (∃x14,idx s_1.data.toList s7=some x14∧Jn (fun (J16:Bool→Prop)=>Ite (decide ((x14.toNat:Int)≥48)) (J16 (decide ((x14.toNat:Int)≤57))) (J16 false)) (fun x15=>Jn (fun (J19:Bool→Prop)=>Ite (decide ((x14.toNat:Int)≥97)) (Ite (decide ((x14.toNat:Int)≤122)) (Ite (s7 == 0) (J19 x15) (J19 false)) (Ite (decide ((x14.toNat:Int)≥65)) (Ite (decide ((x14.toNat:Int)≤90)) (Ite (s7 == 0) (J19 x15) (J19 false)) (Ite x15 (Ite (s7 == 0) (J19 x15) (J19 false)) (Ite ((x14.toNat:Int) == 95) (Ite (s7 == 0) (J19 x15) (J19 false)) (Ite ((x14.toNat:Int) == 45) (Ite (s7 == 0) (J19 x15) (J19 false)) (J19 true))))) (Ite x15 (Ite (s7 == 0) (J19 x15) (J19 false)) (Ite ((x14.toNat:Int) == 95) (Ite (s7 == 0) (J19 x15) (J19 false)) (Ite ((x14.toNat:Int) == 45) (Ite (s7 == 0) (J19 x15) (J19 false)) (J19 true)))))) (Ite (decide ((x14.toNat:Int)≥65)) (Ite (decide ((x14.toNat:Int)≤90)) (Ite (s7 == 0) (J19 x15) (J19 false)) (Ite x15 (Ite (s7 == 0) (J19 x15) (J19 false)) (Ite ((x14.toNat:Int) == 95) (Ite (s7 == 0) (J19 x15) (J19 false)) (Ite ((x14.toNat:Int) == 45) (Ite (s7 == 0) (J19 x15) (J19 false)) (J19 true))))) (Ite x15 (Ite (s7 == 0) (J19 x15) (J19 false)) (Ite ((x14.toNat:Int) == 95) (Ite (s7 == 0) (J19 x15) (J19 false)) (Ite ((x14.toNat:Int) == 45) (Ite (s7 == 0) (J19 x15) (J19 false)) (J19 true)))))) (fun x18=>Ite x18 (post false) (Y8 (w64 (s7+1)))))) (J6 ())) 0) (fun x5=>Jn (fun (J59:Bool→Prop)=>Ite (decide ((s_1.size:Int)≥1)) (J59 (decide ((s_1.size:Int)≤20))) (J59 false)) (fun x58=>post x58))
def K4 (l:List ApiZone) (name:ByteArray) (post:Int→Prop):Prop:=
 Jn (fun (J6:Unit→Prop)=>Loop (fun (s7:Int) Y8=>Ite (decide (s7<(l.length:Int))) (∃x14,idx l s7=some x14∧Ite (seq x14.Name name) (post s7) (Y8 (w64 (s7+1)))) (J6 ())) 0) (fun x5=>post (-1))
def K6 (l:List XI) (post:Bool→Prop):Prop:=
 Jn (fun (J8:Unit→Prop)=>Loop (fun (s9:Int×Int) Y10=>Ite (decide (s9.2<(l.length:Int))) (Jn (fun (J15:Bool→Prop)=>∃x16,idx l s9.2=some x16∧Ite (decide (x16.From<s9.1)) (J15 true) (Ite (decide (x16.From≥x16.To)) (J15 true) (J15 (decide (x16.To>20000))))) (fun x14=>Ite x14 (post false) (∃x24,idx l s9.2=some x24∧Y10 (x24.To,w64 (s9.2+1))))) (J8 ())) (0,0)) (fun x7=>post true)
def Ka (f:ApiFloor) (post:Int→Prop):Prop:=
 post (w64 ((w64 (f.W*f.H))*f.D))
def Qt (f:ApiFloor) (c:Int) (post:Bool→Prop):Prop:=
 Jn (fun (J4:Bool→Prop)=>Ite (decide (c≥0)) (Ka f (fun x6=>J4 (decide (c<x6)))) (J4 false)) (fun x3=>post x3)
def K3 (kind:Int) (post:Bool→Prop):Prop:=
 Jn (fun (J4:Bool→Prop)=>Ite (kind != 0) (Ite (kind != 4) (J4 (kind != 5)) (J4 false)) (J4 false)) (fun x3=>post x3)
def QB (l:List Int) (n:Int) (post:Bool→Prop):Prop:=
 Jn (fun (J6:Unit→Prop)=>Loop (fun (s7:Int) Y8=>Ite (decide (s7<(l.length:Int))) (∃x14,idx l s7=some x14∧Ite (x14 == n) (post true) (Y8 (w64 (s7+1)))) (J6 ())) 0) (fun x5=>post false)
def QU (l:List ApiZone) (c:Int) (post:Bool→Prop):Prop:=
 Jn (fun (J6:Unit→Prop)=>Loop (fun (s7:Int) Y8=>Ite (decide (s7<(l.length:Int))) (∃x14,idx l s7=some x14∧QB x14.Cells c (fun x15=>Ite x15 (post true) (Y8 (w64 (s7+1))))) (J6 ())) 0) (fun x5=>post false)
def Qx (s_1:ApiSite) (post:Bool→Prop):Prop:=
 Jn (fun (J6:Unit→Prop)=>Loop (fun (s7:Int) Y8=>Ite (decide (s7<(s_1.Zones.length:Int))) (Jn (fun (J13:Unit→Prop)=>∃x16,idx s_1.Zones s7=some x16∧Jn (fun (J18:Bool→Prop)=>Qr x16.Name (fun x19=>Ite x19 ((0≤(0:Int)∧(0:Int)≤s7∧s7≤(s_1.Zones.length:Int))∧K4 (sub s_1.Zones 0 s7) x16.Name (fun x22=>Ite (decide (x22≥0)) (J18 true) (Ite ((x16.Cells.length:Int) == 0) (J18 true) (Ite (decide (x16.Speed<1)) (J18 true) (Ite (decide (x16.Speed>100)) (J18 true) (Ite (decide (x16.Keep<0)) (J18 true) (K6 x16.Shut (fun x28=>J18 (!x28))))))))) (J18 true))) (fun x17=>Ite x17 (post false) (Jn (fun (J35:Unit→Prop)=>Loop (fun (s36:Int) Y37=>Ite (decide (s36<(x16.Cells.length:Int))) (∃x43,idx x16.Cells s36=some x43∧Jn (fun (J45:Bool→Prop)=>Qt s_1.Floor x43 (fun x46=>Ite x46 (Ite (decide (s36>0)) (∃x49,idx x16.Cells (imax (w64 (s36-1)) 0)=some x49∧J45 (decide (x49≥x43))) (J45 false)) (J45 true))) (fun x44=>Ite x44 (post false) (Jn (fun (J54:Bool→Prop)=>∃x55,idx s_1.Floor.Kind x43=some x55∧K3 x55 (fun x56=>Ite x56 ((0≤(0:Int)∧(0:Int)≤s7∧s7≤(s_1.Zones.length:Int))∧QU (sub s_1.Zones 0 s7) x43 (fun x59=>J54 x59)) (J54 true))) (fun x53=>Ite x53 (post false) (Y37 (w64 (s36+1))))))) (J35 ())) 0) (fun x34=>J13 ())))) (fun x12=>Y8 (w64 (s7+1)))) (J6 ())) 0) (fun x5=>post (decide ((s_1.Zones.length:Int)≤64)))
def QH (l:List ApiApart) (a:ByteArray) (b:ByteArray) (post:Bool→Prop):Prop:=
 Jn (fun (J6:Unit→Prop)=>Loop (fun (s7:Int) Y8=>Jn (fun (J10:Bool→Prop)=>Ite (decide (s7<(l.length:Int))) (Ite (seq a ByteArray.empty) (J10 false) (J10 (!(seq b ByteArray.empty)))) (J10 false)) (fun x9=>Ite x9 (Jn (fun (J15:Bool→Prop)=>∃x16,idx l s7=some x16∧Ite (seq x16.A a) (Ite (seq x16.B b) (J15 true) (Ite (seq x16.A b) (J15 (seq x16.B a)) (J15 false))) (Ite (seq x16.A b) (J15 (seq x16.B a)) (J15 false))) (fun x14=>Ite x14 (post true) (Y8 (w64 (s7+1))))) (J6 ()))) 0) (fun x5=>post false)
def QE (kind:Int) (post:Bool→Prop):Prop:=
 Jn (fun (J4:Bool→Prop)=>Ite (kind == 1) (J4 true) (J4 (kind == 2))) (fun x3=>post x3)
def Qp (l:List ApiShelf) (c:Int) (post:Int→Prop):Prop:=
 Jn (fun (J6:Unit→Prop)=>Loop (fun (s7:Int) Y8=>Ite (decide (s7<(l.length:Int))) (∃x14,idx l s7=some x14∧Ite (x14.Cell == c) (post s7) (Y8 (w64 (s7+1)))) (J6 ())) 0) (fun x5=>post (-1))
def QK (l:List ApiStart) (c:Int) (post:Bool→Prop):Prop:=
 Jn (fun (J6:Unit→Prop)=>Loop (fun (s7:Int) Y8=>Ite (decide (s7<(l.length:Int))) (∃x14,idx l s7=some x14∧Ite (x14.Cell == c) (post true) (Y8 (w64 (s7+1)))) (J6 ())) 0) (fun x5=>post false)
def QQ (s_1:ApiSite) (z:ApiZone) (post:Int→Prop):Prop:=
 Jn (fun (J8:Int→Prop)=>Loop (fun (s9:Int×Int) Y10=>Ite (decide (s9.2<(z.Cells.length:Int))) (Jn (fun (J15:Bool→Prop)=>∃x16,idx z.Cells s9.2=some x16∧∃x17,idx s_1.Floor.Kind x16=some x17∧QE x17 (fun x18=>Ite x18 (Qp s_1.Shelves x16 (fun x20=>J15 (decide (x20<0)))) (J15 false))) (fun x14=>Jn (fun (J22:Int→Prop)=>Ite x14 (J22 (w64 (s9.1+1))) (J22 s9.1)) (fun x21=>Y10 (x21,w64 (s9.2+1))))) (J8 s9.1)) (0,0)) (fun x7=>post x7)
def Kn (f:ApiFloor) (c:Int) (post:(Int×Int×Int)→Prop):Prop:=
 Qt f c (fun x5=>Ite (!x5) (post (0,0,0)) ((f.W≠0)∧(f.W≠0)∧(f.H≠0)∧(f.W≠0)∧(f.H≠0)∧post (c.tmod f.W,(w64 (c.tdiv f.W)).tmod f.H,w64 ((w64 (c.tdiv f.W)).tdiv f.H))))
def Qh (f:ApiFloor) (x_1:Int) (y_1:Int) (z:Int) (post:Int→Prop):Prop:=
 Jn (fun (J4:Bool→Prop)=>Ite (decide (x_1<0)) (J4 true) (Ite (decide (x_1≥f.W)) (J4 true) (Ite (decide (y_1<0)) (J4 true) (Ite (decide (y_1≥f.H)) (J4 true) (Ite (decide (z<0)) (J4 true) (J4 (decide (z≥f.D)))))))) (fun x3=>Ite x3 (post (-1)) (post (w64 ((w64 ((w64 ((w64 (z*f.H))+y_1))*f.W))+x_1))))
def QR (f:ApiFloor) (c:Int) (d:Int) (post:Int→Prop):Prop:=
 Qt f c (fun x5=>Ite (!x5) (post (-1)) (Kn f c (fun x11=>Ite (d == 0) (Qh f (w64 (x11.1+1)) x11.2.1 x11.2.2 (fun x19=>post x19)) (Ite (d == 1) (Qh f x11.1 (w64 (x11.2.1+1)) x11.2.2 (fun x25=>post x25)) (Ite (d == 2) (Qh f (w64 (x11.1-1)) x11.2.1 x11.2.2 (fun x31=>post x31)) (Ite (d == 3) (Qh f x11.1 (w64 (x11.2.1-1)) x11.2.2 (fun x37=>post x37)) (Ite (d == 4) (Qh f x11.1 x11.2.1 (w64 (x11.2.2+1)) (fun x43=>post x43)) (Ite (d == 5) (Qh f x11.1 x11.2.1 (w64 (x11.2.2-1)) (fun x49=>post x49)) (post (-1))))))))))
def QT (s_1:ApiSite) (post:Int→Prop):Prop:=
 Jn (fun (J6:Unit→Prop)=>Loop (fun (s7:Int) Y8=>Ite (decide (s7<(s_1.Shelves.length:Int))) (Jn (fun (J13:Unit→Prop)=>Jn (fun (J17:Unit→Prop)=>Loop (fun (s18:Int) Y19=>Ite (decide (s18<4)) (∃x25,idx s_1.Shelves s7=some x25∧QR s_1.Floor x25.Cell s18 (fun x26=>Qp s_1.Shelves x26 (fun x29=>Jn (fun (J31:Bool→Prop)=>Ite (decide (x26≥0)) (Ite (decide (x29≥0)) (Ite (decide (x29<s7)) (∃x35,idx s_1.Shelves (imax x29 0)=some x35∧QH s_1.Aparts x25.Class x35.Class (fun x36=>J31 x36)) (J31 false)) (J31 false)) (J31 false)) (fun x30=>Ite x30 (post s7) (Y19 (w64 (s18+1))))))) (J17 ())) 0) (fun x16=>J13 ())) (fun x12=>Y8 (w64 (s7+1)))) (J6 ())) 0) (fun x5=>post (-1))
def QJ (f:ApiFloor) (post:Bool→Prop):Prop:=
 QB f.Kind 3 (fun x5=>post x5)
def K1 (s_1:ApiSite) (post:Bool→Prop):Prop:=
 Jn (fun (J4:Bool→Prop)=>K0 s_1.Floor (fun x5=>Ite x5 (Qx s_1 (fun x7=>Ite x7 (Ite (decide ((s_1.Shelves.length:Int)>3000)) (J4 true) (J4 (decide ((s_1.Robots.length:Int)>200)))) (J4 true))) (J4 true))) (fun x3=>Ite x3 (post false) (Jn (fun (J16:Unit→Prop)=>Loop (fun (s17:Int) Y18=>Ite (decide (s17<(s_1.Aparts.length:Int))) (∃x24,idx s_1.Aparts s17=some x24∧Jn (fun (J26:Bool→Prop)=>Qr x24.A (fun x27=>Ite x27 (Qr x24.B (fun x29=>Ite x29 ((0≤(0:Int)∧(0:Int)≤s17∧s17≤(s_1.Aparts.length:Int))∧QH (sub s_1.Aparts 0 s17) x24.A x24.B (fun x32=>J26 x32)) (J26 true))) (J26 true))) (fun x25=>Ite x25 (post false) (Y18 (w64 (s17+1))))) (J16 ())) 0) (fun x15=>Jn (fun (J41:Unit→Prop)=>Loop (fun (s42:Int) Y43=>Ite (decide (s42<(s_1.Shelves.length:Int))) (∃x49,idx s_1.Shelves s42=some x49∧Jn (fun (J51:Bool→Prop)=>Qt s_1.Floor x49.Cell (fun x52=>Ite x52 (Ite (seq x49.Class ByteArray.empty) (J51 false) (Qr x49.Class (fun x55=>J51 (!x55)))) (J51 true))) (fun x50=>Ite x50 (post false) (Jn (fun (J60:Bool→Prop)=>∃x61,idx s_1.Floor.Kind x49.Cell=some x61∧QE x61 (fun x62=>Ite x62 ((0≤(0:Int)∧(0:Int)≤s42∧s42≤(s_1.Shelves.length:Int))∧Qp (sub s_1.Shelves 0 s42) x49.Cell (fun x65=>J60 (decide (x65≥0)))) (J60 true))) (fun x59=>Ite x59 (post false) (Y43 (w64 (s42+1))))))) (J41 ())) 0) (fun x40=>Jn (fun (J74:Unit→Prop)=>Loop (fun (s75:Int) Y76=>Ite (decide (s75<(s_1.Robots.length:Int))) (∃x82,idx s_1.Robots s75=some x82∧Jn (fun (J84:Bool→Prop)=>Qt s_1.Floor x82.Cell (fun x85=>Ite x85 (Ite (decide (x82.Charge<0)) (J84 true) (J84 (decide (x82.Charge>1000000)))) (J84 true))) (fun x83=>Ite x83 (post false) (Jn (fun (J92:Bool→Prop)=>∃x93,idx s_1.Floor.Kind x82.Cell=some x93∧Ite (x93 == 0) (J92 true) ((0≤(0:Int)∧(0:Int)≤s75∧s75≤(s_1.Robots.length:Int))∧QK (sub s_1.Robots 0 s75) x82.Cell (fun x96=>J92 x96))) (fun x91=>Ite x91 (post false) (Y76 (w64 (s75+1))))))) (J74 ())) 0) (fun x73=>Jn (fun (J105:Unit→Prop)=>Loop (fun (s106:Int) Y107=>Ite (decide (s106<(s_1.Zones.length:Int))) (∃x113,idx s_1.Zones s106=some x113∧QQ s_1 x113 (fun x114=>Ite (decide (x114<x113.Keep)) (post false) (Y107 (w64 (s106+1))))) (J105 ())) 0) (fun x104=>Jn (fun (J121:Bool→Prop)=>QT s_1 (fun x122=>Ite (decide (x122<0)) (QJ s_1.Floor (fun x124=>J121 x124)) (J121 false))) (fun x120=>post x120)))))))
def KF (x_1:Int) (y_1:Int) (post:(Int×Int)→Prop):Prop:=
 post (IntKind.wrap .u64 ((IntKind.wrap .u64 ((IntKind.wrap .u64 ((shrI .u64 x_1 32)*(shrI .u64 y_1 32)))+(shrI .u64 (IntKind.wrap .u64 ((IntKind.wrap .u64 ((shrI .u64 x_1 32)*(band .u64 y_1 4294967295)))+(shrI .u64 (IntKind.wrap .u64 ((band .u64 x_1 4294967295)*(band .u64 y_1 4294967295))) 32))) 32)))+(shrI .u64 (IntKind.wrap .u64 ((band .u64 (IntKind.wrap .u64 ((IntKind.wrap .u64 ((shrI .u64 x_1 32)*(band .u64 y_1 4294967295)))+(shrI .u64 (IntKind.wrap .u64 ((band .u64 x_1 4294967295)*(band .u64 y_1 4294967295))) 32))) 4294967295)+(IntKind.wrap .u64 ((band .u64 x_1 4294967295)*(shrI .u64 y_1 32))))) 32)),IntKind.wrap .u64 (x_1*y_1))
def Ky (x_1:Int) (y_1:Int) (post:(Int×Int)→Prop):Prop:=
 KF x_1 y_1 (fun x5=>post (x5.1,x5.2))
def QD (x_1:List Int) (count:Int) (post:(List Int)→Prop):Prop:=
 Ite (decide (count<0)) (False) (Ky (IntKind.wrap .u64 (x_1.length:Int)) (IntKind.wrap .u64 count) (fun x12=>Jn (fun (J14:Bool→Prop)=>Ite (decide (x12.1>0)) (J14 true) (J14 (decide (x12.2>9223372036854775807)))) (fun x13=>Ite x13 (False) ((0≤(IntKind.wrap .i64 x12.2)∧(IntKind.wrap .i64 x12.2)≤1099511627776)∧Jn (fun (J27:(List Int)→Prop)=>Loop (fun (s28:List Int×Int) Y29=>Ite (decide (s28.2<(s28.1.length:Int))) ((0≤s28.2∧s28.2≤(s28.1.length:Int)∧(s28.1.length:Int)≤(s28.1.length:Int))∧(0≤(0:Int)∧(0:Int)≤s28.2∧s28.2≤(s28.1.length:Int))∧((Int.toNat s28.2)+(Int.toNat ((s28.1.length:Int)-s28.2))≤s28.1.length)∧((Int.toNat 0)+(Int.toNat (s28.2-0))≤s28.1.length)∧Y29 ((s28.1.take (Int.toNat s28.2)++(((s28.1.drop (Int.toNat 0)).take (Int.toNat (s28.2-0))).take (min ((s28.1.drop (Int.toNat 0)).take (Int.toNat (s28.2-0))).length (Int.toNat ((s28.1.length:Int)-s28.2)))++s28.1.drop ((Int.toNat s28.2)+(min ((s28.1.drop (Int.toNat 0)).take (Int.toNat (s28.2-0))).length (Int.toNat ((s28.1.length:Int)-s28.2)))))),w64 (s28.2+(((min ((s28.1.drop (Int.toNat 0)).take (Int.toNat (s28.2-0))).length (Int.toNat ((s28.1.length:Int)-s28.2))):Nat):Int)))) (J27 s28.1)) (((List.replicate (Int.toNat (IntKind.wrap .i64 x12.2)) (0:Int)).take 0++(x_1.take (min x_1.length ((List.replicate (Int.toNat (IntKind.wrap .i64 x12.2)) (0:Int)).length))++(List.replicate (Int.toNat (IntKind.wrap .i64 x12.2)) (0:Int)).drop (0+(min x_1.length ((List.replicate (Int.toNat (IntKind.wrap .i64 x12.2)) (0:Int)).length))))),(((min x_1.length ((List.replicate (Int.toNat (IntKind.wrap .i64 x12.2)) (0:Int)).length)):Nat):Int))) (fun x26=>post x26)))))
def Kw (x_1:Int) (post:Bool→Prop):Prop:=
 post (x_1 != x_1)
def X3 (x_1:Int) (y_1:Int) (post:Bool→Prop):Prop:=
 Jn (fun (J4:Bool→Prop)=>Kw x_1 (fun x5=>Ite x5 (Kw y_1 (fun x7=>Ite x7 (J4 (decide (x_1<y_1))) (J4 true))) (J4 (decide (x_1<y_1))))) (fun x3=>post x3)
def K9 (x_1:Int) (post:Bool→Prop):Prop:=
 post (x_1 != x_1)
def Qj (x_1:List Int) (target:Int) (post:(Int×Bool)→Prop):Prop:=
 Jn (fun (J8:Int→Prop)=>Loop (fun (s9:Int×Int) Y10=>Ite (decide (s9.1<s9.2)) (∃x19,idx x_1 (IntKind.wrap .i64 (shrI .u64 (IntKind.wrap .u64 (w64 (s9.1+s9.2))) 1))=some x19∧X3 x19 target (fun x20=>Jn (fun (J22:(Int×Int)→Prop)=>Ite x20 (J22 (w64 ((IntKind.wrap .i64 (shrI .u64 (IntKind.wrap .u64 (w64 (s9.1+s9.2))) 1))+1),s9.2)) (J22 (s9.1,IntKind.wrap .i64 (shrI .u64 (IntKind.wrap .u64 (w64 (s9.1+s9.2))) 1)))) (fun x21=>Y10 (x21.1,x21.2)))) (J8 s9.1)) (0,(x_1.length:Int))) (fun x7=>Jn (fun (J29:Bool→Prop)=>Ite (decide (x7<(x_1.length:Int))) (∃x31,idx x_1 x7=some x31∧Ite (x31 == target) (J29 true) (K9 x31 (fun x33=>Ite x33 (K9 target (fun x35=>J29 x35)) (J29 false)))) (J29 false)) (fun x28=>post (x7,x28)))
def Kq (z:ApiZone) (c0:Int) (post:Bool→Prop):Prop:=
 Qj z.Cells c0 (fun x5=>post x5.2)
def Q7 (s_1:List ApiZone) (f_c0:Int) (post:Int→Prop):Prop:=
 Jn (fun (J6:Unit→Prop)=>Loop (fun (s7:Int) Y8=>Ite (decide (s7<(s_1.length:Int))) (∃x16,idx s_1 s7=some x16∧Kq x16 f_c0 (fun x17=>Ite x17 (post s7) (Y8 (w64 (s7+1))))) (J6 ())) 0) (fun x5=>post (-1))
def KK (s_1:ApiSite) (c:Int) (post:Int→Prop):Prop:=
 Q7 s_1.Zones c (fun x5=>post x5)
def Kk (s_1:ApiSite) (c:Int) (post:Int→Prop):Prop:=
 KK s_1 c (fun x5=>Ite (decide (x5≥0)) (∃x11,idx s_1.Zones x5=some x11∧post x11.Speed) (post 1))
def KG (act:Int) (laden:Bool) (post:Int→Prop):Prop:=
 Jn (fun (J8:Bool→Prop)=>Ite (act == 0) (J8 (act == 0)) (J8 (act == 8))) (fun x7=>Ite x7 (post 1) (Ite (act == 7) (post 3) (Jn (fun (J27:Bool→Prop)=>Ite ((w64 (act-1)) == 0) (J27 ((w64 (act-1)) == 0)) (Jn (fun (J32:Bool→Prop)=>Ite ((w64 (act-1)) == 1) (J32 ((w64 (act-1)) == 1)) (Jn (fun (J37:Bool→Prop)=>Ite ((w64 (act-1)) == 2) (J37 ((w64 (act-1)) == 2)) (J37 ((w64 (act-1)) == 3))) (fun x36=>J32 x36))) (fun x31=>J27 x31))) (fun x26=>Jn (fun (J42:Int→Prop)=>Ite x26 (J42 2) (Jn (fun (J49:Int→Prop)=>Ite ((w64 (act-1)) == 4) (J49 5) (Jn (fun (J56:Int→Prop)=>Ite ((w64 (act-1)) == 5) (J56 1) (J56 0)) (fun x55=>J49 x55))) (fun x48=>J42 x48))) (fun x41=>Jn (fun (J61:Bool→Prop)=>Ite (decide (x41>0)) (J61 laden) (J61 false)) (fun x60=>Jn (fun (J64:Int→Prop)=>Ite x60 (J64 (w64 (x41+2))) (J64 x41)) (fun x63=>post x63)))))))
def Ks (tick:Int) (act:Int) (laden:Bool) (post:Int→Prop):Prop:=
 KG act laden (fun x8=>post (w64 ((w64 ((w64 (x8*(w64 (10+(w64 ((imin (imax tick 0) 20000).tdiv 1000))))))+9)).tdiv 10)))
def KD (post:Int→Prop):Prop:=
 Ks 20000 0 true (fun x5=>post x5)
def Xi (s_1:ApiSite) (c:Int) (post:Int→Prop):Prop:=
 ∃x5,idx s_1.Floor.Kind c=some x5∧Ite (x5 != 3) (post 0) (Kk s_1 c (fun x11=>KD (fun x12=>post (w64 ((w64 (x11-1))*x12)))))
def X9 (f:ApiFloor) (post:Int→Prop):Prop:=
 post (w64 ((w64 (f.W*f.H))*f.D))
def Xh (f:ApiFloor) (c:Int) (post:Bool→Prop):Prop:=
 Jn (fun (J4:Bool→Prop)=>Ite (decide (c≥0)) (X9 f (fun x6=>J4 (decide (c<x6)))) (J4 false)) (fun x3=>post x3)
def XD (f:ApiFloor) (c:Int) (post:(Int×Int×Int)→Prop):Prop:=
 Xh f c (fun x5=>Ite (!x5) (post (0,0,0)) ((f.W≠0)∧(f.W≠0)∧(f.H≠0)∧((w64 (f.W*f.H))≠0)∧post (c.tmod f.W,(w64 (c.tdiv f.W)).tmod f.H,w64 (c.tdiv (w64 (f.W*f.H))))))
def Xc (post:Xd→Prop):Prop:=
 post ({e0:=({x:=1,y:=0,z:=0:Qw}),e1:=({x:=0,y:=1,z:=0:Qw}),e2:=({x:=(-1),y:=0,z:=0:Qw}),e3:=({x:=0,y:=(-1),z:=0:Qw}),e4:=({x:=0,y:=0,z:=1:Qw}),e5:=({x:=0,y:=0,z:=(-1):Qw}):Xd})
def X7 (f:ApiFloor) (x_1:Int) (y_1:Int) (z:Int) (post:Int→Prop):Prop:=
 Jn (fun (J4:Bool→Prop)=>Ite (decide ((imin (imin x_1 y_1) z)<0)) (J4 true) (Ite (decide (x_1≥f.W)) (J4 true) (Ite (decide (y_1≥f.H)) (J4 true) (J4 (decide (z≥f.D)))))) (fun x3=>Ite x3 (post (-1)) (post (w64 ((w64 ((w64 ((w64 (z*f.H))+y_1))*f.W))+x_1))))
def KL (f:ApiFloor) (c:Int) (d:Int) (post:Int→Prop):Prop:=
 Jn (fun (J4:Bool→Prop)=>Xh f c (fun x5=>Ite x5 (Ite (decide (d<0)) (J4 true) (J4 (decide (d≥6)))) (J4 true))) (fun x3=>Ite x3 (post (-1)) (XD f c (fun x13=>Xc (fun x16=>∃x17,idx ([x16.e0,x16.e1,x16.e2,x16.e3,x16.e4,x16.e5]:List Qw) d=some x17∧X7 f (w64 (x13.1+x17.x)) (w64 (x13.2.1+x17.y)) (w64 (x13.2.2+x17.z)) (fun x20=>post x20)))))
def KA (f:ApiFloor) (c:Int) (d:Int) (post:(Int×Bool)→Prop):Prop:=
 KL f c d (fun x5=>Jn (fun (J7:Bool→Prop)=>Ite (decide (x5<0)) (J7 true) (∃x9,idx f.Kind c=some x9∧Ite (x9 == 0) (J7 true) (∃x11,idx f.Kind x5=some x11∧Ite (x11 == 0) (J7 true) (∃x13,idx f.Out c=some x13∧(0≤d)∧J7 ((band .i64 (shrI .i64 x13 d) 1) == 0))))) (fun x6=>Ite x6 (post (0,false)) (Jn (fun (J19:Bool→Prop)=>Ite (d == 4) (∃x21,idx f.Kind c=some x21∧Ite (x21 != 6) (J19 true) (∃x23,idx f.Kind x5=some x23∧J19 (x23 != 6))) (Ite (d == 5) (∃x25,idx f.Kind c=some x25∧Ite (x25 != 6) (J19 true) (∃x27,idx f.Kind x5=some x27∧J19 (x27 != 6))) (J19 false))) (fun x18=>Ite x18 (post (0,false)) (post (x5,true))))))
def X2 (s_1:ApiSite) (c:Int) (post:Bool→Prop):Prop:=
 Jn (fun (J4:Bool→Prop)=>Ite (decide (c≥0)) (J4 (decide (c<(s_1.Floor.Kind.length:Int)))) (J4 false)) (fun x3=>post x3)
def QZ (s_1:ApiSite) (c:Int) (post:Bool→Prop):Prop:=
 ∃x5,idx s_1.Floor.Kind c=some x5∧post (x5 == 3)
def Km (s_1:ApiSite) (d:Int) (x_1:Int) (post:Int→Prop):Prop:=
 Jn (fun (J4:Bool→Prop)=>Ite (decide (d<0)) (J4 true) (Ite (decide (d≥6)) (J4 true) (X2 s_1 x_1 (fun x7=>J4 (!x7))))) (fun x3=>Ite x3 (post 0) (Ks 20000 (w64 (1+d)) true (fun x13=>QZ s_1 x_1 (fun x16=>Jn (fun (J18:Int→Prop)=>Ite (!x16) (Kk s_1 x_1 (fun x22=>KD (fun x23=>J18 (w64 (x13+(w64 ((w64 (x22-1))*x23))))))) (J18 x13)) (fun x17=>post x17)))))
def KO (s_1:ApiSite) (blocked:List Int) (a:Int) (post:(List Int)→Prop):Prop:=
 QD ([(-1)]:List Int) (s_1.Floor.Kind.length:Int) (fun x5=>Jn (fun (J7:Bool→Prop)=>Ite (decide (a<0)) (J7 true) (Ite (decide (a≥(x5.length:Int))) (J7 true) (∃x10,idx s_1.Floor.Kind a=some x10∧J7 (x10 == 0)))) (fun x6=>Ite x6 (post x5) (∃x16,idx x5 a=some x16∧Jn (fun (J20:(List Int)→Prop)=>Loop (fun (s21:List Int×List Int) Y22=>Ite (decide ((s21.2.length:Int)>0)) (Jn (fun (J27:(List Int×List Int)→Prop)=>∃x30,idx s21.2 0=some x30∧(0≤(1:Int)∧(1:Int)≤(s21.2.length:Int)∧(s21.2.length:Int)≤(s21.2.length:Int))∧∃x36,idx s21.1 x30=some x36∧Jn (fun (J40:Int→Prop)=>Ite (x30 != a) (Xi s_1 x30 (fun x44=>J40 (w64 (x36+x44)))) (J40 x36)) (fun x39=>Jn (fun (J48:(List Int×List Int)→Prop)=>Loop (fun (s49:List Int×List Int×Int) Y50=>Ite (decide (s49.2.2<6)) (Jn (fun (J55:(List Int×List Int)→Prop)=>KA s_1.Floor x30 s49.2.2 (fun x60=>Jn (fun (J62:Bool→Prop)=>Ite x60.2 (Qg blocked x60.1 (fun x64=>J62 x64)) (J62 true)) (fun x61=>Ite x61 (J55 (s49.1,s49.2.1)) (Km s_1 s49.2.2 x60.1 (fun x68=>Jn (fun (J70:Bool→Prop)=>∃x71,idx s49.1 x60.1=some x71∧Ite (decide (x71<0)) (J70 true) (J70 (decide ((w64 (x39+x68))<x71)))) (fun x69=>Jn (fun (J74:(List Int×List Int)→Prop)=>Ite x69 (∃x78,idx s49.1 x60.1=some x78∧(s49.2.1.length+([x60.1]:List Int).length≤1099511627776)∧J74 ((s49.1.set (Int.toNat x60.1) (w64 (x39+x68))),(s49.2.1++([x60.1]:List Int)))) (J74 (s49.1,s49.2.1))) (fun x73=>J55 (x73.1,x73.2)))))))) (fun x54=>Y50 (x54.1,x54.2,w64 (s49.2.2+1)))) (J48 (s49.1,s49.2.1))) (s21.1,(sub s21.2 1 (s21.2.length:Int)),0)) (fun x47=>J27 (x47.1,x47.2)))) (fun x26=>Y22 (x26.1,x26.2))) (J20 s21.1)) ((x5.set (Int.toNat a) 0),([a]:List Int))) (fun x19=>post x19))))
def Ko (s_1:ApiSite) (blocked:List Int) (post:ReachGraph→Prop):Prop:=
 (0≤(s_1.Floor.Kind.length:Int)∧(s_1.Floor.Kind.length:Int)≤1099511627776)∧(0≤(s_1.Floor.Kind.length:Int)∧(s_1.Floor.Kind.length:Int)≤1099511627776)∧(0≤(s_1.Floor.Kind.length:Int)∧(s_1.Floor.Kind.length:Int)≤1099511627776)∧Jn (fun (J13:(List (List ReachStep)×List (List Int)×List Bool)→Prop)=>Loop (fun (s14:List (List ReachStep)×List (List Int)×List Bool×Int) Y15=>Ite (decide (s14.2.2.2<(s_1.Floor.Kind.length:Int))) (Jn (fun (J20:(List (List ReachStep)×List (List Int)×List Bool)→Prop)=>QZ s_1 s14.2.2.2 (fun x25=>∃x26,idx s14.2.2.1 s14.2.2.2=some x26∧Jn (fun (J30:(List (List ReachStep)×List (List Int))→Prop)=>Loop (fun (s31:List (List ReachStep)×List (List Int)×Int) Y32=>Ite (decide (s31.2.2<6)) (KA s_1.Floor s14.2.2.2 s31.2.2 (fun x40=>Jn (fun (J42:Bool→Prop)=>Ite x40.2 (Qg blocked x40.1 (fun x44=>J42 (!x44))) (J42 false)) (fun x41=>Jn (fun (J46:(List (List ReachStep)×List (List Int))→Prop)=>Ite x41 (∃x50,idx s31.1 s14.2.2.2=some x50∧Km s_1 s31.2.2 x40.1 (fun x51=>(x50.length+([({to_:=x40.1,price:=x51:ReachStep})]:List ReachStep).length≤1099511627776)∧∃x55,idx s31.2.1 x40.1=some x55∧(x55.length+([s14.2.2.2]:List Int).length≤1099511627776)∧J46 ((s31.1.set (Int.toNat s14.2.2.2) (x50++([({to_:=x40.1,price:=x51:ReachStep})]:List ReachStep))),(s31.2.1.set (Int.toNat x40.1) (x55++([s14.2.2.2]:List Int)))))) (J46 (s31.1,s31.2.1))) (fun x45=>Y32 (x45.1,x45.2,w64 (s31.2.2+1)))))) (J30 (s31.1,s31.2.1))) (s14.1,s14.2.1,0)) (fun x29=>J20 (x29.1,x29.2,(s14.2.2.1.set (Int.toNat s14.2.2.2) x25))))) (fun x19=>Y15 (x19.1,x19.2.1,x19.2.2,w64 (s14.2.2.2+1)))) (J13 (s14.1,s14.2.1,s14.2.2.1))) (((List.replicate (Int.toNat (s_1.Floor.Kind.length:Int)) []),(List.replicate (Int.toNat (s_1.Floor.Kind.length:Int)) []),(List.replicate (Int.toNat (s_1.Floor.Kind.length:Int)) false),0):List (List ReachStep)×List (List Int)×List Bool×Int)) (fun x12=>post ({out:=x12.1,in_:=x12.2.1,home:=x12.2.2:ReachGraph}))
def QP (p0:Int) (post:Bool→Prop):Prop:=
 post true
def QL (g_1:ReachGraph) (fuel:List Int) (c:Int) (but:Int) (post:(Int×Int)→Prop):Prop:=
 ∃x7,idx g_1.out c=some x7∧Jn (fun (J9:(Int×Int)→Prop)=>Loop (fun (s10:Int×Int×Int) Y11=>Ite (decide (s10.2.2<(x7.length:Int))) (∃x17,idx x7 s10.2.2=some x17∧∃x20,idx fuel x17.to_=some x20∧Jn (fun (J22:Bool→Prop)=>Ite (x17.to_ != but) (Ite (decide (x20≥0)) (Ite (decide (s10.1<0)) (J22 true) (J22 (decide ((w64 (x20+x17.price))<s10.1)))) (J22 false)) (J22 false)) (fun x21=>Jn (fun (J27:(Int×Int)→Prop)=>Ite x21 (J27 (w64 (x20+x17.price),x17.to_)) (J27 (s10.1,s10.2.1))) (fun x26=>Y11 (x26.1,x26.2,w64 (s10.2.2+1))))) (J9 (s10.1,s10.2.1))) ((-1),(-1),0)) (fun x8=>post (x8.1,x8.2))
def Q9 (g_1:ReachGraph) (but:Int) (fuel:List Int) (queue:List Int) (post:(List Int)→Prop):Prop:=
 Jn (fun (J2:(List Int)→Prop)=>Loop (fun (s3:List Int×List Int) Y4=>Ite (decide ((s3.2.length:Int)>0)) (Jn (fun (J9:(List Int×List Int)→Prop)=>∃x12,idx s3.2 0=some x12∧∃x13,idx g_1.in_ x12=some x13∧Jn (fun (J15:(List Int×List Int)→Prop)=>Loop (fun (s16:List Int×List Int×Int) Y17=>Ite (decide (s16.2.2<(x13.length:Int))) (Jn (fun (J22:(List Int×List Int)→Prop)=>∃x25,idx x13 s16.2.2=some x25∧Jn (fun (J27:Bool→Prop)=>∃x28,idx g_1.home x25=some x28∧Ite x28 (J27 true) (QP x25 (fun x30=>J27 (!x30)))) (fun x26=>Ite x26 (J22 (s16.1,s16.2.1)) (QL g_1 s16.1 x25 but (fun x34=>Jn (fun (J36:Bool→Prop)=>Ite (decide (x34.1≥0)) (∃x38,idx s16.1 x25=some x38∧Ite (decide (x38<0)) (J36 true) (J36 (decide (x34.1<x38)))) (J36 false)) (fun x35=>Jn (fun (J41:(List Int×List Int)→Prop)=>Ite x35 (∃x45,idx s16.1 x25=some x45∧(s16.2.1.length+([x25]:List Int).length≤1099511627776)∧J41 ((s16.1.set (Int.toNat x25) x34.1),(s16.2.1++([x25]:List Int)))) (J41 (s16.1,s16.2.1))) (fun x40=>J22 (x40.1,x40.2))))))) (fun x21=>Y17 (x21.1,x21.2,w64 (s16.2.2+1)))) (J15 (s16.1,s16.2.1))) (s3.1,s3.2,0)) (fun x14=>J9 (x14.1,x14.2))) (fun x8=>(0≤(1:Int)∧(1:Int)≤(x8.2.length:Int)∧(x8.2.length:Int)≤(x8.2.length:Int))∧Y4 (x8.1,(sub x8.2 1 (x8.2.length:Int))))) (J2 s3.1)) (fuel,queue)) (fun x1=>post x1)
def K7 (g_1:ReachGraph) (post:(List Int)→Prop):Prop:=
 (0≤(g_1.home.length:Int)∧(g_1.home.length:Int)≤1099511627776)∧Jn (fun (J11:(List Int×List Int)→Prop)=>Loop (fun (s12:List Int×List Int×Int) Y13=>Ite (decide (s12.2.2<(g_1.home.length:Int))) (∃x19,idx g_1.home s12.2.2=some x19∧∃x22,idx s12.1 s12.2.2=some x22∧Jn (fun (J26:(List Int×List Int)→Prop)=>Ite x19 ((s12.2.1.length+([s12.2.2]:List Int).length≤1099511627776)∧J26 (((s12.1.set (Int.toNat s12.2.2) (-1)).set (Int.toNat s12.2.2) 0),(s12.2.1++([s12.2.2]:List Int)))) (J26 ((s12.1.set (Int.toNat s12.2.2) (-1)),s12.2.1))) (fun x25=>Y13 (x25.1,x25.2,w64 (s12.2.2+1)))) (J11 (s12.1,s12.2.1))) (((List.replicate (Int.toNat (g_1.home.length:Int)) (0:Int)),[],0):List Int×List Int×Int)) (fun x10=>Q9 g_1 (-1) x10.1 x10.2 (fun x37=>post x37))
def X6 (s_1:ApiSite) (blocked:List Int) (post:(List Int)→Prop):Prop:=
 Ko s_1 blocked (fun x5=>K7 x5 (fun x6=>post x6))
def KX (s_1:ApiSite) (blocked:List Int) (a:Int) (b:Int) (post:Int→Prop):Prop:=
 Jn (fun (J4:Bool→Prop)=>Ite (decide (b<0)) (J4 true) (J4 (decide (b≥(s_1.Floor.Kind.length:Int))))) (fun x3=>Ite x3 (post (-1)) (KO s_1 blocked a (fun x11=>∃x12,idx x11 b=some x12∧post x12)))
def Kt (s_1:ApiSite) (c:Int) (post:Int→Prop):Prop:=
 ∃x5,idx s_1.Floor.Kind c=some x5∧Ite (x5 != 3) (post 0) (Kk s_1 c (fun x11=>KD (fun x12=>post (w64 ((w64 (x11-1))*x12)))))
def V_taquinlaw34_DockFuel (s_1:ApiSite) (blocked:List Int) (a:Int) (post:Bool→Prop):Prop:=
 K5 (fun x5=>Jn (fun (J7:Bool→Prop)=>Kf s_1 50 20 (fun x8=>Ite x8 (K1 s_1 (fun x10=>Ite x10 (J7 (decide ((blocked.length:Int)>30))) (J7 true))) (J7 true))) (fun x6=>Ite x6 (post x5) (KO s_1 blocked a (fun x17=>X6 s_1 blocked (fun x20=>Jn (fun (J22:Bool→Prop)=>Ite ((x17.length:Int) != (s_1.Floor.Kind.length:Int)) (J22 true) (J22 ((x20.length:Int) != (x17.length:Int)))) (fun x21=>Ite x21 (post false) (Jn (fun (J32:Int→Prop)=>Loop (fun (s33:Int×Int) Y34=>Ite (decide (s33.2<(x17.length:Int))) (Jn (fun (J39:Int→Prop)=>Jn (fun (J41:Bool→Prop)=>∃x42,idx s_1.Floor.Kind s33.2=some x42∧Ite (x42 == 3) (∃x44,idx x17 s33.2=some x44∧Ite (decide (x44≥0)) (Ite (decide (s33.1<0)) (J41 true) (J41 (decide (x44<s33.1)))) (J41 false)) (J41 false)) (fun x40=>Jn (fun (J48:Int→Prop)=>Ite x40 (∃x52,idx x17 s33.2=some x52∧J48 x52) (J48 s33.1)) (fun x47=>Jn (fun (J54:Bool→Prop)=>∃x55,idx x17 s33.2=some x55∧KX s_1 blocked a s33.2 (fun x56=>Ite (x56 != x55) (J54 true) (J54 (decide (x55<(-1)))))) (fun x53=>Ite x53 (post false) (Jn (fun (J64:Unit→Prop)=>Loop (fun (s65:Int) Y66=>Jn (fun (J68:Bool→Prop)=>Ite (decide (s65<6)) (∃x70,idx x17 s33.2=some x70∧J68 (decide (x70≥0))) (J68 false)) (fun x67=>Ite x67 (KA s_1.Floor s33.2 s65 (fun x74=>∃x77,idx x17 s33.2=some x77∧Jn (fun (J81:Int→Prop)=>Ite (s33.2 != a) (Kt s_1 s33.2 (fun x85=>J81 (w64 (x77+x85)))) (J81 x77)) (fun x80=>Jn (fun (J87:Bool→Prop)=>Ite x74.2 (QB blocked x74.1 (fun x89=>Ite x89 (J87 false) (∃x91,idx x17 x74.1=some x91∧Ite (decide (x91<0)) (J87 true) (Km s_1 s65 x74.1 (fun x93=>J87 (decide (x91>(w64 (x80+x93))))))))) (J87 false)) (fun x86=>Ite x86 (post false) (Y66 (w64 (s65+1))))))) (J64 ()))) 0) (fun x63=>J39 x47)))))) (fun x38=>Y34 (x38,w64 (s33.2+1)))) (J32 s33.1)) ((-1),0)) (fun x31=>Jn (fun (J102:Bool→Prop)=>Ite (decide (a<0)) (J102 true) (J102 (decide (a≥(x17.length:Int))))) (fun x101=>Ite x101 (Jn (fun (J106:Bool→Prop)=>Ite x5 (Ite (decide (x31<0)) (KX s_1 blocked a 0 (fun x109=>J106 (x109 == (-1)))) (J106 false)) (J106 false)) (fun x105=>post x105)) (Jn (fun (J111:Bool→Prop)=>Ite x5 (∃x113,idx x20 a=some x113∧Ite (x113 == x31) (∃x115,idx x17 a=some x115∧∃x116,idx s_1.Floor.Kind a=some x116∧J111 ((x115 == 0) == (x116 != 0))) (J111 false)) (J111 false)) (fun x110=>post x110)))))))))))
end Go.Taq
