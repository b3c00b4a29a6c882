/- The verification conditions of the Go functions that are reached, in plain data (written by a program of the prover). -/
import Derived.Test.YtpcdibgbijddlaaLibX
import Derived.Test.YtpcdibgbijddlaaLibZR
set_option linter.unusedVariables false
namespace Go.Taq
open Go
structure ApiFloor where
  W : Int
  H : Int
  D : Int
  Kind : List Int
  Out : List Int
deriving DecidableEq, Inhabited
structure ApiSpan where
  From : Int
  To : Int
deriving DecidableEq, Inhabited
structure ApiZone where
  Name : ByteArray
  Cells : List Int
  Speed : Int
  Keep : Int
  Shut : List ApiSpan
deriving DecidableEq, Inhabited
structure ApiApart where
  A : ByteArray
  B : ByteArray
deriving DecidableEq, Inhabited
structure ApiShelf where
  Cell : Int
  Class : ByteArray
deriving DecidableEq, Inhabited
structure ApiStart where
  Cell : Int
  Charge : Int
deriving DecidableEq, Inhabited
structure ApiSite where
  Floor : ApiFloor
  Zones : List ApiZone
  Aparts : List ApiApart
  Shelves : List ApiShelf
  Robots : List ApiStart
deriving DecidableEq, Inhabited
structure ApiRobot where
  Cell : Int
  Load : Int
  Charge : Int
  Rest : Int
  Mute : Int
  Dead : Bool
deriving DecidableEq, Inhabited
structure ApiStuck where
  Cell : Int
  Left : Int
deriving DecidableEq, Inhabited
structure ApiState where
  Tick : Int
  Shelves : List Int
  Robots : List ApiRobot
  People : List Int
  Dead : List Int
  Stuck : List ApiStuck
deriving DecidableEq, Inhabited
structure FloorStep where
  x : Int
  y : Int
  z : Int
deriving DecidableEq, Inhabited
structure Arr6FloorStep where
  e0 : FloorStep
  e1 : FloorStep
  e2 : FloorStep
  e3 : FloorStep
  e4 : FloorStep
  e5 : FloorStep
deriving DecidableEq, Inhabited
structure SurveyMaker where
  site : ApiSite
  shelf : List (Int × Int)
  robot : List (Int × Bool)
  zoned : List (Int × Bool)
  names : List (ByteArray × Int)
  oneways : List (Int × Bool)
  shelves : List Int
  zones : List Int
deriving DecidableEq, Inhabited
structure OkApiFloor (x : ApiFloor) : Prop where
  W : I64 x.W
  H : I64 x.H
  D : I64 x.D
  Kind : (OkL I64) x.Kind
  Out : (OkL I64) x.Out
structure OkApiSpan (x : ApiSpan) : Prop where
  From : I64 x.From
  To : I64 x.To
structure OkApiZone (x : ApiZone) : Prop where
  Name : OkS x.Name
  Cells : (OkL I64) x.Cells
  Speed : I64 x.Speed
  Keep : I64 x.Keep
  Shut : (OkL OkApiSpan) x.Shut
structure OkApiApart (x : ApiApart) : Prop where
  A : OkS x.A
  B : OkS x.B
structure OkApiShelf (x : ApiShelf) : Prop where
  Cell : I64 x.Cell
  Class : OkS x.Class
structure OkApiStart (x : ApiStart) : Prop where
  Cell : I64 x.Cell
  Charge : I64 x.Charge
structure OkApiSite (x : ApiSite) : Prop where
  Floor : OkApiFloor x.Floor
  Zones : (OkL OkApiZone) x.Zones
  Aparts : (OkL OkApiApart) x.Aparts
  Shelves : (OkL OkApiShelf) x.Shelves
  Robots : (OkL OkApiStart) x.Robots
structure OkApiRobot (x : ApiRobot) : Prop where
  Cell : I64 x.Cell
  Load : I64 x.Load
  Charge : I64 x.Charge
  Rest : I64 x.Rest
  Mute : I64 x.Mute
  Dead : (fun (_ : Bool) => True) x.Dead
structure OkApiStuck (x : ApiStuck) : Prop where
  Cell : I64 x.Cell
  Left : I64 x.Left
structure OkApiState (x : ApiState) : Prop where
  Tick : I64 x.Tick
  Shelves : (OkL I64) x.Shelves
  Robots : (OkL OkApiRobot) x.Robots
  People : (OkL I64) x.People
  Dead : (OkL I64) x.Dead
  Stuck : (OkL OkApiStuck) x.Stuck
def V_taquinlaw12_sample (post : (ApiSite × ApiState) → Prop) : Prop :=
  post (({ Floor := ({ W := 4, H := 1, D := 1, Kind := ([1, 1, 1, 3] : List Int), Out := ([1, 5, 5, 4] : List Int) : ApiFloor }), Zones := ([({ Name := (ByteArray.mk #[122]), Cells := ([0, 1] : List Int), Speed := 2, Keep := 1, Shut := ([({ From := 5, To := 8 : ApiSpan })] : List ApiSpan) : ApiZone })] : List ApiZone), Aparts := ([({ A := (ByteArray.mk #[65]), B := (ByteArray.mk #[66]) : ApiApart })] : List ApiApart), Shelves := ([({ Cell := 0, Class := (ByteArray.mk #[65]) : ApiShelf }), ({ Cell := 2, Class := (ByteArray.mk #[66]) : ApiShelf })] : List ApiShelf), Robots := [] : ApiSite }), ({ Tick := 0, Shelves := ([0, 2] : List Int), Robots := [], People := [], Dead := [], Stuck := [] : ApiState }))
def V_rules_classes (s_1 : ApiSite) (post : (List (ApiApart × Bool)) → Prop) : Prop :=
  Jn (fun (J8 : (List (ApiApart × Bool)) → Prop) => Loop (fun (s9 : List (ApiApart × Bool) × Int) Y10 => Ite (decide (s9.2 < (s_1.Aparts.length : Int))) (∃ x16, idx s_1.Aparts s9.2 = some x16 ∧ Y10 ((upd (upd s9.1 x16 true) ({ A := x16.B, B := x16.A : ApiApart }) true), w64 (s9.2 + 1))) (J8 s9.1)) ((([] : List (ApiApart × Bool)), 0) : List (ApiApart × Bool) × Int)) (fun (x7 : List (ApiApart × Bool)) => post x7)
def V_rules_Class (s_1 : ApiSite) (shelf : Int) (post : ByteArray → Prop) : Prop :=
  Jn (fun (J4 : Bool → Prop) => Ite (decide (shelf < 0)) (J4 true) (J4 (decide (shelf ≥ (s_1.Shelves.length : Int))))) (fun (x3 : Bool) => Ite x3 (post ByteArray.empty) (∃ x11, idx s_1.Shelves shelf = some x11 ∧ post x11.Class))
def V_rules_Carried_1 (r : ApiRobot) (c0 : Int) (post : Bool → Prop) : Prop :=
  post (r.Load == c0)
def V_slices_IndexFunc_api_Robot_api_Robot__rules_Carried_1 (s_1 : List ApiRobot) (f_c0 : Int) (post : Int → Prop) : Prop :=
  Jn (fun (J6 : Unit → Prop) => Loop (fun (s7 : Int) Y8 => Ite (decide (s7 < (s_1.length : Int))) (∃ x16, idx s_1 s7 = some x16 ∧ V_rules_Carried_1 x16 f_c0 (fun x17 => Ite x17 (post s7) (Y8 (w64 (s7 + 1))))) (J6 ())) 0) (fun (x5 : Unit) => post (-1))
def V_rules_Carried (st : ApiState) (shelf : Int) (post : Int → Prop) : Prop :=
  Ite (decide (shelf < 0)) (post (-1)) (V_slices_IndexFunc_api_Robot_api_Robot__rules_Carried_1 st.Robots shelf (fun x10 => post x10))
def V_floor_size (f : ApiFloor) (post : Int → Prop) : Prop :=
  post (w64 ((w64 (f.W * f.H)) * f.D))
def V_floor_is (f : ApiFloor) (c : Int) (post : Bool → Prop) : Prop :=
  Jn (fun (J4 : Bool → Prop) => Ite (decide (c ≥ 0)) (V_floor_size f (fun x6 => J4 (decide (c < x6)))) (J4 false)) (fun (x3 : Bool) => post x3)
def V_floor_At (f : ApiFloor) (c : Int) (post : (Int × Int × Int) → Prop) : Prop :=
  V_floor_is f c (fun x5 => Ite (!x5) (post (0, 0, 0)) ((f.W ≠ 0) ∧ (f.W ≠ 0) ∧ (f.H ≠ 0) ∧ ((w64 (f.W * f.H)) ≠ 0) ∧ post (c.tmod f.W, (w64 (c.tdiv f.W)).tmod f.H, w64 (c.tdiv (w64 (f.W * f.H))))))
def V_floor_Cell (f : ApiFloor) (x_1 : Int) (y_1 : Int) (z : Int) (post : Int → Prop) : Prop :=
  Jn (fun (J4 : Bool → Prop) => Ite (decide ((imin (imin x_1 y_1) z) < 0)) (J4 true) (Ite (decide (x_1 ≥ f.W)) (J4 true) (Ite (decide (y_1 ≥ f.H)) (J4 true) (J4 (decide (z ≥ f.D)))))) (fun (x3 : Bool) => Ite x3 (post (-1)) (post (w64 ((w64 ((w64 ((w64 (z * f.H)) + y_1)) * f.W)) + x_1))))
def V_rules_beside_1 (c : Int) (post : Bool → Prop) : Prop :=
  post (decide (c < 0))
def V_slices_IndexFunc_int_int__rules_beside_1 (s_1 : List Int) (post : Int → Prop) : Prop :=
  Jn (fun (J6 : Unit → Prop) => Loop (fun (s7 : Int) Y8 => Ite (decide (s7 < (s_1.length : Int))) (∃ x16, idx s_1 s7 = some x16 ∧ V_rules_beside_1 x16 (fun x17 => Ite x17 (post s7) (Y8 (w64 (s7 + 1))))) (J6 ())) 0) (fun (x5 : Unit) => post (-1))
def V_slices_DeleteFunc_int_int__o0_rules_beside_1 (s_1 : List Int) (post : (List Int) → Prop) : Prop :=
  V_slices_IndexFunc_int_int__rules_beside_1 s_1 (fun x5 => Ite (x5 == (-1)) (post s_1) (Jn (fun (J14 : (List Int × Int) → Prop) => Loop (fun (s15 : List Int × Int × Int) Y16 => Ite (decide (s15.2.2 < (s15.1.length : Int))) (∃ x22, idx s15.1 s15.2.2 = some x22 ∧ V_rules_beside_1 x22 (fun x25 => Jn (fun (J27 : (List Int × Int) → Prop) => Ite (!x25) (∃ x31, idx s15.1 s15.2.1 = some x31 ∧ J27 ((s15.1.set (Int.toNat s15.2.1) x22), w64 (s15.2.1 + 1))) (J27 (s15.1, s15.2.1))) (fun (x26 : List Int × Int) => Y16 (x26.1, x26.2, w64 (s15.2.2 + 1))))) (J14 (s15.1, s15.2.1))) (s_1, x5, w64 (x5 + 1))) (fun (x13 : List Int × Int) => (0 ≤ x13.2 ∧ x13.2 ≤ (x13.1.length : Int) ∧ (x13.1.length : Int) ≤ (x13.1.length : Int)) ∧ ((Int.toNat x13.2) + (Int.toNat ((x13.1.length : Int) - x13.2)) ≤ x13.1.length) ∧ (0 ≤ (0 : Int) ∧ (0 : Int) ≤ x13.2 ∧ x13.2 ≤ ((x13.1.take (Int.toNat x13.2) ++ (List.replicate (Int.toNat ((x13.1.length : Int) - x13.2)) 0 ++ x13.1.drop ((Int.toNat x13.2) + (Int.toNat ((x13.1.length : Int) - x13.2))))).length : Int)) ∧ post (sub (x13.1.take (Int.toNat x13.2) ++ (List.replicate (Int.toNat ((x13.1.length : Int) - x13.2)) 0 ++ x13.1.drop ((Int.toNat x13.2) + (Int.toNat ((x13.1.length : Int) - x13.2))))) 0 x13.2))))
def V_rules_beside (s_1 : ApiSite) (c : Int) (post : (List Int) → Prop) : Prop :=
  V_floor_At s_1.Floor c (fun x5 => V_floor_Cell s_1.Floor (w64 (x5.1 + 1)) x5.2.1 x5.2.2 (fun x8 => V_floor_Cell s_1.Floor x5.1 (w64 (x5.2.1 + 1)) x5.2.2 (fun x9 => V_floor_Cell s_1.Floor (w64 (x5.1 - 1)) x5.2.1 x5.2.2 (fun x10 => V_floor_Cell s_1.Floor x5.1 (w64 (x5.2.1 - 1)) x5.2.2 (fun x11 => V_slices_DeleteFunc_int_int__o0_rules_beside_1 ([x8, x9, x10, x11] : List Int) (fun x14 => post x14))))))
def V_rules_Apart (s_1 : ApiSite) (st : ApiState) (post : (Int × Int × Bool) → Prop) : Prop :=
  V_rules_classes s_1 (fun x5 => Jn (fun (J11 : (List (Int × List Int)) → Prop) => Loop (fun (s12 : List (Int × List Int) × Int) Y13 => Ite (decide (s12.2 < (st.Shelves.length : Int))) (∃ x19, idx st.Shelves s12.2 = some x19 ∧ Jn (fun (J21 : Bool → Prop) => V_rules_Class s_1 s12.2 (fun x22 => Ite (seq x22 ByteArray.empty) (J21 false) (V_rules_Carried st s12.2 (fun x24 => J21 (decide (x24 < 0)))))) (fun (x20 : Bool) => Jn (fun (J26 : (List (Int × List Int)) → Prop) => Ite x20 (Jn (fun (J29 : (List (Int × List Int)) → Prop) => (∀ x30, lk s12.1 x19 = some x30 → (x30.length + ([s12.2] : List Int).length ≤ 1099511627776) ∧ J29 (upd s12.1 x19 (x30 ++ ([s12.2] : List Int)))) ∧ (lk s12.1 x19 = none → (([s12.2] : List Int).length ≤ 1099511627776) ∧ J29 (upd (upd s12.1 x19 []) x19 ([s12.2] : List Int)))) (fun (x28 : List (Int × List Int)) => J26 x28)) (J26 s12.1)) (fun (x25 : List (Int × List Int)) => Y13 (x25, w64 (s12.2 + 1))))) (J11 s12.1)) ((([] : List (Int × List Int)), 0) : List (Int × List Int) × Int)) (fun (x10 : List (Int × List Int)) => Jn (fun (J39 : Unit → Prop) => Loop (fun (s40 : Int) Y41 => Ite (decide (s40 < (st.Shelves.length : Int))) (Jn (fun (J46 : Unit → Prop) => ∃ x49, idx st.Shelves s40 = some x49 ∧ Jn (fun (J53 : Bool → Prop) => V_rules_Class s_1 s40 (fun x54 => Ite (seq x54 ByteArray.empty) (J53 true) (V_rules_Carried st s40 (fun x56 => J53 (decide (x56 ≥ 0)))))) (fun (x52 : Bool) => Ite x52 (J46 ()) (V_rules_beside s_1 x49 (fun x60 => Jn (fun (J62 : Int → Prop) => Loop (fun (s63 : Int × Int) Y64 => Ite (decide (s63.2 < (x60.length : Int))) (Jn (fun (J69 : Int → Prop) => ∃ x72, idx x60 s63.2 = some x72 ∧ Jn (fun (J76 : Int → Prop) => Loop (fun (s77 : Int × Int) Y78 => Ite (decide (s77.2 < (((lk x10 x72).getD []).length : Int))) (∃ x84, idx ((lk x10 x72).getD []) s77.2 = some x84 ∧ Jn (fun (J86 : Bool → Prop) => Ite (decide (x84 > s40)) (Ite (decide (s77.1 < 0)) (V_rules_Class s_1 s40 (fun x89 => V_rules_Class s_1 x84 (fun x90 => J86 ((lk x5 ({ A := x89, B := x90 : ApiApart })).getD false)))) (Ite (decide (x84 < s77.1)) (V_rules_Class s_1 s40 (fun x92 => V_rules_Class s_1 x84 (fun x93 => J86 ((lk x5 ({ A := x92, B := x93 : ApiApart })).getD false)))) (J86 false))) (J86 false)) (fun (x85 : Bool) => Jn (fun (J95 : Int → Prop) => Ite x85 (J95 x84) (J95 s77.1)) (fun (x94 : Int) => Y78 (x94, w64 (s77.2 + 1))))) (J76 s77.1)) (s63.1, 0)) (fun (x75 : Int) => J69 x75)) (fun (x68 : Int) => Y64 (x68, w64 (s63.2 + 1)))) (J62 s63.1)) ((-1), 0)) (fun (x61 : Int) => Ite (decide (x61 ≥ 0)) (post (s40, x61, true)) (J46 ())))))) (fun (x45 : Unit) => Y41 (w64 (s40 + 1)))) (J39 ())) 0) (fun (x38 : Unit) => post (0, 0, false))))
def V_cmp_isNaN_int (x_1 : Int) (post : Bool → Prop) : Prop :=
  post (x_1 != x_1)
def V_cmp_Less_int (x_1 : Int) (y_1 : Int) (post : Bool → Prop) : Prop :=
  Jn (fun (J4 : Bool → Prop) => V_cmp_isNaN_int x_1 (fun x5 => Ite x5 (V_cmp_isNaN_int y_1 (fun x7 => Ite x7 (J4 (decide (x_1 < y_1))) (J4 true))) (J4 (decide (x_1 < y_1))))) (fun (x3 : Bool) => post x3)
def V_slices_isNaN_int (x_1 : Int) (post : Bool → Prop) : Prop :=
  post (x_1 != x_1)
def V_slices_BinarySearch_int_int (x_1 : List Int) (target : Int) (post : (Int × Bool) → Prop) : Prop :=
  Jn (fun (J8 : Int → Prop) => Loop (fun (s9 : Int × Int) Y10 => Ite (decide (s9.1 < s9.2)) (∃ x19, idx x_1 (IntKind.wrap .i64 (shrI .u64 (IntKind.wrap .u64 (w64 (s9.1 + s9.2))) 1)) = some x19 ∧ V_cmp_Less_int x19 target (fun x20 => Jn (fun (J22 : (Int × Int) → Prop) => Ite x20 (J22 (w64 ((IntKind.wrap .i64 (shrI .u64 (IntKind.wrap .u64 (w64 (s9.1 + s9.2))) 1)) + 1), s9.2)) (J22 (s9.1, IntKind.wrap .i64 (shrI .u64 (IntKind.wrap .u64 (w64 (s9.1 + s9.2))) 1)))) (fun (x21 : Int × Int) => Y10 (x21.1, x21.2)))) (J8 s9.1)) (0, (x_1.length : Int))) (fun (x7 : Int) => Jn (fun (J29 : Bool → Prop) => Ite (decide (x7 < (x_1.length : Int))) (∃ x31, idx x_1 x7 = some x31 ∧ Ite (x31 == target) (J29 true) (V_slices_isNaN_int x31 (fun x33 => Ite x33 (V_slices_isNaN_int target (fun x35 => J29 x35)) (J29 false)))) (J29 false)) (fun (x28 : Bool) => post (x7, x28)))
def V_rules_ZoneOf_1 (z : ApiZone) (c0 : Int) (post : Bool → Prop) : Prop :=
  V_slices_BinarySearch_int_int z.Cells c0 (fun x5 => post x5.2)
def V_slices_IndexFunc_api_Zone_api_Zone__rules_ZoneOf_1 (s_1 : List ApiZone) (f_c0 : Int) (post : Int → Prop) : Prop :=
  Jn (fun (J6 : Unit → Prop) => Loop (fun (s7 : Int) Y8 => Ite (decide (s7 < (s_1.length : Int))) (∃ x16, idx s_1 s7 = some x16 ∧ V_rules_ZoneOf_1 x16 f_c0 (fun x17 => Ite x17 (post s7) (Y8 (w64 (s7 + 1))))) (J6 ())) 0) (fun (x5 : Unit) => post (-1))
def V_rules_ZoneOf (s_1 : ApiSite) (c : Int) (post : Int → Prop) : Prop :=
  V_slices_IndexFunc_api_Zone_api_Zone__rules_ZoneOf_1 s_1.Zones c (fun x5 => post x5)
def V_rules_Speed (s_1 : ApiSite) (c : Int) (post : Int → Prop) : Prop :=
  V_rules_ZoneOf s_1 c (fun x5 => Ite (decide (x5 ≥ 0)) (∃ x11, idx s_1.Zones x5 = some x11 ∧ post x11.Speed) (post 1))
def V_rules_isCell (s_1 : ApiSite) (c : Int) (post : Bool → Prop) : Prop :=
  Jn (fun (J4 : Bool → Prop) => Ite (decide (c ≥ 0)) (J4 (decide (c < (s_1.Floor.Kind.length : Int)))) (J4 false)) (fun (x3 : Bool) => post x3)
def V_rules_Open_1 (x_1 : ApiSpan) (c0 : Int) (post : Bool → Prop) : Prop :=
  Jn (fun (J4 : Bool → Prop) => Ite (decide (x_1.From ≤ c0)) (J4 (decide (c0 < x_1.To))) (J4 false)) (fun (x3 : Bool) => post x3)
def V_slices_IndexFunc_api_Span_api_Span__rules_Open_1 (s_1 : List ApiSpan) (f_c0 : Int) (post : Int → Prop) : Prop :=
  Jn (fun (J6 : Unit → Prop) => Loop (fun (s7 : Int) Y8 => Ite (decide (s7 < (s_1.length : Int))) (∃ x16, idx s_1 s7 = some x16 ∧ V_rules_Open_1 x16 f_c0 (fun x17 => Ite x17 (post s7) (Y8 (w64 (s7 + 1))))) (J6 ())) 0) (fun (x5 : Unit) => post (-1))
def V_slices_ContainsFunc_api_Span_api_Span__rules_Open_1 (s_1 : List ApiSpan) (f_c0 : Int) (post : Bool → Prop) : Prop :=
  V_slices_IndexFunc_api_Span_api_Span__rules_Open_1 s_1 f_c0 (fun x5 => post (decide (x5 ≥ 0)))
def V_rules_Open (s_1 : ApiSite) (c : Int) (tick : Int) (post : Bool → Prop) : Prop :=
  V_rules_ZoneOf s_1 c (fun x5 => Jn (fun (J7 : Bool → Prop) => V_rules_isCell s_1 c (fun x8 => Ite x8 (J7 (decide (x5 < 0))) (J7 true))) (fun (x6 : Bool) => Ite x6 (V_rules_isCell s_1 c (fun x13 => post x13)) (∃ x16, idx s_1.Zones x5 = some x16 ∧ V_slices_ContainsFunc_api_Span_api_Span__rules_Open_1 x16.Shut tick (fun x17 => post (!x17)))))
def V_slices_Backward_int_int (s_1 : List Int) (post : (List Int) → Prop) : Prop :=
  post (s_1)
def V_rules_standing (st : ApiState) (post : (List (Int × Int)) → Prop) : Prop :=
  Jn (fun (J8 : (List (Int × Bool)) → Prop) => Loop (fun (s9 : List (Int × Bool) × Int) Y10 => Ite (decide (s9.2 < (st.Robots.length : Int))) (∃ x16, idx st.Robots s9.2 = some x16 ∧ Y10 ((upd s9.1 x16.Load true), w64 (s9.2 + 1))) (J8 s9.1)) ((([] : List (Int × Bool)), 0) : List (Int × Bool) × Int)) (fun (x7 : List (Int × Bool)) => V_slices_Backward_int_int st.Shelves (fun x25 => (x25.length ≤ 1099511627776) ∧ Each (fun (x26 : Int × Int) (s27 : List (Int × Int)) Y28 => Jn (fun (J33 : (List (Int × Int)) → Prop) => Ite (!((lk x7 x26.1).getD false)) (J33 (upd s27 x26.2 x26.1)) (J33 s27)) (fun (x32 : List (Int × Int)) => Y28 x32)) (fun (s37 : List (Int × Int)) => post s37) (bkw x25) (([] : List (Int × Int)) : List (Int × Int))))
def V_rules_Stands (s_1 : ApiSite) (c : Int) (post : Bool → Prop) : Prop :=
  Jn (fun (J4 : Bool → Prop) => V_rules_isCell s_1 c (fun x5 => Ite x5 (∃ x7, idx s_1.Floor.Kind c = some x7 ∧ Ite (x7 == 1) (J4 true) (J4 (x7 == 2))) (J4 false))) (fun (x3 : Bool) => post x3)
def V_rules_Room (s_1 : ApiSite) (st : ApiState) (zone : Int) (post : Int → Prop) : Prop :=
  Jn (fun (J4 : Bool → Prop) => Ite (decide (zone < 0)) (J4 true) (J4 (decide (zone ≥ (s_1.Zones.length : Int))))) (fun (x3 : Bool) => Ite x3 (post 0) (∃ x11, idx s_1.Zones zone = some x11 ∧ V_rules_standing st (fun x12 => Jn (fun (J16 : Int → Prop) => Loop (fun (s17 : Int × Int) Y18 => Ite (decide (s17.2 < (x11.Cells.length : Int))) (∃ x24, idx x11.Cells s17.2 = some x24 ∧ Jn (fun (J28 : Bool → Prop) => Ite ((lk x12 x24).isSome) (J28 false) (V_rules_Stands s_1 x24 (fun x30 => J28 x30))) (fun (x27 : Bool) => Jn (fun (J32 : Int → Prop) => Ite x27 (J32 (w64 (s17.1 + 1))) (J32 s17.1)) (fun (x31 : Int) => Y18 (x31, w64 (s17.2 + 1))))) (J16 s17.1)) (w64 (0 - x11.Keep), 0)) (fun (x15 : Int) => post x15))))
def V_floor_steps (post : Arr6FloorStep → Prop) : Prop :=
  post ({ e0 := ({ x := 1, y := 0, z := 0 : FloorStep }), e1 := ({ x := 0, y := 1, z := 0 : FloorStep }), e2 := ({ x := (-1), y := 0, z := 0 : FloorStep }), e3 := ({ x := 0, y := (-1), z := 0 : FloorStep }), e4 := ({ x := 0, y := 0, z := 1 : FloorStep }), e5 := ({ x := 0, y := 0, z := (-1) : FloorStep }) : Arr6FloorStep })
def V_floor_beside (f : ApiFloor) (c : Int) (d : Int) (post : Int → Prop) : Prop :=
  Jn (fun (J4 : Bool → Prop) => V_floor_is f c (fun x5 => Ite x5 (Ite (decide (d < 0)) (J4 true) (J4 (decide (d ≥ 6)))) (J4 true))) (fun (x3 : Bool) => Ite x3 (post (-1)) (V_floor_At f c (fun x13 => V_floor_steps (fun x16 => ∃ x17, idx ([x16.e0, x16.e1, x16.e2, x16.e3, x16.e4, x16.e5] : List FloorStep) d = some x17 ∧ V_floor_Cell f (w64 (x13.1 + x17.x)) (w64 (x13.2.1 + x17.y)) (w64 (x13.2.2 + x17.z)) (fun x20 => post x20)))))
def V_floor_Near (f : ApiFloor) (a : Int) (b : Int) (post : Bool → Prop) : Prop :=
  V_floor_is f b (fun x5 => Ite (!x5) (post false) (Jn (fun (J12 : Unit → Prop) => Loop (fun (s13 : Int) Y14 => Ite (decide (s13 < 4)) (∃ x20, idx ([0, 1, 2, 3] : List Int) s13 = some x20 ∧ V_floor_beside f a x20 (fun x23 => Ite (x23 == b) (post true) (Y14 (w64 (s13 + 1))))) (J12 ())) 0) (fun (x11 : Unit) => post false)))
def V_rules_Never (s_1 : ApiSite) (a : ByteArray) (b : ByteArray) (post : Bool → Prop) : Prop :=
  Jn (fun (J4 : Bool → Prop) => Ite (seq a ByteArray.empty) (J4 false) (Ite (seq b ByteArray.empty) (J4 false) (V_rules_classes s_1 (fun x7 => J4 ((lk x7 ({ A := a, B := b : ApiApart })).getD false))))) (fun (x3 : Bool) => post x3)
def V_rules_Drop (s_1 : ApiSite) (st : ApiState) (shelf : Int) (c : Int) (post : Int → Prop) : Prop :=
  Jn (fun (J4 : Bool → Prop) => Ite (decide (shelf < 0)) (J4 true) (J4 (decide (shelf ≥ (st.Shelves.length : Int))))) (fun (x3 : Bool) => Ite x3 (post 4) (V_rules_Stands s_1 c (fun x11 => Ite (!x11) (post 13) (Jn (fun (J20 : Int → Prop) => Loop (fun (s21 : Int × Int) Y22 => Ite (decide (s21.2 < (st.Shelves.length : Int))) (Jn (fun (J27 : Int → Prop) => ∃ x30, idx st.Shelves s21.2 = some x30 ∧ Jn (fun (J32 : Bool → Prop) => Ite (s21.2 == shelf) (J32 true) (Ite (x30 != c) (V_floor_Near s_1.Floor x30 c (fun x35 => Ite x35 (V_rules_Carried st s21.2 (fun x37 => J32 (decide (x37 ≥ 0)))) (J32 true))) (V_rules_Carried st s21.2 (fun x38 => J32 (decide (x38 ≥ 0)))))) (fun (x31 : Bool) => Ite x31 (J27 s21.1) (Ite (x30 == c) (post 13) (V_rules_Class s_1 shelf (fun x47 => V_rules_Class s_1 s21.2 (fun x48 => V_rules_Never s_1 x47 x48 (fun x49 => Jn (fun (J51 : Int → Prop) => Ite x49 (J51 17) (J51 s21.1)) (fun (x50 : Int) => J27 x50)))))))) (fun (x26 : Int) => Y22 (x26, w64 (s21.2 + 1)))) (J20 s21.1)) (0, 0)) (fun (x19 : Int) => post x19)))))
def V_taquinlaw12_small (post : Bool → Prop) : Prop :=
  V_taquinlaw12_sample (fun x5 => V_rules_Apart x5.1 x5.2 (fun x8 => Jn (fun (J10 : Bool → Prop) => V_rules_Speed x5.1 1 (fun x11 => Ite (x11 == 2) (V_rules_Speed x5.1 2 (fun x13 => Ite (x13 == 1) (V_rules_Open x5.1 0 7 (fun x15 => Ite x15 (J10 false) (V_rules_Open x5.1 0 8 (fun x17 => Ite x17 (V_rules_Room x5.1 x5.2 0 (fun x19 => Ite (x19 == 0) (V_rules_Drop x5.1 x5.2 1 1 (fun x21 => Ite (x21 == 17) (J10 (!x8.2.2)) (J10 false))) (J10 false))) (J10 false))))) (J10 false))) (J10 false))) (fun (x9 : Bool) => post x9)))
def V_taquinref07_Few (f : ApiFloor) (n : Int) (post : Bool → Prop) : Prop :=
  Jn (fun (J4 : Bool → Prop) => Ite (decide ((f.Kind.length : Int) ≤ n)) (J4 (decide ((f.Out.length : Int) ≤ n))) (J4 false)) (fun (x3 : Bool) => post x3)
def V_taquinref11_Few (s_1 : ApiSite) (cells : Int) (most : Int) (post : Bool → Prop) : Prop :=
  Jn (fun (J6 : Unit → Prop) => Loop (fun (s7 : Int) Y8 => Jn (fun (J10 : Bool → Prop) => Ite (decide (s7 < (s_1.Zones.length : Int))) (J10 (decide (s7 ≤ most))) (J10 false)) (fun (x9 : Bool) => Ite x9 (Jn (fun (J14 : Bool → Prop) => ∃ x15, idx s_1.Zones s7 = some x15 ∧ Ite (decide ((x15.Cells.length : Int) > cells)) (J14 true) (Ite (decide ((x15.Shut.length : Int) > 20)) (J14 true) (J14 (decide ((x15.Name.size : Int) > 40))))) (fun (x13 : Bool) => Ite x13 (post false) (Y8 (w64 (s7 + 1))))) (J6 ()))) 0) (fun (x5 : Unit) => Jn (fun (J26 : Unit → Prop) => Loop (fun (s27 : Int) Y28 => Jn (fun (J30 : Bool → Prop) => Ite (decide (s27 < (s_1.Aparts.length : Int))) (J30 (decide (s27 ≤ most))) (J30 false)) (fun (x29 : Bool) => Ite x29 (Jn (fun (J34 : Bool → Prop) => ∃ x35, idx s_1.Aparts s27 = some x35 ∧ Ite (decide ((x35.A.size : Int) > 40)) (J34 true) (J34 (decide ((x35.B.size : Int) > 40)))) (fun (x33 : Bool) => Ite x33 (post false) (Y28 (w64 (s27 + 1))))) (J26 ()))) 0) (fun (x25 : Unit) => Jn (fun (J45 : Unit → Prop) => Loop (fun (s46 : Int) Y47 => Jn (fun (J49 : Bool → Prop) => Ite (decide (s46 < (s_1.Shelves.length : Int))) (J49 (decide (s46 ≤ most))) (J49 false)) (fun (x48 : Bool) => Ite x48 (∃ x54, idx s_1.Shelves s46 = some x54 ∧ Ite (decide ((x54.Class.size : Int) > 40)) (post false) (Y47 (w64 (s46 + 1)))) (J45 ()))) 0) (fun (x44 : Unit) => Jn (fun (J61 : Bool → Prop) => V_taquinref07_Few s_1.Floor cells (fun x62 => Ite x62 (Ite (decide ((s_1.Zones.length : Int) ≤ most)) (Ite (decide ((s_1.Aparts.length : Int) ≤ most)) (Ite (decide ((s_1.Shelves.length : Int) ≤ most)) (J61 (decide ((s_1.Robots.length : Int) ≤ most))) (J61 false)) (J61 false)) (J61 false)) (J61 false))) (fun (x60 : Bool) => post x60))))
def V_floor_Right (f : ApiFloor) (post : Bool → Prop) : Prop :=
  Jn (fun (J4 : Bool → Prop) => Ite (decide ((imin (imin f.W f.H) f.D) < 1)) (J4 true) (Ite (decide (f.D > 4)) (J4 true) (J4 (decide ((imax f.W f.H) > 4096))))) (fun (x3 : Bool) => Ite x3 (post false) (V_floor_size f (fun x12 => Jn (fun (J14 : Bool → Prop) => Ite (decide (x12 > 4096)) (J14 true) (Ite ((f.Kind.length : Int) != x12) (J14 true) (J14 ((f.Out.length : Int) != x12)))) (fun (x13 : Bool) => Ite x13 (post false) (Jn (fun (J23 : Unit → Prop) => Loop (fun (s24 : Int) Y25 => Ite (decide (s24 < (f.Kind.length : Int))) (∃ x31, idx f.Kind s24 = some x31 ∧ Jn (fun (J33 : Bool → Prop) => Ite (decide (x31 < 0)) (J33 true) (Ite (decide (x31 ≥ 7)) (J33 true) (∃ x36, idx f.Out s24 = some x36 ∧ Ite (decide (x36 < 0)) (J33 true) (J33 (decide (x36 > 63)))))) (fun (x32 : Bool) => Ite x32 (post false) (Y25 (w64 (s24 + 1))))) (J23 ())) 0) (fun (x22 : Unit) => post true))))))
def V_survey_newMaker (f : ApiFloor) (post : SurveyMaker → Prop) : Prop :=
  post ({ site := ({ Floor := f, Zones := [], Aparts := [], Shelves := [], Robots := [] : ApiSite }), shelf := ([] : List (Int × Int)), robot := ([] : List (Int × Bool)), zoned := ([] : List (Int × Bool)), names := ([] : List (ByteArray × Int)), oneways := ([] : List (Int × Bool)), shelves := [], zones := [] : SurveyMaker })
def V_strings_IndexByte (s_1 : ByteArray) (c : Int) (post : Int → Prop) : Prop :=
  post (idxByte s_1 c)
def V_survey_Name (s_1 : ByteArray) (post : Bool → Prop) : Prop :=
  Jn (fun (J4 : Bool → Prop) => Ite (decide ((s_1.size : Int) < 1)) (J4 true) (Ite (decide ((s_1.size : Int) > 20)) (J4 true) (∃ x7, idx s_1.data.toList 0 = some x7 ∧ Ite (decide ((x7.toNat : Int) ≥ 48)) (J4 (decide ((x7.toNat : Int) ≤ 57))) (J4 false)))) (fun (x3 : Bool) => Ite x3 (post false) (Jn (fun (J15 : Unit → Prop) => Loop (fun (s16 : Int) Y17 => Ite (decide (s16 < (s_1.size : Int))) (∃ x25, idx s_1.data.toList s16 = some x25 ∧ V_strings_IndexByte (ByteArray.mk #[97, 98, 99, 100, 101, 102, 103, 104, 105, 106, 107, 108, 109, 110, 111, 112, 113, 114, 115, 116, 117, 118, 119, 120, 121, 122, 65, 66, 67, 68, 69, 70, 71, 72, 73, 74, 75, 76, 77, 78, 79, 80, 81, 82, 83, 84, 85, 86, 87, 88, 89, 90, 48, 49, 50, 51, 52, 53, 54, 55, 56, 57, 95, 45]) (x25.toNat : Int) (fun x26 => Ite (decide (x26 < 0)) (post false) (Y17 (w64 (s16 + 1))))) (J15 ())) 0) (fun (x14 : Unit) => post true)))
def V_survey_within (n : Int) (from_1 : Int) (to_1 : Int) (post : Bool → Prop) : Prop :=
  Jn (fun (J4 : Bool → Prop) => Ite (decide (n ≥ from_1)) (J4 (decide (n ≤ to_1))) (J4 false)) (fun (x3 : Bool) => post x3)
def V_survey_shut (l : List ApiSpan) (post : Bool → Prop) : Prop :=
  Jn (fun (J8 : Unit → Prop) => Loop (fun (s9 : Int × Int) Y10 => Ite (decide (s9.2 < (l.length : Int))) (∃ x16, idx l s9.2 = some x16 ∧ Jn (fun (J18 : Bool → Prop) => Ite (decide (x16.From < s9.1)) (J18 true) (Ite (decide (x16.From ≥ x16.To)) (J18 true) (J18 (decide (x16.To > 20000))))) (fun (x17 : Bool) => Ite x17 (post false) (Y10 (x16.To, w64 (s9.2 + 1))))) (J8 ())) (0, 0)) (fun (x7 : Unit) => post true)
def V_survey_maker_kindAt (m : SurveyMaker) (c : Int) (post : (Int × Bool) → Prop) : Prop :=
  Jn (fun (J4 : Bool → Prop) => Ite (decide (c < 0)) (J4 true) (J4 (decide (c ≥ (m.site.Floor.Kind.length : Int))))) (fun (x3 : Bool) => Ite x3 (post (0, false)) (∃ x11, idx m.site.Floor.Kind c = some x11 ∧ post (x11, true)))
def V_survey_maker_cells (m : SurveyMaker) (l : List Int) (post : Bool → Prop) : Prop :=
  Jn (fun (J6 : Unit → Prop) => Loop (fun (s7 : Int) Y8 => Ite (decide (s7 < (l.length : Int))) (∃ x14, idx l s7 = some x14 ∧ V_survey_maker_kindAt m x14 (fun x17 => Jn (fun (J19 : Bool → Prop) => Ite x17.2 (Ite (decide (s7 > 0)) (∃ x22, idx l (w64 (s7 - 1)) = some x22 ∧ J19 (decide (x22 ≥ x14))) (J19 false)) (J19 true)) (fun (x18 : Bool) => Ite x18 (post false) (Y8 (w64 (s7 + 1)))))) (J6 ())) 0) (fun (x5 : Unit) => post (decide ((l.length : Int) > 0)))
def V_survey_zoned (kind : Int) (post : Bool → Prop) : Prop :=
  Jn (fun (J4 : Bool → Prop) => Ite (kind != 0) (Ite (kind != 4) (J4 (kind != 5)) (J4 false)) (J4 false)) (fun (x3 : Bool) => post x3)
def V_survey_maker_addZone__p0 (z : ApiZone) (m : SurveyMaker) (post : (Int × SurveyMaker) → Prop) : Prop :=
  Ite ((lk m.names z.Name).isSome) (post (5, m)) (Ite (decide ((m.site.Zones.length : Int) ≥ 64)) (post (6, m)) (Jn (fun (J18 : Unit → Prop) => Loop (fun (s19 : Int) Y20 => Ite (decide (s19 < (z.Cells.length : Int))) (∃ x26, idx z.Cells s19 = some x26 ∧ V_survey_maker_kindAt m x26 (fun x29 => Jn (fun (J31 : Bool → Prop) => V_survey_zoned x29.1 (fun x32 => Ite x32 (J31 ((lk m.zoned x26).getD false)) (J31 true))) (fun (x30 : Bool) => Ite x30 (post (13, m)) (Y20 (w64 (s19 + 1)))))) (J18 ())) 0) (fun (x17 : Unit) => Jn (fun (J42 : (List (Int × Bool)) → Prop) => Loop (fun (s43 : List (Int × Bool) × Int) Y44 => Ite (decide (s43.2 < (z.Cells.length : Int))) (∃ x50, idx z.Cells s43.2 = some x50 ∧ Y44 ((upd s43.1 x50 true), w64 (s43.2 + 1))) (J42 s43.1)) (m.zoned, 0)) (fun (x41 : List (Int × Bool)) => (m.site.Zones.length + ([z] : List ApiZone).length ≤ 1099511627776) ∧ post (0, ({ site := ({ Floor := m.site.Floor, Zones := (m.site.Zones ++ ([z] : List ApiZone)), Aparts := m.site.Aparts, Shelves := m.site.Shelves, Robots := m.site.Robots : ApiSite }), shelf := m.shelf, robot := m.robot, zoned := x41, names := (upd m.names z.Name (m.site.Zones.length : Int)), oneways := m.oneways, shelves := m.shelves, zones := m.zones : SurveyMaker }))))))
def V_slices_Index_api_Apart_api_Apart (s_1 : List ApiApart) (v : ApiApart) (post : Int → Prop) : Prop :=
  Jn (fun (J6 : Unit → Prop) => Loop (fun (s7 : Int) Y8 => Ite (decide (s7 < (s_1.length : Int))) (∃ x16, idx s_1 s7 = some x16 ∧ Ite (seq v.A x16.A && (seq v.B x16.B && true)) (post s7) (Y8 (w64 (s7 + 1)))) (J6 ())) 0) (fun (x5 : Unit) => post (-1))
def V_slices_Contains_api_Apart_api_Apart (s_1 : List ApiApart) (v : ApiApart) (post : Bool → Prop) : Prop :=
  V_slices_Index_api_Apart_api_Apart s_1 v (fun x5 => post (decide (x5 ≥ 0)))
def V_survey_Apart (l : List ApiApart) (a : ByteArray) (b : ByteArray) (post : Bool → Prop) : Prop :=
  Jn (fun (J4 : Bool → Prop) => Ite (seq a ByteArray.empty) (J4 true) (J4 (seq b ByteArray.empty))) (fun (x3 : Bool) => Ite x3 (post false) (Jn (fun (J10 : Bool → Prop) => V_slices_Contains_api_Apart_api_Apart l ({ A := a, B := b : ApiApart }) (fun x11 => Ite x11 (J10 true) (V_slices_Contains_api_Apart_api_Apart l ({ A := b, B := a : ApiApart }) (fun x13 => J10 x13)))) (fun (x9 : Bool) => post x9)))
def V_survey_maker_addApart__p0 (x_1 : ApiApart) (m : SurveyMaker) (post : (Int × SurveyMaker) → Prop) : Prop :=
  Jn (fun (J4 : Bool → Prop) => V_survey_Name x_1.A (fun x5 => Ite x5 (V_survey_Name x_1.B (fun x7 => J4 (!x7))) (J4 true))) (fun (x3 : Bool) => Ite x3 (post (12, m)) (V_survey_Apart m.site.Aparts x_1.A x_1.B (fun x13 => Ite x13 (post (5, m)) ((m.site.Aparts.length + ([x_1] : List ApiApart).length ≤ 1099511627776) ∧ post (0, ({ site := ({ Floor := m.site.Floor, Zones := m.site.Zones, Aparts := (m.site.Aparts ++ ([x_1] : List ApiApart)), Shelves := m.site.Shelves, Robots := m.site.Robots : ApiSite }), shelf := m.shelf, robot := m.robot, zoned := m.zoned, names := m.names, oneways := m.oneways, shelves := m.shelves, zones := m.zones : SurveyMaker }))))))
def V_survey_stands (kind : Int) (post : Bool → Prop) : Prop :=
  Jn (fun (J4 : Bool → Prop) => Ite (kind == 1) (J4 true) (J4 (kind == 2))) (fun (x3 : Bool) => post x3)
def V_survey_maker_addShelf__p0 (x_1 : ApiShelf) (m : SurveyMaker) (post : (Int × SurveyMaker) → Prop) : Prop :=
  Jn (fun (J4 : Bool → Prop) => Ite (seq x_1.Class ByteArray.empty) (J4 false) (V_survey_Name x_1.Class (fun x6 => J4 (!x6)))) (fun (x3 : Bool) => Ite x3 (post (12, m)) (V_survey_maker_kindAt m x_1.Cell (fun x12 => Ite (!x12.2) (post (3, m)) (V_survey_stands x12.1 (fun x20 => Ite (!x20) (post (13, m)) (Ite ((lk m.shelf x_1.Cell).isSome) (post (5, m)) (Ite (decide ((m.site.Shelves.length : Int) ≥ 3000)) (post (6, m)) ((m.site.Shelves.length + ([x_1] : List ApiShelf).length ≤ 1099511627776) ∧ post (0, ({ site := ({ Floor := m.site.Floor, Zones := m.site.Zones, Aparts := m.site.Aparts, Shelves := (m.site.Shelves ++ ([x_1] : List ApiShelf)), Robots := m.site.Robots : ApiSite }), shelf := (upd m.shelf x_1.Cell (m.site.Shelves.length : Int)), robot := m.robot, zoned := m.zoned, names := m.names, oneways := m.oneways, shelves := m.shelves, zones := m.zones : SurveyMaker }))))))))))
def V_survey_maker_addRobot__p0 (x_1 : ApiStart) (m : SurveyMaker) (post : (Int × SurveyMaker) → Prop) : Prop :=
  V_survey_maker_kindAt m x_1.Cell (fun x5 => Jn (fun (J7 : Bool → Prop) => Ite x5.2 (V_survey_within x_1.Charge 0 1000000 (fun x9 => J7 (!x9))) (J7 true)) (fun (x6 : Bool) => Ite x6 (post (3, m)) (Ite (x5.1 == 0) (post (13, m)) (Ite ((lk m.robot x_1.Cell).getD false) (post (5, m)) (Ite (decide ((m.site.Robots.length : Int) ≥ 200)) (post (6, m)) ((m.site.Robots.length + ([x_1] : List ApiStart).length ≤ 1099511627776) ∧ post (0, ({ site := ({ Floor := m.site.Floor, Zones := m.site.Zones, Aparts := m.site.Aparts, Shelves := m.site.Shelves, Robots := (m.site.Robots ++ ([x_1] : List ApiStart)) : ApiSite }), shelf := m.shelf, robot := (upd m.robot x_1.Cell true), zoned := m.zoned, names := m.names, oneways := m.oneways, shelves := m.shelves, zones := m.zones : SurveyMaker }))))))))
def V_survey_maker_beside (m : SurveyMaker) (post : Int → Prop) : Prop :=
  Jn (fun (J8 : Unit → Prop) => Loop (fun (s9 : Int) Y10 => Ite (decide (s9 < (m.site.Shelves.length : Int))) (Jn (fun (J15 : Unit → Prop) => ∃ x18, idx m.site.Shelves s9 = some x18 ∧ V_floor_At m.site.Floor x18.Cell (fun x21 => V_floor_Cell m.site.Floor (w64 (x21.1 + 1)) x21.2.1 x21.2.2 (fun x24 => V_floor_Cell m.site.Floor x21.1 (w64 (x21.2.1 + 1)) x21.2.2 (fun x25 => V_floor_Cell m.site.Floor (w64 (x21.1 - 1)) x21.2.1 x21.2.2 (fun x26 => V_floor_Cell m.site.Floor x21.1 (w64 (x21.2.1 - 1)) x21.2.2 (fun x27 => Jn (fun (J29 : Unit → Prop) => Loop (fun (s30 : Int) Y31 => Ite (decide (s30 < (([x24, x25, x26, x27] : List Int).length : Int))) (∃ x37, idx ([x24, x25, x26, x27] : List Int) s30 = some x37 ∧ Jn (fun (J41 : Bool → Prop) => Ite ((lk m.shelf x37).isSome) (Ite (decide (((lk m.shelf x37).getD 0) < s9)) (∃ x44, idx m.site.Shelves ((lk m.shelf x37).getD 0) = some x44 ∧ V_survey_Apart m.site.Aparts x18.Class x44.Class (fun x45 => J41 x45)) (J41 false)) (J41 false)) (fun (x40 : Bool) => Ite x40 (post s9) (Y31 (w64 (s30 + 1))))) (J29 ())) 0) (fun (x28 : Unit) => J15 ()))))))) (fun (x14 : Unit) => Y10 (w64 (s9 + 1)))) (J8 ())) 0) (fun (x7 : Unit) => post (-1))
def V_survey_maker_crowded_1 (z : ApiZone) (c0 : SurveyMaker) (post : Bool → Prop) : Prop :=
  Jn (fun (J8 : Int → Prop) => Loop (fun (s9 : Int × Int) Y10 => Ite (decide (s9.2 < (z.Cells.length : Int))) (∃ x16, idx z.Cells s9.2 = some x16 ∧ Jn (fun (J20 : Bool → Prop) => Ite ((lk c0.shelf x16).isSome) (J20 false) (∃ x22, idx c0.site.Floor.Kind x16 = some x22 ∧ V_survey_stands x22 (fun x23 => J20 x23))) (fun (x19 : Bool) => Jn (fun (J25 : Int → Prop) => Ite x19 (J25 (w64 (s9.1 + 1))) (J25 s9.1)) (fun (x24 : Int) => Y10 (x24, w64 (s9.2 + 1))))) (J8 s9.1)) (0, 0)) (fun (x7 : Int) => post (decide (x7 < z.Keep)))
def V_slices_IndexFunc_api_Zone_api_Zone__survey_maker_crowded_1 (s_1 : List ApiZone) (f_c0 : SurveyMaker) (post : Int → Prop) : Prop :=
  Jn (fun (J6 : Unit → Prop) => Loop (fun (s7 : Int) Y8 => Ite (decide (s7 < (s_1.length : Int))) (∃ x16, idx s_1 s7 = some x16 ∧ V_survey_maker_crowded_1 x16 f_c0 (fun x17 => Ite x17 (post s7) (Y8 (w64 (s7 + 1))))) (J6 ())) 0) (fun (x5 : Unit) => post (-1))
def V_survey_maker_crowded (m : SurveyMaker) (post : Int → Prop) : Prop :=
  V_slices_IndexFunc_api_Zone_api_Zone__survey_maker_crowded_1 m.site.Zones m (fun x5 => post x5)
def V_slices_Index_int_int (s_1 : List Int) (v : Int) (post : Int → Prop) : Prop :=
  Jn (fun (J6 : Unit → Prop) => Loop (fun (s7 : Int) Y8 => Ite (decide (s7 < (s_1.length : Int))) (∃ x16, idx s_1 s7 = some x16 ∧ Ite (v == x16) (post s7) (Y8 (w64 (s7 + 1)))) (J6 ())) 0) (fun (x5 : Unit) => post (-1))
def V_slices_Contains_int_int (s_1 : List Int) (v : Int) (post : Bool → Prop) : Prop :=
  V_slices_Index_int_int s_1 v (fun x5 => post (decide (x5 ≥ 0)))
def V_survey_maker_charger (m : SurveyMaker) (post : Bool → Prop) : Prop :=
  V_slices_Contains_int_int m.site.Floor.Kind 3 (fun x5 => post x5)
def V_survey_Right (s_1 : ApiSite) (post : Bool → Prop) : Prop :=
  V_floor_Right s_1.Floor (fun x5 => Ite (!x5) (post false) (V_survey_newMaker s_1.Floor (fun x11 => Jn (fun (J15 : (Int × Int × Int × List Int × List Int × List ApiZone × List ApiApart × List ApiShelf × List ApiStart × List (Int × Int) × List (Int × Bool) × List (Int × Bool) × List (ByteArray × Int) × List (Int × Bool) × List Int × List Int) → Prop) => Loop (fun (s16 : Int × Int × Int × List Int × List Int × List ApiZone × List ApiApart × List ApiShelf × List ApiStart × List (Int × Int) × List (Int × Bool) × List (Int × Bool) × List (ByteArray × Int) × List (Int × Bool) × List Int × List Int × Int) Y17 => Ite (decide (s16.2.2.2.2.2.2.2.2.2.2.2.2.2.2.2.2 < (s_1.Zones.length : Int))) (∃ x23, idx s_1.Zones s16.2.2.2.2.2.2.2.2.2.2.2.2.2.2.2.2 = some x23 ∧ Jn (fun (J25 : (Int × Int × Int × List Int × List Int × List ApiZone × List ApiApart × List ApiShelf × List ApiStart × List (Int × Int) × List (Int × Bool) × List (Int × Bool) × List (ByteArray × Int) × List (Int × Bool) × List Int × List Int × Bool) → Prop) => V_survey_Name x23.Name (fun x26 => Ite x26 (V_survey_within x23.Speed 1 100 (fun x28 => Ite x28 (Ite (decide (x23.Keep < 0)) (J25 (s16.1, s16.2.1, s16.2.2.1, s16.2.2.2.1, s16.2.2.2.2.1, s16.2.2.2.2.2.1, s16.2.2.2.2.2.2.1, s16.2.2.2.2.2.2.2.1, s16.2.2.2.2.2.2.2.2.1, s16.2.2.2.2.2.2.2.2.2.1, s16.2.2.2.2.2.2.2.2.2.2.1, s16.2.2.2.2.2.2.2.2.2.2.2.1, s16.2.2.2.2.2.2.2.2.2.2.2.2.1, s16.2.2.2.2.2.2.2.2.2.2.2.2.2.1, s16.2.2.2.2.2.2.2.2.2.2.2.2.2.2.1, s16.2.2.2.2.2.2.2.2.2.2.2.2.2.2.2.1, true)) (V_survey_shut x23.Shut (fun x31 => Ite x31 (V_survey_maker_cells ({ site := ({ Floor := ({ W := s16.1, H := s16.2.1, D := s16.2.2.1, Kind := s16.2.2.2.1, Out := s16.2.2.2.2.1 : ApiFloor }), Zones := s16.2.2.2.2.2.1, Aparts := s16.2.2.2.2.2.2.1, Shelves := s16.2.2.2.2.2.2.2.1, Robots := s16.2.2.2.2.2.2.2.2.1 : ApiSite }), shelf := s16.2.2.2.2.2.2.2.2.2.1, robot := s16.2.2.2.2.2.2.2.2.2.2.1, zoned := s16.2.2.2.2.2.2.2.2.2.2.2.1, names := s16.2.2.2.2.2.2.2.2.2.2.2.2.1, oneways := s16.2.2.2.2.2.2.2.2.2.2.2.2.2.1, shelves := s16.2.2.2.2.2.2.2.2.2.2.2.2.2.2.1, zones := s16.2.2.2.2.2.2.2.2.2.2.2.2.2.2.2.1 : SurveyMaker }) x23.Cells (fun x33 => Ite x33 (V_survey_maker_addZone__p0 x23 ({ site := ({ Floor := ({ W := s16.1, H := s16.2.1, D := s16.2.2.1, Kind := s16.2.2.2.1, Out := s16.2.2.2.2.1 : ApiFloor }), Zones := s16.2.2.2.2.2.1, Aparts := s16.2.2.2.2.2.2.1, Shelves := s16.2.2.2.2.2.2.2.1, Robots := s16.2.2.2.2.2.2.2.2.1 : ApiSite }), shelf := s16.2.2.2.2.2.2.2.2.2.1, robot := s16.2.2.2.2.2.2.2.2.2.2.1, zoned := s16.2.2.2.2.2.2.2.2.2.2.2.1, names := s16.2.2.2.2.2.2.2.2.2.2.2.2.1, oneways := s16.2.2.2.2.2.2.2.2.2.2.2.2.2.1, shelves := s16.2.2.2.2.2.2.2.2.2.2.2.2.2.2.1, zones := s16.2.2.2.2.2.2.2.2.2.2.2.2.2.2.2.1 : SurveyMaker }) (fun x35 => J25 (x35.2.site.Floor.W, x35.2.site.Floor.H, x35.2.site.Floor.D, x35.2.site.Floor.Kind, x35.2.site.Floor.Out, x35.2.site.Zones, x35.2.site.Aparts, x35.2.site.Shelves, x35.2.site.Robots, x35.2.shelf, x35.2.robot, x35.2.zoned, x35.2.names, x35.2.oneways, x35.2.shelves, x35.2.zones, (x35.1 != 0)))) (J25 (s16.1, s16.2.1, s16.2.2.1, s16.2.2.2.1, s16.2.2.2.2.1, s16.2.2.2.2.2.1, s16.2.2.2.2.2.2.1, s16.2.2.2.2.2.2.2.1, s16.2.2.2.2.2.2.2.2.1, s16.2.2.2.2.2.2.2.2.2.1, s16.2.2.2.2.2.2.2.2.2.2.1, s16.2.2.2.2.2.2.2.2.2.2.2.1, s16.2.2.2.2.2.2.2.2.2.2.2.2.1, s16.2.2.2.2.2.2.2.2.2.2.2.2.2.1, s16.2.2.2.2.2.2.2.2.2.2.2.2.2.2.1, s16.2.2.2.2.2.2.2.2.2.2.2.2.2.2.2.1, true)))) (J25 (s16.1, s16.2.1, s16.2.2.1, s16.2.2.2.1, s16.2.2.2.2.1, s16.2.2.2.2.2.1, s16.2.2.2.2.2.2.1, s16.2.2.2.2.2.2.2.1, s16.2.2.2.2.2.2.2.2.1, s16.2.2.2.2.2.2.2.2.2.1, s16.2.2.2.2.2.2.2.2.2.2.1, s16.2.2.2.2.2.2.2.2.2.2.2.1, s16.2.2.2.2.2.2.2.2.2.2.2.2.1, s16.2.2.2.2.2.2.2.2.2.2.2.2.2.1, s16.2.2.2.2.2.2.2.2.2.2.2.2.2.2.1, s16.2.2.2.2.2.2.2.2.2.2.2.2.2.2.2.1, true))))) (J25 (s16.1, s16.2.1, s16.2.2.1, s16.2.2.2.1, s16.2.2.2.2.1, s16.2.2.2.2.2.1, s16.2.2.2.2.2.2.1, s16.2.2.2.2.2.2.2.1, s16.2.2.2.2.2.2.2.2.1, s16.2.2.2.2.2.2.2.2.2.1, s16.2.2.2.2.2.2.2.2.2.2.1, s16.2.2.2.2.2.2.2.2.2.2.2.1, s16.2.2.2.2.2.2.2.2.2.2.2.2.1, s16.2.2.2.2.2.2.2.2.2.2.2.2.2.1, s16.2.2.2.2.2.2.2.2.2.2.2.2.2.2.1, s16.2.2.2.2.2.2.2.2.2.2.2.2.2.2.2.1, true)))) (J25 (s16.1, s16.2.1, s16.2.2.1, s16.2.2.2.1, s16.2.2.2.2.1, s16.2.2.2.2.2.1, s16.2.2.2.2.2.2.1, s16.2.2.2.2.2.2.2.1, s16.2.2.2.2.2.2.2.2.1, s16.2.2.2.2.2.2.2.2.2.1, s16.2.2.2.2.2.2.2.2.2.2.1, s16.2.2.2.2.2.2.2.2.2.2.2.1, s16.2.2.2.2.2.2.2.2.2.2.2.2.1, s16.2.2.2.2.2.2.2.2.2.2.2.2.2.1, s16.2.2.2.2.2.2.2.2.2.2.2.2.2.2.1, s16.2.2.2.2.2.2.2.2.2.2.2.2.2.2.2.1, true)))) (fun (x24 : Int × Int × Int × List Int × List Int × List ApiZone × List ApiApart × List ApiShelf × List ApiStart × List (Int × Int) × List (Int × Bool) × List (Int × Bool) × List (ByteArray × Int) × List (Int × Bool) × List Int × List Int × Bool) => Ite x24.2.2.2.2.2.2.2.2.2.2.2.2.2.2.2.2 (post false) (Y17 (x24.1, x24.2.1, x24.2.2.1, x24.2.2.2.1, x24.2.2.2.2.1, x24.2.2.2.2.2.1, x24.2.2.2.2.2.2.1, x24.2.2.2.2.2.2.2.1, x24.2.2.2.2.2.2.2.2.1, x24.2.2.2.2.2.2.2.2.2.1, x24.2.2.2.2.2.2.2.2.2.2.1, x24.2.2.2.2.2.2.2.2.2.2.2.1, x24.2.2.2.2.2.2.2.2.2.2.2.2.1, x24.2.2.2.2.2.2.2.2.2.2.2.2.2.1, x24.2.2.2.2.2.2.2.2.2.2.2.2.2.2.1, x24.2.2.2.2.2.2.2.2.2.2.2.2.2.2.2.1, w64 (s16.2.2.2.2.2.2.2.2.2.2.2.2.2.2.2.2 + 1))))) (J15 (s16.1, s16.2.1, s16.2.2.1, s16.2.2.2.1, s16.2.2.2.2.1, s16.2.2.2.2.2.1, s16.2.2.2.2.2.2.1, s16.2.2.2.2.2.2.2.1, s16.2.2.2.2.2.2.2.2.1, s16.2.2.2.2.2.2.2.2.2.1, s16.2.2.2.2.2.2.2.2.2.2.1, s16.2.2.2.2.2.2.2.2.2.2.2.1, s16.2.2.2.2.2.2.2.2.2.2.2.2.1, s16.2.2.2.2.2.2.2.2.2.2.2.2.2.1, s16.2.2.2.2.2.2.2.2.2.2.2.2.2.2.1, s16.2.2.2.2.2.2.2.2.2.2.2.2.2.2.2.1))) (x11.site.Floor.W, x11.site.Floor.H, x11.site.Floor.D, x11.site.Floor.Kind, x11.site.Floor.Out, x11.site.Zones, x11.site.Aparts, x11.site.Shelves, x11.site.Robots, x11.shelf, x11.robot, x11.zoned, x11.names, x11.oneways, x11.shelves, x11.zones, 0)) (fun (x14 : Int × Int × Int × List Int × List Int × List ApiZone × List ApiApart × List ApiShelf × List ApiStart × List (Int × Int) × List (Int × Bool) × List (Int × Bool) × List (ByteArray × Int) × List (Int × Bool) × List Int × List Int) => Jn (fun (J44 : (Int × Int × Int × List Int × List Int × List ApiZone × List ApiApart × List ApiShelf × List ApiStart × List (Int × Int) × List (Int × Bool) × List (Int × Bool) × List (ByteArray × Int) × List (Int × Bool) × List Int × List Int) → Prop) => Loop (fun (s45 : Int × Int × Int × List Int × List Int × List ApiZone × List ApiApart × List ApiShelf × List ApiStart × List (Int × Int) × List (Int × Bool) × List (Int × Bool) × List (ByteArray × Int) × List (Int × Bool) × List Int × List Int × Int) Y46 => Ite (decide (s45.2.2.2.2.2.2.2.2.2.2.2.2.2.2.2.2 < (s_1.Aparts.length : Int))) (∃ x52, idx s_1.Aparts s45.2.2.2.2.2.2.2.2.2.2.2.2.2.2.2.2 = some x52 ∧ V_survey_maker_addApart__p0 x52 ({ site := ({ Floor := ({ W := s45.1, H := s45.2.1, D := s45.2.2.1, Kind := s45.2.2.2.1, Out := s45.2.2.2.2.1 : ApiFloor }), Zones := s45.2.2.2.2.2.1, Aparts := s45.2.2.2.2.2.2.1, Shelves := s45.2.2.2.2.2.2.2.1, Robots := s45.2.2.2.2.2.2.2.2.1 : ApiSite }), shelf := s45.2.2.2.2.2.2.2.2.2.1, robot := s45.2.2.2.2.2.2.2.2.2.2.1, zoned := s45.2.2.2.2.2.2.2.2.2.2.2.1, names := s45.2.2.2.2.2.2.2.2.2.2.2.2.1, oneways := s45.2.2.2.2.2.2.2.2.2.2.2.2.2.1, shelves := s45.2.2.2.2.2.2.2.2.2.2.2.2.2.2.1, zones := s45.2.2.2.2.2.2.2.2.2.2.2.2.2.2.2.1 : SurveyMaker }) (fun x55 => Ite (x55.1 != 0) (post false) (Y46 (x55.2.site.Floor.W, x55.2.site.Floor.H, x55.2.site.Floor.D, x55.2.site.Floor.Kind, x55.2.site.Floor.Out, x55.2.site.Zones, x55.2.site.Aparts, x55.2.site.Shelves, x55.2.site.Robots, x55.2.shelf, x55.2.robot, x55.2.zoned, x55.2.names, x55.2.oneways, x55.2.shelves, x55.2.zones, w64 (s45.2.2.2.2.2.2.2.2.2.2.2.2.2.2.2.2 + 1))))) (J44 (s45.1, s45.2.1, s45.2.2.1, s45.2.2.2.1, s45.2.2.2.2.1, s45.2.2.2.2.2.1, s45.2.2.2.2.2.2.1, s45.2.2.2.2.2.2.2.1, s45.2.2.2.2.2.2.2.2.1, s45.2.2.2.2.2.2.2.2.2.1, s45.2.2.2.2.2.2.2.2.2.2.1, s45.2.2.2.2.2.2.2.2.2.2.2.1, s45.2.2.2.2.2.2.2.2.2.2.2.2.1, s45.2.2.2.2.2.2.2.2.2.2.2.2.2.1, s45.2.2.2.2.2.2.2.2.2.2.2.2.2.2.1, s45.2.2.2.2.2.2.2.2.2.2.2.2.2.2.2.1))) (x14.1, x14.2.1, x14.2.2.1, x14.2.2.2.1, x14.2.2.2.2.1, x14.2.2.2.2.2.1, x14.2.2.2.2.2.2.1, x14.2.2.2.2.2.2.2.1, x14.2.2.2.2.2.2.2.2.1, x14.2.2.2.2.2.2.2.2.2.1, x14.2.2.2.2.2.2.2.2.2.2.1, x14.2.2.2.2.2.2.2.2.2.2.2.1, x14.2.2.2.2.2.2.2.2.2.2.2.2.1, x14.2.2.2.2.2.2.2.2.2.2.2.2.2.1, x14.2.2.2.2.2.2.2.2.2.2.2.2.2.2.1, x14.2.2.2.2.2.2.2.2.2.2.2.2.2.2.2, 0)) (fun (x43 : Int × Int × Int × List Int × List Int × List ApiZone × List ApiApart × List ApiShelf × List ApiStart × List (Int × Int) × List (Int × Bool) × List (Int × Bool) × List (ByteArray × Int) × List (Int × Bool) × List Int × List Int) => Jn (fun (J64 : (Int × Int × Int × List Int × List Int × List ApiZone × List ApiApart × List ApiShelf × List ApiStart × List (Int × Int) × List (Int × Bool) × List (Int × Bool) × List (ByteArray × Int) × List (Int × Bool) × List Int × List Int) → Prop) => Loop (fun (s65 : Int × Int × Int × List Int × List Int × List ApiZone × List ApiApart × List ApiShelf × List ApiStart × List (Int × Int) × List (Int × Bool) × List (Int × Bool) × List (ByteArray × Int) × List (Int × Bool) × List Int × List Int × Int) Y66 => Ite (decide (s65.2.2.2.2.2.2.2.2.2.2.2.2.2.2.2.2 < (s_1.Shelves.length : Int))) (∃ x72, idx s_1.Shelves s65.2.2.2.2.2.2.2.2.2.2.2.2.2.2.2.2 = some x72 ∧ V_survey_maker_addShelf__p0 x72 ({ site := ({ Floor := ({ W := s65.1, H := s65.2.1, D := s65.2.2.1, Kind := s65.2.2.2.1, Out := s65.2.2.2.2.1 : ApiFloor }), Zones := s65.2.2.2.2.2.1, Aparts := s65.2.2.2.2.2.2.1, Shelves := s65.2.2.2.2.2.2.2.1, Robots := s65.2.2.2.2.2.2.2.2.1 : ApiSite }), shelf := s65.2.2.2.2.2.2.2.2.2.1, robot := s65.2.2.2.2.2.2.2.2.2.2.1, zoned := s65.2.2.2.2.2.2.2.2.2.2.2.1, names := s65.2.2.2.2.2.2.2.2.2.2.2.2.1, oneways := s65.2.2.2.2.2.2.2.2.2.2.2.2.2.1, shelves := s65.2.2.2.2.2.2.2.2.2.2.2.2.2.2.1, zones := s65.2.2.2.2.2.2.2.2.2.2.2.2.2.2.2.1 : SurveyMaker }) (fun x75 => Ite (x75.1 != 0) (post false) (Y66 (x75.2.site.Floor.W, x75.2.site.Floor.H, x75.2.site.Floor.D, x75.2.site.Floor.Kind, x75.2.site.Floor.Out, x75.2.site.Zones, x75.2.site.Aparts, x75.2.site.Shelves, x75.2.site.Robots, x75.2.shelf, x75.2.robot, x75.2.zoned, x75.2.names, x75.2.oneways, x75.2.shelves, x75.2.zones, w64 (s65.2.2.2.2.2.2.2.2.2.2.2.2.2.2.2.2 + 1))))) (J64 (s65.1, s65.2.1, s65.2.2.1, s65.2.2.2.1, s65.2.2.2.2.1, s65.2.2.2.2.2.1, s65.2.2.2.2.2.2.1, s65.2.2.2.2.2.2.2.1, s65.2.2.2.2.2.2.2.2.1, s65.2.2.2.2.2.2.2.2.2.1, s65.2.2.2.2.2.2.2.2.2.2.1, s65.2.2.2.2.2.2.2.2.2.2.2.1, s65.2.2.2.2.2.2.2.2.2.2.2.2.1, s65.2.2.2.2.2.2.2.2.2.2.2.2.2.1, s65.2.2.2.2.2.2.2.2.2.2.2.2.2.2.1, s65.2.2.2.2.2.2.2.2.2.2.2.2.2.2.2.1))) (x43.1, x43.2.1, x43.2.2.1, x43.2.2.2.1, x43.2.2.2.2.1, x43.2.2.2.2.2.1, x43.2.2.2.2.2.2.1, x43.2.2.2.2.2.2.2.1, x43.2.2.2.2.2.2.2.2.1, x43.2.2.2.2.2.2.2.2.2.1, x43.2.2.2.2.2.2.2.2.2.2.1, x43.2.2.2.2.2.2.2.2.2.2.2.1, x43.2.2.2.2.2.2.2.2.2.2.2.2.1, x43.2.2.2.2.2.2.2.2.2.2.2.2.2.1, x43.2.2.2.2.2.2.2.2.2.2.2.2.2.2.1, x43.2.2.2.2.2.2.2.2.2.2.2.2.2.2.2, 0)) (fun (x63 : Int × Int × Int × List Int × List Int × List ApiZone × List ApiApart × List ApiShelf × List ApiStart × List (Int × Int) × List (Int × Bool) × List (Int × Bool) × List (ByteArray × Int) × List (Int × Bool) × List Int × List Int) => Jn (fun (J84 : (Int × Int × Int × List Int × List Int × List ApiZone × List ApiApart × List ApiShelf × List ApiStart × List (Int × Int) × List (Int × Bool) × List (Int × Bool) × List (ByteArray × Int) × List (Int × Bool) × List Int × List Int) → Prop) => Loop (fun (s85 : Int × Int × Int × List Int × List Int × List ApiZone × List ApiApart × List ApiShelf × List ApiStart × List (Int × Int) × List (Int × Bool) × List (Int × Bool) × List (ByteArray × Int) × List (Int × Bool) × List Int × List Int × Int) Y86 => Ite (decide (s85.2.2.2.2.2.2.2.2.2.2.2.2.2.2.2.2 < (s_1.Robots.length : Int))) (∃ x92, idx s_1.Robots s85.2.2.2.2.2.2.2.2.2.2.2.2.2.2.2.2 = some x92 ∧ V_survey_maker_addRobot__p0 x92 ({ site := ({ Floor := ({ W := s85.1, H := s85.2.1, D := s85.2.2.1, Kind := s85.2.2.2.1, Out := s85.2.2.2.2.1 : ApiFloor }), Zones := s85.2.2.2.2.2.1, Aparts := s85.2.2.2.2.2.2.1, Shelves := s85.2.2.2.2.2.2.2.1, Robots := s85.2.2.2.2.2.2.2.2.1 : ApiSite }), shelf := s85.2.2.2.2.2.2.2.2.2.1, robot := s85.2.2.2.2.2.2.2.2.2.2.1, zoned := s85.2.2.2.2.2.2.2.2.2.2.2.1, names := s85.2.2.2.2.2.2.2.2.2.2.2.2.1, oneways := s85.2.2.2.2.2.2.2.2.2.2.2.2.2.1, shelves := s85.2.2.2.2.2.2.2.2.2.2.2.2.2.2.1, zones := s85.2.2.2.2.2.2.2.2.2.2.2.2.2.2.2.1 : SurveyMaker }) (fun x95 => Ite (x95.1 != 0) (post false) (Y86 (x95.2.site.Floor.W, x95.2.site.Floor.H, x95.2.site.Floor.D, x95.2.site.Floor.Kind, x95.2.site.Floor.Out, x95.2.site.Zones, x95.2.site.Aparts, x95.2.site.Shelves, x95.2.site.Robots, x95.2.shelf, x95.2.robot, x95.2.zoned, x95.2.names, x95.2.oneways, x95.2.shelves, x95.2.zones, w64 (s85.2.2.2.2.2.2.2.2.2.2.2.2.2.2.2.2 + 1))))) (J84 (s85.1, s85.2.1, s85.2.2.1, s85.2.2.2.1, s85.2.2.2.2.1, s85.2.2.2.2.2.1, s85.2.2.2.2.2.2.1, s85.2.2.2.2.2.2.2.1, s85.2.2.2.2.2.2.2.2.1, s85.2.2.2.2.2.2.2.2.2.1, s85.2.2.2.2.2.2.2.2.2.2.1, s85.2.2.2.2.2.2.2.2.2.2.2.1, s85.2.2.2.2.2.2.2.2.2.2.2.2.1, s85.2.2.2.2.2.2.2.2.2.2.2.2.2.1, s85.2.2.2.2.2.2.2.2.2.2.2.2.2.2.1, s85.2.2.2.2.2.2.2.2.2.2.2.2.2.2.2.1))) (x63.1, x63.2.1, x63.2.2.1, x63.2.2.2.1, x63.2.2.2.2.1, x63.2.2.2.2.2.1, x63.2.2.2.2.2.2.1, x63.2.2.2.2.2.2.2.1, x63.2.2.2.2.2.2.2.2.1, x63.2.2.2.2.2.2.2.2.2.1, x63.2.2.2.2.2.2.2.2.2.2.1, x63.2.2.2.2.2.2.2.2.2.2.2.1, x63.2.2.2.2.2.2.2.2.2.2.2.2.1, x63.2.2.2.2.2.2.2.2.2.2.2.2.2.1, x63.2.2.2.2.2.2.2.2.2.2.2.2.2.2.1, x63.2.2.2.2.2.2.2.2.2.2.2.2.2.2.2, 0)) (fun (x83 : Int × Int × Int × List Int × List Int × List ApiZone × List ApiApart × List ApiShelf × List ApiStart × List (Int × Int) × List (Int × Bool) × List (Int × Bool) × List (ByteArray × Int) × List (Int × Bool) × List Int × List Int) => Jn (fun (J102 : Bool → Prop) => V_survey_maker_beside ({ site := ({ Floor := ({ W := x83.1, H := x83.2.1, D := x83.2.2.1, Kind := x83.2.2.2.1, Out := x83.2.2.2.2.1 : ApiFloor }), Zones := x83.2.2.2.2.2.1, Aparts := x83.2.2.2.2.2.2.1, Shelves := x83.2.2.2.2.2.2.2.1, Robots := x83.2.2.2.2.2.2.2.2.1 : ApiSite }), shelf := x83.2.2.2.2.2.2.2.2.2.1, robot := x83.2.2.2.2.2.2.2.2.2.2.1, zoned := x83.2.2.2.2.2.2.2.2.2.2.2.1, names := x83.2.2.2.2.2.2.2.2.2.2.2.2.1, oneways := x83.2.2.2.2.2.2.2.2.2.2.2.2.2.1, shelves := x83.2.2.2.2.2.2.2.2.2.2.2.2.2.2.1, zones := x83.2.2.2.2.2.2.2.2.2.2.2.2.2.2.2 : SurveyMaker }) (fun x103 => Ite (decide (x103 < 0)) (V_survey_maker_crowded ({ site := ({ Floor := ({ W := x83.1, H := x83.2.1, D := x83.2.2.1, Kind := x83.2.2.2.1, Out := x83.2.2.2.2.1 : ApiFloor }), Zones := x83.2.2.2.2.2.1, Aparts := x83.2.2.2.2.2.2.1, Shelves := x83.2.2.2.2.2.2.2.1, Robots := x83.2.2.2.2.2.2.2.2.1 : ApiSite }), shelf := x83.2.2.2.2.2.2.2.2.2.1, robot := x83.2.2.2.2.2.2.2.2.2.2.1, zoned := x83.2.2.2.2.2.2.2.2.2.2.2.1, names := x83.2.2.2.2.2.2.2.2.2.2.2.2.1, oneways := x83.2.2.2.2.2.2.2.2.2.2.2.2.2.1, shelves := x83.2.2.2.2.2.2.2.2.2.2.2.2.2.2.1, zones := x83.2.2.2.2.2.2.2.2.2.2.2.2.2.2.2 : SurveyMaker }) (fun x105 => Ite (decide (x105 < 0)) (V_survey_maker_charger ({ site := ({ Floor := ({ W := x83.1, H := x83.2.1, D := x83.2.2.1, Kind := x83.2.2.2.1, Out := x83.2.2.2.2.1 : ApiFloor }), Zones := x83.2.2.2.2.2.1, Aparts := x83.2.2.2.2.2.2.1, Shelves := x83.2.2.2.2.2.2.2.1, Robots := x83.2.2.2.2.2.2.2.2.1 : ApiSite }), shelf := x83.2.2.2.2.2.2.2.2.2.1, robot := x83.2.2.2.2.2.2.2.2.2.2.1, zoned := x83.2.2.2.2.2.2.2.2.2.2.2.1, names := x83.2.2.2.2.2.2.2.2.2.2.2.2.1, oneways := x83.2.2.2.2.2.2.2.2.2.2.2.2.2.1, shelves := x83.2.2.2.2.2.2.2.2.2.2.2.2.2.2.1, zones := x83.2.2.2.2.2.2.2.2.2.2.2.2.2.2.2 : SurveyMaker }) (fun x107 => J102 x107)) (J102 false))) (J102 false))) (fun (x101 : Bool) => post x101))))))))
def V_taquinref07_Size (f : ApiFloor) (post : Int → Prop) : Prop :=
  post (w64 ((w64 (f.W * f.H)) * f.D))
def V_taquinref07_Is (f : ApiFloor) (c : Int) (post : Bool → Prop) : Prop :=
  Jn (fun (J4 : Bool → Prop) => Ite (decide (c ≥ 0)) (V_taquinref07_Size f (fun x6 => J4 (decide (c < x6)))) (J4 false)) (fun (x3 : Bool) => post x3)
def V_taquinlaw12_fits (s_1 : ApiSite) (st : ApiState) (post : Bool → Prop) : Prop :=
  Jn (fun (J4 : Bool → Prop) => V_taquinref11_Few s_1 60 20 (fun x5 => Ite x5 (Ite (decide ((st.Robots.length : Int) > 20)) (J4 true) (Ite ((st.Shelves.length : Int) != (s_1.Shelves.length : Int)) (J4 true) (V_survey_Right s_1 (fun x9 => J4 (!x9))))) (J4 true))) (fun (x3 : Bool) => Ite x3 (post false) (Jn (fun (J16 : Unit → Prop) => Loop (fun (s17 : Int) Y18 => Ite (decide (s17 < (st.Shelves.length : Int))) (∃ x24, idx st.Shelves s17 = some x24 ∧ V_taquinref07_Is s_1.Floor x24 (fun x25 => Ite (!x25) (post false) (Y18 (w64 (s17 + 1))))) (J16 ())) 0) (fun (x15 : Unit) => post true)))
def V_rules_At (s_1 : ApiSite) (st : ApiState) (c : Int) (post : Int → Prop) : Prop :=
  V_rules_standing st (fun x5 => Ite ((lk x5 c).isSome) (post ((lk x5 c).getD 0)) (post (-1)))
def V_rules_Keeps (s_1 : ApiSite) (st : ApiState) (post : Int → Prop) : Prop :=
  Jn (fun (J6 : Unit → Prop) => Loop (fun (s7 : Int) Y8 => Ite (decide (s7 < (s_1.Zones.length : Int))) (V_rules_Room s_1 st s7 (fun x16 => Ite (decide (x16 < 0)) (post s7) (Y8 (w64 (s7 + 1))))) (J6 ())) 0) (fun (x5 : Unit) => post (-1))
def V_taquinlaw12_RulesRoom (s_1 : ApiSite) (st : ApiState) (post : Bool → Prop) : Prop :=
  V_taquinlaw12_small (fun x5 => V_taquinlaw12_fits s_1 st (fun x8 => Ite (!x8) (post x5) (Jn (fun (J17 : (List Int) → Prop) => Loop (fun (s18 : List Int × Int) Y19 => Ite (decide (s18.2 < (s_1.Shelves.length : Int))) (∃ x25, idx s_1.Shelves s18.2 = some x25 ∧ (s18.1.length + ([x25.Cell] : List Int).length ≤ 1099511627776) ∧ Y19 ((s18.1 ++ ([x25.Cell] : List Int)), w64 (s18.2 + 1))) (J17 s18.1)) (([], 0) : List Int × Int)) (fun (x16 : List Int) => Jn (fun (J34 : Int → Prop) => Loop (fun (s35 : Int × Int) Y36 => Ite (decide (s35.2 < (s_1.Zones.length : Int))) (Jn (fun (J41 : Int → Prop) => Jn (fun (J47 : Int → Prop) => Loop (fun (s48 : Int × Int) Y49 => ∃ x52, idx s_1.Zones s35.2 = some x52 ∧ Ite (decide (s48.2 < (x52.Cells.length : Int))) (∃ x56, idx x52.Cells s48.2 = some x56 ∧ Jn (fun (J58 : Bool → Prop) => V_rules_Stands s_1 x56 (fun x59 => Ite x59 (V_rules_At s_1 st x56 (fun x61 => J58 (x61 == (-1)))) (J58 false))) (fun (x57 : Bool) => Jn (fun (J63 : Int → Prop) => Ite x57 (J63 (w64 (s48.1 + 1))) (J63 s48.1)) (fun (x62 : Int) => Y49 (x62, w64 (s48.2 + 1))))) (J47 s48.1)) (0, 0)) (fun (x46 : Int) => ∃ x71, idx s_1.Zones s35.2 = some x71 ∧ V_rules_Room s_1 st s35.2 (fun x72 => Ite (x72 != (w64 (x46 - x71.Keep))) (post false) (Jn (fun (J77 : Bool → Prop) => Ite (decide (s35.1 < 0)) (J77 (decide (x46 < x71.Keep))) (J77 false)) (fun (x76 : Bool) => Jn (fun (J80 : Int → Prop) => Ite x76 (J80 s35.2) (J80 s35.1)) (fun (x79 : Int) => J41 x79)))))) (fun (x40 : Int) => Y36 (x40, w64 (s35.2 + 1)))) (J34 s35.1)) ((-1), 0)) (fun (x33 : Int) => V_rules_Apart s_1 ({ Tick := 0, Shelves := x16, Robots := [], People := [], Dead := [], Stuck := [] : ApiState }) (fun x88 => Jn (fun (J90 : Bool → Prop) => Ite x5 (V_rules_Keeps s_1 st (fun x92 => Ite (x92 == x33) (V_rules_Keeps s_1 ({ Tick := 0, Shelves := x16, Robots := [], People := [], Dead := [], Stuck := [] : ApiState }) (fun x94 => Ite (x94 == (-1)) (Ite x88.2.2 (J90 false) (V_rules_Room s_1 st (-1) (fun x97 => Ite (x97 == 0) (V_rules_Room s_1 st (s_1.Zones.length : Int) (fun x99 => J90 (x99 == 0))) (J90 false)))) (J90 false))) (J90 false))) (J90 false)) (fun (x89 : Bool) => post x89)))))))
end Go.Taq
