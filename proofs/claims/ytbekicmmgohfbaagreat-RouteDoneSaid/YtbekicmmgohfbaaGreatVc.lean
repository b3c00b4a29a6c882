/- The verification conditions of the Go functions that are reached, in plain data (written by a program of the prover). -/
import Derived.Test.YtbekicmmgohfbaaGreatLibX
import Derived.Test.YtbekicmmgohfbaaGreatLibZR
set_option linter.unusedVariables false
namespace Go.Taq
open Go
structure ApiFloor where
  W : Int
  H : Int
  D : Int
  Kind : List Int
  Out : List Int
deriving DecidableEq, Inhabited
structure ApiSpan where
  From : Int
  To : Int
deriving DecidableEq, Inhabited
structure ApiZone where
  Name : ByteArray
  Cells : List Int
  Speed : Int
  Keep : Int
  Shut : List ApiSpan
deriving DecidableEq, Inhabited
structure ApiApart where
  A : ByteArray
  B : ByteArray
deriving DecidableEq, Inhabited
structure ApiShelf where
  Cell : Int
  Class : ByteArray
deriving DecidableEq, Inhabited
structure ApiStart where
  Cell : Int
  Charge : Int
deriving DecidableEq, Inhabited
structure ApiSite where
  Floor : ApiFloor
  Zones : List ApiZone
  Aparts : List ApiApart
  Shelves : List ApiShelf
  Robots : List ApiStart
deriving DecidableEq, Inhabited
structure ApiTaken where
  Cell : Int
  Span : ApiSpan
deriving DecidableEq, Inhabited
structure RouteWalk where
  site : ApiSite
  tick : Int
  avoid : List Int
  taken : List (Int × List ApiSpan)
deriving DecidableEq, Inhabited
structure RouteStand where
  cell : Int
  rest : Int
deriving DecidableEq, Inhabited
structure FloorStep where
  x : Int
  y : Int
  z : Int
deriving DecidableEq, Inhabited
structure Arr6FloorStep where
  e0 : FloorStep
  e1 : FloorStep
  e2 : FloorStep
  e3 : FloorStep
  e4 : FloorStep
  e5 : FloorStep
deriving DecidableEq, Inhabited
structure ApiRobot where
  Cell : Int
  Load : Int
  Charge : Int
  Rest : Int
  Mute : Int
  Dead : Bool
deriving DecidableEq, Inhabited
structure ApiStuck where
  Cell : Int
  Left : Int
deriving DecidableEq, Inhabited
structure ApiState where
  Tick : Int
  Shelves : List Int
  Robots : List ApiRobot
  People : List Int
  Dead : List Int
  Stuck : List ApiStuck
deriving DecidableEq, Inhabited
structure OkApiFloor (x : ApiFloor) : Prop where
  W : I64 x.W
  H : I64 x.H
  D : I64 x.D
  Kind : (OkL I64) x.Kind
  Out : (OkL I64) x.Out
structure OkApiSpan (x : ApiSpan) : Prop where
  From : I64 x.From
  To : I64 x.To
structure OkApiZone (x : ApiZone) : Prop where
  Name : OkS x.Name
  Cells : (OkL I64) x.Cells
  Speed : I64 x.Speed
  Keep : I64 x.Keep
  Shut : (OkL OkApiSpan) x.Shut
structure OkApiApart (x : ApiApart) : Prop where
  A : OkS x.A
  B : OkS x.B
structure OkApiShelf (x : ApiShelf) : Prop where
  Cell : I64 x.Cell
  Class : OkS x.Class
structure OkApiStart (x : ApiStart) : Prop where
  Cell : I64 x.Cell
  Charge : I64 x.Charge
structure OkApiSite (x : ApiSite) : Prop where
  Floor : OkApiFloor x.Floor
  Zones : (OkL OkApiZone) x.Zones
  Aparts : (OkL OkApiApart) x.Aparts
  Shelves : (OkL OkApiShelf) x.Shelves
  Robots : (OkL OkApiStart) x.Robots
structure OkApiRobot (x : ApiRobot) : Prop where
  Cell : I64 x.Cell
  Load : I64 x.Load
  Charge : I64 x.Charge
  Rest : I64 x.Rest
  Mute : I64 x.Mute
  Dead : (fun (_ : Bool) => True) x.Dead
structure OkApiStuck (x : ApiStuck) : Prop where
  Cell : I64 x.Cell
  Left : I64 x.Left
structure OkApiState (x : ApiState) : Prop where
  Tick : I64 x.Tick
  Shelves : (OkL I64) x.Shelves
  Robots : (OkL OkApiRobot) x.Robots
  People : (OkL I64) x.People
  Dead : (OkL I64) x.Dead
  Stuck : (OkL OkApiStuck) x.Stuck
def V_taquinlaw23_example (post : ApiSite → Prop) : Prop :=
  post ({ Floor := ({ W := 4, H := 1, D := 1, Kind := ([3, 1, 1, 1] : List Int), Out := ([1, 5, 5, 4] : List Int) : ApiFloor }), Zones := [], Aparts := [], Shelves := [], Robots := [] : ApiSite })
def V_route_right (s_1 : ApiSite) (from_1 : Int) (to_1 : Int) (tick : Int) (post : Bool → Prop) : Prop :=
  Jn (fun (J6 : Unit → Prop) => Loop (fun (s7 : Int) Y8 => Ite (decide (s7 < (([from_1, to_1] : List Int).length : Int))) (∃ x14, idx ([from_1, to_1] : List Int) s7 = some x14 ∧ Jn (fun (J16 : Bool → Prop) => Ite (decide (x14 < 0)) (J16 true) (Ite (decide (x14 ≥ (s_1.Floor.Kind.length : Int))) (J16 true) (∃ x19, idx s_1.Floor.Kind x14 = some x19 ∧ J16 (x19 == 0)))) (fun (x15 : Bool) => Ite x15 (post false) (Y8 (w64 (s7 + 1))))) (J6 ())) 0) (fun (x5 : Unit) => Jn (fun (J26 : Bool → Prop) => Ite (decide (tick ≥ 0)) (J26 (decide (tick ≤ 20000))) (J26 false)) (fun (x25 : Bool) => post x25))
def V_route_newWalk (s_1 : ApiSite) (tick : Int) (taken : List ApiTaken) (avoid : List Int) (post : RouteWalk → Prop) : Prop :=
  Jn (fun (J8 : (List (Int × List ApiSpan)) → Prop) => Loop (fun (s9 : List (Int × List ApiSpan) × Int) Y10 => Ite (decide (s9.2 < (taken.length : Int))) (∃ x16, idx taken s9.2 = some x16 ∧ Jn (fun (J18 : (List (Int × List ApiSpan)) → Prop) => (∀ x19, lk s9.1 x16.Cell = some x19 → (x19.length + ([x16.Span] : List ApiSpan).length ≤ 1099511627776) ∧ J18 (upd s9.1 x16.Cell (x19 ++ ([x16.Span] : List ApiSpan)))) ∧ (lk s9.1 x16.Cell = none → (([x16.Span] : List ApiSpan).length ≤ 1099511627776) ∧ J18 (upd (upd s9.1 x16.Cell []) x16.Cell ([x16.Span] : List ApiSpan)))) (fun (x17 : List (Int × List ApiSpan)) => Y10 (x17, w64 (s9.2 + 1)))) (J8 s9.1)) ((([] : List (Int × List ApiSpan)), 0) : List (Int × List ApiSpan) × Int)) (fun (x7 : List (Int × List ApiSpan)) => post ({ site := s_1, tick := tick, avoid := avoid, taken := x7 : RouteWalk }))
def V_route_walk_held_1 (x_1 : ApiSpan) (c0 : Int) (post : Bool → Prop) : Prop :=
  Jn (fun (J4 : Bool → Prop) => Ite (decide (x_1.From ≤ c0)) (J4 (decide (c0 < x_1.To))) (J4 false)) (fun (x3 : Bool) => post x3)
def V_slices_IndexFunc_api_Span_api_Span__route_walk_held_1 (s_1 : List ApiSpan) (f_c0 : Int) (post : Int → Prop) : Prop :=
  Jn (fun (J6 : Unit → Prop) => Loop (fun (s7 : Int) Y8 => Ite (decide (s7 < (s_1.length : Int))) (∃ x16, idx s_1 s7 = some x16 ∧ V_route_walk_held_1 x16 f_c0 (fun x17 => Ite x17 (post s7) (Y8 (w64 (s7 + 1))))) (J6 ())) 0) (fun (x5 : Unit) => post (-1))
def V_slices_ContainsFunc_api_Span_api_Span__route_walk_held_1 (s_1 : List ApiSpan) (f_c0 : Int) (post : Bool → Prop) : Prop :=
  V_slices_IndexFunc_api_Span_api_Span__route_walk_held_1 s_1 f_c0 (fun x5 => post (decide (x5 ≥ 0)))
def V_route_walk_held (w : RouteWalk) (c : Int) (k : Int) (post : Bool → Prop) : Prop :=
  V_slices_ContainsFunc_api_Span_api_Span__route_walk_held_1 ((lk w.taken c).getD []) (w64 (w.tick + k)) (fun x7 => post x7)
def V_floor_size (f : ApiFloor) (post : Int → Prop) : Prop :=
  post (w64 ((w64 (f.W * f.H)) * f.D))
def V_floor_is (f : ApiFloor) (c : Int) (post : Bool → Prop) : Prop :=
  Jn (fun (J4 : Bool → Prop) => Ite (decide (c ≥ 0)) (V_floor_size f (fun x6 => J4 (decide (c < x6)))) (J4 false)) (fun (x3 : Bool) => post x3)
def V_floor_At (f : ApiFloor) (c : Int) (post : (Int × Int × Int) → Prop) : Prop :=
  V_floor_is f c (fun x5 => Ite (!x5) (post (0, 0, 0)) ((f.W ≠ 0) ∧ (f.W ≠ 0) ∧ (f.H ≠ 0) ∧ ((w64 (f.W * f.H)) ≠ 0) ∧ post (c.tmod f.W, (w64 (c.tdiv f.W)).tmod f.H, w64 (c.tdiv (w64 (f.W * f.H))))))
def V_floor_steps (post : Arr6FloorStep → Prop) : Prop :=
  post ({ e0 := ({ x := 1, y := 0, z := 0 : FloorStep }), e1 := ({ x := 0, y := 1, z := 0 : FloorStep }), e2 := ({ x := (-1), y := 0, z := 0 : FloorStep }), e3 := ({ x := 0, y := (-1), z := 0 : FloorStep }), e4 := ({ x := 0, y := 0, z := 1 : FloorStep }), e5 := ({ x := 0, y := 0, z := (-1) : FloorStep }) : Arr6FloorStep })
def V_floor_Cell (f : ApiFloor) (x_1 : Int) (y_1 : Int) (z : Int) (post : Int → Prop) : Prop :=
  Jn (fun (J4 : Bool → Prop) => Ite (decide ((imin (imin x_1 y_1) z) < 0)) (J4 true) (Ite (decide (x_1 ≥ f.W)) (J4 true) (Ite (decide (y_1 ≥ f.H)) (J4 true) (J4 (decide (z ≥ f.D)))))) (fun (x3 : Bool) => Ite x3 (post (-1)) (post (w64 ((w64 ((w64 ((w64 (z * f.H)) + y_1)) * f.W)) + x_1))))
def V_floor_beside (f : ApiFloor) (c : Int) (d : Int) (post : Int → Prop) : Prop :=
  Jn (fun (J4 : Bool → Prop) => V_floor_is f c (fun x5 => Ite x5 (Ite (decide (d < 0)) (J4 true) (J4 (decide (d ≥ 6)))) (J4 true))) (fun (x3 : Bool) => Ite x3 (post (-1)) (V_floor_At f c (fun x13 => V_floor_steps (fun x16 => ∃ x17, idx ([x16.e0, x16.e1, x16.e2, x16.e3, x16.e4, x16.e5] : List FloorStep) d = some x17 ∧ V_floor_Cell f (w64 (x13.1 + x17.x)) (w64 (x13.2.1 + x17.y)) (w64 (x13.2.2 + x17.z)) (fun x20 => post x20)))))
def V_floor_Next (f : ApiFloor) (c : Int) (d : Int) (post : (Int × Bool) → Prop) : Prop :=
  V_floor_beside f c d (fun x5 => Jn (fun (J7 : Bool → Prop) => Ite (decide (x5 < 0)) (J7 true) (∃ x9, idx f.Kind c = some x9 ∧ Ite (x9 == 0) (J7 true) (∃ x11, idx f.Kind x5 = some x11 ∧ Ite (x11 == 0) (J7 true) (∃ x13, idx f.Out c = some x13 ∧ (0 ≤ d) ∧ J7 ((band .i64 (shrI .i64 x13 d) 1) == 0))))) (fun (x6 : Bool) => Ite x6 (post (0, false)) (Jn (fun (J19 : Bool → Prop) => Ite (d == 4) (∃ x21, idx f.Kind c = some x21 ∧ Ite (x21 != 6) (J19 true) (∃ x23, idx f.Kind x5 = some x23 ∧ J19 (x23 != 6))) (Ite (d == 5) (∃ x25, idx f.Kind c = some x25 ∧ Ite (x25 != 6) (J19 true) (∃ x27, idx f.Kind x5 = some x27 ∧ J19 (x27 != 6))) (J19 false))) (fun (x18 : Bool) => Ite x18 (post (0, false)) (post (x5, true))))))
def V_slices_Index_int_int (s_1 : List Int) (v : Int) (post : Int → Prop) : Prop :=
  Jn (fun (J6 : Unit → Prop) => Loop (fun (s7 : Int) Y8 => Ite (decide (s7 < (s_1.length : Int))) (∃ x16, idx s_1 s7 = some x16 ∧ Ite (v == x16) (post s7) (Y8 (w64 (s7 + 1)))) (J6 ())) 0) (fun (x5 : Unit) => post (-1))
def V_slices_Contains_int_int (s_1 : List Int) (v : Int) (post : Bool → Prop) : Prop :=
  V_slices_Index_int_int s_1 v (fun x5 => post (decide (x5 ≥ 0)))
def V_cmp_isNaN_int (x_1 : Int) (post : Bool → Prop) : Prop :=
  post (x_1 != x_1)
def V_cmp_Less_int (x_1 : Int) (y_1 : Int) (post : Bool → Prop) : Prop :=
  Jn (fun (J4 : Bool → Prop) => V_cmp_isNaN_int x_1 (fun x5 => Ite x5 (V_cmp_isNaN_int y_1 (fun x7 => Ite x7 (J4 (decide (x_1 < y_1))) (J4 true))) (J4 (decide (x_1 < y_1))))) (fun (x3 : Bool) => post x3)
def V_slices_isNaN_int (x_1 : Int) (post : Bool → Prop) : Prop :=
  post (x_1 != x_1)
def V_slices_BinarySearch_int_int (x_1 : List Int) (target : Int) (post : (Int × Bool) → Prop) : Prop :=
  Jn (fun (J8 : Int → Prop) => Loop (fun (s9 : Int × Int) Y10 => Ite (decide (s9.1 < s9.2)) (∃ x19, idx x_1 (IntKind.wrap .i64 (shrI .u64 (IntKind.wrap .u64 (w64 (s9.1 + s9.2))) 1)) = some x19 ∧ V_cmp_Less_int x19 target (fun x20 => Jn (fun (J22 : (Int × Int) → Prop) => Ite x20 (J22 (w64 ((IntKind.wrap .i64 (shrI .u64 (IntKind.wrap .u64 (w64 (s9.1 + s9.2))) 1)) + 1), s9.2)) (J22 (s9.1, IntKind.wrap .i64 (shrI .u64 (IntKind.wrap .u64 (w64 (s9.1 + s9.2))) 1)))) (fun (x21 : Int × Int) => Y10 (x21.1, x21.2)))) (J8 s9.1)) (0, (x_1.length : Int))) (fun (x7 : Int) => Jn (fun (J29 : Bool → Prop) => Ite (decide (x7 < (x_1.length : Int))) (∃ x31, idx x_1 x7 = some x31 ∧ Ite (x31 == target) (J29 true) (V_slices_isNaN_int x31 (fun x33 => Ite x33 (V_slices_isNaN_int target (fun x35 => J29 x35)) (J29 false)))) (J29 false)) (fun (x28 : Bool) => post (x7, x28)))
def V_rules_ZoneOf_1 (z : ApiZone) (c0 : Int) (post : Bool → Prop) : Prop :=
  V_slices_BinarySearch_int_int z.Cells c0 (fun x5 => post x5.2)
def V_slices_IndexFunc_api_Zone_api_Zone__rules_ZoneOf_1 (s_1 : List ApiZone) (f_c0 : Int) (post : Int → Prop) : Prop :=
  Jn (fun (J6 : Unit → Prop) => Loop (fun (s7 : Int) Y8 => Ite (decide (s7 < (s_1.length : Int))) (∃ x16, idx s_1 s7 = some x16 ∧ V_rules_ZoneOf_1 x16 f_c0 (fun x17 => Ite x17 (post s7) (Y8 (w64 (s7 + 1))))) (J6 ())) 0) (fun (x5 : Unit) => post (-1))
def V_rules_ZoneOf (s_1 : ApiSite) (c : Int) (post : Int → Prop) : Prop :=
  V_slices_IndexFunc_api_Zone_api_Zone__rules_ZoneOf_1 s_1.Zones c (fun x5 => post x5)
def V_rules_isCell (s_1 : ApiSite) (c : Int) (post : Bool → Prop) : Prop :=
  Jn (fun (J4 : Bool → Prop) => Ite (decide (c ≥ 0)) (J4 (decide (c < (s_1.Floor.Kind.length : Int)))) (J4 false)) (fun (x3 : Bool) => post x3)
def V_rules_Open_1 (x_1 : ApiSpan) (c0 : Int) (post : Bool → Prop) : Prop :=
  Jn (fun (J4 : Bool → Prop) => Ite (decide (x_1.From ≤ c0)) (J4 (decide (c0 < x_1.To))) (J4 false)) (fun (x3 : Bool) => post x3)
def V_slices_IndexFunc_api_Span_api_Span__rules_Open_1 (s_1 : List ApiSpan) (f_c0 : Int) (post : Int → Prop) : Prop :=
  Jn (fun (J6 : Unit → Prop) => Loop (fun (s7 : Int) Y8 => Ite (decide (s7 < (s_1.length : Int))) (∃ x16, idx s_1 s7 = some x16 ∧ V_rules_Open_1 x16 f_c0 (fun x17 => Ite x17 (post s7) (Y8 (w64 (s7 + 1))))) (J6 ())) 0) (fun (x5 : Unit) => post (-1))
def V_slices_ContainsFunc_api_Span_api_Span__rules_Open_1 (s_1 : List ApiSpan) (f_c0 : Int) (post : Bool → Prop) : Prop :=
  V_slices_IndexFunc_api_Span_api_Span__rules_Open_1 s_1 f_c0 (fun x5 => post (decide (x5 ≥ 0)))
def V_rules_Open (s_1 : ApiSite) (c : Int) (tick : Int) (post : Bool → Prop) : Prop :=
  V_rules_ZoneOf s_1 c (fun x5 => Jn (fun (J7 : Bool → Prop) => V_rules_isCell s_1 c (fun x8 => Ite x8 (J7 (decide (x5 < 0))) (J7 true))) (fun (x6 : Bool) => Ite x6 (V_rules_isCell s_1 c (fun x13 => post x13)) (∃ x16, idx s_1.Zones x5 = some x16 ∧ V_slices_ContainsFunc_api_Span_api_Span__rules_Open_1 x16.Shut tick (fun x17 => post (!x17)))))
def V_rules_Speed (s_1 : ApiSite) (c : Int) (post : Int → Prop) : Prop :=
  V_rules_ZoneOf s_1 c (fun x5 => Ite (decide (x5 ≥ 0)) (∃ x11, idx s_1.Zones x5 = some x11 ∧ post x11.Speed) (post 1))
def V_route_walk_step (w : RouteWalk) (at_1 : RouteStand) (k : Int) (act : Int) (post : (RouteStand × Int) → Prop) : Prop :=
  Ite (act == 0) (V_route_walk_held w at_1.cell k (fun x8 => Ite x8 (post (({ cell := 0, rest := 0 : RouteStand }), 15)) (post (({ cell := at_1.cell, rest := imax (w64 (at_1.rest - 1)) 0 : RouteStand }), 0)))) (V_floor_Next w.site.Floor at_1.cell (w64 (act - 1)) (fun x16 => Ite (decide (at_1.rest > 0)) (post (({ cell := 0, rest := 0 : RouteStand }), 8)) (Jn (fun (J23 : Bool → Prop) => Ite x16.2 (V_slices_Contains_int_int w.avoid x16.1 (fun x25 => J23 x25)) (J23 true)) (fun (x22 : Bool) => Ite x22 (post (({ cell := 0, rest := 0 : RouteStand }), 14)) (V_rules_Open w.site x16.1 (w64 (w.tick + k)) (fun x31 => Ite (!x31) (post (({ cell := 0, rest := 0 : RouteStand }), 18)) (Jn (fun (J36 : Bool → Prop) => V_route_walk_held w at_1.cell k (fun x37 => Ite x37 (J36 true) (V_route_walk_held w x16.1 k (fun x39 => J36 x39)))) (fun (x35 : Bool) => Ite x35 (post (({ cell := 0, rest := 0 : RouteStand }), 15)) (V_rules_Speed w.site x16.1 (fun x45 => post (({ cell := x16.1, rest := w64 (x45 - 1) : RouteStand }), 0)))))))))))
def V_route_walk_layers (w : RouteWalk) (from_1 : Int) (to_1 : Int) (most : Int) (post : (List (List (RouteStand × Bool)) × Bool) → Prop) : Prop :=
  Loop (fun (s9 : List (List (RouteStand × Bool)) × Int) Y10 => Jn (fun (J12 : (List (List (RouteStand × Bool))) → Prop) => ∃ x17, idx s9.1 s9.2 = some x17 ∧ Jn (fun (J19 : (List (RouteStand × Bool)) → Prop) => Loop (fun (s20 : List RouteStand × List (RouteStand × Bool)) Y21 => (∀ x22 x23, lk x17 x22 = some x23 ∧ x22 ∉ s20.1 → Jn (fun (J25 : (List (RouteStand × Bool)) → Prop) => Jn (fun (J29 : Bool → Prop) => Ite (x22.cell == to_1) (V_route_walk_held w to_1 s9.2 (fun x31 => J29 (!x31))) (J29 false)) (fun (x28 : Bool) => Ite x28 (post ((s9.1.set (Int.toNat s9.2) x17), true)) (Jn (fun (J38 : (List (RouteStand × Bool)) → Prop) => Loop (fun (s39 : List (RouteStand × Bool) × Int) Y40 => Ite (decide (s39.2 < 7)) (V_route_walk_step w x22 s9.2 s39.2 (fun x48 => Jn (fun (J52 : (List (RouteStand × Bool)) → Prop) => Ite (x48.2 == 0) (J52 (upd s39.1 x48.1 true)) (J52 s39.1)) (fun (x51 : List (RouteStand × Bool)) => Y40 (x51, w64 (s39.2 + 1))))) (J38 s39.1)) (s20.2, 0)) (fun (x37 : List (RouteStand × Bool)) => J25 x37)))) (fun (x24 : List (RouteStand × Bool)) => Y21 ((x22 :: s20.1), x24))) ∧ ((∀ x, lk x17 x ≠ none → x ∈ s20.1) → J19 s20.2)) ((([] : List RouteStand), ([] : List (RouteStand × Bool))) : List RouteStand × List (RouteStand × Bool))) (fun (x18 : List (RouteStand × Bool)) => Ite (s9.2 == most) (post ([], false)) (((s9.1.set (Int.toNat s9.2) x17).length + 1 ≤ 1099511627776) ∧ J12 (((s9.1.set (Int.toNat s9.2) x17) ++ [x18]).set ((s9.1.set (Int.toNat s9.2) x17).length) x18)))) (fun (x11 : List (List (RouteStand × Bool))) => Y10 (x11, w64 (s9.2 + 1)))) ((([(upd ([] : List (RouteStand × Bool)) ({ cell := from_1, rest := 0 : RouteStand }) true)].set 0 (upd ([] : List (RouteStand × Bool)) ({ cell := from_1, rest := 0 : RouteStand }) true)), 0) : List (List (RouteStand × Bool)) × Int)
def V_route_walk_on (w : RouteWalk) (at_1 : RouteStand) (k : Int) (into : List (RouteStand × Bool)) (post : (Int × RouteStand × Bool) → Prop) : Prop :=
  Jn (fun (J6 : Unit → Prop) => Loop (fun (s7 : Int) Y8 => Ite (decide (s7 < 7)) (V_route_walk_step w at_1 k s7 (fun x16 => Jn (fun (J18 : Bool → Prop) => Ite (x16.2 == 0) (J18 ((lk into x16.1).getD false)) (J18 false)) (fun (x17 : Bool) => Ite x17 (post (s7, x16.1, true)) (Y8 (w64 (s7 + 1)))))) (J6 ())) 0) (fun (x5 : Unit) => post (0, ({ cell := 0, rest := 0 : RouteStand }), false))
def V_route_Find (s_1 : ApiSite) (from_1 : Int) (to_1 : Int) (tick : Int) (taken : List ApiTaken) (avoid : List Int) (most : Int) (post : (List Int × Int) → Prop) : Prop :=
  Jn (fun (J4 : Bool → Prop) => V_route_right s_1 from_1 to_1 tick (fun x5 => Ite x5 (J4 (decide (most < 0))) (J4 true))) (fun (x3 : Bool) => Ite x3 (post ([], 1)) (Ite (decide (most > 300)) (post ([], 27)) (V_route_newWalk s_1 tick taken avoid (fun x17 => V_route_walk_layers x17 from_1 to_1 most (fun x20 => Ite (!x20.2) (post ([], 14)) (∃ x30, idx x20.1 (w64 ((x20.1.length : Int) - 1)) = some x30 ∧ Jn (fun (J32 : (List (RouteStand × Bool)) → Prop) => Loop (fun (s33 : List (RouteStand × Bool) × List RouteStand) Y34 => (∀ x35 x36, lk s33.1 x35 = some x36 ∧ x35 ∉ s33.2 → Jn (fun (J42 : (List (RouteStand × Bool)) → Prop) => Ite (x35.cell != to_1) (∃ x46, idx x20.1 (w64 ((x20.1.length : Int) - 1)) = some x46 ∧ J42 (del s33.1 x35)) (J42 s33.1)) (fun (x41 : List (RouteStand × Bool)) => Y34 (x41, (x35 :: s33.2)))) ∧ ((∀ x, lk s33.1 x ≠ none → x ∈ s33.2) → J32 s33.1)) ((x30, ([] : List RouteStand)) : List (RouteStand × Bool) × List RouteStand)) (fun (x31 : List (RouteStand × Bool)) => Jn (fun (J50 : (List (List (RouteStand × Bool))) → Prop) => Loop (fun (s51 : List (List (RouteStand × Bool)) × Int) Y52 => Ite (decide (s51.2 ≥ 0)) (Jn (fun (J57 : (List (RouteStand × Bool) × List (List (RouteStand × Bool))) → Prop) => ∃ x60, idx s51.1 s51.2 = some x60 ∧ Jn (fun (J62 : (List (RouteStand × Bool) × List (List (RouteStand × Bool))) → Prop) => Loop (fun (s63 : List (RouteStand × Bool) × List RouteStand × List (List (RouteStand × Bool))) Y64 => (∀ x65 x66, lk s63.1 x65 = some x66 ∧ x65 ∉ s63.2.1 → Jn (fun (J70 : (List (List (RouteStand × Bool)) × Bool) → Prop) => ∃ x71, idx s63.2.2 (w64 (s51.2 + 1)) = some x71 ∧ ((Int.toNat s51.2) ≠ (Int.toNat (w64 (s51.2 + 1)))) ∧ V_route_walk_on x17 x65 s51.2 x71 (fun x73 => J70 ((s63.2.2.set (Int.toNat (w64 (s51.2 + 1))) x71), x73.2.2))) (fun (x69 : List (List (RouteStand × Bool)) × Bool) => Jn (fun (J77 : (List (RouteStand × Bool)) → Prop) => Ite (!x69.2) (∃ x81, idx x69.1 s51.2 = some x81 ∧ J77 (del s63.1 x65)) (J77 s63.1)) (fun (x76 : List (RouteStand × Bool)) => Y64 (x76, (x65 :: s63.2.1), x69.1)))) ∧ ((∀ x, lk s63.1 x ≠ none → x ∈ s63.2.1) → J62 (s63.1, s63.2.2))) ((x60, ([] : List RouteStand), s51.1) : List (RouteStand × Bool) × List RouteStand × List (List (RouteStand × Bool)))) (fun (x61 : List (RouteStand × Bool) × List (List (RouteStand × Bool))) => J57 (x61.1, x61.2))) (fun (x56 : List (RouteStand × Bool) × List (List (RouteStand × Bool))) => Y52 ((x56.2.set (Int.toNat s51.2) x56.1), w64 (s51.2 - 1)))) (J50 s51.1)) ((x20.1.set (Int.toNat (w64 ((x20.1.length : Int) - 1))) x31), w64 ((w64 ((x20.1.length : Int) - 1)) - 1))) (fun (x49 : List (List (RouteStand × Bool))) => Jn (fun (J91 : (List Int) → Prop) => Loop (fun (s92 : List (List (RouteStand × Bool)) × List Int × Int × Int × Int) Y93 => Ite (decide (s92.2.2.2.2 < (w64 ((x20.1.length : Int) - 1)))) (Jn (fun (J100 : (List (List (RouteStand × Bool)) × Int × Int × Int) → Prop) => ∃ x101, idx s92.1 (w64 (s92.2.2.2.2 + 1)) = some x101 ∧ V_route_walk_on x17 ({ cell := s92.2.2.1, rest := s92.2.2.2.1 : RouteStand }) s92.2.2.2.2 x101 (fun x102 => J100 ((s92.1.set (Int.toNat (w64 (s92.2.2.2.2 + 1))) x101), x102.1, x102.2.1.cell, x102.2.1.rest))) (fun (x99 : List (List (RouteStand × Bool)) × Int × Int × Int) => (s92.2.1.length + ([x99.2.1] : List Int).length ≤ 1099511627776) ∧ Y93 (x99.1, (s92.2.1 ++ ([x99.2.1] : List Int)), x99.2.2.1, x99.2.2.2, w64 (s92.2.2.2.2 + 1)))) (J91 s92.2.1)) ((x49, [], from_1, 0, 0) : List (List (RouteStand × Bool)) × List Int × Int × Int × Int)) (fun (x90 : List Int) => post (x90, 0))))))))))
def V_route_Check_1 (a : Int) (post : Bool → Prop) : Prop :=
  Jn (fun (J4 : Bool → Prop) => Ite (decide (a < 0)) (J4 true) (J4 (decide (a ≥ 7)))) (fun (x3 : Bool) => post x3)
def V_slices_IndexFunc_int_int__route_Check_1 (s_1 : List Int) (post : Int → Prop) : Prop :=
  Jn (fun (J6 : Unit → Prop) => Loop (fun (s7 : Int) Y8 => Ite (decide (s7 < (s_1.length : Int))) (∃ x16, idx s_1 s7 = some x16 ∧ V_route_Check_1 x16 (fun x17 => Ite x17 (post s7) (Y8 (w64 (s7 + 1))))) (J6 ())) 0) (fun (x5 : Unit) => post (-1))
def V_slices_ContainsFunc_int_int__route_Check_1 (s_1 : List Int) (post : Bool → Prop) : Prop :=
  V_slices_IndexFunc_int_int__route_Check_1 s_1 (fun x5 => post (decide (x5 ≥ 0)))
def V_route_Check (s_1 : ApiSite) (from_1 : Int) (to_1 : Int) (tick : Int) (taken : List ApiTaken) (avoid : List Int) (acts : List Int) (post : Int → Prop) : Prop :=
  Jn (fun (J6 : Bool → Prop) => V_route_right s_1 from_1 to_1 tick (fun x7 => Ite x7 (V_slices_ContainsFunc_int_int__route_Check_1 acts (fun x9 => J6 x9)) (J6 true))) (fun (x5 : Bool) => Ite x5 (post 1) (V_route_newWalk s_1 tick taken avoid (fun x15 => Jn (fun (J21 : (Int × Int) → Prop) => Loop (fun (s22 : Int × Int × Int) Y23 => Ite (decide (s22.2.2 < (acts.length : Int))) (∃ x29, idx acts s22.2.2 = some x29 ∧ V_route_walk_step x15 ({ cell := s22.1, rest := s22.2.1 : RouteStand }) s22.2.2 x29 (fun x32 => Ite (x32.2 != 0) (post x32.2) (Y23 (x32.1.cell, x32.1.rest, w64 (s22.2.2 + 1))))) (J21 (s22.1, s22.2.1))) (from_1, 0, 0)) (fun (x20 : Int × Int) => V_route_walk_held x15 x20.1 (acts.length : Int) (fun x44 => Ite x44 (post 15) (Ite (x20.1 != to_1) (post 13) (post 0)))))))
def V_taquinref07_Same (a : List Int) (b : List Int) (post : Bool → Prop) : Prop :=
  Ite ((a.length : Int) != (b.length : Int)) (post false) (Jn (fun (J11 : Unit → Prop) => Loop (fun (s12 : Int) Y13 => Ite (decide (s12 < (a.length : Int))) (∃ x19, idx a s12 = some x19 ∧ ∃ x20, idx b s12 = some x20 ∧ Ite (x19 != x20) (post false) (Y13 (w64 (s12 + 1)))) (J11 ())) 0) (fun (x10 : Unit) => post true))
def V_taquinlaw23_small (post : Bool → Prop) : Prop :=
  V_taquinlaw23_example (fun x5 => V_route_Find x5 0 2 0 [] [] 20 (fun x10 => V_route_Find x5 0 2 0 ([({ Cell := 1, Span := ({ From := 0, To := 2 : ApiSpan }) : ApiTaken })] : List ApiTaken) [] 20 (fun x13 => V_route_Find x5 0 2 0 ([({ Cell := 2, Span := ({ From := 0, To := 400 : ApiSpan }) : ApiTaken })] : List ApiTaken) [] 20 (fun x16 => V_route_Check x5 0 3 0 [] [] ([1, 1] : List Int) (fun x19 => Jn (fun (J21 : Bool → Prop) => V_taquinref07_Same x10.1 ([1, 1] : List Int) (fun x22 => Ite x22 (Ite (x10.2 == 0) (V_taquinref07_Same x13.1 ([0, 0, 1, 1] : List Int) (fun x25 => Ite x25 (Ite (x13.2 == 0) (Ite (x16.2 == 14) (J21 (x19 == 13)) (J21 false)) (J21 false)) (J21 false))) (J21 false)) (J21 false))) (fun (x20 : Bool) => post x20))))))
def V_taquinref07_Few (f : ApiFloor) (n : Int) (post : Bool → Prop) : Prop :=
  Jn (fun (J4 : Bool → Prop) => Ite (decide ((f.Kind.length : Int) ≤ n)) (J4 (decide ((f.Out.length : Int) ≤ n))) (J4 false)) (fun (x3 : Bool) => post x3)
def V_taquinref11_Few (s_1 : ApiSite) (cells : Int) (most : Int) (post : Bool → Prop) : Prop :=
  Jn (fun (J6 : Unit → Prop) => Loop (fun (s7 : Int) Y8 => Jn (fun (J10 : Bool → Prop) => Ite (decide (s7 < (s_1.Zones.length : Int))) (J10 (decide (s7 ≤ most))) (J10 false)) (fun (x9 : Bool) => Ite x9 (Jn (fun (J14 : Bool → Prop) => ∃ x15, idx s_1.Zones s7 = some x15 ∧ Ite (decide ((x15.Cells.length : Int) > cells)) (J14 true) (Ite (decide ((x15.Shut.length : Int) > 20)) (J14 true) (J14 (decide ((x15.Name.size : Int) > 40))))) (fun (x13 : Bool) => Ite x13 (post false) (Y8 (w64 (s7 + 1))))) (J6 ()))) 0) (fun (x5 : Unit) => Jn (fun (J26 : Unit → Prop) => Loop (fun (s27 : Int) Y28 => Jn (fun (J30 : Bool → Prop) => Ite (decide (s27 < (s_1.Aparts.length : Int))) (J30 (decide (s27 ≤ most))) (J30 false)) (fun (x29 : Bool) => Ite x29 (Jn (fun (J34 : Bool → Prop) => ∃ x35, idx s_1.Aparts s27 = some x35 ∧ Ite (decide ((x35.A.size : Int) > 40)) (J34 true) (J34 (decide ((x35.B.size : Int) > 40)))) (fun (x33 : Bool) => Ite x33 (post false) (Y28 (w64 (s27 + 1))))) (J26 ()))) 0) (fun (x25 : Unit) => Jn (fun (J45 : Unit → Prop) => Loop (fun (s46 : Int) Y47 => Jn (fun (J49 : Bool → Prop) => Ite (decide (s46 < (s_1.Shelves.length : Int))) (J49 (decide (s46 ≤ most))) (J49 false)) (fun (x48 : Bool) => Ite x48 (∃ x54, idx s_1.Shelves s46 = some x54 ∧ Ite (decide ((x54.Class.size : Int) > 40)) (post false) (Y47 (w64 (s46 + 1)))) (J45 ()))) 0) (fun (x44 : Unit) => Jn (fun (J61 : Bool → Prop) => V_taquinref07_Few s_1.Floor cells (fun x62 => Ite x62 (Ite (decide ((s_1.Zones.length : Int) ≤ most)) (Ite (decide ((s_1.Aparts.length : Int) ≤ most)) (Ite (decide ((s_1.Shelves.length : Int) ≤ most)) (J61 (decide ((s_1.Robots.length : Int) ≤ most))) (J61 false)) (J61 false)) (J61 false)) (J61 false))) (fun (x60 : Bool) => post x60))))
def V_taquinref07_Right (f : ApiFloor) (post : Bool → Prop) : Prop :=
  Jn (fun (J4 : Bool → Prop) => Ite (decide (f.W < 1)) (J4 true) (Ite (decide (f.H < 1)) (J4 true) (Ite (decide (f.D < 1)) (J4 true) (Ite (decide (f.D > 4)) (J4 true) (Ite (decide (f.W > 4096)) (J4 true) (J4 (decide (f.H > 4096)))))))) (fun (x3 : Bool) => Ite x3 (post false) (Jn (fun (J16 : Bool → Prop) => Ite (decide ((w64 ((w64 (f.W * f.H)) * f.D)) > 4096)) (J16 true) (Ite ((f.Kind.length : Int) != (w64 ((w64 (f.W * f.H)) * f.D))) (J16 true) (J16 ((f.Out.length : Int) != (w64 ((w64 (f.W * f.H)) * f.D)))))) (fun (x15 : Bool) => Ite x15 (post false) (Jn (fun (J25 : Unit → Prop) => Loop (fun (s26 : Int) Y27 => Ite (decide (s26 < (w64 ((w64 (f.W * f.H)) * f.D)))) (Jn (fun (J32 : Bool → Prop) => ∃ x33, idx f.Kind s26 = some x33 ∧ Ite (decide (x33 < 0)) (J32 true) (Ite (decide (x33 ≥ 7)) (J32 true) (∃ x36, idx f.Out s26 = some x36 ∧ Ite (decide (x36 < 0)) (J32 true) (J32 (decide (x36 > 63)))))) (fun (x31 : Bool) => Ite x31 (post false) (Y27 (w64 (s26 + 1))))) (J25 ())) 0) (fun (x24 : Unit) => post true)))))
def V_taquinref11_Name (s_1 : ByteArray) (post : Bool → Prop) : Prop :=
  Jn (fun (J6 : Unit → Prop) => Loop (fun (s7 : Int) Y8 => Ite (decide (s7 < (s_1.size : Int))) (∃ x14, idx s_1.data.toList s7 = some x14 ∧ Jn (fun (J16 : Bool → Prop) => Ite (decide ((x14.toNat : Int) ≥ 48)) (J16 (decide ((x14.toNat : Int) ≤ 57))) (J16 false)) (fun (x15 : Bool) => Jn (fun (J19 : Bool → Prop) => Ite (decide ((x14.toNat : Int) ≥ 97)) (Ite (decide ((x14.toNat : Int) ≤ 122)) (Ite (s7 == 0) (J19 x15) (J19 false)) (Ite (decide ((x14.toNat : Int) ≥ 65)) (Ite (decide ((x14.toNat : Int) ≤ 90)) (Ite (s7 == 0) (J19 x15) (J19 false)) (Ite x15 (Ite (s7 == 0) (J19 x15) (J19 false)) (Ite ((x14.toNat : Int) == 95) (Ite (s7 == 0) (J19 x15) (J19 false)) (Ite ((x14.toNat : Int) == 45) (Ite (s7 == 0) (J19 x15) (J19 false)) (J19 true))))) (Ite x15 (Ite (s7 == 0) (J19 x15) (J19 false)) (Ite ((x14.toNat : Int) == 95) (Ite (s7 == 0) (J19 x15) (J19 false)) (Ite ((x14.toNat : Int) == 45) (Ite (s7 == 0) (J19 x15) (J19 false)) (J19 true)))))) (Ite (decide ((x14.toNat : Int) ≥ 65)) (Ite (decide ((x14.toNat : Int) ≤ 90)) (Ite (s7 == 0) (J19 x15) (J19 false)) (Ite x15 (Ite (s7 == 0) (J19 x15) (J19 false)) (Ite ((x14.toNat : Int) == 95) (Ite (s7 == 0) (J19 x15) (J19 false)) (Ite ((x14.toNat : Int) == 45) (Ite (s7 == 0) (J19 x15) (J19 false)) (J19 true))))) (Ite x15 (Ite (s7 == 0) (J19 x15) (J19 false)) (Ite ((x14.toNat : Int) == 95) (Ite (s7 == 0) (J19 x15) (J19 false)) (Ite ((x14.toNat : Int) == 45) (Ite (s7 == 0) (J19 x15) (J19 false)) (J19 true)))))) (fun (x18 : Bool) => Ite x18 (post false) (Y8 (w64 (s7 + 1)))))) (J6 ())) 0) (fun (x5 : Unit) => Jn (fun (J59 : Bool → Prop) => Ite (decide ((s_1.size : Int) ≥ 1)) (J59 (decide ((s_1.size : Int) ≤ 20))) (J59 false)) (fun (x58 : Bool) => post x58))
def V_taquinref11_named (l : List ApiZone) (name : ByteArray) (post : Int → Prop) : Prop :=
  Jn (fun (J6 : Unit → Prop) => Loop (fun (s7 : Int) Y8 => Ite (decide (s7 < (l.length : Int))) (∃ x14, idx l s7 = some x14 ∧ Ite (seq x14.Name name) (post s7) (Y8 (w64 (s7 + 1)))) (J6 ())) 0) (fun (x5 : Unit) => post (-1))
def V_taquinref11_spans (l : List ApiSpan) (post : Bool → Prop) : Prop :=
  Jn (fun (J8 : Unit → Prop) => Loop (fun (s9 : Int × Int) Y10 => Ite (decide (s9.2 < (l.length : Int))) (Jn (fun (J15 : Bool → Prop) => ∃ x16, idx l s9.2 = some x16 ∧ Ite (decide (x16.From < s9.1)) (J15 true) (Ite (decide (x16.From ≥ x16.To)) (J15 true) (J15 (decide (x16.To > 20000))))) (fun (x14 : Bool) => Ite x14 (post false) (∃ x24, idx l s9.2 = some x24 ∧ Y10 (x24.To, w64 (s9.2 + 1))))) (J8 ())) (0, 0)) (fun (x7 : Unit) => post true)
def V_taquinref07_Size (f : ApiFloor) (post : Int → Prop) : Prop :=
  post (w64 ((w64 (f.W * f.H)) * f.D))
def V_taquinref07_Is (f : ApiFloor) (c : Int) (post : Bool → Prop) : Prop :=
  Jn (fun (J4 : Bool → Prop) => Ite (decide (c ≥ 0)) (V_taquinref07_Size f (fun x6 => J4 (decide (c < x6)))) (J4 false)) (fun (x3 : Bool) => post x3)
def V_taquinref11_zoned (kind : Int) (post : Bool → Prop) : Prop :=
  Jn (fun (J4 : Bool → Prop) => Ite (kind != 0) (Ite (kind != 4) (J4 (kind != 5)) (J4 false)) (J4 false)) (fun (x3 : Bool) => post x3)
def V_taquinref07_Has (l : List Int) (n : Int) (post : Bool → Prop) : Prop :=
  Jn (fun (J6 : Unit → Prop) => Loop (fun (s7 : Int) Y8 => Ite (decide (s7 < (l.length : Int))) (∃ x14, idx l s7 = some x14 ∧ Ite (x14 == n) (post true) (Y8 (w64 (s7 + 1)))) (J6 ())) 0) (fun (x5 : Unit) => post false)
def V_taquinref11_zoneAt (l : List ApiZone) (c : Int) (post : Bool → Prop) : Prop :=
  Jn (fun (J6 : Unit → Prop) => Loop (fun (s7 : Int) Y8 => Ite (decide (s7 < (l.length : Int))) (∃ x14, idx l s7 = some x14 ∧ V_taquinref07_Has x14.Cells c (fun x15 => Ite x15 (post true) (Y8 (w64 (s7 + 1))))) (J6 ())) 0) (fun (x5 : Unit) => post false)
def V_taquinref11_rightZones (s_1 : ApiSite) (post : Bool → Prop) : Prop :=
  Jn (fun (J6 : Unit → Prop) => Loop (fun (s7 : Int) Y8 => Ite (decide (s7 < (s_1.Zones.length : Int))) (Jn (fun (J13 : Unit → Prop) => ∃ x16, idx s_1.Zones s7 = some x16 ∧ Jn (fun (J18 : Bool → Prop) => V_taquinref11_Name x16.Name (fun x19 => Ite x19 ((0 ≤ (0 : Int) ∧ (0 : Int) ≤ s7 ∧ s7 ≤ (s_1.Zones.length : Int)) ∧ V_taquinref11_named (sub s_1.Zones 0 s7) x16.Name (fun x22 => Ite (decide (x22 ≥ 0)) (J18 true) (Ite ((x16.Cells.length : Int) == 0) (J18 true) (Ite (decide (x16.Speed < 1)) (J18 true) (Ite (decide (x16.Speed > 100)) (J18 true) (Ite (decide (x16.Keep < 0)) (J18 true) (V_taquinref11_spans x16.Shut (fun x28 => J18 (!x28))))))))) (J18 true))) (fun (x17 : Bool) => Ite x17 (post false) (Jn (fun (J35 : Unit → Prop) => Loop (fun (s36 : Int) Y37 => Ite (decide (s36 < (x16.Cells.length : Int))) (∃ x43, idx x16.Cells s36 = some x43 ∧ Jn (fun (J45 : Bool → Prop) => V_taquinref07_Is s_1.Floor x43 (fun x46 => Ite x46 (Ite (decide (s36 > 0)) (∃ x49, idx x16.Cells (imax (w64 (s36 - 1)) 0) = some x49 ∧ J45 (decide (x49 ≥ x43))) (J45 false)) (J45 true))) (fun (x44 : Bool) => Ite x44 (post false) (Jn (fun (J54 : Bool → Prop) => ∃ x55, idx s_1.Floor.Kind x43 = some x55 ∧ V_taquinref11_zoned x55 (fun x56 => Ite x56 ((0 ≤ (0 : Int) ∧ (0 : Int) ≤ s7 ∧ s7 ≤ (s_1.Zones.length : Int)) ∧ V_taquinref11_zoneAt (sub s_1.Zones 0 s7) x43 (fun x59 => J54 x59)) (J54 true))) (fun (x53 : Bool) => Ite x53 (post false) (Y37 (w64 (s36 + 1))))))) (J35 ())) 0) (fun (x34 : Unit) => J13 ())))) (fun (x12 : Unit) => Y8 (w64 (s7 + 1)))) (J6 ())) 0) (fun (x5 : Unit) => post (decide ((s_1.Zones.length : Int) ≤ 64)))
def V_taquinref11_Apart (l : List ApiApart) (a : ByteArray) (b : ByteArray) (post : Bool → Prop) : Prop :=
  Jn (fun (J6 : Unit → Prop) => Loop (fun (s7 : Int) Y8 => Jn (fun (J10 : Bool → Prop) => Ite (decide (s7 < (l.length : Int))) (Ite (seq a ByteArray.empty) (J10 false) (J10 (!(seq b ByteArray.empty)))) (J10 false)) (fun (x9 : Bool) => Ite x9 (Jn (fun (J15 : Bool → Prop) => ∃ x16, idx l s7 = some x16 ∧ Ite (seq x16.A a) (Ite (seq x16.B b) (J15 true) (Ite (seq x16.A b) (J15 (seq x16.B a)) (J15 false))) (Ite (seq x16.A b) (J15 (seq x16.B a)) (J15 false))) (fun (x14 : Bool) => Ite x14 (post true) (Y8 (w64 (s7 + 1))))) (J6 ()))) 0) (fun (x5 : Unit) => post false)
def V_taquinref11_stands (kind : Int) (post : Bool → Prop) : Prop :=
  Jn (fun (J4 : Bool → Prop) => Ite (kind == 1) (J4 true) (J4 (kind == 2))) (fun (x3 : Bool) => post x3)
def V_taquinref11_shelfAt (l : List ApiShelf) (c : Int) (post : Int → Prop) : Prop :=
  Jn (fun (J6 : Unit → Prop) => Loop (fun (s7 : Int) Y8 => Ite (decide (s7 < (l.length : Int))) (∃ x14, idx l s7 = some x14 ∧ Ite (x14.Cell == c) (post s7) (Y8 (w64 (s7 + 1)))) (J6 ())) 0) (fun (x5 : Unit) => post (-1))
def V_taquinref11_robotAt (l : List ApiStart) (c : Int) (post : Bool → Prop) : Prop :=
  Jn (fun (J6 : Unit → Prop) => Loop (fun (s7 : Int) Y8 => Ite (decide (s7 < (l.length : Int))) (∃ x14, idx l s7 = some x14 ∧ Ite (x14.Cell == c) (post true) (Y8 (w64 (s7 + 1)))) (J6 ())) 0) (fun (x5 : Unit) => post false)
def V_taquinref11_blanks (s_1 : ApiSite) (z : ApiZone) (post : Int → Prop) : Prop :=
  Jn (fun (J8 : Int → Prop) => Loop (fun (s9 : Int × Int) Y10 => Ite (decide (s9.2 < (z.Cells.length : Int))) (Jn (fun (J15 : Bool → Prop) => ∃ x16, idx z.Cells s9.2 = some x16 ∧ ∃ x17, idx s_1.Floor.Kind x16 = some x17 ∧ V_taquinref11_stands x17 (fun x18 => Ite x18 (V_taquinref11_shelfAt s_1.Shelves x16 (fun x20 => J15 (decide (x20 < 0)))) (J15 false))) (fun (x14 : Bool) => Jn (fun (J22 : Int → Prop) => Ite x14 (J22 (w64 (s9.1 + 1))) (J22 s9.1)) (fun (x21 : Int) => Y10 (x21, w64 (s9.2 + 1))))) (J8 s9.1)) (0, 0)) (fun (x7 : Int) => post x7)
def V_taquinref07_At (f : ApiFloor) (c : Int) (post : (Int × Int × Int) → Prop) : Prop :=
  V_taquinref07_Is f c (fun x5 => Ite (!x5) (post (0, 0, 0)) ((f.W ≠ 0) ∧ (f.W ≠ 0) ∧ (f.H ≠ 0) ∧ (f.W ≠ 0) ∧ (f.H ≠ 0) ∧ post (c.tmod f.W, (w64 (c.tdiv f.W)).tmod f.H, w64 ((w64 (c.tdiv f.W)).tdiv f.H))))
def V_taquinref07_Cell (f : ApiFloor) (x_1 : Int) (y_1 : Int) (z : Int) (post : Int → Prop) : Prop :=
  Jn (fun (J4 : Bool → Prop) => Ite (decide (x_1 < 0)) (J4 true) (Ite (decide (x_1 ≥ f.W)) (J4 true) (Ite (decide (y_1 < 0)) (J4 true) (Ite (decide (y_1 ≥ f.H)) (J4 true) (Ite (decide (z < 0)) (J4 true) (J4 (decide (z ≥ f.D)))))))) (fun (x3 : Bool) => Ite x3 (post (-1)) (post (w64 ((w64 ((w64 ((w64 (z * f.H)) + y_1)) * f.W)) + x_1))))
def V_taquinref07_Beside (f : ApiFloor) (c : Int) (d : Int) (post : Int → Prop) : Prop :=
  V_taquinref07_Is f c (fun x5 => Ite (!x5) (post (-1)) (V_taquinref07_At f c (fun x11 => Ite (d == 0) (V_taquinref07_Cell f (w64 (x11.1 + 1)) x11.2.1 x11.2.2 (fun x19 => post x19)) (Ite (d == 1) (V_taquinref07_Cell f x11.1 (w64 (x11.2.1 + 1)) x11.2.2 (fun x25 => post x25)) (Ite (d == 2) (V_taquinref07_Cell f (w64 (x11.1 - 1)) x11.2.1 x11.2.2 (fun x31 => post x31)) (Ite (d == 3) (V_taquinref07_Cell f x11.1 (w64 (x11.2.1 - 1)) x11.2.2 (fun x37 => post x37)) (Ite (d == 4) (V_taquinref07_Cell f x11.1 x11.2.1 (w64 (x11.2.2 + 1)) (fun x43 => post x43)) (Ite (d == 5) (V_taquinref07_Cell f x11.1 x11.2.1 (w64 (x11.2.2 - 1)) (fun x49 => post x49)) (post (-1))))))))))
def V_taquinref11_Beside (s_1 : ApiSite) (post : Int → Prop) : Prop :=
  Jn (fun (J6 : Unit → Prop) => Loop (fun (s7 : Int) Y8 => Ite (decide (s7 < (s_1.Shelves.length : Int))) (Jn (fun (J13 : Unit → Prop) => Jn (fun (J17 : Unit → Prop) => Loop (fun (s18 : Int) Y19 => Ite (decide (s18 < 4)) (∃ x25, idx s_1.Shelves s7 = some x25 ∧ V_taquinref07_Beside s_1.Floor x25.Cell s18 (fun x26 => V_taquinref11_shelfAt s_1.Shelves x26 (fun x29 => Jn (fun (J31 : Bool → Prop) => Ite (decide (x26 ≥ 0)) (Ite (decide (x29 ≥ 0)) (Ite (decide (x29 < s7)) (∃ x35, idx s_1.Shelves (imax x29 0) = some x35 ∧ V_taquinref11_Apart s_1.Aparts x25.Class x35.Class (fun x36 => J31 x36)) (J31 false)) (J31 false)) (J31 false)) (fun (x30 : Bool) => Ite x30 (post s7) (Y19 (w64 (s18 + 1))))))) (J17 ())) 0) (fun (x16 : Unit) => J13 ())) (fun (x12 : Unit) => Y8 (w64 (s7 + 1)))) (J6 ())) 0) (fun (x5 : Unit) => post (-1))
def V_taquinref11_charger (f : ApiFloor) (post : Bool → Prop) : Prop :=
  V_taquinref07_Has f.Kind 3 (fun x5 => post x5)
def V_taquinref11_Right (s_1 : ApiSite) (post : Bool → Prop) : Prop :=
  Jn (fun (J4 : Bool → Prop) => V_taquinref07_Right s_1.Floor (fun x5 => Ite x5 (V_taquinref11_rightZones s_1 (fun x7 => Ite x7 (Ite (decide ((s_1.Shelves.length : Int) > 3000)) (J4 true) (J4 (decide ((s_1.Robots.length : Int) > 200)))) (J4 true))) (J4 true))) (fun (x3 : Bool) => Ite x3 (post false) (Jn (fun (J16 : Unit → Prop) => Loop (fun (s17 : Int) Y18 => Ite (decide (s17 < (s_1.Aparts.length : Int))) (∃ x24, idx s_1.Aparts s17 = some x24 ∧ Jn (fun (J26 : Bool → Prop) => V_taquinref11_Name x24.A (fun x27 => Ite x27 (V_taquinref11_Name x24.B (fun x29 => Ite x29 ((0 ≤ (0 : Int) ∧ (0 : Int) ≤ s17 ∧ s17 ≤ (s_1.Aparts.length : Int)) ∧ V_taquinref11_Apart (sub s_1.Aparts 0 s17) x24.A x24.B (fun x32 => J26 x32)) (J26 true))) (J26 true))) (fun (x25 : Bool) => Ite x25 (post false) (Y18 (w64 (s17 + 1))))) (J16 ())) 0) (fun (x15 : Unit) => Jn (fun (J41 : Unit → Prop) => Loop (fun (s42 : Int) Y43 => Ite (decide (s42 < (s_1.Shelves.length : Int))) (∃ x49, idx s_1.Shelves s42 = some x49 ∧ Jn (fun (J51 : Bool → Prop) => V_taquinref07_Is s_1.Floor x49.Cell (fun x52 => Ite x52 (Ite (seq x49.Class ByteArray.empty) (J51 false) (V_taquinref11_Name x49.Class (fun x55 => J51 (!x55)))) (J51 true))) (fun (x50 : Bool) => Ite x50 (post false) (Jn (fun (J60 : Bool → Prop) => ∃ x61, idx s_1.Floor.Kind x49.Cell = some x61 ∧ V_taquinref11_stands x61 (fun x62 => Ite x62 ((0 ≤ (0 : Int) ∧ (0 : Int) ≤ s42 ∧ s42 ≤ (s_1.Shelves.length : Int)) ∧ V_taquinref11_shelfAt (sub s_1.Shelves 0 s42) x49.Cell (fun x65 => J60 (decide (x65 ≥ 0)))) (J60 true))) (fun (x59 : Bool) => Ite x59 (post false) (Y43 (w64 (s42 + 1))))))) (J41 ())) 0) (fun (x40 : Unit) => Jn (fun (J74 : Unit → Prop) => Loop (fun (s75 : Int) Y76 => Ite (decide (s75 < (s_1.Robots.length : Int))) (∃ x82, idx s_1.Robots s75 = some x82 ∧ Jn (fun (J84 : Bool → Prop) => V_taquinref07_Is s_1.Floor x82.Cell (fun x85 => Ite x85 (Ite (decide (x82.Charge < 0)) (J84 true) (J84 (decide (x82.Charge > 1000000)))) (J84 true))) (fun (x83 : Bool) => Ite x83 (post false) (Jn (fun (J92 : Bool → Prop) => ∃ x93, idx s_1.Floor.Kind x82.Cell = some x93 ∧ Ite (x93 == 0) (J92 true) ((0 ≤ (0 : Int) ∧ (0 : Int) ≤ s75 ∧ s75 ≤ (s_1.Robots.length : Int)) ∧ V_taquinref11_robotAt (sub s_1.Robots 0 s75) x82.Cell (fun x96 => J92 x96))) (fun (x91 : Bool) => Ite x91 (post false) (Y76 (w64 (s75 + 1))))))) (J74 ())) 0) (fun (x73 : Unit) => Jn (fun (J105 : Unit → Prop) => Loop (fun (s106 : Int) Y107 => Ite (decide (s106 < (s_1.Zones.length : Int))) (∃ x113, idx s_1.Zones s106 = some x113 ∧ V_taquinref11_blanks s_1 x113 (fun x114 => Ite (decide (x114 < x113.Keep)) (post false) (Y107 (w64 (s106 + 1))))) (J105 ())) 0) (fun (x104 : Unit) => Jn (fun (J121 : Bool → Prop) => V_taquinref11_Beside s_1 (fun x122 => Ite (decide (x122 < 0)) (V_taquinref11_charger s_1.Floor (fun x124 => J121 x124)) (J121 false))) (fun (x120 : Bool) => post x120)))))))
def V_taquinlaw23_fair (s_1 : ApiSite) (taken : List ApiTaken) (avoid : List Int) (post : Bool → Prop) : Prop :=
  Jn (fun (J6 : Unit → Prop) => Loop (fun (s7 : Int) Y8 => Jn (fun (J10 : Bool → Prop) => Ite (decide (s7 < (s_1.Zones.length : Int))) (J10 (decide (s7 ≤ 20))) (J10 false)) (fun (x9 : Bool) => Ite x9 (∃ x15, idx s_1.Zones s7 = some x15 ∧ Ite (decide (x15.Speed > 6)) (post false) (Y8 (w64 (s7 + 1)))) (J6 ()))) 0) (fun (x5 : Unit) => Jn (fun (J22 : Bool → Prop) => V_taquinref11_Few s_1 50 20 (fun x23 => Ite x23 (V_taquinref11_Right s_1 (fun x25 => Ite x25 (Ite (decide ((taken.length : Int) ≤ 30)) (J22 (decide ((avoid.length : Int) ≤ 30))) (J22 false)) (J22 false))) (J22 false))) (fun (x21 : Bool) => post x21))
def V_act_direction (act : Int) (post : (Int × Bool) → Prop) : Prop :=
  Jn (fun (J6 : Bool → Prop) => Ite (decide ((w64 (act - 1)) ≥ 0)) (J6 (decide ((w64 (act - 1)) < 6))) (J6 false)) (fun (x5 : Bool) => post (w64 (act - 1), x5))
def V_battery_isCharge (n : Int) (post : Bool → Prop) : Prop :=
  Jn (fun (J4 : Bool → Prop) => Ite (decide (n ≥ 0)) (J4 (decide (n ≤ 1000000))) (J4 false)) (fun (x3 : Bool) => post x3)
def V_battery_Base (act : Int) (laden : Bool) (post : Int → Prop) : Prop :=
  Jn (fun (J8 : Bool → Prop) => Ite (act == 0) (J8 (act == 0)) (J8 (act == 8))) (fun (x7 : Bool) => Ite x7 (post 1) (Ite (act == 7) (post 3) (Jn (fun (J27 : Bool → Prop) => Ite ((w64 (act - 1)) == 0) (J27 ((w64 (act - 1)) == 0)) (Jn (fun (J32 : Bool → Prop) => Ite ((w64 (act - 1)) == 1) (J32 ((w64 (act - 1)) == 1)) (Jn (fun (J37 : Bool → Prop) => Ite ((w64 (act - 1)) == 2) (J37 ((w64 (act - 1)) == 2)) (J37 ((w64 (act - 1)) == 3))) (fun (x36 : Bool) => J32 x36))) (fun (x31 : Bool) => J27 x31))) (fun (x26 : Bool) => Jn (fun (J42 : Int → Prop) => Ite x26 (J42 2) (Jn (fun (J49 : Int → Prop) => Ite ((w64 (act - 1)) == 4) (J49 5) (Jn (fun (J56 : Int → Prop) => Ite ((w64 (act - 1)) == 5) (J56 1) (J56 0)) (fun (x55 : Int) => J49 x55))) (fun (x48 : Int) => J42 x48))) (fun (x41 : Int) => Jn (fun (J61 : Bool → Prop) => Ite (decide (x41 > 0)) (J61 laden) (J61 false)) (fun (x60 : Bool) => Jn (fun (J64 : Int → Prop) => Ite x60 (J64 (w64 (x41 + 2))) (J64 x41)) (fun (x63 : Int) => post x63)))))))
def V_battery_Cost (tick : Int) (act : Int) (laden : Bool) (post : Int → Prop) : Prop :=
  V_battery_Base act laden (fun x8 => post (w64 ((w64 ((w64 (x8 * (w64 (10 + (w64 ((imin (imax tick 0) 20000).tdiv 1000)))))) + 9)).tdiv 10)))
def V_battery_Spend (charge : Int) (cost : Int) (post : (Int × Int) → Prop) : Prop :=
  Jn (fun (J4 : Bool → Prop) => V_battery_isCharge charge (fun x5 => Ite x5 (J4 (decide (cost < 0))) (J4 true))) (fun (x3 : Bool) => Ite x3 (post (charge, 1)) (Ite (decide (charge < cost)) (post (charge, 16)) (post (w64 (charge - cost), 0))))
def V_battery_After (tick : Int) (charge : Int) (act : Int) (laden : Bool) (post : (Int × Int) → Prop) : Prop :=
  Jn (fun (J4 : Bool → Prop) => V_battery_isCharge charge (fun x5 => Ite x5 (Ite (decide (act < 0)) (J4 true) (J4 (decide (act ≥ 10)))) (J4 true))) (fun (x3 : Bool) => Ite x3 (post (charge, 1)) (Ite (act == 9) (post (imin (w64 (charge + 20)) 1000000, 0)) (V_battery_Cost tick act laden (fun x18 => V_battery_Spend charge x18 (fun x19 => post (x19.1, x19.2))))))
def V_act_move_1 (x_1 : ApiStuck) (c0 : ApiRobot) (c1 : Int) (post : Bool → Prop) : Prop :=
  Jn (fun (J4 : Bool → Prop) => Ite (x_1.Cell == c0.Cell) (J4 true) (J4 (x_1.Cell == c1))) (fun (x3 : Bool) => post x3)
def V_slices_IndexFunc_api_Stuck_api_Stuck__act_move_1 (s_1 : List ApiStuck) (f_c0 : ApiRobot) (f_c1 : Int) (post : Int → Prop) : Prop :=
  Jn (fun (J6 : Unit → Prop) => Loop (fun (s7 : Int) Y8 => Ite (decide (s7 < (s_1.length : Int))) (∃ x16, idx s_1 s7 = some x16 ∧ V_act_move_1 x16 f_c0 f_c1 (fun x17 => Ite x17 (post s7) (Y8 (w64 (s7 + 1))))) (J6 ())) 0) (fun (x5 : Unit) => post (-1))
def V_slices_ContainsFunc_api_Stuck_api_Stuck__act_move_1 (s_1 : List ApiStuck) (f_c0 : ApiRobot) (f_c1 : Int) (post : Bool → Prop) : Prop :=
  V_slices_IndexFunc_api_Stuck_api_Stuck__act_move_1 s_1 f_c0 f_c1 (fun x5 => post (decide (x5 ≥ 0)))
def V_body_Low (c : Int) (post : Int → Prop) : Prop :=
  post (w64 (2 * c))
def V_body_High (c : Int) (post : Int → Prop) : Prop :=
  post (w64 ((w64 (2 * c)) + 1))
def V_body_at (r : ApiRobot) (c : Int) (post : (List Int) → Prop) : Prop :=
  Ite (decide (r.Load ≥ 0)) (V_body_Low c (fun x8 => V_body_High c (fun x9 => post ([x8, x9] : List Int)))) (V_body_Low c (fun x12 => post ([x12] : List Int)))
def V_body_Robot (st : ApiState) (i : Int) (post : (List Int) → Prop) : Prop :=
  Jn (fun (J4 : Bool → Prop) => Ite (decide (i < 0)) (J4 true) (J4 (decide (i ≥ (st.Robots.length : Int))))) (fun (x3 : Bool) => Ite x3 (post []) (∃ x11, idx st.Robots i = some x11 ∧ V_body_at x11 x11.Cell (fun x12 => post x12)))
def V_body_Carrier_1 (r : ApiRobot) (c0 : Int) (post : Bool → Prop) : Prop :=
  post (r.Load == c0)
def V_slices_IndexFunc_api_Robot_api_Robot__body_Carrier_1 (s_1 : List ApiRobot) (f_c0 : Int) (post : Int → Prop) : Prop :=
  Jn (fun (J6 : Unit → Prop) => Loop (fun (s7 : Int) Y8 => Ite (decide (s7 < (s_1.length : Int))) (∃ x16, idx s_1 s7 = some x16 ∧ V_body_Carrier_1 x16 f_c0 (fun x17 => Ite x17 (post s7) (Y8 (w64 (s7 + 1))))) (J6 ())) 0) (fun (x5 : Unit) => post (-1))
def V_body_Carrier (st : ApiState) (shelf : Int) (post : Int → Prop) : Prop :=
  Ite (decide (shelf < 0)) (post (-1)) (V_slices_IndexFunc_api_Robot_api_Robot__body_Carrier_1 st.Robots shelf (fun x10 => post x10))
def V_body_Shelf (st : ApiState) (s_1 : Int) (post : (List Int) → Prop) : Prop :=
  Jn (fun (J4 : Bool → Prop) => Ite (decide (s_1 < 0)) (J4 true) (Ite (decide (s_1 ≥ (st.Shelves.length : Int))) (J4 true) (V_body_Carrier st s_1 (fun x7 => J4 (decide (x7 ≥ 0)))))) (fun (x3 : Bool) => Ite x3 (post []) (∃ x13, idx st.Shelves s_1 = some x13 ∧ V_body_High x13 (fun x14 => post ([x14] : List Int))))
def V_body_Person (st : ApiState) (p : Int) (post : (List Int) → Prop) : Prop :=
  Jn (fun (J4 : Bool → Prop) => Ite (decide (p < 0)) (J4 true) (J4 (decide (p ≥ (st.People.length : Int))))) (fun (x3 : Bool) => Ite x3 (post []) (∃ x11, idx st.People p = some x11 ∧ V_body_Low x11 (fun x12 => V_body_High x11 (fun x13 => post ([x12, x13] : List Int)))))
def V_body_all (st : ApiState) (post : (List Int) → Prop) : Prop :=
  Jn (fun (J8 : (List Int) → Prop) => Loop (fun (s9 : List Int × Int) Y10 => Ite (decide (s9.2 < (st.Robots.length : Int))) (V_body_Robot st s9.2 (fun x18 => (s9.1.length + x18.length ≤ 1099511627776) ∧ Y10 ((s9.1 ++ x18), w64 (s9.2 + 1)))) (J8 s9.1)) (([], 0) : List Int × Int)) (fun (x7 : List Int) => Jn (fun (J25 : (List Int) → Prop) => Loop (fun (s26 : List Int × Int) Y27 => Ite (decide (s26.2 < (st.Shelves.length : Int))) (V_body_Shelf st s26.2 (fun x35 => (s26.1.length + x35.length ≤ 1099511627776) ∧ Y27 ((s26.1 ++ x35), w64 (s26.2 + 1)))) (J25 s26.1)) (x7, 0)) (fun (x24 : List Int) => Jn (fun (J42 : (List Int) → Prop) => Loop (fun (s43 : List Int × Int) Y44 => Ite (decide (s43.2 < (st.People.length : Int))) (V_body_Person st s43.2 (fun x52 => (s43.1.length + x52.length ≤ 1099511627776) ∧ Y44 ((s43.1 ++ x52), w64 (s43.2 + 1)))) (J42 s43.1)) (x24, 0)) (fun (x41 : List Int) => post x41)))
def V_slices_Sort_int_int__o0 (p0 : List Int) (post : List Int → Prop) : Prop :=
  p0.length ≤ 1099511627776 ∧ post (p0.mergeSort fun x y => decide (x ≤ y))
def V_body_All (st : ApiState) (post : (List Int) → Prop) : Prop :=
  V_body_all st (fun x5 => V_slices_Sort_int_int__o0 x5 (fun x8 => post x8))
def V_act_move (s_1 : ApiSite) (st : ApiState) (r : ApiRobot) (d : Int) (post : Int → Prop) : Prop :=
  V_floor_Next s_1.Floor r.Cell d (fun x5 => Jn (fun (J7 : Bool → Prop) => Ite x5.2 (V_slices_Contains_int_int st.Dead x5.1 (fun x9 => J7 x9)) (J7 true)) (fun (x6 : Bool) => Ite x6 (post 14) (Jn (fun (J14 : Bool → Prop) => Ite (d == 4) (J14 true) (J14 (d == 5))) (fun (x13 : Bool) => Jn (fun (J17 : Unit → Prop) => Ite x13 (V_slices_ContainsFunc_api_Stuck_api_Stuck__act_move_1 st.Stuck r x5.1 (fun x23 => Ite x23 (post 14) (J17 ()))) (J17 ())) (fun (x16 : Unit) => V_rules_Open s_1 x5.1 st.Tick (fun x29 => Ite (!x29) (post 18) (V_body_All st (fun x35 => Jn (fun (J37 : Bool → Prop) => V_body_Low x5.1 (fun x38 => V_slices_Contains_int_int x35 x38 (fun x39 => Ite x39 (J37 true) (Ite (decide (r.Load ≥ 0)) (V_body_High x5.1 (fun x42 => V_slices_Contains_int_int x35 x42 (fun x43 => J37 x43))) (J37 false))))) (fun (x36 : Bool) => Ite x36 (post 15) (post 0))))))))))
def V_slices_Backward_int_int (s_1 : List Int) (post : (List Int) → Prop) : Prop :=
  post (s_1)
def V_rules_standing (st : ApiState) (post : (List (Int × Int)) → Prop) : Prop :=
  Jn (fun (J8 : (List (Int × Bool)) → Prop) => Loop (fun (s9 : List (Int × Bool) × Int) Y10 => Ite (decide (s9.2 < (st.Robots.length : Int))) (∃ x16, idx st.Robots s9.2 = some x16 ∧ Y10 ((upd s9.1 x16.Load true), w64 (s9.2 + 1))) (J8 s9.1)) ((([] : List (Int × Bool)), 0) : List (Int × Bool) × Int)) (fun (x7 : List (Int × Bool)) => V_slices_Backward_int_int st.Shelves (fun x25 => (x25.length ≤ 1099511627776) ∧ Each (fun (x26 : Int × Int) (s27 : List (Int × Int)) Y28 => Jn (fun (J33 : (List (Int × Int)) → Prop) => Ite (!((lk x7 x26.1).getD false)) (J33 (upd s27 x26.2 x26.1)) (J33 s27)) (fun (x32 : List (Int × Int)) => Y28 x32)) (fun (s37 : List (Int × Int)) => post s37) (bkw x25) (([] : List (Int × Int)) : List (Int × Int))))
def V_rules_At (s_1 : ApiSite) (st : ApiState) (c : Int) (post : Int → Prop) : Prop :=
  V_rules_standing st (fun x5 => Ite ((lk x5 c).isSome) (post ((lk x5 c).getD 0)) (post (-1)))
def V_act_lift (s_1 : ApiSite) (st : ApiState) (r : ApiRobot) (post : Int → Prop) : Prop :=
  Ite (decide (r.Load ≥ 0)) (post 7) (V_rules_At s_1 st r.Cell (fun x10 => Ite (decide (x10 < 0)) (post 4) (post 0)))
def V_rules_Stands (s_1 : ApiSite) (c : Int) (post : Bool → Prop) : Prop :=
  Jn (fun (J4 : Bool → Prop) => V_rules_isCell s_1 c (fun x5 => Ite x5 (∃ x7, idx s_1.Floor.Kind c = some x7 ∧ Ite (x7 == 1) (J4 true) (J4 (x7 == 2))) (J4 false))) (fun (x3 : Bool) => post x3)
def V_floor_Near (f : ApiFloor) (a : Int) (b : Int) (post : Bool → Prop) : Prop :=
  V_floor_is f b (fun x5 => Ite (!x5) (post false) (Jn (fun (J12 : Unit → Prop) => Loop (fun (s13 : Int) Y14 => Ite (decide (s13 < 4)) (∃ x20, idx ([0, 1, 2, 3] : List Int) s13 = some x20 ∧ V_floor_beside f a x20 (fun x23 => Ite (x23 == b) (post true) (Y14 (w64 (s13 + 1))))) (J12 ())) 0) (fun (x11 : Unit) => post false)))
def V_rules_Carried_1 (r : ApiRobot) (c0 : Int) (post : Bool → Prop) : Prop :=
  post (r.Load == c0)
def V_slices_IndexFunc_api_Robot_api_Robot__rules_Carried_1 (s_1 : List ApiRobot) (f_c0 : Int) (post : Int → Prop) : Prop :=
  Jn (fun (J6 : Unit → Prop) => Loop (fun (s7 : Int) Y8 => Ite (decide (s7 < (s_1.length : Int))) (∃ x16, idx s_1 s7 = some x16 ∧ V_rules_Carried_1 x16 f_c0 (fun x17 => Ite x17 (post s7) (Y8 (w64 (s7 + 1))))) (J6 ())) 0) (fun (x5 : Unit) => post (-1))
def V_rules_Carried (st : ApiState) (shelf : Int) (post : Int → Prop) : Prop :=
  Ite (decide (shelf < 0)) (post (-1)) (V_slices_IndexFunc_api_Robot_api_Robot__rules_Carried_1 st.Robots shelf (fun x10 => post x10))
def V_rules_Class (s_1 : ApiSite) (shelf : Int) (post : ByteArray → Prop) : Prop :=
  Jn (fun (J4 : Bool → Prop) => Ite (decide (shelf < 0)) (J4 true) (J4 (decide (shelf ≥ (s_1.Shelves.length : Int))))) (fun (x3 : Bool) => Ite x3 (post ByteArray.empty) (∃ x11, idx s_1.Shelves shelf = some x11 ∧ post x11.Class))
def V_rules_classes (s_1 : ApiSite) (post : (List (ApiApart × Bool)) → Prop) : Prop :=
  Jn (fun (J8 : (List (ApiApart × Bool)) → Prop) => Loop (fun (s9 : List (ApiApart × Bool) × Int) Y10 => Ite (decide (s9.2 < (s_1.Aparts.length : Int))) (∃ x16, idx s_1.Aparts s9.2 = some x16 ∧ Y10 ((upd (upd s9.1 x16 true) ({ A := x16.B, B := x16.A : ApiApart }) true), w64 (s9.2 + 1))) (J8 s9.1)) ((([] : List (ApiApart × Bool)), 0) : List (ApiApart × Bool) × Int)) (fun (x7 : List (ApiApart × Bool)) => post x7)
def V_rules_Never (s_1 : ApiSite) (a : ByteArray) (b : ByteArray) (post : Bool → Prop) : Prop :=
  Jn (fun (J4 : Bool → Prop) => Ite (seq a ByteArray.empty) (J4 false) (Ite (seq b ByteArray.empty) (J4 false) (V_rules_classes s_1 (fun x7 => J4 ((lk x7 ({ A := a, B := b : ApiApart })).getD false))))) (fun (x3 : Bool) => post x3)
def V_rules_Drop (s_1 : ApiSite) (st : ApiState) (shelf : Int) (c : Int) (post : Int → Prop) : Prop :=
  Jn (fun (J4 : Bool → Prop) => Ite (decide (shelf < 0)) (J4 true) (J4 (decide (shelf ≥ (st.Shelves.length : Int))))) (fun (x3 : Bool) => Ite x3 (post 4) (V_rules_Stands s_1 c (fun x11 => Ite (!x11) (post 13) (Jn (fun (J20 : Int → Prop) => Loop (fun (s21 : Int × Int) Y22 => Ite (decide (s21.2 < (st.Shelves.length : Int))) (Jn (fun (J27 : Int → Prop) => ∃ x30, idx st.Shelves s21.2 = some x30 ∧ Jn (fun (J32 : Bool → Prop) => Ite (s21.2 == shelf) (J32 true) (Ite (x30 != c) (V_floor_Near s_1.Floor x30 c (fun x35 => Ite x35 (V_rules_Carried st s21.2 (fun x37 => J32 (decide (x37 ≥ 0)))) (J32 true))) (V_rules_Carried st s21.2 (fun x38 => J32 (decide (x38 ≥ 0)))))) (fun (x31 : Bool) => Ite x31 (J27 s21.1) (Ite (x30 == c) (post 13) (V_rules_Class s_1 shelf (fun x47 => V_rules_Class s_1 s21.2 (fun x48 => V_rules_Never s_1 x47 x48 (fun x49 => Jn (fun (J51 : Int → Prop) => Ite x49 (J51 17) (J51 s21.1)) (fun (x50 : Int) => J27 x50)))))))) (fun (x26 : Int) => Y22 (x26, w64 (s21.2 + 1)))) (J20 s21.1)) (0, 0)) (fun (x19 : Int) => post x19)))))
def V_act_Legal (s_1 : ApiSite) (st : ApiState) (robot : Int) (act : Int) (post : Int → Prop) : Prop :=
  Jn (fun (J4 : Bool → Prop) => Ite (decide (robot < 0)) (J4 true) (J4 (decide (robot ≥ (st.Robots.length : Int))))) (fun (x3 : Bool) => Ite x3 (post 4) (Jn (fun (J10 : Bool → Prop) => Ite (decide (act < 0)) (J10 true) (J10 (decide (act ≥ 10)))) (fun (x9 : Bool) => Ite x9 (post 1) (Ite (act == 0) (post 0) (∃ x22, idx st.Robots robot = some x22 ∧ V_act_direction act (fun x25 => Jn (fun (J27 : Bool → Prop) => Ite x22.Dead (J27 true) (J27 (decide (x22.Mute > 0)))) (fun (x26 : Bool) => Ite x26 (post 9) (Jn (fun (J33 : Bool → Prop) => Ite x25.2 (J33 (decide (x22.Rest > 0))) (J33 false)) (fun (x32 : Bool) => Ite x32 (post 8) (V_battery_After st.Tick x22.Charge act (decide (x22.Load ≥ 0)) (fun x40 => Ite (x40.2 == 16) (post x40.2) (Ite x25.2 (V_act_move s_1 st x22 x25.1 (fun x51 => post x51)) (Ite (act == 7) (V_act_lift s_1 st x22 (fun x57 => post x57)) (Jn (fun (J59 : Bool → Prop) => Ite (act == 8) (J59 (decide (x22.Load < 0))) (J59 false)) (fun (x58 : Bool) => Ite x58 (post 7) (Ite (act == 8) (V_rules_Drop s_1 st x22.Load x22.Cell (fun x69 => post x69)) (∃ x72, idx s_1.Floor.Kind x22.Cell = some x72 ∧ Ite (x72 != 3) (post 13) (post 0))))))))))))))))))
def V_slices_Clone_int_int (s_1 : List Int) (post : (List Int) → Prop) : Prop :=
  ∀ hb5 : Bool, (hb5 = true → s_1 = []) → Ite (hb5 == true) (post []) ((([] : List Int).length + s_1.length ≤ 1099511627776) ∧ post (([] : List Int) ++ s_1))
def V_slices_Clone_api_Robot_api_Robot (s_1 : List ApiRobot) (post : (List ApiRobot) → Prop) : Prop :=
  ∀ hb5 : Bool, (hb5 = true → s_1 = []) → Ite (hb5 == true) (post []) ((([] : List ApiRobot).length + s_1.length ≤ 1099511627776) ∧ post (([] : List ApiRobot) ++ s_1))
def V_slices_Clone_api_Stuck_api_Stuck (s_1 : List ApiStuck) (post : (List ApiStuck) → Prop) : Prop :=
  ∀ hb5 : Bool, (hb5 = true → s_1 = []) → Ite (hb5 == true) (post []) ((([] : List ApiStuck).length + s_1.length ≤ 1099511627776) ∧ post (([] : List ApiStuck) ++ s_1))
def V_body_Clone (st : ApiState) (post : ApiState → Prop) : Prop :=
  V_slices_Clone_int_int st.Shelves (fun x5 => V_slices_Clone_api_Robot_api_Robot st.Robots (fun x6 => V_slices_Clone_int_int st.People (fun x7 => V_slices_Clone_int_int st.Dead (fun x8 => V_slices_Clone_api_Stuck_api_Stuck st.Stuck (fun x9 => post ({ Tick := st.Tick, Shelves := x5, Robots := x6, People := x7, Dead := x8, Stuck := x9 : ApiState }))))))
def V_act_Do (s_1 : ApiSite) (st : ApiState) (robot : Int) (act : Int) (post : ApiState → Prop) : Prop :=
  V_body_Clone st (fun x5 => Jn (fun (J7 : Bool → Prop) => Ite (decide (robot < 0)) (J7 true) (Ite (decide (robot ≥ (x5.Robots.length : Int))) (J7 true) (∃ x10, idx x5.Robots robot = some x10 ∧ J7 x10.Dead))) (fun (x6 : Bool) => Ite x6 (post x5) (∃ x16, idx x5.Robots robot = some x16 ∧ V_battery_After st.Tick x16.Charge act (decide (x16.Load ≥ 0)) (fun x19 => Jn (fun (J23 : Int → Prop) => Ite (x19.2 != 0) (J23 0) (J23 x19.1)) (fun (x22 : Int) => Jn (fun (J34 : (List ApiRobot) → Prop) => Ite (act == 7) (V_rules_At s_1 st (({ Cell := x16.Cell, Load := x16.Load, Charge := x22, Rest := x16.Rest, Mute := x16.Mute, Dead := x16.Dead : ApiRobot }).Cell) (fun x38 => J34 ((x5.Robots.set (Int.toNat robot) ({ Cell := x16.Cell, Load := x16.Load, Charge := x22, Rest := x16.Rest, Mute := x16.Mute, Dead := x16.Dead : ApiRobot })).set (Int.toNat robot) ({ Cell := ({ Cell := x16.Cell, Load := x16.Load, Charge := x22, Rest := x16.Rest, Mute := x16.Mute, Dead := x16.Dead : ApiRobot }).Cell, Load := x38, Charge := ({ Cell := x16.Cell, Load := x16.Load, Charge := x22, Rest := x16.Rest, Mute := x16.Mute, Dead := x16.Dead : ApiRobot }).Charge, Rest := ({ Cell := x16.Cell, Load := x16.Load, Charge := x22, Rest := x16.Rest, Mute := x16.Mute, Dead := x16.Dead : ApiRobot }).Rest, Mute := ({ Cell := x16.Cell, Load := x16.Load, Charge := x22, Rest := x16.Rest, Mute := x16.Mute, Dead := x16.Dead : ApiRobot }).Mute, Dead := ({ Cell := x16.Cell, Load := x16.Load, Charge := x22, Rest := x16.Rest, Mute := x16.Mute, Dead := x16.Dead : ApiRobot }).Dead : ApiRobot })))) (Jn (fun (J42 : (List ApiRobot) → Prop) => Ite (act == 8) (J42 ((x5.Robots.set (Int.toNat robot) ({ Cell := x16.Cell, Load := x16.Load, Charge := x22, Rest := x16.Rest, Mute := x16.Mute, Dead := x16.Dead : ApiRobot })).set (Int.toNat robot) ({ Cell := ({ Cell := x16.Cell, Load := x16.Load, Charge := x22, Rest := x16.Rest, Mute := x16.Mute, Dead := x16.Dead : ApiRobot }).Cell, Load := (-1), Charge := ({ Cell := x16.Cell, Load := x16.Load, Charge := x22, Rest := x16.Rest, Mute := x16.Mute, Dead := x16.Dead : ApiRobot }).Charge, Rest := ({ Cell := x16.Cell, Load := x16.Load, Charge := x22, Rest := x16.Rest, Mute := x16.Mute, Dead := x16.Dead : ApiRobot }).Rest, Mute := ({ Cell := x16.Cell, Load := x16.Load, Charge := x22, Rest := x16.Rest, Mute := x16.Mute, Dead := x16.Dead : ApiRobot }).Mute, Dead := ({ Cell := x16.Cell, Load := x16.Load, Charge := x22, Rest := x16.Rest, Mute := x16.Mute, Dead := x16.Dead : ApiRobot }).Dead : ApiRobot }))) (J42 (x5.Robots.set (Int.toNat robot) ({ Cell := x16.Cell, Load := x16.Load, Charge := x22, Rest := x16.Rest, Mute := x16.Mute, Dead := x16.Dead : ApiRobot })))) (fun (x41 : List ApiRobot) => J34 x41))) (fun (x33 : List ApiRobot) => V_act_direction act (fun x48 => Ite (!x48.2) (post ({ Tick := x5.Tick, Shelves := x5.Shelves, Robots := x33, People := x5.People, Dead := x5.Dead, Stuck := x5.Stuck : ApiState })) (∃ x56, idx x33 robot = some x56 ∧ V_floor_Next s_1.Floor x56.Cell x48.1 (fun x57 => Jn (fun (J61 : (List Int × List ApiRobot) → Prop) => Ite x57.2 (V_rules_Speed s_1 x57.1 (fun x65 => Jn (fun (J69 : (List Int) → Prop) => Ite (decide ((({ Cell := ({ Cell := x57.1, Load := x56.Load, Charge := x56.Charge, Rest := x56.Rest, Mute := x56.Mute, Dead := x56.Dead : ApiRobot }).Cell, Load := ({ Cell := x57.1, Load := x56.Load, Charge := x56.Charge, Rest := x56.Rest, Mute := x56.Mute, Dead := x56.Dead : ApiRobot }).Load, Charge := ({ Cell := x57.1, Load := x56.Load, Charge := x56.Charge, Rest := x56.Rest, Mute := x56.Mute, Dead := x56.Dead : ApiRobot }).Charge, Rest := w64 (x65 - 1), Mute := ({ Cell := x57.1, Load := x56.Load, Charge := x56.Charge, Rest := x56.Rest, Mute := x56.Mute, Dead := x56.Dead : ApiRobot }).Mute, Dead := ({ Cell := x57.1, Load := x56.Load, Charge := x56.Charge, Rest := x56.Rest, Mute := x56.Mute, Dead := x56.Dead : ApiRobot }).Dead : ApiRobot }).Load) ≥ 0)) (∃ x73, idx x5.Shelves (({ Cell := ({ Cell := x57.1, Load := x56.Load, Charge := x56.Charge, Rest := x56.Rest, Mute := x56.Mute, Dead := x56.Dead : ApiRobot }).Cell, Load := ({ Cell := x57.1, Load := x56.Load, Charge := x56.Charge, Rest := x56.Rest, Mute := x56.Mute, Dead := x56.Dead : ApiRobot }).Load, Charge := ({ Cell := x57.1, Load := x56.Load, Charge := x56.Charge, Rest := x56.Rest, Mute := x56.Mute, Dead := x56.Dead : ApiRobot }).Charge, Rest := w64 (x65 - 1), Mute := ({ Cell := x57.1, Load := x56.Load, Charge := x56.Charge, Rest := x56.Rest, Mute := x56.Mute, Dead := x56.Dead : ApiRobot }).Mute, Dead := ({ Cell := x57.1, Load := x56.Load, Charge := x56.Charge, Rest := x56.Rest, Mute := x56.Mute, Dead := x56.Dead : ApiRobot }).Dead : ApiRobot }).Load) = some x73 ∧ J69 (x5.Shelves.set (Int.toNat (({ Cell := ({ Cell := x57.1, Load := x56.Load, Charge := x56.Charge, Rest := x56.Rest, Mute := x56.Mute, Dead := x56.Dead : ApiRobot }).Cell, Load := ({ Cell := x57.1, Load := x56.Load, Charge := x56.Charge, Rest := x56.Rest, Mute := x56.Mute, Dead := x56.Dead : ApiRobot }).Load, Charge := ({ Cell := x57.1, Load := x56.Load, Charge := x56.Charge, Rest := x56.Rest, Mute := x56.Mute, Dead := x56.Dead : ApiRobot }).Charge, Rest := w64 (x65 - 1), Mute := ({ Cell := x57.1, Load := x56.Load, Charge := x56.Charge, Rest := x56.Rest, Mute := x56.Mute, Dead := x56.Dead : ApiRobot }).Mute, Dead := ({ Cell := x57.1, Load := x56.Load, Charge := x56.Charge, Rest := x56.Rest, Mute := x56.Mute, Dead := x56.Dead : ApiRobot }).Dead : ApiRobot }).Load)) x57.1)) (J69 x5.Shelves)) (fun (x68 : List Int) => J61 (x68, ((x33.set (Int.toNat robot) ({ Cell := x57.1, Load := x56.Load, Charge := x56.Charge, Rest := x56.Rest, Mute := x56.Mute, Dead := x56.Dead : ApiRobot })).set (Int.toNat robot) ({ Cell := ({ Cell := x57.1, Load := x56.Load, Charge := x56.Charge, Rest := x56.Rest, Mute := x56.Mute, Dead := x56.Dead : ApiRobot }).Cell, Load := ({ Cell := x57.1, Load := x56.Load, Charge := x56.Charge, Rest := x56.Rest, Mute := x56.Mute, Dead := x56.Dead : ApiRobot }).Load, Charge := ({ Cell := x57.1, Load := x56.Load, Charge := x56.Charge, Rest := x56.Rest, Mute := x56.Mute, Dead := x56.Dead : ApiRobot }).Charge, Rest := w64 (x65 - 1), Mute := ({ Cell := x57.1, Load := x56.Load, Charge := x56.Charge, Rest := x56.Rest, Mute := x56.Mute, Dead := x56.Dead : ApiRobot }).Mute, Dead := ({ Cell := x57.1, Load := x56.Load, Charge := x56.Charge, Rest := x56.Rest, Mute := x56.Mute, Dead := x56.Dead : ApiRobot }).Dead : ApiRobot })))))) (J61 (x5.Shelves, x33))) (fun (x60 : List Int × List ApiRobot) => post ({ Tick := x5.Tick, Shelves := x60.1, Robots := x60.2, People := x5.People, Dead := x5.Dead, Stuck := x5.Stuck : ApiState })))))))))))
def V_taquinlaw23_RouteDone (s_1 : ApiSite) (from_1 : Int) (to_1 : Int) (tick : Int) (dead : List Int) (post : Bool → Prop) : Prop :=
  V_taquinlaw23_small (fun x5 => Jn (fun (J11 : Bool → Prop) => V_taquinlaw23_fair ({ Floor := s_1.Floor, Zones := s_1.Zones, Aparts := s_1.Aparts, Shelves := [], Robots := [] : ApiSite }) [] dead (fun x12 => Ite x12 (J11 (decide (tick > 10000))) (J11 true))) (fun (x10 : Bool) => Ite x10 (post x5) (Jn (fun (J20 : Unit → Prop) => Loop (fun (s21 : Int) Y22 => Ite (decide (s21 < (dead.length : Int))) (Jn (fun (J27 : Bool → Prop) => ∃ x28, idx dead s21 = some x28 ∧ Ite (decide (x28 < 0)) (J27 true) (Ite (decide (x28 ≥ (s_1.Floor.Kind.length : Int))) (J27 true) (Ite (decide (s21 > 0)) (∃ x32, idx dead (imax (w64 (s21 - 1)) 0) = some x32 ∧ J27 (decide (x32 ≥ x28))) (J27 false)))) (fun (x26 : Bool) => Ite x26 (post x5) (Y22 (w64 (s21 + 1))))) (J20 ())) 0) (fun (x19 : Unit) => V_route_Find ({ Floor := s_1.Floor, Zones := s_1.Zones, Aparts := s_1.Aparts, Shelves := [], Robots := [] : ApiSite }) from_1 to_1 tick [] dead 25 (fun x40 => Ite (x40.2 != 0) (post x5) (Jn (fun (J53 : (Int × List Int × List ApiRobot × List Int × List Int × List ApiStuck) → Prop) => Loop (fun (s54 : Int × List Int × List ApiRobot × List Int × List Int × List ApiStuck × Int) Y55 => Ite (decide (s54.2.2.2.2.2.2 < (x40.1.length : Int))) (∃ x61, idx x40.1 s54.2.2.2.2.2.2 = some x61 ∧ V_act_Legal ({ Floor := s_1.Floor, Zones := s_1.Zones, Aparts := s_1.Aparts, Shelves := [], Robots := ([({ Cell := from_1, Charge := 1000000 : ApiStart })] : List ApiStart) : ApiSite }) ({ Tick := s54.1, Shelves := s54.2.1, Robots := s54.2.2.1, People := s54.2.2.2.1, Dead := s54.2.2.2.2.1, Stuck := s54.2.2.2.2.2.1 : ApiState }) 0 x61 (fun x62 => Ite (x62 != 0) (post false) (∃ x68, idx s54.2.2.1 0 = some x68 ∧ V_act_Do ({ Floor := s_1.Floor, Zones := s_1.Zones, Aparts := s_1.Aparts, Shelves := [], Robots := ([({ Cell := from_1, Charge := 1000000 : ApiStart })] : List ApiStart) : ApiSite }) ({ Tick := s54.1, Shelves := s54.2.1, Robots := s54.2.2.1, People := s54.2.2.2.1, Dead := s54.2.2.2.2.1, Stuck := s54.2.2.2.2.2.1 : ApiState }) 0 x61 (fun x71 => Ite ((x71.Robots.length : Int) != 1) (post false) (Jn (fun (J80 : (List ApiRobot) → Prop) => Ite (x61 == 0) (∃ x84, idx x71.Robots 0 = some x84 ∧ J80 (x71.Robots.set (Int.toNat 0) ({ Cell := x84.Cell, Load := x84.Load, Charge := x84.Charge, Rest := imax (w64 (x68.Rest - 1)) 0, Mute := x84.Mute, Dead := x84.Dead : ApiRobot }))) (J80 x71.Robots)) (fun (x79 : List ApiRobot) => Y55 (w64 (x71.Tick + 1), x71.Shelves, x79, x71.People, x71.Dead, x71.Stuck, w64 (s54.2.2.2.2.2.2 + 1)))))))) (J53 (s54.1, s54.2.1, s54.2.2.1, s54.2.2.2.1, s54.2.2.2.2.1, s54.2.2.2.2.2.1))) ((tick, [], ([({ Cell := from_1, Load := (-1), Charge := 1000000, Rest := 0, Mute := 0, Dead := false : ApiRobot })] : List ApiRobot), [], dead, [], 0) : Int × List Int × List ApiRobot × List Int × List Int × List ApiStuck × Int)) (fun (x52 : Int × List Int × List ApiRobot × List Int × List Int × List ApiStuck) => Jn (fun (J90 : Bool → Prop) => Ite x5 (∃ x92, idx x52.2.2.1 0 = some x92 ∧ J90 (x92.Cell == to_1)) (J90 false)) (fun (x89 : Bool) => post x89))))))))
end Go.Taq
