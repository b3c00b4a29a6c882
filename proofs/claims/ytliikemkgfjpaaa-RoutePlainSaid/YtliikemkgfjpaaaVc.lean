/- The verification conditions of the Go functions that are reached, in plain data (written by a program of the prover). -/
import Derived.Test.YtliikemkgfjpaaaLibX
set_option linter.unusedVariables false
namespace Go.Taq
open Go
structure ApiFloor where
  W : Int
  H : Int
  D : Int
  Kind : List Int
  Out : List Int
deriving DecidableEq, Inhabited
structure ApiSpan where
  From : Int
  To : Int
deriving DecidableEq, Inhabited
structure ApiZone where
  Name : ByteArray
  Cells : List Int
  Speed : Int
  Keep : Int
  Shut : List ApiSpan
deriving DecidableEq, Inhabited
structure ApiApart where
  A : ByteArray
  B : ByteArray
deriving DecidableEq, Inhabited
structure ApiShelf where
  Cell : Int
  Class : ByteArray
deriving DecidableEq, Inhabited
structure ApiStart where
  Cell : Int
  Charge : Int
deriving DecidableEq, Inhabited
structure ApiSite where
  Floor : ApiFloor
  Zones : List ApiZone
  Aparts : List ApiApart
  Shelves : List ApiShelf
  Robots : List ApiStart
deriving DecidableEq, Inhabited
structure ApiTaken where
  Cell : Int
  Span : ApiSpan
deriving DecidableEq, Inhabited
structure RouteWalk where
  site : ApiSite
  tick : Int
  avoid : List Int
  taken : List (Int × List ApiSpan)
deriving DecidableEq, Inhabited
structure RouteStand where
  cell : Int
  rest : Int
deriving DecidableEq, Inhabited
structure FloorStep where
  x : Int
  y : Int
  z : Int
deriving DecidableEq, Inhabited
structure Arr6FloorStep where
  e0 : FloorStep
  e1 : FloorStep
  e2 : FloorStep
  e3 : FloorStep
  e4 : FloorStep
  e5 : FloorStep
deriving DecidableEq, Inhabited
structure OkApiFloor (x : ApiFloor) : Prop where
  W : I64 x.W
  H : I64 x.H
  D : I64 x.D
  Kind : (OkL I64) x.Kind
  Out : (OkL I64) x.Out
structure OkApiSpan (x : ApiSpan) : Prop where
  From : I64 x.From
  To : I64 x.To
structure OkApiZone (x : ApiZone) : Prop where
  Name : OkS x.Name
  Cells : (OkL I64) x.Cells
  Speed : I64 x.Speed
  Keep : I64 x.Keep
  Shut : (OkL OkApiSpan) x.Shut
structure OkApiApart (x : ApiApart) : Prop where
  A : OkS x.A
  B : OkS x.B
structure OkApiShelf (x : ApiShelf) : Prop where
  Cell : I64 x.Cell
  Class : OkS x.Class
structure OkApiStart (x : ApiStart) : Prop where
  Cell : I64 x.Cell
  Charge : I64 x.Charge
structure OkApiSite (x : ApiSite) : Prop where
  Floor : OkApiFloor x.Floor
  Zones : (OkL OkApiZone) x.Zones
  Aparts : (OkL OkApiApart) x.Aparts
  Shelves : (OkL OkApiShelf) x.Shelves
  Robots : (OkL OkApiStart) x.Robots
def V_taquinlaw23_example (post : ApiSite → Prop) : Prop :=
  post ({ Floor := ({ W := 4, H := 1, D := 1, Kind := ([3, 1, 1, 1] : List Int), Out := ([1, 5, 5, 4] : List Int) : ApiFloor }), Zones := [], Aparts := [], Shelves := [], Robots := [] : ApiSite })
def V_route_right (s_1 : ApiSite) (from_1 : Int) (to_1 : Int) (tick : Int) (post : Bool → Prop) : Prop :=
  Jn (fun (J2 : Unit → Prop) => Loop (fun (s3 : Int) Y4 => Ite (decide (s3 < (([from_1, to_1] : List Int).length : Int))) (∃ x6, idx ([from_1, to_1] : List Int) s3 = some x6 ∧ Jn (fun (J8 : Bool → Prop) => Ite (decide (x6 < 0)) (J8 true) (Ite (decide (x6 ≥ (s_1.Floor.Kind.length : Int))) (J8 true) (∃ x11, idx s_1.Floor.Kind x6 = some x11 ∧ J8 (x11 == 0)))) (fun (x7 : Bool) => Ite x7 (post false) (Y4 (w64 (s3 + 1))))) (J2 ())) 0) (fun (x1 : Unit) => Jn (fun (J14 : Bool → Prop) => Ite (decide (tick ≥ 0)) (J14 (decide (tick ≤ 20000))) (J14 false)) (fun (x13 : Bool) => post x13))
def V_route_newWalk (s_1 : ApiSite) (tick : Int) (taken : List ApiTaken) (avoid : List Int) (post : RouteWalk → Prop) : Prop :=
  Jn (fun (J2 : (List (Int × List ApiSpan)) → Prop) => Loop (fun (s3 : List (Int × List ApiSpan) × Int) Y4 => Ite (decide (s3.2 < (taken.length : Int))) (∃ x6, idx taken s3.2 = some x6 ∧ Jn (fun (J8 : (List (Int × List ApiSpan)) → Prop) => (∀ x9, lk s3.1 x6.Cell = some x9 → (x9.length + ([x6.Span] : List ApiSpan).length ≤ 1099511627776) ∧ J8 (upd s3.1 x6.Cell (x9 ++ ([x6.Span] : List ApiSpan)))) ∧ (lk s3.1 x6.Cell = none → (([x6.Span] : List ApiSpan).length ≤ 1099511627776) ∧ J8 (upd (upd s3.1 x6.Cell []) x6.Cell ([x6.Span] : List ApiSpan)))) (fun (x7 : List (Int × List ApiSpan)) => Y4 (x7, w64 (s3.2 + 1)))) (J2 s3.1)) ((([] : List (Int × List ApiSpan)), 0) : List (Int × List ApiSpan) × Int)) (fun (x1 : List (Int × List ApiSpan)) => post ({ site := s_1, tick := tick, avoid := avoid, taken := x1 : RouteWalk }))
def V_route_walk_held_1 (x_1 : ApiSpan) (c0 : Int) (post : Bool → Prop) : Prop :=
  Jn (fun (J2 : Bool → Prop) => Ite (decide (x_1.From ≤ c0)) (J2 (decide (c0 < x_1.To))) (J2 false)) (fun (x1 : Bool) => post x1)
def V_slices_IndexFunc_api_Span_api_Span__route_walk_held_1 (s_1 : List ApiSpan) (f_c0 : Int) (post : Int → Prop) : Prop :=
  Jn (fun (J2 : Unit → Prop) => Loop (fun (s3 : Int) Y4 => Ite (decide (s3 < (s_1.length : Int))) (∃ x6, idx s_1 s3 = some x6 ∧ V_route_walk_held_1 x6 f_c0 (fun x7 => Ite x7 (post s3) (Y4 (w64 (s3 + 1))))) (J2 ())) 0) (fun (x1 : Unit) => post (-1))
def V_slices_ContainsFunc_api_Span_api_Span__route_walk_held_1 (s_1 : List ApiSpan) (f_c0 : Int) (post : Bool → Prop) : Prop :=
  V_slices_IndexFunc_api_Span_api_Span__route_walk_held_1 s_1 f_c0 (fun x1 => post (decide (x1 ≥ 0)))
def V_route_walk_held (w : RouteWalk) (c : Int) (k : Int) (post : Bool → Prop) : Prop :=
  V_slices_ContainsFunc_api_Span_api_Span__route_walk_held_1 ((lk w.taken c).getD []) (w64 (w.tick + k)) (fun x1 => post x1)
def V_floor_size (f : ApiFloor) (post : Int → Prop) : Prop :=
  post (w64 ((w64 (f.W * f.H)) * f.D))
def V_floor_is (f : ApiFloor) (c : Int) (post : Bool → Prop) : Prop :=
  Jn (fun (J2 : Bool → Prop) => Ite (decide (c ≥ 0)) (V_floor_size f (fun x4 => J2 (decide (c < x4)))) (J2 false)) (fun (x1 : Bool) => post x1)
def V_floor_At (f : ApiFloor) (c : Int) (post : (Int × Int × Int) → Prop) : Prop :=
  V_floor_is f c (fun x1 => Ite (!x1) (post (0, 0, 0)) ((f.W ≠ 0) ∧ (f.W ≠ 0) ∧ (f.H ≠ 0) ∧ ((w64 (f.W * f.H)) ≠ 0) ∧ post (c.tmod f.W, (w64 (c.tdiv f.W)).tmod f.H, w64 (c.tdiv (w64 (f.W * f.H))))))
def V_floor_steps (post : Arr6FloorStep → Prop) : Prop :=
  post ({ e0 := ({ x := 1, y := 0, z := 0 : FloorStep }), e1 := ({ x := 0, y := 1, z := 0 : FloorStep }), e2 := ({ x := (-1), y := 0, z := 0 : FloorStep }), e3 := ({ x := 0, y := (-1), z := 0 : FloorStep }), e4 := ({ x := 0, y := 0, z := 1 : FloorStep }), e5 := ({ x := 0, y := 0, z := (-1) : FloorStep }) : Arr6FloorStep })
def V_floor_Cell (f : ApiFloor) (x_1 : Int) (y_1 : Int) (z : Int) (post : Int → Prop) : Prop :=
  Jn (fun (J2 : Bool → Prop) => Ite (decide ((imin (imin x_1 y_1) z) < 0)) (J2 true) (Ite (decide (x_1 ≥ f.W)) (J2 true) (Ite (decide (y_1 ≥ f.H)) (J2 true) (J2 (decide (z ≥ f.D)))))) (fun (x1 : Bool) => Ite x1 (post (-1)) (post (w64 ((w64 ((w64 ((w64 (z * f.H)) + y_1)) * f.W)) + x_1))))
def V_floor_beside (f : ApiFloor) (c : Int) (d : Int) (post : Int → Prop) : Prop :=
  Jn (fun (J2 : Bool → Prop) => V_floor_is f c (fun x3 => Ite x3 (Ite (decide (d < 0)) (J2 true) (J2 (decide (d ≥ 6)))) (J2 true))) (fun (x1 : Bool) => Ite x1 (post (-1)) (V_floor_At f c (fun x7 => V_floor_steps (fun x8 => ∃ x9, idx ([x8.e0, x8.e1, x8.e2, x8.e3, x8.e4, x8.e5] : List FloorStep) d = some x9 ∧ V_floor_Cell f (w64 (x7.1 + x9.x)) (w64 (x7.2.1 + x9.y)) (w64 (x7.2.2 + x9.z)) (fun x10 => post x10)))))
def V_floor_Next (f : ApiFloor) (c : Int) (d : Int) (post : (Int × Bool) → Prop) : Prop :=
  V_floor_beside f c d (fun x1 => Jn (fun (J3 : Bool → Prop) => Ite (decide (x1 < 0)) (J3 true) (∃ x5, idx f.Kind c = some x5 ∧ Ite (x5 == 0) (J3 true) (∃ x7, idx f.Kind x1 = some x7 ∧ Ite (x7 == 0) (J3 true) (∃ x9, idx f.Out c = some x9 ∧ (0 ≤ d) ∧ J3 ((band .i64 (shrI .i64 x9 d) 1) == 0))))) (fun (x2 : Bool) => Ite x2 (post (0, false)) (Jn (fun (J13 : Bool → Prop) => Ite (d == 4) (∃ x15, idx f.Kind c = some x15 ∧ Ite (x15 != 6) (J13 true) (∃ x17, idx f.Kind x1 = some x17 ∧ J13 (x17 != 6))) (Ite (d == 5) (∃ x19, idx f.Kind c = some x19 ∧ Ite (x19 != 6) (J13 true) (∃ x21, idx f.Kind x1 = some x21 ∧ J13 (x21 != 6))) (J13 false))) (fun (x12 : Bool) => Ite x12 (post (0, false)) (post (x1, true))))))
def V_slices_Index_int_int (s_1 : List Int) (v : Int) (post : Int → Prop) : Prop :=
  Jn (fun (J2 : Unit → Prop) => Loop (fun (s3 : Int) Y4 => Ite (decide (s3 < (s_1.length : Int))) (∃ x6, idx s_1 s3 = some x6 ∧ Ite (v == x6) (post s3) (Y4 (w64 (s3 + 1)))) (J2 ())) 0) (fun (x1 : Unit) => post (-1))
def V_slices_Contains_int_int (s_1 : List Int) (v : Int) (post : Bool → Prop) : Prop :=
  V_slices_Index_int_int s_1 v (fun x1 => post (decide (x1 ≥ 0)))
def V_cmp_isNaN_int (x_1 : Int) (post : Bool → Prop) : Prop :=
  post (x_1 != x_1)
def V_cmp_Less_int (x_1 : Int) (y_1 : Int) (post : Bool → Prop) : Prop :=
  Jn (fun (J2 : Bool → Prop) => V_cmp_isNaN_int x_1 (fun x3 => Ite x3 (V_cmp_isNaN_int y_1 (fun x5 => Ite x5 (J2 (decide (x_1 < y_1))) (J2 true))) (J2 (decide (x_1 < y_1))))) (fun (x1 : Bool) => post x1)
def V_slices_isNaN_int (x_1 : Int) (post : Bool → Prop) : Prop :=
  post (x_1 != x_1)
def V_slices_BinarySearch_int_int (x_1 : List Int) (target : Int) (post : (Int × Bool) → Prop) : Prop :=
  Jn (fun (J2 : Int → Prop) => Loop (fun (s3 : Int × Int) Y4 => Ite (decide (s3.1 < s3.2)) (∃ x7, idx x_1 (IntKind.wrap .i64 (shrI .u64 (IntKind.wrap .u64 (w64 (s3.1 + s3.2))) 1)) = some x7 ∧ V_cmp_Less_int x7 target (fun x8 => Jn (fun (J10 : (Int × Int) → Prop) => Ite x8 (J10 (w64 ((IntKind.wrap .i64 (shrI .u64 (IntKind.wrap .u64 (w64 (s3.1 + s3.2))) 1)) + 1), s3.2)) (J10 (s3.1, IntKind.wrap .i64 (shrI .u64 (IntKind.wrap .u64 (w64 (s3.1 + s3.2))) 1)))) (fun (x9 : Int × Int) => Y4 (x9.1, x9.2)))) (J2 s3.1)) (0, (x_1.length : Int))) (fun (x1 : Int) => Jn (fun (J13 : Bool → Prop) => Ite (decide (x1 < (x_1.length : Int))) (∃ x15, idx x_1 x1 = some x15 ∧ Ite (x15 == target) (J13 true) (V_slices_isNaN_int x15 (fun x17 => Ite x17 (V_slices_isNaN_int target (fun x19 => J13 x19)) (J13 false)))) (J13 false)) (fun (x12 : Bool) => post (x1, x12)))
def V_rules_ZoneOf_1 (z : ApiZone) (c0 : Int) (post : Bool → Prop) : Prop :=
  V_slices_BinarySearch_int_int z.Cells c0 (fun x1 => post x1.2)
def V_slices_IndexFunc_api_Zone_api_Zone__rules_ZoneOf_1 (s_1 : List ApiZone) (f_c0 : Int) (post : Int → Prop) : Prop :=
  Jn (fun (J2 : Unit → Prop) => Loop (fun (s3 : Int) Y4 => Ite (decide (s3 < (s_1.length : Int))) (∃ x6, idx s_1 s3 = some x6 ∧ V_rules_ZoneOf_1 x6 f_c0 (fun x7 => Ite x7 (post s3) (Y4 (w64 (s3 + 1))))) (J2 ())) 0) (fun (x1 : Unit) => post (-1))
def V_rules_ZoneOf (s_1 : ApiSite) (c : Int) (post : Int → Prop) : Prop :=
  V_slices_IndexFunc_api_Zone_api_Zone__rules_ZoneOf_1 s_1.Zones c (fun x1 => post x1)
def V_rules_isCell (s_1 : ApiSite) (c : Int) (post : Bool → Prop) : Prop :=
  Jn (fun (J2 : Bool → Prop) => Ite (decide (c ≥ 0)) (J2 (decide (c < (s_1.Floor.Kind.length : Int)))) (J2 false)) (fun (x1 : Bool) => post x1)
def V_rules_Open_1 (x_1 : ApiSpan) (c0 : Int) (post : Bool → Prop) : Prop :=
  Jn (fun (J2 : Bool → Prop) => Ite (decide (x_1.From ≤ c0)) (J2 (decide (c0 < x_1.To))) (J2 false)) (fun (x1 : Bool) => post x1)
def V_slices_IndexFunc_api_Span_api_Span__rules_Open_1 (s_1 : List ApiSpan) (f_c0 : Int) (post : Int → Prop) : Prop :=
  Jn (fun (J2 : Unit → Prop) => Loop (fun (s3 : Int) Y4 => Ite (decide (s3 < (s_1.length : Int))) (∃ x6, idx s_1 s3 = some x6 ∧ V_rules_Open_1 x6 f_c0 (fun x7 => Ite x7 (post s3) (Y4 (w64 (s3 + 1))))) (J2 ())) 0) (fun (x1 : Unit) => post (-1))
def V_slices_ContainsFunc_api_Span_api_Span__rules_Open_1 (s_1 : List ApiSpan) (f_c0 : Int) (post : Bool → Prop) : Prop :=
  V_slices_IndexFunc_api_Span_api_Span__rules_Open_1 s_1 f_c0 (fun x1 => post (decide (x1 ≥ 0)))
def V_rules_Open (s_1 : ApiSite) (c : Int) (tick : Int) (post : Bool → Prop) : Prop :=
  V_rules_ZoneOf s_1 c (fun x1 => Jn (fun (J3 : Bool → Prop) => V_rules_isCell s_1 c (fun x4 => Ite x4 (J3 (decide (x1 < 0))) (J3 true))) (fun (x2 : Bool) => Ite x2 (V_rules_isCell s_1 c (fun x7 => post x7)) (∃ x8, idx s_1.Zones x1 = some x8 ∧ V_slices_ContainsFunc_api_Span_api_Span__rules_Open_1 x8.Shut tick (fun x9 => post (!x9)))))
def V_rules_Speed (s_1 : ApiSite) (c : Int) (post : Int → Prop) : Prop :=
  V_rules_ZoneOf s_1 c (fun x1 => Ite (decide (x1 ≥ 0)) (∃ x3, idx s_1.Zones x1 = some x3 ∧ post x3.Speed) (post 1))
def V_route_walk_step (w : RouteWalk) (at_1 : RouteStand) (k : Int) (act : Int) (post : (RouteStand × Int) → Prop) : Prop :=
  Ite (act == 0) (V_route_walk_held w at_1.cell k (fun x2 => Ite x2 (post (({ cell := 0, rest := 0 : RouteStand }), 15)) (post (({ cell := at_1.cell, rest := imax (w64 (at_1.rest - 1)) 0 : RouteStand }), 0)))) (V_floor_Next w.site.Floor at_1.cell (w64 (act - 1)) (fun x4 => Ite (decide (at_1.rest > 0)) (post (({ cell := 0, rest := 0 : RouteStand }), 8)) (Jn (fun (J7 : Bool → Prop) => Ite x4.2 (V_slices_Contains_int_int w.avoid x4.1 (fun x9 => J7 x9)) (J7 true)) (fun (x6 : Bool) => Ite x6 (post (({ cell := 0, rest := 0 : RouteStand }), 14)) (V_rules_Open w.site x4.1 (w64 (w.tick + k)) (fun x11 => Ite (!x11) (post (({ cell := 0, rest := 0 : RouteStand }), 18)) (Jn (fun (J14 : Bool → Prop) => V_route_walk_held w at_1.cell k (fun x15 => Ite x15 (J14 true) (V_route_walk_held w x4.1 k (fun x17 => J14 x17)))) (fun (x13 : Bool) => Ite x13 (post (({ cell := 0, rest := 0 : RouteStand }), 15)) (V_rules_Speed w.site x4.1 (fun x19 => post (({ cell := x4.1, rest := w64 (x19 - 1) : RouteStand }), 0)))))))))))
def V_route_walk_layers (w : RouteWalk) (from_1 : Int) (to_1 : Int) (most : Int) (post : (List (List (RouteStand × Bool)) × Bool) → Prop) : Prop :=
  Loop (fun (s1 : List (List (RouteStand × Bool)) × Int) Y2 => Jn (fun (J4 : (List (List (RouteStand × Bool))) → Prop) => ∃ x5, idx s1.1 s1.2 = some x5 ∧ Jn (fun (J7 : (List (RouteStand × Bool)) → Prop) => Loop (fun (s8 : List RouteStand × List (RouteStand × Bool)) Y9 => (∀ x10 x11, lk x5 x10 = some x11 ∧ x10 ∉ s8.1 → Jn (fun (J13 : (List (RouteStand × Bool)) → Prop) => Jn (fun (J15 : Bool → Prop) => Ite (x10.cell == to_1) (V_route_walk_held w to_1 s1.2 (fun x17 => J15 (!x17))) (J15 false)) (fun (x14 : Bool) => Ite x14 (post ((s1.1.set (Int.toNat s1.2) x5), true)) (Jn (fun (J20 : (List (RouteStand × Bool)) → Prop) => Loop (fun (s21 : List (RouteStand × Bool) × Int) Y22 => Ite (decide (s21.2 < 7)) (V_route_walk_step w x10 s1.2 s21.2 (fun x24 => Jn (fun (J26 : (List (RouteStand × Bool)) → Prop) => Ite (x24.2 == 0) (J26 (upd s21.1 x24.1 true)) (J26 s21.1)) (fun (x25 : List (RouteStand × Bool)) => Y22 (x25, w64 (s21.2 + 1))))) (J20 s21.1)) (s8.2, 0)) (fun (x19 : List (RouteStand × Bool)) => J13 x19)))) (fun (x12 : List (RouteStand × Bool)) => Y9 ((x10 :: s8.1), x12))) ∧ ((∀ x, lk x5 x ≠ none → x ∈ s8.1) → J7 s8.2)) ((([] : List RouteStand), ([] : List (RouteStand × Bool))) : List RouteStand × List (RouteStand × Bool))) (fun (x6 : List (RouteStand × Bool)) => Ite (s1.2 == most) (post ([], false)) (((s1.1.set (Int.toNat s1.2) x5).length + 1 ≤ 1099511627776) ∧ J4 (((s1.1.set (Int.toNat s1.2) x5) ++ [x6]).set ((s1.1.set (Int.toNat s1.2) x5).length) x6)))) (fun (x3 : List (List (RouteStand × Bool))) => Y2 (x3, w64 (s1.2 + 1)))) ((([(upd ([] : List (RouteStand × Bool)) ({ cell := from_1, rest := 0 : RouteStand }) true)].set 0 (upd ([] : List (RouteStand × Bool)) ({ cell := from_1, rest := 0 : RouteStand }) true)), 0) : List (List (RouteStand × Bool)) × Int)
def V_route_walk_on (w : RouteWalk) (at_1 : RouteStand) (k : Int) (into : List (RouteStand × Bool)) (post : (Int × RouteStand × Bool) → Prop) : Prop :=
  Jn (fun (J2 : Unit → Prop) => Loop (fun (s3 : Int) Y4 => Ite (decide (s3 < 7)) (V_route_walk_step w at_1 k s3 (fun x6 => Jn (fun (J8 : Bool → Prop) => Ite (x6.2 == 0) (J8 ((lk into x6.1).getD false)) (J8 false)) (fun (x7 : Bool) => Ite x7 (post (s3, x6.1, true)) (Y4 (w64 (s3 + 1)))))) (J2 ())) 0) (fun (x1 : Unit) => post (0, ({ cell := 0, rest := 0 : RouteStand }), false))
def V_route_Find (s_1 : ApiSite) (from_1 : Int) (to_1 : Int) (tick : Int) (taken : List ApiTaken) (avoid : List Int) (most : Int) (post : (List Int × Int) → Prop) : Prop :=
  Jn (fun (J2 : Bool → Prop) => V_route_right s_1 from_1 to_1 tick (fun x3 => Ite x3 (J2 (decide (most < 0))) (J2 true))) (fun (x1 : Bool) => Ite x1 (post ([], 1)) (Ite (decide (most > 300)) (post ([], 27)) (V_route_newWalk s_1 tick taken avoid (fun x7 => V_route_walk_layers x7 from_1 to_1 most (fun x8 => Ite (!x8.2) (post ([], 14)) (∃ x10, idx x8.1 (w64 ((x8.1.length : Int) - 1)) = some x10 ∧ Jn (fun (J12 : (List (RouteStand × Bool)) → Prop) => Loop (fun (s13 : List (RouteStand × Bool) × List RouteStand) Y14 => (∀ x15 x16, lk s13.1 x15 = some x16 ∧ x15 ∉ s13.2 → Jn (fun (J18 : (List (RouteStand × Bool)) → Prop) => Ite (x15.cell != to_1) (∃ x20, idx x8.1 (w64 ((x8.1.length : Int) - 1)) = some x20 ∧ J18 (del s13.1 x15)) (J18 s13.1)) (fun (x17 : List (RouteStand × Bool)) => Y14 (x17, (x15 :: s13.2)))) ∧ ((∀ x, lk s13.1 x ≠ none → x ∈ s13.2) → J12 s13.1)) ((x10, ([] : List RouteStand)) : List (RouteStand × Bool) × List RouteStand)) (fun (x11 : List (RouteStand × Bool)) => Jn (fun (J22 : (List (List (RouteStand × Bool))) → Prop) => Loop (fun (s23 : List (List (RouteStand × Bool)) × Int) Y24 => Ite (decide (s23.2 ≥ 0)) (Jn (fun (J27 : (List (RouteStand × Bool) × List (List (RouteStand × Bool))) → Prop) => ∃ x28, idx s23.1 s23.2 = some x28 ∧ Jn (fun (J30 : (List (RouteStand × Bool) × List (List (RouteStand × Bool))) → Prop) => Loop (fun (s31 : List (RouteStand × Bool) × List RouteStand × List (List (RouteStand × Bool))) Y32 => (∀ x33 x34, lk s31.1 x33 = some x34 ∧ x33 ∉ s31.2.1 → Jn (fun (J36 : (List (List (RouteStand × Bool)) × Bool) → Prop) => ∃ x37, idx s31.2.2 (w64 (s23.2 + 1)) = some x37 ∧ ((Int.toNat s23.2) ≠ (Int.toNat (w64 (s23.2 + 1)))) ∧ V_route_walk_on x7 x33 s23.2 x37 (fun x39 => J36 ((s31.2.2.set (Int.toNat (w64 (s23.2 + 1))) x37), x39.2.2))) (fun (x35 : List (List (RouteStand × Bool)) × Bool) => Jn (fun (J41 : (List (RouteStand × Bool)) → Prop) => Ite (!x35.2) (∃ x43, idx x35.1 s23.2 = some x43 ∧ J41 (del s31.1 x33)) (J41 s31.1)) (fun (x40 : List (RouteStand × Bool)) => Y32 (x40, (x33 :: s31.2.1), x35.1)))) ∧ ((∀ x, lk s31.1 x ≠ none → x ∈ s31.2.1) → J30 (s31.1, s31.2.2))) ((x28, ([] : List RouteStand), s23.1) : List (RouteStand × Bool) × List RouteStand × List (List (RouteStand × Bool)))) (fun (x29 : List (RouteStand × Bool) × List (List (RouteStand × Bool))) => J27 (x29.1, x29.2))) (fun (x26 : List (RouteStand × Bool) × List (List (RouteStand × Bool))) => Y24 ((x26.2.set (Int.toNat s23.2) x26.1), w64 (s23.2 - 1)))) (J22 s23.1)) ((x8.1.set (Int.toNat (w64 ((x8.1.length : Int) - 1))) x11), w64 ((w64 ((x8.1.length : Int) - 1)) - 1))) (fun (x21 : List (List (RouteStand × Bool))) => Jn (fun (J45 : (List Int) → Prop) => Loop (fun (s46 : List (List (RouteStand × Bool)) × List Int × Int × Int × Int) Y47 => Ite (decide (s46.2.2.2.2 < (w64 ((x8.1.length : Int) - 1)))) (Jn (fun (J50 : (List (List (RouteStand × Bool)) × Int × Int × Int) → Prop) => ∃ x51, idx s46.1 (w64 (s46.2.2.2.2 + 1)) = some x51 ∧ V_route_walk_on x7 ({ cell := s46.2.2.1, rest := s46.2.2.2.1 : RouteStand }) s46.2.2.2.2 x51 (fun x52 => J50 ((s46.1.set (Int.toNat (w64 (s46.2.2.2.2 + 1))) x51), x52.1, x52.2.1.cell, x52.2.1.rest))) (fun (x49 : List (List (RouteStand × Bool)) × Int × Int × Int) => (s46.2.1.length + ([x49.2.1] : List Int).length ≤ 1099511627776) ∧ Y47 (x49.1, (s46.2.1 ++ ([x49.2.1] : List Int)), x49.2.2.1, x49.2.2.2, w64 (s46.2.2.2.2 + 1)))) (J45 s46.2.1)) ((x21, [], from_1, 0, 0) : List (List (RouteStand × Bool)) × List Int × Int × Int × Int)) (fun (x44 : List Int) => post (x44, 0))))))))))
def V_route_Check_1 (a : Int) (post : Bool → Prop) : Prop :=
  Jn (fun (J2 : Bool → Prop) => Ite (decide (a < 0)) (J2 true) (J2 (decide (a ≥ 7)))) (fun (x1 : Bool) => post x1)
def V_slices_IndexFunc_int_int__route_Check_1 (s_1 : List Int) (post : Int → Prop) : Prop :=
  Jn (fun (J2 : Unit → Prop) => Loop (fun (s3 : Int) Y4 => Ite (decide (s3 < (s_1.length : Int))) (∃ x6, idx s_1 s3 = some x6 ∧ V_route_Check_1 x6 (fun x7 => Ite x7 (post s3) (Y4 (w64 (s3 + 1))))) (J2 ())) 0) (fun (x1 : Unit) => post (-1))
def V_slices_ContainsFunc_int_int__route_Check_1 (s_1 : List Int) (post : Bool → Prop) : Prop :=
  V_slices_IndexFunc_int_int__route_Check_1 s_1 (fun x1 => post (decide (x1 ≥ 0)))
def V_route_Check (s_1 : ApiSite) (from_1 : Int) (to_1 : Int) (tick : Int) (taken : List ApiTaken) (avoid : List Int) (acts : List Int) (post : Int → Prop) : Prop :=
  Jn (fun (J2 : Bool → Prop) => V_route_right s_1 from_1 to_1 tick (fun x3 => Ite x3 (V_slices_ContainsFunc_int_int__route_Check_1 acts (fun x5 => J2 x5)) (J2 true))) (fun (x1 : Bool) => Ite x1 (post 1) (V_route_newWalk s_1 tick taken avoid (fun x7 => Jn (fun (J9 : (Int × Int) → Prop) => Loop (fun (s10 : Int × Int × Int) Y11 => Ite (decide (s10.2.2 < (acts.length : Int))) (∃ x13, idx acts s10.2.2 = some x13 ∧ V_route_walk_step x7 ({ cell := s10.1, rest := s10.2.1 : RouteStand }) s10.2.2 x13 (fun x14 => Ite (x14.2 != 0) (post x14.2) (Y11 (x14.1.cell, x14.1.rest, w64 (s10.2.2 + 1))))) (J9 (s10.1, s10.2.1))) (from_1, 0, 0)) (fun (x8 : Int × Int) => V_route_walk_held x7 x8.1 (acts.length : Int) (fun x16 => Ite x16 (post 15) (Ite (x8.1 != to_1) (post 13) (post 0)))))))
def V_taquinref07_Same (a : List Int) (b : List Int) (post : Bool → Prop) : Prop :=
  Ite ((a.length : Int) != (b.length : Int)) (post false) (Jn (fun (J3 : Unit → Prop) => Loop (fun (s4 : Int) Y5 => Ite (decide (s4 < (a.length : Int))) (∃ x7, idx a s4 = some x7 ∧ ∃ x8, idx b s4 = some x8 ∧ Ite (x7 != x8) (post false) (Y5 (w64 (s4 + 1)))) (J3 ())) 0) (fun (x2 : Unit) => post true))
def V_taquinlaw23_small (post : Bool → Prop) : Prop :=
  V_taquinlaw23_example (fun x1 => V_route_Find x1 0 2 0 [] [] 20 (fun x2 => V_route_Find x1 0 2 0 ([({ Cell := 1, Span := ({ From := 0, To := 2 : ApiSpan }) : ApiTaken })] : List ApiTaken) [] 20 (fun x3 => V_route_Find x1 0 2 0 ([({ Cell := 2, Span := ({ From := 0, To := 400 : ApiSpan }) : ApiTaken })] : List ApiTaken) [] 20 (fun x4 => V_route_Check x1 0 3 0 [] [] ([1, 1] : List Int) (fun x5 => Jn (fun (J7 : Bool → Prop) => V_taquinref07_Same x2.1 ([1, 1] : List Int) (fun x8 => Ite x8 (Ite (x2.2 == 0) (V_taquinref07_Same x3.1 ([0, 0, 1, 1] : List Int) (fun x11 => Ite x11 (Ite (x3.2 == 0) (Ite (x4.2 == 14) (J7 (x5 == 13)) (J7 false)) (J7 false)) (J7 false))) (J7 false)) (J7 false))) (fun (x6 : Bool) => post x6))))))
def V_taquinref07_Few (f : ApiFloor) (n : Int) (post : Bool → Prop) : Prop :=
  Jn (fun (J2 : Bool → Prop) => Ite (decide ((f.Kind.length : Int) ≤ n)) (J2 (decide ((f.Out.length : Int) ≤ n))) (J2 false)) (fun (x1 : Bool) => post x1)
def V_taquinref11_Few (s_1 : ApiSite) (cells : Int) (most : Int) (post : Bool → Prop) : Prop :=
  Jn (fun (J2 : Unit → Prop) => Loop (fun (s3 : Int) Y4 => Jn (fun (J6 : Bool → Prop) => Ite (decide (s3 < (s_1.Zones.length : Int))) (J6 (decide (s3 ≤ most))) (J6 false)) (fun (x5 : Bool) => Ite x5 (Jn (fun (J10 : Bool → Prop) => ∃ x11, idx s_1.Zones s3 = some x11 ∧ Ite (decide ((x11.Cells.length : Int) > cells)) (J10 true) (Ite (decide ((x11.Shut.length : Int) > 20)) (J10 true) (J10 (decide ((x11.Name.size : Int) > 40))))) (fun (x9 : Bool) => Ite x9 (post false) (Y4 (w64 (s3 + 1))))) (J2 ()))) 0) (fun (x1 : Unit) => Jn (fun (J16 : Unit → Prop) => Loop (fun (s17 : Int) Y18 => Jn (fun (J20 : Bool → Prop) => Ite (decide (s17 < (s_1.Aparts.length : Int))) (J20 (decide (s17 ≤ most))) (J20 false)) (fun (x19 : Bool) => Ite x19 (Jn (fun (J24 : Bool → Prop) => ∃ x25, idx s_1.Aparts s17 = some x25 ∧ Ite (decide ((x25.A.size : Int) > 40)) (J24 true) (J24 (decide ((x25.B.size : Int) > 40)))) (fun (x23 : Bool) => Ite x23 (post false) (Y18 (w64 (s17 + 1))))) (J16 ()))) 0) (fun (x15 : Unit) => Jn (fun (J29 : Unit → Prop) => Loop (fun (s30 : Int) Y31 => Jn (fun (J33 : Bool → Prop) => Ite (decide (s30 < (s_1.Shelves.length : Int))) (J33 (decide (s30 ≤ most))) (J33 false)) (fun (x32 : Bool) => Ite x32 (∃ x36, idx s_1.Shelves s30 = some x36 ∧ Ite (decide ((x36.Class.size : Int) > 40)) (post false) (Y31 (w64 (s30 + 1)))) (J29 ()))) 0) (fun (x28 : Unit) => Jn (fun (J39 : Bool → Prop) => V_taquinref07_Few s_1.Floor cells (fun x40 => Ite x40 (Ite (decide ((s_1.Zones.length : Int) ≤ most)) (Ite (decide ((s_1.Aparts.length : Int) ≤ most)) (Ite (decide ((s_1.Shelves.length : Int) ≤ most)) (J39 (decide ((s_1.Robots.length : Int) ≤ most))) (J39 false)) (J39 false)) (J39 false)) (J39 false))) (fun (x38 : Bool) => post x38))))
def V_taquinref07_Right (f : ApiFloor) (post : Bool → Prop) : Prop :=
  Jn (fun (J2 : Bool → Prop) => Ite (decide (f.W < 1)) (J2 true) (Ite (decide (f.H < 1)) (J2 true) (Ite (decide (f.D < 1)) (J2 true) (Ite (decide (f.D > 4)) (J2 true) (Ite (decide (f.W > 4096)) (J2 true) (J2 (decide (f.H > 4096)))))))) (fun (x1 : Bool) => Ite x1 (post false) (Jn (fun (J10 : Bool → Prop) => Ite (decide ((w64 ((w64 (f.W * f.H)) * f.D)) > 4096)) (J10 true) (Ite ((f.Kind.length : Int) != (w64 ((w64 (f.W * f.H)) * f.D))) (J10 true) (J10 ((f.Out.length : Int) != (w64 ((w64 (f.W * f.H)) * f.D)))))) (fun (x9 : Bool) => Ite x9 (post false) (Jn (fun (J15 : Unit → Prop) => Loop (fun (s16 : Int) Y17 => Ite (decide (s16 < (w64 ((w64 (f.W * f.H)) * f.D)))) (Jn (fun (J20 : Bool → Prop) => ∃ x21, idx f.Kind s16 = some x21 ∧ Ite (decide (x21 < 0)) (J20 true) (Ite (decide (x21 ≥ 7)) (J20 true) (∃ x24, idx f.Out s16 = some x24 ∧ Ite (decide (x24 < 0)) (J20 true) (J20 (decide (x24 > 63)))))) (fun (x19 : Bool) => Ite x19 (post false) (Y17 (w64 (s16 + 1))))) (J15 ())) 0) (fun (x14 : Unit) => post true)))))
def V_taquinref11_Name (s_1 : ByteArray) (post : Bool → Prop) : Prop :=
  Jn (fun (J2 : Unit → Prop) => Loop (fun (s3 : Int) Y4 => Ite (decide (s3 < (s_1.size : Int))) (∃ x6, idx s_1.data.toList s3 = some x6 ∧ Jn (fun (J8 : Bool → Prop) => Ite (decide ((x6.toNat : Int) ≥ 48)) (J8 (decide ((x6.toNat : Int) ≤ 57))) (J8 false)) (fun (x7 : Bool) => Jn (fun (J11 : Bool → Prop) => Ite (decide ((x6.toNat : Int) ≥ 97)) (Ite (decide ((x6.toNat : Int) ≤ 122)) (Ite (s3 == 0) (J11 x7) (J11 false)) (Ite (decide ((x6.toNat : Int) ≥ 65)) (Ite (decide ((x6.toNat : Int) ≤ 90)) (Ite (s3 == 0) (J11 x7) (J11 false)) (Ite x7 (Ite (s3 == 0) (J11 x7) (J11 false)) (Ite ((x6.toNat : Int) == 95) (Ite (s3 == 0) (J11 x7) (J11 false)) (Ite ((x6.toNat : Int) == 45) (Ite (s3 == 0) (J11 x7) (J11 false)) (J11 true))))) (Ite x7 (Ite (s3 == 0) (J11 x7) (J11 false)) (Ite ((x6.toNat : Int) == 95) (Ite (s3 == 0) (J11 x7) (J11 false)) (Ite ((x6.toNat : Int) == 45) (Ite (s3 == 0) (J11 x7) (J11 false)) (J11 true)))))) (Ite (decide ((x6.toNat : Int) ≥ 65)) (Ite (decide ((x6.toNat : Int) ≤ 90)) (Ite (s3 == 0) (J11 x7) (J11 false)) (Ite x7 (Ite (s3 == 0) (J11 x7) (J11 false)) (Ite ((x6.toNat : Int) == 95) (Ite (s3 == 0) (J11 x7) (J11 false)) (Ite ((x6.toNat : Int) == 45) (Ite (s3 == 0) (J11 x7) (J11 false)) (J11 true))))) (Ite x7 (Ite (s3 == 0) (J11 x7) (J11 false)) (Ite ((x6.toNat : Int) == 95) (Ite (s3 == 0) (J11 x7) (J11 false)) (Ite ((x6.toNat : Int) == 45) (Ite (s3 == 0) (J11 x7) (J11 false)) (J11 true)))))) (fun (x10 : Bool) => Ite x10 (post false) (Y4 (w64 (s3 + 1)))))) (J2 ())) 0) (fun (x1 : Unit) => Jn (fun (J47 : Bool → Prop) => Ite (decide ((s_1.size : Int) ≥ 1)) (J47 (decide ((s_1.size : Int) ≤ 20))) (J47 false)) (fun (x46 : Bool) => post x46))
def V_taquinref11_named (l : List ApiZone) (name : ByteArray) (post : Int → Prop) : Prop :=
  Jn (fun (J2 : Unit → Prop) => Loop (fun (s3 : Int) Y4 => Ite (decide (s3 < (l.length : Int))) (∃ x6, idx l s3 = some x6 ∧ Ite (seq x6.Name name) (post s3) (Y4 (w64 (s3 + 1)))) (J2 ())) 0) (fun (x1 : Unit) => post (-1))
def V_taquinref11_spans (l : List ApiSpan) (post : Bool → Prop) : Prop :=
  Jn (fun (J2 : Unit → Prop) => Loop (fun (s3 : Int × Int) Y4 => Ite (decide (s3.2 < (l.length : Int))) (Jn (fun (J7 : Bool → Prop) => ∃ x8, idx l s3.2 = some x8 ∧ Ite (decide (x8.From < s3.1)) (J7 true) (Ite (decide (x8.From ≥ x8.To)) (J7 true) (J7 (decide (x8.To > 20000))))) (fun (x6 : Bool) => Ite x6 (post false) (∃ x12, idx l s3.2 = some x12 ∧ Y4 (x12.To, w64 (s3.2 + 1))))) (J2 ())) (0, 0)) (fun (x1 : Unit) => post true)
def V_taquinref07_Size (f : ApiFloor) (post : Int → Prop) : Prop :=
  post (w64 ((w64 (f.W * f.H)) * f.D))
def V_taquinref07_Is (f : ApiFloor) (c : Int) (post : Bool → Prop) : Prop :=
  Jn (fun (J2 : Bool → Prop) => Ite (decide (c ≥ 0)) (V_taquinref07_Size f (fun x4 => J2 (decide (c < x4)))) (J2 false)) (fun (x1 : Bool) => post x1)
def V_taquinref11_zoned (kind : Int) (post : Bool → Prop) : Prop :=
  Jn (fun (J2 : Bool → Prop) => Ite (kind != 0) (Ite (kind != 4) (J2 (kind != 5)) (J2 false)) (J2 false)) (fun (x1 : Bool) => post x1)
def V_taquinref07_Has (l : List Int) (n : Int) (post : Bool → Prop) : Prop :=
  Jn (fun (J2 : Unit → Prop) => Loop (fun (s3 : Int) Y4 => Ite (decide (s3 < (l.length : Int))) (∃ x6, idx l s3 = some x6 ∧ Ite (x6 == n) (post true) (Y4 (w64 (s3 + 1)))) (J2 ())) 0) (fun (x1 : Unit) => post false)
def V_taquinref11_zoneAt (l : List ApiZone) (c : Int) (post : Bool → Prop) : Prop :=
  Jn (fun (J2 : Unit → Prop) => Loop (fun (s3 : Int) Y4 => Ite (decide (s3 < (l.length : Int))) (∃ x6, idx l s3 = some x6 ∧ V_taquinref07_Has x6.Cells c (fun x7 => Ite x7 (post true) (Y4 (w64 (s3 + 1))))) (J2 ())) 0) (fun (x1 : Unit) => post false)
def V_taquinref11_rightZones (s_1 : ApiSite) (post : Bool → Prop) : Prop :=
  Jn (fun (J2 : Unit → Prop) => Loop (fun (s3 : Int) Y4 => Ite (decide (s3 < (s_1.Zones.length : Int))) (Jn (fun (J7 : Unit → Prop) => ∃ x8, idx s_1.Zones s3 = some x8 ∧ Jn (fun (J10 : Bool → Prop) => V_taquinref11_Name x8.Name (fun x11 => Ite x11 ((0 ≤ (0 : Int) ∧ (0 : Int) ≤ s3 ∧ s3 ≤ (s_1.Zones.length : Int)) ∧ V_taquinref11_named (sub s_1.Zones 0 s3) x8.Name (fun x14 => Ite (decide (x14 ≥ 0)) (J10 true) (Ite ((x8.Cells.length : Int) == 0) (J10 true) (Ite (decide (x8.Speed < 1)) (J10 true) (Ite (decide (x8.Speed > 100)) (J10 true) (Ite (decide (x8.Keep < 0)) (J10 true) (V_taquinref11_spans x8.Shut (fun x20 => J10 (!x20))))))))) (J10 true))) (fun (x9 : Bool) => Ite x9 (post false) (Jn (fun (J23 : Unit → Prop) => Loop (fun (s24 : Int) Y25 => Ite (decide (s24 < (x8.Cells.length : Int))) (∃ x27, idx x8.Cells s24 = some x27 ∧ Jn (fun (J29 : Bool → Prop) => V_taquinref07_Is s_1.Floor x27 (fun x30 => Ite x30 (Ite (decide (s24 > 0)) (∃ x33, idx x8.Cells (imax (w64 (s24 - 1)) 0) = some x33 ∧ J29 (decide (x33 ≥ x27))) (J29 false)) (J29 true))) (fun (x28 : Bool) => Ite x28 (post false) (Jn (fun (J36 : Bool → Prop) => ∃ x37, idx s_1.Floor.Kind x27 = some x37 ∧ V_taquinref11_zoned x37 (fun x38 => Ite x38 ((0 ≤ (0 : Int) ∧ (0 : Int) ≤ s3 ∧ s3 ≤ (s_1.Zones.length : Int)) ∧ V_taquinref11_zoneAt (sub s_1.Zones 0 s3) x27 (fun x41 => J36 x41)) (J36 true))) (fun (x35 : Bool) => Ite x35 (post false) (Y25 (w64 (s24 + 1))))))) (J23 ())) 0) (fun (x22 : Unit) => J7 ())))) (fun (x6 : Unit) => Y4 (w64 (s3 + 1)))) (J2 ())) 0) (fun (x1 : Unit) => post (decide ((s_1.Zones.length : Int) ≤ 64)))
def V_taquinref11_Apart (l : List ApiApart) (a : ByteArray) (b : ByteArray) (post : Bool → Prop) : Prop :=
  Jn (fun (J2 : Unit → Prop) => Loop (fun (s3 : Int) Y4 => Jn (fun (J6 : Bool → Prop) => Ite (decide (s3 < (l.length : Int))) (Ite (seq a ByteArray.empty) (J6 false) (J6 (!(seq b ByteArray.empty)))) (J6 false)) (fun (x5 : Bool) => Ite x5 (Jn (fun (J11 : Bool → Prop) => ∃ x12, idx l s3 = some x12 ∧ Ite (seq x12.A a) (Ite (seq x12.B b) (J11 true) (Ite (seq x12.A b) (J11 (seq x12.B a)) (J11 false))) (Ite (seq x12.A b) (J11 (seq x12.B a)) (J11 false))) (fun (x10 : Bool) => Ite x10 (post true) (Y4 (w64 (s3 + 1))))) (J2 ()))) 0) (fun (x1 : Unit) => post false)
def V_taquinref11_stands (kind : Int) (post : Bool → Prop) : Prop :=
  Jn (fun (J2 : Bool → Prop) => Ite (kind == 1) (J2 true) (J2 (kind == 2))) (fun (x1 : Bool) => post x1)
def V_taquinref11_shelfAt (l : List ApiShelf) (c : Int) (post : Int → Prop) : Prop :=
  Jn (fun (J2 : Unit → Prop) => Loop (fun (s3 : Int) Y4 => Ite (decide (s3 < (l.length : Int))) (∃ x6, idx l s3 = some x6 ∧ Ite (x6.Cell == c) (post s3) (Y4 (w64 (s3 + 1)))) (J2 ())) 0) (fun (x1 : Unit) => post (-1))
def V_taquinref11_robotAt (l : List ApiStart) (c : Int) (post : Bool → Prop) : Prop :=
  Jn (fun (J2 : Unit → Prop) => Loop (fun (s3 : Int) Y4 => Ite (decide (s3 < (l.length : Int))) (∃ x6, idx l s3 = some x6 ∧ Ite (x6.Cell == c) (post true) (Y4 (w64 (s3 + 1)))) (J2 ())) 0) (fun (x1 : Unit) => post false)
def V_taquinref11_blanks (s_1 : ApiSite) (z : ApiZone) (post : Int → Prop) : Prop :=
  Jn (fun (J2 : Int → Prop) => Loop (fun (s3 : Int × Int) Y4 => Ite (decide (s3.2 < (z.Cells.length : Int))) (Jn (fun (J7 : Bool → Prop) => ∃ x8, idx z.Cells s3.2 = some x8 ∧ ∃ x9, idx s_1.Floor.Kind x8 = some x9 ∧ V_taquinref11_stands x9 (fun x10 => Ite x10 (V_taquinref11_shelfAt s_1.Shelves x8 (fun x12 => J7 (decide (x12 < 0)))) (J7 false))) (fun (x6 : Bool) => Jn (fun (J14 : Int → Prop) => Ite x6 (J14 (w64 (s3.1 + 1))) (J14 s3.1)) (fun (x13 : Int) => Y4 (x13, w64 (s3.2 + 1))))) (J2 s3.1)) (0, 0)) (fun (x1 : Int) => post x1)
def V_taquinref07_At (f : ApiFloor) (c : Int) (post : (Int × Int × Int) → Prop) : Prop :=
  V_taquinref07_Is f c (fun x1 => Ite (!x1) (post (0, 0, 0)) ((f.W ≠ 0) ∧ (f.W ≠ 0) ∧ (f.H ≠ 0) ∧ (f.W ≠ 0) ∧ (f.H ≠ 0) ∧ post (c.tmod f.W, (w64 (c.tdiv f.W)).tmod f.H, w64 ((w64 (c.tdiv f.W)).tdiv f.H))))
def V_taquinref07_Cell (f : ApiFloor) (x_1 : Int) (y_1 : Int) (z : Int) (post : Int → Prop) : Prop :=
  Jn (fun (J2 : Bool → Prop) => Ite (decide (x_1 < 0)) (J2 true) (Ite (decide (x_1 ≥ f.W)) (J2 true) (Ite (decide (y_1 < 0)) (J2 true) (Ite (decide (y_1 ≥ f.H)) (J2 true) (Ite (decide (z < 0)) (J2 true) (J2 (decide (z ≥ f.D)))))))) (fun (x1 : Bool) => Ite x1 (post (-1)) (post (w64 ((w64 ((w64 ((w64 (z * f.H)) + y_1)) * f.W)) + x_1))))
def V_taquinref07_Beside (f : ApiFloor) (c : Int) (d : Int) (post : Int → Prop) : Prop :=
  V_taquinref07_Is f c (fun x1 => Ite (!x1) (post (-1)) (V_taquinref07_At f c (fun x3 => Ite (d == 0) (V_taquinref07_Cell f (w64 (x3.1 + 1)) x3.2.1 x3.2.2 (fun x5 => post x5)) (Ite (d == 1) (V_taquinref07_Cell f x3.1 (w64 (x3.2.1 + 1)) x3.2.2 (fun x7 => post x7)) (Ite (d == 2) (V_taquinref07_Cell f (w64 (x3.1 - 1)) x3.2.1 x3.2.2 (fun x9 => post x9)) (Ite (d == 3) (V_taquinref07_Cell f x3.1 (w64 (x3.2.1 - 1)) x3.2.2 (fun x11 => post x11)) (Ite (d == 4) (V_taquinref07_Cell f x3.1 x3.2.1 (w64 (x3.2.2 + 1)) (fun x13 => post x13)) (Ite (d == 5) (V_taquinref07_Cell f x3.1 x3.2.1 (w64 (x3.2.2 - 1)) (fun x15 => post x15)) (post (-1))))))))))
def V_taquinref11_Beside (s_1 : ApiSite) (post : Int → Prop) : Prop :=
  Jn (fun (J2 : Unit → Prop) => Loop (fun (s3 : Int) Y4 => Ite (decide (s3 < (s_1.Shelves.length : Int))) (Jn (fun (J7 : Unit → Prop) => Jn (fun (J9 : Unit → Prop) => Loop (fun (s10 : Int) Y11 => Ite (decide (s10 < 4)) (∃ x13, idx s_1.Shelves s3 = some x13 ∧ V_taquinref07_Beside s_1.Floor x13.Cell s10 (fun x14 => V_taquinref11_shelfAt s_1.Shelves x14 (fun x15 => Jn (fun (J17 : Bool → Prop) => Ite (decide (x14 ≥ 0)) (Ite (decide (x15 ≥ 0)) (Ite (decide (x15 < s3)) (∃ x21, idx s_1.Shelves (imax x15 0) = some x21 ∧ V_taquinref11_Apart s_1.Aparts x13.Class x21.Class (fun x22 => J17 x22)) (J17 false)) (J17 false)) (J17 false)) (fun (x16 : Bool) => Ite x16 (post s3) (Y11 (w64 (s10 + 1))))))) (J9 ())) 0) (fun (x8 : Unit) => J7 ())) (fun (x6 : Unit) => Y4 (w64 (s3 + 1)))) (J2 ())) 0) (fun (x1 : Unit) => post (-1))
def V_taquinref11_charger (f : ApiFloor) (post : Bool → Prop) : Prop :=
  V_taquinref07_Has f.Kind 3 (fun x1 => post x1)
def V_taquinref11_Right (s_1 : ApiSite) (post : Bool → Prop) : Prop :=
  Jn (fun (J2 : Bool → Prop) => V_taquinref07_Right s_1.Floor (fun x3 => Ite x3 (V_taquinref11_rightZones s_1 (fun x5 => Ite x5 (Ite (decide ((s_1.Shelves.length : Int) > 3000)) (J2 true) (J2 (decide ((s_1.Robots.length : Int) > 200)))) (J2 true))) (J2 true))) (fun (x1 : Bool) => Ite x1 (post false) (Jn (fun (J10 : Unit → Prop) => Loop (fun (s11 : Int) Y12 => Ite (decide (s11 < (s_1.Aparts.length : Int))) (∃ x14, idx s_1.Aparts s11 = some x14 ∧ Jn (fun (J16 : Bool → Prop) => V_taquinref11_Name x14.A (fun x17 => Ite x17 (V_taquinref11_Name x14.B (fun x19 => Ite x19 ((0 ≤ (0 : Int) ∧ (0 : Int) ≤ s11 ∧ s11 ≤ (s_1.Aparts.length : Int)) ∧ V_taquinref11_Apart (sub s_1.Aparts 0 s11) x14.A x14.B (fun x22 => J16 x22)) (J16 true))) (J16 true))) (fun (x15 : Bool) => Ite x15 (post false) (Y12 (w64 (s11 + 1))))) (J10 ())) 0) (fun (x9 : Unit) => Jn (fun (J25 : Unit → Prop) => Loop (fun (s26 : Int) Y27 => Ite (decide (s26 < (s_1.Shelves.length : Int))) (∃ x29, idx s_1.Shelves s26 = some x29 ∧ Jn (fun (J31 : Bool → Prop) => V_taquinref07_Is s_1.Floor x29.Cell (fun x32 => Ite x32 (Ite (seq x29.Class ByteArray.empty) (J31 false) (V_taquinref11_Name x29.Class (fun x35 => J31 (!x35)))) (J31 true))) (fun (x30 : Bool) => Ite x30 (post false) (Jn (fun (J38 : Bool → Prop) => ∃ x39, idx s_1.Floor.Kind x29.Cell = some x39 ∧ V_taquinref11_stands x39 (fun x40 => Ite x40 ((0 ≤ (0 : Int) ∧ (0 : Int) ≤ s26 ∧ s26 ≤ (s_1.Shelves.length : Int)) ∧ V_taquinref11_shelfAt (sub s_1.Shelves 0 s26) x29.Cell (fun x43 => J38 (decide (x43 ≥ 0)))) (J38 true))) (fun (x37 : Bool) => Ite x37 (post false) (Y27 (w64 (s26 + 1))))))) (J25 ())) 0) (fun (x24 : Unit) => Jn (fun (J46 : Unit → Prop) => Loop (fun (s47 : Int) Y48 => Ite (decide (s47 < (s_1.Robots.length : Int))) (∃ x50, idx s_1.Robots s47 = some x50 ∧ Jn (fun (J52 : Bool → Prop) => V_taquinref07_Is s_1.Floor x50.Cell (fun x53 => Ite x53 (Ite (decide (x50.Charge < 0)) (J52 true) (J52 (decide (x50.Charge > 1000000)))) (J52 true))) (fun (x51 : Bool) => Ite x51 (post false) (Jn (fun (J58 : Bool → Prop) => ∃ x59, idx s_1.Floor.Kind x50.Cell = some x59 ∧ Ite (x59 == 0) (J58 true) ((0 ≤ (0 : Int) ∧ (0 : Int) ≤ s47 ∧ s47 ≤ (s_1.Robots.length : Int)) ∧ V_taquinref11_robotAt (sub s_1.Robots 0 s47) x50.Cell (fun x62 => J58 x62))) (fun (x57 : Bool) => Ite x57 (post false) (Y48 (w64 (s47 + 1))))))) (J46 ())) 0) (fun (x45 : Unit) => Jn (fun (J65 : Unit → Prop) => Loop (fun (s66 : Int) Y67 => Ite (decide (s66 < (s_1.Zones.length : Int))) (∃ x69, idx s_1.Zones s66 = some x69 ∧ V_taquinref11_blanks s_1 x69 (fun x70 => Ite (decide (x70 < x69.Keep)) (post false) (Y67 (w64 (s66 + 1))))) (J65 ())) 0) (fun (x64 : Unit) => Jn (fun (J73 : Bool → Prop) => V_taquinref11_Beside s_1 (fun x74 => Ite (decide (x74 < 0)) (V_taquinref11_charger s_1.Floor (fun x76 => J73 x76)) (J73 false))) (fun (x72 : Bool) => post x72)))))))
def V_taquinlaw23_fair (s_1 : ApiSite) (taken : List ApiTaken) (avoid : List Int) (post : Bool → Prop) : Prop :=
  Jn (fun (J2 : Unit → Prop) => Loop (fun (s3 : Int) Y4 => Jn (fun (J6 : Bool → Prop) => Ite (decide (s3 < (s_1.Zones.length : Int))) (J6 (decide (s3 ≤ 20))) (J6 false)) (fun (x5 : Bool) => Ite x5 (∃ x9, idx s_1.Zones s3 = some x9 ∧ Ite (decide (x9.Speed > 6)) (post false) (Y4 (w64 (s3 + 1)))) (J2 ()))) 0) (fun (x1 : Unit) => Jn (fun (J12 : Bool → Prop) => V_taquinref11_Few s_1 50 20 (fun x13 => Ite x13 (V_taquinref11_Right s_1 (fun x15 => Ite x15 (Ite (decide ((taken.length : Int) ≤ 30)) (J12 (decide ((avoid.length : Int) ≤ 30))) (J12 false)) (J12 false))) (J12 false))) (fun (x11 : Bool) => post x11))
def V_floor_spread_1__p0_p2_p4 (c : Int) (n : Int) (c0 : List Bool) (c1 : List Int) (c2 : List Int) (post : (List Bool × List Int × List Int) → Prop) : Prop :=
  ∃ x1, idx c0 c = some x1 ∧ Jn (fun (J3 : (List Bool × List Int × List Int) → Prop) => Ite x1 (∃ x5, idx c1 c = some x5 ∧ (c2.length + ([c] : List Int).length ≤ 1099511627776) ∧ J3 ((c0.set (Int.toNat c) false), (c1.set (Int.toNat c) n), (c2 ++ ([c] : List Int)))) (J3 (c0, c1, c2))) (fun (x2 : List Bool × List Int × List Int) => post (x2.1, x2.2.1, x2.2.2))
def V_floor_spread__floor_Next (f : ApiFloor) (from_1 : List Int) (avoid : List Int) (post : (List Int) → Prop) : Prop :=
  V_floor_size f (fun x1 => (0 ≤ x1 ∧ x1 ≤ 1099511627776) ∧ V_floor_size f (fun x3 => (0 ≤ x3 ∧ x3 ≤ 1099511627776) ∧ Jn (fun (J6 : (List Int × List Bool) → Prop) => Loop (fun (s7 : List Int × List Bool × Int) Y8 => Ite (decide (s7.2.2 < (f.Kind.length : Int))) (∃ x10, idx f.Kind s7.2.2 = some x10 ∧ ∃ x11, idx s7.1 s7.2.2 = some x11 ∧ ∃ x12, idx s7.2.1 s7.2.2 = some x12 ∧ Y8 ((s7.1.set (Int.toNat s7.2.2) (-1)), (s7.2.1.set (Int.toNat s7.2.2) (x10 != 0)), w64 (s7.2.2 + 1))) (J6 (s7.1, s7.2.1))) ((List.replicate (Int.toNat x1) 0), (List.replicate (Int.toNat x3) false), 0)) (fun (x5 : List Int × List Bool) => Jn (fun (J14 : (List Bool) → Prop) => Loop (fun (s15 : List Bool × Int) Y16 => Ite (decide (s15.2 < (avoid.length : Int))) (∃ x18, idx avoid s15.2 = some x18 ∧ V_floor_is f x18 (fun x19 => Jn (fun (J21 : (List Bool) → Prop) => Ite x19 (∃ x23, idx s15.1 x18 = some x23 ∧ J21 (s15.1.set (Int.toNat x18) false)) (J21 s15.1)) (fun (x20 : List Bool) => Y16 (x20, w64 (s15.2 + 1))))) (J14 s15.1)) (x5.2, 0)) (fun (x13 : List Bool) => Jn (fun (J25 : (List Int × List Int × List Bool) → Prop) => Loop (fun (s26 : List Int × List Int × List Bool × Int) Y27 => Ite (decide (s26.2.2.2 < (from_1.length : Int))) (∃ x29, idx from_1 s26.2.2.2 = some x29 ∧ V_floor_is f x29 (fun x30 => Jn (fun (J32 : (List Int × List Int × List Bool) → Prop) => Ite x30 (V_floor_spread_1__p0_p2_p4 x29 0 s26.2.2.1 s26.1 s26.2.1 (fun x34 => J32 (x34.2.1, x34.2.2, x34.1))) (J32 (s26.1, s26.2.1, s26.2.2.1))) (fun (x31 : List Int × List Int × List Bool) => Y27 (x31.1, x31.2.1, x31.2.2, w64 (s26.2.2.2 + 1))))) (J25 (s26.1, s26.2.1, s26.2.2.1))) ((x5.1, [], x13, 0) : List Int × List Int × List Bool × Int)) (fun (x24 : List Int × List Int × List Bool) => Jn (fun (J36 : (List Int) → Prop) => Loop (fun (s37 : List Int × List Int × List Bool) Y38 => Ite (decide ((s37.2.1.length : Int) > 0)) (Jn (fun (J41 : (List Int × List Int × List Bool) → Prop) => ∃ x42, idx s37.2.1 0 = some x42 ∧ (0 ≤ (1 : Int) ∧ (1 : Int) ≤ (s37.2.1.length : Int) ∧ (s37.2.1.length : Int) ≤ (s37.2.1.length : Int)) ∧ Jn (fun (J45 : (List Int × List Int × List Bool) → Prop) => Loop (fun (s46 : List Int × List Int × List Bool × Int) Y47 => Ite (decide (s46.2.2.2 < 6)) (V_floor_Next f x42 s46.2.2.2 (fun x49 => Jn (fun (J51 : (List Int × List Int × List Bool) → Prop) => Ite x49.2 (∃ x53, idx s46.1 x42 = some x53 ∧ V_floor_spread_1__p0_p2_p4 x49.1 (w64 (x53 + 1)) s46.2.2.1 s46.1 s46.2.1 (fun x54 => J51 (x54.2.1, x54.2.2, x54.1))) (J51 (s46.1, s46.2.1, s46.2.2.1))) (fun (x50 : List Int × List Int × List Bool) => Y47 (x50.1, x50.2.1, x50.2.2, w64 (s46.2.2.2 + 1))))) (J45 (s46.1, s46.2.1, s46.2.2.1))) (s37.1, (sub s37.2.1 1 (s37.2.1.length : Int)), s37.2.2, 0)) (fun (x44 : List Int × List Int × List Bool) => J41 (x44.1, x44.2.1, x44.2.2))) (fun (x40 : List Int × List Int × List Bool) => Y38 (x40.1, x40.2.1, x40.2.2))) (J36 s37.1)) (x24.1, x24.2.1, x24.2.2)) (fun (x35 : List Int) => post x35))))))
def V_floor_Dist (f : ApiFloor) (from_1 : List Int) (avoid : List Int) (post : (List Int) → Prop) : Prop :=
  V_floor_spread__floor_Next f from_1 avoid (fun x1 => post x1)
def V_route_Cells (s_1 : ApiSite) (from_1 : Int) (acts : List Int) (post : (List Int) → Prop) : Prop :=
  Jn (fun (J2 : Bool → Prop) => Ite (decide (from_1 < 0)) (J2 true) (J2 (decide (from_1 ≥ (s_1.Floor.Kind.length : Int))))) (fun (x1 : Bool) => Ite x1 (post []) (Jn (fun (J6 : (List Int) → Prop) => Loop (fun (s7 : Int × List Int × Int) Y8 => Ite (decide (s7.2.2 < (acts.length : Int))) (∃ x10, idx acts s7.2.2 = some x10 ∧ V_floor_Next s_1.Floor s7.1 (w64 (x10 - 1)) (fun x11 => Jn (fun (J13 : Int → Prop) => Ite x11.2 (J13 x11.1) (J13 s7.1)) (fun (x12 : Int) => (s7.2.1.length + ([x12] : List Int).length ≤ 1099511627776) ∧ Y8 (x12, (s7.2.1 ++ ([x12] : List Int)), w64 (s7.2.2 + 1))))) (J6 s7.2.1)) (from_1, ([from_1] : List Int), 0)) (fun (x5 : List Int) => post x5)))
def V_taquinlaw23_RoutePlain (s_1 : ApiSite) (from_1 : Int) (to_1 : Int) (tick : Int) (avoid : List Int) (post : Bool → Prop) : Prop :=
  V_taquinlaw23_small (fun x1 => V_taquinlaw23_fair ({ Floor := s_1.Floor, Zones := [], Aparts := s_1.Aparts, Shelves := s_1.Shelves, Robots := s_1.Robots : ApiSite }) [] avoid (fun x2 => Ite (!x2) (post x1) (V_route_Find ({ Floor := s_1.Floor, Zones := [], Aparts := s_1.Aparts, Shelves := s_1.Shelves, Robots := s_1.Robots : ApiSite }) from_1 to_1 tick [] avoid 60 (fun x4 => Ite (x4.2 == 1) (post x1) (Jn (fun (J7 : Bool → Prop) => Ite (decide (from_1 < 0)) (J7 true) (Ite (decide (from_1 ≥ (s_1.Floor.Kind.length : Int))) (J7 true) (Ite (decide (to_1 < 0)) (J7 true) (J7 (decide (to_1 ≥ (s_1.Floor.Kind.length : Int))))))) (fun (x6 : Bool) => Ite x6 (post false) ((([] : List Int).length + avoid.length ≤ 1099511627776) ∧ Jn (fun (J14 : (List Int) → Prop) => Loop (fun (s15 : List Int × Int) Y16 => Ite (decide (s15.2 < (s15.1.length : Int))) (∃ x18, idx s15.1 s15.2 = some x18 ∧ Jn (fun (J20 : (List Int) → Prop) => Ite (x18 == from_1) (J20 (s15.1.set (Int.toNat s15.2) (-1))) (J20 s15.1)) (fun (x19 : List Int) => Y16 (x19, w64 (s15.2 + 1)))) (J14 s15.1)) (((([] : List Int) ++ avoid), 0) : List Int × Int)) (fun (x13 : List Int) => V_floor_Dist s_1.Floor ([from_1] : List Int) x13 (fun x22 => Ite ((x22.length : Int) != (s_1.Floor.Kind.length : Int)) (post false) (∃ x24, idx x22 to_1 = some x24 ∧ Ite (decide (x24 < 0)) (Jn (fun (J27 : Bool → Prop) => Ite x1 (J27 (x4.2 == 14)) (J27 false)) (fun (x26 : Bool) => post x26)) (V_route_Cells ({ Floor := s_1.Floor, Zones := [], Aparts := s_1.Aparts, Shelves := s_1.Shelves, Robots := s_1.Robots : ApiSite }) from_1 x4.1 (fun x29 => Jn (fun (J31 : Bool → Prop) => Ite (x4.2 != 0) (J31 true) (Ite ((x4.1.length : Int) != x24) (J31 true) (J31 ((x29.length : Int) != (w64 ((x4.1.length : Int) + 1)))))) (fun (x30 : Bool) => Ite x30 (post false) (Jn (fun (J36 : Unit → Prop) => Loop (fun (s37 : Int) Y38 => Ite (decide (s37 < (x4.1.length : Int))) (∃ x40, idx x29 s37 = some x40 ∧ ∃ x41, idx x4.1 s37 = some x41 ∧ V_floor_Next s_1.Floor x40 (w64 (x41 - 1)) (fun x42 => Jn (fun (J44 : Bool → Prop) => Ite x42.2 (∃ x46, idx x29 (w64 (s37 + 1)) = some x46 ∧ J44 (x42.1 != x46)) (J44 true)) (fun (x43 : Bool) => Ite x43 (post false) (Y38 (w64 (s37 + 1)))))) (J36 ())) 0) (fun (x35 : Unit) => Jn (fun (J49 : Bool → Prop) => Ite x1 (∃ x51, idx x29 0 = some x51 ∧ Ite (x51 == from_1) (∃ x53, idx x29 (x4.1.length : Int) = some x53 ∧ J49 (x53 == to_1)) (J49 false)) (J49 false)) (fun (x48 : Bool) => post x48))))))))))))))))
end Go.Taq
