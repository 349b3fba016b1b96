/- A part of the proof of a law: the symbolic executor, contracts of functions of the program, plain laws. No conditions. -/
import Derived.Test.YtlnandkcoliejaaGreatM2
import Derived.Test.YtlnandkcoliejaaGreatProg
import Derived.KernelRfl
set_option linter.unusedVariables false
set_option linter.unusedSimpArgs false
set_option linter.unusedSectionVars false
section
/- MADE BY wip/nums.py out of the translation: numbers of functions and types, the table of types, its proofs. -/
set_option maxRecDepth 10000
namespace Go.Sx
open Go Go.Proofs
noncomputable abbrev PP : Program := Tryz.prog
abbrev f_narrowslaw26_DistanceMoving : FuncId := 8
noncomputable abbrev b_narrowslaw26_DistanceMoving : Func := Tryz.f8
theorem h_narrowslaw26_DistanceMoving : PP.funcs[f_narrowslaw26_DistanceMoving]? = some b_narrowslaw26_DistanceMoving := Tryz.func8
abbrev f_narrowslaw26_great : FuncId := 10
noncomputable abbrev b_narrowslaw26_great : Func := Tryz.f10
theorem h_narrowslaw26_great : PP.funcs[f_narrowslaw26_great]? = some b_narrowslaw26_great := Tryz.func10
abbrev f_vector_Check : FuncId := 11
noncomputable abbrev b_vector_Check : Func := Tryz.f11
theorem h_vector_Check : PP.funcs[f_vector_Check]? = some b_vector_Check := Tryz.func11
abbrev f_narrowslaw26_awake : FuncId := 12
noncomputable abbrev b_narrowslaw26_awake : Func := Tryz.f12
theorem h_narrowslaw26_awake : PP.funcs[f_narrowslaw26_awake]? = some b_narrowslaw26_awake := Tryz.func12
abbrev f_distance_Point : FuncId := 13
noncomputable abbrev b_distance_Point : Func := Tryz.f13
theorem h_distance_Point : PP.funcs[f_distance_Point]? = some b_distance_Point := Tryz.func13
abbrev f_distance_SquarePoint : FuncId := 14
noncomputable abbrev b_distance_SquarePoint : Func := Tryz.f14
theorem h_distance_SquarePoint : PP.funcs[f_distance_SquarePoint]? = some b_distance_SquarePoint := Tryz.func14
abbrev f_segment_Nearest : FuncId := 15
noncomputable abbrev b_segment_Nearest : Func := Tryz.f15
theorem h_segment_Nearest : PP.funcs[f_segment_Nearest]? = some b_segment_Nearest := Tryz.func15
abbrev f_rational_Quo : FuncId := 16
noncomputable abbrev b_rational_Quo : Func := Tryz.f16
theorem h_rational_Quo : PP.funcs[f_rational_Quo]? = some b_rational_Quo := Tryz.func16
abbrev f_rational_Of : FuncId := 17
noncomputable abbrev b_rational_Of : Func := Tryz.f17
theorem h_rational_Of : PP.funcs[f_rational_Of]? = some b_rational_Of := Tryz.func17
abbrev f_rational_Add : FuncId := 18
noncomputable abbrev b_rational_Add : Func := Tryz.f18
theorem h_rational_Add : PP.funcs[f_rational_Add]? = some b_rational_Add := Tryz.func18
abbrev f_rational_Mul : FuncId := 19
noncomputable abbrev b_rational_Mul : Func := Tryz.f19
theorem h_rational_Mul : PP.funcs[f_rational_Mul]? = some b_rational_Mul := Tryz.func19
abbrev f_vector_Distance : FuncId := 20
noncomputable abbrev b_vector_Distance : Func := Tryz.f20
theorem h_vector_Distance : PP.funcs[f_vector_Distance]? = some b_vector_Distance := Tryz.func20
abbrev f_vector_At : FuncId := 21
noncomputable abbrev b_vector_At : Func := Tryz.f21
theorem h_vector_At : PP.funcs[f_vector_At]? = some b_vector_At := Tryz.func21
abbrev f_rational_Compare : FuncId := 22
noncomputable abbrev b_rational_Compare : Func := Tryz.f22
theorem h_rational_Compare : PP.funcs[f_rational_Compare]? = some b_rational_Compare := Tryz.func22
abbrev f_vector_Square : FuncId := 23
noncomputable abbrev b_vector_Square : Func := Tryz.f23
theorem h_vector_Square : PP.funcs[f_vector_Square]? = some b_vector_Square := Tryz.func23
abbrev f_rational_Sign : FuncId := 24
noncomputable abbrev b_rational_Sign : Func := Tryz.f24
theorem h_rational_Sign : PP.funcs[f_rational_Sign]? = some b_rational_Sign := Tryz.func24
abbrev f_distance_Polygons : FuncId := 27
noncomputable abbrev b_distance_Polygons : Func := Tryz.f27
theorem h_distance_Polygons : PP.funcs[f_distance_Polygons]? = some b_distance_Polygons := Tryz.func27
abbrev f_vector_Add : FuncId := 38
noncomputable abbrev b_vector_Add : Func := Tryz.f38
theorem h_vector_Add : PP.funcs[f_vector_Add]? = some b_vector_Add := Tryz.func38
abbrev f_segment_Meet : FuncId := 39
noncomputable abbrev b_segment_Meet : Func := Tryz.f39
theorem h_segment_Meet : PP.funcs[f_segment_Meet]? = some b_segment_Meet := Tryz.func39
abbrev f_narrowsref13_Great : FuncId := 40
noncomputable abbrev b_narrowsref13_Great : Func := Tryz.f40
theorem h_narrowsref13_Great : PP.funcs[f_narrowsref13_Great]? = some b_narrowsref13_Great := Tryz.func40
abbrev f_distance_SquareConvex : FuncId := 41
noncomputable abbrev b_distance_SquareConvex : Func := Tryz.f41
theorem h_distance_SquareConvex : PP.funcs[f_distance_SquareConvex]? = some b_distance_SquareConvex := Tryz.func41
abbrev f_convex_Check : FuncId := 43
noncomputable abbrev b_convex_Check : Func := Tryz.f43
theorem h_convex_Check : PP.funcs[f_convex_Check]? = some b_convex_Check := Tryz.func43
abbrev f_convex_Touch : FuncId := 44
noncomputable abbrev b_convex_Touch : Func := Tryz.f44
theorem h_convex_Touch : PP.funcs[f_convex_Touch]? = some b_convex_Touch := Tryz.func44
abbrev f_vector_Of : FuncId := 45
noncomputable abbrev b_vector_Of : Func := Tryz.f45
theorem h_vector_Of : PP.funcs[f_vector_Of]? = some b_vector_Of := Tryz.func45
abbrev f_rational_Sub : FuncId := 46
noncomputable abbrev b_rational_Sub : Func := Tryz.f46
theorem h_rational_Sub : PP.funcs[f_rational_Sub]? = some b_rational_Sub := Tryz.func46
abbrev f_segment_Check : FuncId := 49
noncomputable abbrev b_segment_Check : Func := Tryz.f49
theorem h_segment_Check : PP.funcs[f_segment_Check]? = some b_segment_Check := Tryz.func49
abbrev f_narrowsref07_Great : FuncId := 50
noncomputable abbrev b_narrowsref07_Great : Func := Tryz.f50
theorem h_narrowsref07_Great : PP.funcs[f_narrowsref07_Great]? = some b_narrowsref07_Great := Tryz.func50
abbrev f_rational_Check : FuncId := 51
noncomputable abbrev b_rational_Check : Func := Tryz.f51
theorem h_rational_Check : PP.funcs[f_rational_Check]? = some b_rational_Check := Tryz.func51
abbrev f_distance_check : FuncId := 52
noncomputable abbrev b_distance_check : Func := Tryz.f52
theorem h_distance_check : PP.funcs[f_distance_check]? = some b_distance_check := Tryz.func52
abbrev f_distance_euclidean : FuncId := 53
noncomputable abbrev b_distance_euclidean : Func := Tryz.f53
theorem h_distance_euclidean : PP.funcs[f_distance_euclidean]? = some b_distance_euclidean := Tryz.func53
abbrev f_distance_metric_point : FuncId := 54
noncomputable abbrev b_distance_metric_point : Func := Tryz.f54
theorem h_distance_metric_point : PP.funcs[f_distance_metric_point]? = some b_distance_metric_point := Tryz.func54
abbrev f_distance_square : FuncId := 55
noncomputable abbrev b_distance_square : Func := Tryz.f55
theorem h_distance_square : PP.funcs[f_distance_square]? = some b_distance_square := Tryz.func55
abbrev f_segment_parameter : FuncId := 56
noncomputable abbrev b_segment_parameter : Func := Tryz.f56
theorem h_segment_parameter : PP.funcs[f_segment_parameter]? = some b_segment_parameter := Tryz.func56
abbrev f_segment_canonical : FuncId := 57
noncomputable abbrev b_segment_canonical : Func := Tryz.f57
theorem h_segment_canonical : PP.funcs[f_segment_canonical]? = some b_segment_canonical := Tryz.func57
abbrev f_rational_of : FuncId := 58
noncomputable abbrev b_rational_of : Func := Tryz.f58
theorem h_rational_of : PP.funcs[f_rational_of]? = some b_rational_of := Tryz.func58
abbrev f_rational_New : FuncId := 59
noncomputable abbrev b_rational_New : Func := Tryz.f59
theorem h_rational_New : PP.funcs[f_rational_New]? = some b_rational_New := Tryz.func59
abbrev f_bigint_Mul : FuncId := 60
noncomputable abbrev b_bigint_Mul : Func := Tryz.f60
theorem h_bigint_Mul : PP.funcs[f_bigint_Mul]? = some b_bigint_Mul := Tryz.func60
abbrev f_bigint_Of : FuncId := 61
noncomputable abbrev b_bigint_Of : Func := Tryz.f61
theorem h_bigint_Of : PP.funcs[f_bigint_Of]? = some b_bigint_Of := Tryz.func61
abbrev f_rational_fraction_number : FuncId := 62
noncomputable abbrev b_rational_fraction_number : Func := Tryz.f62
theorem h_rational_fraction_number : PP.funcs[f_rational_fraction_number]? = some b_rational_fraction_number := Tryz.func62
abbrev f_rational_both_api_Rat : FuncId := 63
noncomputable abbrev b_rational_both_api_Rat : Func := Tryz.f63
theorem h_rational_both_api_Rat : PP.funcs[f_rational_both_api_Rat]? = some b_rational_both_api_Rat := Tryz.func63
abbrev f_rational_Add_1 : FuncId := 64
noncomputable abbrev b_rational_Add_1 : Func := Tryz.f64
theorem h_rational_Add_1 : PP.funcs[f_rational_Add_1]? = some b_rational_Add_1 := Tryz.func64
abbrev f_rational_ratio : FuncId := 65
noncomputable abbrev b_rational_ratio : Func := Tryz.f65
theorem h_rational_ratio : PP.funcs[f_rational_ratio]? = some b_rational_ratio := Tryz.func65
abbrev f_rational_Add_2 : FuncId := 66
noncomputable abbrev b_rational_Add_2 : Func := Tryz.f66
theorem h_rational_Add_2 : PP.funcs[f_rational_Add_2]? = some b_rational_Add_2 := Tryz.func66
abbrev f_bigint_Add : FuncId := 67
noncomputable abbrev b_bigint_Add : Func := Tryz.f67
theorem h_bigint_Add : PP.funcs[f_bigint_Add]? = some b_bigint_Add := Tryz.func67
abbrev f_rational_Mul_1 : FuncId := 68
noncomputable abbrev b_rational_Mul_1 : Func := Tryz.f68
theorem h_rational_Mul_1 : PP.funcs[f_rational_Mul_1]? = some b_rational_Mul_1 := Tryz.func68
abbrev f_rational_Mul_2 : FuncId := 69
noncomputable abbrev b_rational_Mul_2 : Func := Tryz.f69
theorem h_rational_Mul_2 : PP.funcs[f_rational_Mul_2]? = some b_rational_Mul_2 := Tryz.func69
abbrev f_vector_Sub : FuncId := 70
noncomputable abbrev b_vector_Sub : Func := Tryz.f70
theorem h_vector_Sub : PP.funcs[f_vector_Sub]? = some b_vector_Sub := Tryz.func70
abbrev f_vector_Dot : FuncId := 71
noncomputable abbrev b_vector_Dot : Func := Tryz.f71
theorem h_vector_Dot : PP.funcs[f_vector_Dot]? = some b_vector_Dot := Tryz.func71
abbrev f_vector_Scale : FuncId := 72
noncomputable abbrev b_vector_Scale : Func := Tryz.f72
theorem h_vector_Scale : PP.funcs[f_vector_Scale]? = some b_vector_Scale := Tryz.func72
abbrev f_rational_both_int : FuncId := 73
noncomputable abbrev b_rational_both_int : Func := Tryz.f73
theorem h_rational_both_int : PP.funcs[f_rational_both_int]? = some b_rational_both_int := Tryz.func73
abbrev f_rational_Compare_1 : FuncId := 74
noncomputable abbrev b_rational_Compare_1 : Func := Tryz.f74
theorem h_rational_Compare_1 : PP.funcs[f_rational_Compare_1]? = some b_rational_Compare_1 := Tryz.func74
abbrev f_rational_Compare_2 : FuncId := 75
noncomputable abbrev b_rational_Compare_2 : Func := Tryz.f75
theorem h_rational_Compare_2 : PP.funcs[f_rational_Compare_2]? = some b_rational_Compare_2 := Tryz.func75
abbrev f_bigint_Compare : FuncId := 76
noncomputable abbrev b_bigint_Compare : Func := Tryz.f76
theorem h_bigint_Compare : PP.funcs[f_bigint_Compare]? = some b_bigint_Compare := Tryz.func76
abbrev f_vector_extreme : FuncId := 77
noncomputable abbrev b_vector_extreme : Func := Tryz.f77
theorem h_vector_extreme : PP.funcs[f_vector_extreme]? = some b_vector_extreme := Tryz.func77
abbrev f_rational_Neg : FuncId := 78
noncomputable abbrev b_rational_Neg : Func := Tryz.f78
theorem h_rational_Neg : PP.funcs[f_rational_Neg]? = some b_rational_Neg := Tryz.func78
abbrev f_predicate_Between : FuncId := 79
noncomputable abbrev b_predicate_Between : Func := Tryz.f79
theorem h_predicate_Between : PP.funcs[f_predicate_Between]? = some b_predicate_Between := Tryz.func79
abbrev f_polygon_Check : FuncId := 81
noncomputable abbrev b_polygon_Check : Func := Tryz.f81
theorem h_polygon_Check : PP.funcs[f_polygon_Check]? = some b_polygon_Check := Tryz.func81
abbrev f_distance_common : FuncId := 82
noncomputable abbrev b_distance_common : Func := Tryz.f82
theorem h_distance_common : PP.funcs[f_distance_common]? = some b_distance_common := Tryz.func82
abbrev f_vector_Compare : FuncId := 83
noncomputable abbrev b_vector_Compare : Func := Tryz.f83
theorem h_vector_Compare : PP.funcs[f_vector_Compare]? = some b_vector_Compare := Tryz.func83
abbrev f_distance_links : FuncId := 84
noncomputable abbrev b_distance_links : Func := Tryz.f84
theorem h_distance_links : PP.funcs[f_distance_links]? = some b_distance_links := Tryz.func84
abbrev f_distance_before : FuncId := 85
noncomputable abbrev b_distance_before : Func := Tryz.f85
theorem h_distance_before : PP.funcs[f_distance_before]? = some b_distance_before := Tryz.func85
abbrev f_polygon_Inside : FuncId := 92
noncomputable abbrev b_polygon_Inside : Func := Tryz.f92
theorem h_polygon_Inside : PP.funcs[f_polygon_Inside]? = some b_polygon_Inside := Tryz.func92
abbrev f_polygon_Edges : FuncId := 93
noncomputable abbrev b_polygon_Edges : Func := Tryz.f93
theorem h_polygon_Edges : PP.funcs[f_polygon_Edges]? = some b_polygon_Edges := Tryz.func93
abbrev f_distance_least : FuncId := 94
noncomputable abbrev b_distance_least : Func := Tryz.f94
theorem h_distance_least : PP.funcs[f_distance_least]? = some b_distance_least := Tryz.func94
abbrev f_distance_metric_segments : FuncId := 99
noncomputable abbrev b_distance_metric_segments : Func := Tryz.f99
theorem h_distance_metric_segments : PP.funcs[f_distance_metric_segments]? = some b_distance_metric_segments := Tryz.func99
abbrev f_vector_each : FuncId := 102
noncomputable abbrev b_vector_each : Func := Tryz.f102
theorem h_vector_each : PP.funcs[f_vector_each]? = some b_vector_each := Tryz.func102
abbrev f_segment_wrong : FuncId := 103
noncomputable abbrev b_segment_wrong : Func := Tryz.f103
theorem h_segment_wrong : PP.funcs[f_segment_wrong]? = some b_segment_wrong := Tryz.func103
abbrev f_segment_meet : FuncId := 104
noncomputable abbrev b_segment_meet : Func := Tryz.f104
theorem h_segment_meet : PP.funcs[f_segment_meet]? = some b_segment_meet := Tryz.func104
abbrev f_narrowsref13_GreatPoint : FuncId := 105
noncomputable abbrev b_narrowsref13_GreatPoint : Func := Tryz.f105
theorem h_narrowsref13_GreatPoint : PP.funcs[f_narrowsref13_GreatPoint]? = some b_narrowsref13_GreatPoint := Tryz.func105
abbrev f_ring_Edges : FuncId := 106
noncomputable abbrev b_ring_Edges : Func := Tryz.f106
theorem h_ring_Edges : PP.funcs[f_ring_Edges]? = some b_ring_Edges := Tryz.func106
abbrev f_convex_canonical : FuncId := 109
noncomputable abbrev b_convex_canonical : Func := Tryz.f109
theorem h_convex_canonical : PP.funcs[f_convex_canonical]? = some b_convex_canonical := Tryz.func109
abbrev f_slices_ContainsFunc_sl_api_Point_api_Point : FuncId := 110
noncomputable abbrev b_slices_ContainsFunc_sl_api_Point_api_Point : Func := Tryz.f110
theorem h_slices_ContainsFunc_sl_api_Point_api_Point : PP.funcs[f_slices_ContainsFunc_sl_api_Point_api_Point]? = some b_slices_ContainsFunc_sl_api_Point_api_Point := Tryz.func110
abbrev f_convex_Check_1 : FuncId := 111
noncomputable abbrev b_convex_Check_1 : Func := Tryz.f111
theorem h_convex_Check_1 : PP.funcs[f_convex_Check_1]? = some b_convex_Check_1 := Tryz.func111
abbrev f_convex_edges : FuncId := 112
noncomputable abbrev b_convex_edges : Func := Tryz.f112
theorem h_convex_edges : PP.funcs[f_convex_edges]? = some b_convex_edges := Tryz.func112
abbrev f_convex_Check_2 : FuncId := 113
noncomputable abbrev b_convex_Check_2 : Func := Tryz.f113
theorem h_convex_Check_2 : PP.funcs[f_convex_Check_2]? = some b_convex_Check_2 := Tryz.func113
abbrev f_predicate_Orient : FuncId := 114
noncomputable abbrev b_predicate_Orient : Func := Tryz.f114
theorem h_predicate_Orient : PP.funcs[f_predicate_Orient]? = some b_predicate_Orient := Tryz.func114
abbrev f_convex_separator : FuncId := 115
noncomputable abbrev b_convex_separator : Func := Tryz.f115
theorem h_convex_separator : PP.funcs[f_convex_separator]? = some b_convex_separator := Tryz.func115
abbrev f_convex_Touch_1 : FuncId := 116
noncomputable abbrev b_convex_Touch_1 : Func := Tryz.f116
theorem h_convex_Touch_1 : PP.funcs[f_convex_Touch_1]? = some b_convex_Touch_1 := Tryz.func116
abbrev f_distance_euclidean_1 : FuncId := 118
noncomputable abbrev b_distance_euclidean_1 : Func := Tryz.f118
theorem h_distance_euclidean_1 : PP.funcs[f_distance_euclidean_1]? = some b_distance_euclidean_1 := Tryz.func118
abbrev f_distance_square_1 : FuncId := 119
noncomputable abbrev b_distance_square_1 : Func := Tryz.f119
theorem h_distance_square_1 : PP.funcs[f_distance_square_1]? = some b_distance_square_1 := Tryz.func119
abbrev f_distance_parts : FuncId := 120
noncomputable abbrev b_distance_parts : Func := Tryz.f120
theorem h_distance_parts : PP.funcs[f_distance_parts]? = some b_distance_parts := Tryz.func120
abbrev f_segment_direction : FuncId := 121
noncomputable abbrev b_segment_direction : Func := Tryz.f121
theorem h_segment_direction : PP.funcs[f_segment_direction]? = some b_segment_direction := Tryz.func121
abbrev f_rational_integer : FuncId := 122
noncomputable abbrev b_rational_integer : Func := Tryz.f122
theorem h_rational_integer : PP.funcs[f_rational_integer]? = some b_rational_integer := Tryz.func122
abbrev f_rational_is : FuncId := 123
noncomputable abbrev b_rational_is : Func := Tryz.f123
theorem h_rational_is : PP.funcs[f_rational_is]? = some b_rational_is := Tryz.func123
abbrev f_bigint_Neg : FuncId := 124
noncomputable abbrev b_bigint_Neg : Func := Tryz.f124
theorem h_bigint_Neg : PP.funcs[f_bigint_Neg]? = some b_bigint_Neg := Tryz.func124
abbrev f_bigint_pack : FuncId := 125
noncomputable abbrev b_bigint_pack : Func := Tryz.f125
theorem h_bigint_pack : PP.funcs[f_bigint_pack]? = some b_bigint_pack := Tryz.func125
abbrev f_bigint_load : FuncId := 126
noncomputable abbrev b_bigint_load : Func := Tryz.f126
theorem h_bigint_load : PP.funcs[f_bigint_load]? = some b_bigint_load := Tryz.func126
abbrev f_bigint_limbs_times : FuncId := 127
noncomputable abbrev b_bigint_limbs_times : Func := Tryz.f127
theorem h_bigint_limbs_times : PP.funcs[f_bigint_limbs_times]? = some b_bigint_limbs_times := Tryz.func127
abbrev f_bigint_Gcd : FuncId := 128
noncomputable abbrev b_bigint_Gcd : Func := Tryz.f128
theorem h_bigint_Gcd : PP.funcs[f_bigint_Gcd]? = some b_bigint_Gcd := Tryz.func128
abbrev f_bigint_Div : FuncId := 129
noncomputable abbrev b_bigint_Div : Func := Tryz.f129
theorem h_bigint_Div : PP.funcs[f_bigint_Div]? = some b_bigint_Div := Tryz.func129
abbrev f_rational_machine : FuncId := 130
noncomputable abbrev b_rational_machine : Func := Tryz.f130
theorem h_rational_machine : PP.funcs[f_rational_machine]? = some b_rational_machine := Tryz.func130
abbrev f_rational_text : FuncId := 131
noncomputable abbrev b_rational_text : Func := Tryz.f131
theorem h_rational_text : PP.funcs[f_rational_text]? = some b_rational_text := Tryz.func131
abbrev f_bigint_little : FuncId := 132
noncomputable abbrev b_bigint_little : Func := Tryz.f132
theorem h_bigint_little : PP.funcs[f_bigint_little]? = some b_bigint_little := Tryz.func132
abbrev f_bigint_limbs_plus : FuncId := 133
noncomputable abbrev b_bigint_limbs_plus : Func := Tryz.f133
theorem h_bigint_limbs_plus : PP.funcs[f_bigint_limbs_plus]? = some b_bigint_limbs_plus := Tryz.func133
abbrev f_bigint_limbs_compare : FuncId := 134
noncomputable abbrev b_bigint_limbs_compare : Func := Tryz.f134
theorem h_bigint_limbs_compare : PP.funcs[f_bigint_limbs_compare]? = some b_bigint_limbs_compare := Tryz.func134
abbrev f_bigint_limbs_minus : FuncId := 135
noncomputable abbrev b_bigint_limbs_minus : Func := Tryz.f135
theorem h_bigint_limbs_minus : PP.funcs[f_bigint_limbs_minus]? = some b_bigint_limbs_minus := Tryz.func135
abbrev f_ring_Check : FuncId := 136
noncomputable abbrev b_ring_Check : Func := Tryz.f136
theorem h_ring_Check : PP.funcs[f_ring_Check]? = some b_ring_Check := Tryz.func136
abbrev f_polygon_checkHole : FuncId := 137
noncomputable abbrev b_polygon_checkHole : Func := Tryz.f137
theorem h_polygon_checkHole : PP.funcs[f_polygon_checkHole]? = some b_polygon_checkHole := Tryz.func137
abbrev f_distance_common_1 : FuncId := 138
noncomputable abbrev b_distance_common_1 : Func := Tryz.f138
theorem h_distance_common_1 : PP.funcs[f_distance_common_1]? = some b_distance_common_1 := Tryz.func138
abbrev f_polygon_Corners : FuncId := 139
noncomputable abbrev b_polygon_Corners : Func := Tryz.f139
theorem h_polygon_Corners : PP.funcs[f_polygon_Corners]? = some b_polygon_Corners := Tryz.func139
abbrev f_distance_links_1 : FuncId := 140
noncomputable abbrev b_distance_links_1 : Func := Tryz.f140
theorem h_distance_links_1 : PP.funcs[f_distance_links_1]? = some b_distance_links_1 := Tryz.func140
abbrev f_polygon_where : FuncId := 158
noncomputable abbrev b_polygon_where : Func := Tryz.f158
theorem h_polygon_where : PP.funcs[f_polygon_where]? = some b_polygon_where := Tryz.func158
abbrev f_polygon_edges : FuncId := 159
noncomputable abbrev b_polygon_edges : Func := Tryz.f159
theorem h_polygon_edges : PP.funcs[f_polygon_edges]? = some b_polygon_edges := Tryz.func159
abbrev f_vector_Cross : FuncId := 172
noncomputable abbrev b_vector_Cross : Func := Tryz.f172
theorem h_vector_Cross : PP.funcs[f_vector_Cross]? = some b_vector_Cross := Tryz.func172
abbrev f_segment_unit : FuncId := 173
noncomputable abbrev b_segment_unit : Func := Tryz.f173
theorem h_segment_unit : PP.funcs[f_segment_unit]? = some b_segment_unit := Tryz.func173
abbrev f_segment_Order : FuncId := 174
noncomputable abbrev b_segment_Order : Func := Tryz.f174
theorem h_segment_Order : PP.funcs[f_segment_Order]? = some b_segment_Order := Tryz.func174
abbrev f_segment_greater : FuncId := 175
noncomputable abbrev b_segment_greater : Func := Tryz.f175
theorem h_segment_greater : PP.funcs[f_segment_greater]? = some b_segment_greater := Tryz.func175
abbrev f_segment_lesser : FuncId := 176
noncomputable abbrev b_segment_lesser : Func := Tryz.f176
theorem h_segment_lesser : PP.funcs[f_segment_lesser]? = some b_segment_lesser := Tryz.func176
abbrev f_ring_edges : FuncId := 177
noncomputable abbrev b_ring_edges : Func := Tryz.f177
theorem h_ring_edges : PP.funcs[f_ring_edges]? = some b_ring_edges := Tryz.func177
abbrev f_convex_canonical_1 : FuncId := 182
noncomputable abbrev b_convex_canonical_1 : Func := Tryz.f182
theorem h_convex_canonical_1 : PP.funcs[f_convex_canonical_1]? = some b_convex_canonical_1 := Tryz.func182
abbrev f_slices_IndexFunc_sl_api_Point_api_Point : FuncId := 183
noncomputable abbrev b_slices_IndexFunc_sl_api_Point_api_Point : Func := Tryz.f183
theorem h_slices_IndexFunc_sl_api_Point_api_Point : PP.funcs[f_slices_IndexFunc_sl_api_Point_api_Point]? = some b_slices_IndexFunc_sl_api_Point_api_Point := Tryz.func183
abbrev f_convex_edges_1 : FuncId := 184
noncomputable abbrev b_convex_edges_1 : Func := Tryz.f184
theorem h_convex_edges_1 : PP.funcs[f_convex_edges_1]? = some b_convex_edges_1 := Tryz.func184
abbrev f_convex_beside : FuncId := 185
noncomputable abbrev b_convex_beside : Func := Tryz.f185
theorem h_convex_beside : PP.funcs[f_convex_beside]? = some b_convex_beside := Tryz.func185
abbrev f_distance_parts_1 : FuncId := 186
noncomputable abbrev b_distance_parts_1 : Func := Tryz.f186
theorem h_distance_parts_1 : PP.funcs[f_distance_parts_1]? = some b_distance_parts_1 := Tryz.func186
abbrev f_bigint_limbs_trim : FuncId := 187
noncomputable abbrev b_bigint_limbs_trim : Func := Tryz.f187
theorem h_bigint_limbs_trim : PP.funcs[f_bigint_limbs_trim]? = some b_bigint_limbs_trim := Tryz.func187
abbrev f_bigint_limbs_store : FuncId := 188
noncomputable abbrev b_bigint_limbs_store : Func := Tryz.f188
theorem h_bigint_limbs_store : PP.funcs[f_bigint_limbs_store]? = some b_bigint_limbs_store := Tryz.func188
abbrev f_bigint_strip : FuncId := 189
noncomputable abbrev b_bigint_strip : Func := Tryz.f189
theorem h_bigint_strip : PP.funcs[f_bigint_strip]? = some b_bigint_strip := Tryz.func189
abbrev f_bigint_limbs_divide : FuncId := 190
noncomputable abbrev b_bigint_limbs_divide : Func := Tryz.f190
theorem h_bigint_limbs_divide : PP.funcs[f_bigint_limbs_divide]? = some b_bigint_limbs_divide := Tryz.func190
abbrev f_bigint_Sub : FuncId := 191
noncomputable abbrev b_bigint_Sub : Func := Tryz.f191
theorem h_bigint_Sub : PP.funcs[f_bigint_Sub]? = some b_bigint_Sub := Tryz.func191
abbrev f_rational_digits : FuncId := 192
noncomputable abbrev b_rational_digits : Func := Tryz.f192
theorem h_rational_digits : PP.funcs[f_rational_digits]? = some b_rational_digits := Tryz.func192
abbrev f_math_bits_Sub32 : FuncId := 193
noncomputable abbrev b_math_bits_Sub32 : Func := Tryz.f193
theorem h_math_bits_Sub32 : PP.funcs[f_math_bits_Sub32]? = some b_math_bits_Sub32 := Tryz.func193
abbrev f_ring_canonical : FuncId := 194
noncomputable abbrev b_ring_canonical : Func := Tryz.f194
theorem h_ring_canonical : PP.funcs[f_ring_canonical]? = some b_ring_canonical := Tryz.func194
abbrev f_ring_flat : FuncId := 195
noncomputable abbrev b_ring_flat : Func := Tryz.f195
theorem h_ring_flat : PP.funcs[f_ring_flat]? = some b_ring_flat := Tryz.func195
abbrev f_ring_crossing : FuncId := 196
noncomputable abbrev b_ring_crossing : Func := Tryz.f196
theorem h_ring_crossing : PP.funcs[f_ring_crossing]? = some b_ring_crossing := Tryz.func196
abbrev f_ring_Area : FuncId := 197
noncomputable abbrev b_ring_Area : Func := Tryz.f197
theorem h_ring_Area : PP.funcs[f_ring_Area]? = some b_ring_Area := Tryz.func197
abbrev f_ring_first : FuncId := 198
noncomputable abbrev b_ring_first : Func := Tryz.f198
theorem h_ring_first : PP.funcs[f_ring_first]? = some b_ring_first := Tryz.func198
abbrev f_polygon_meet : FuncId := 199
noncomputable abbrev b_polygon_meet : Func := Tryz.f199
theorem h_polygon_meet : PP.funcs[f_polygon_meet]? = some b_polygon_meet := Tryz.func199
abbrev f_slices_ContainsFunc_sl_sl_api_Point_sl_api_Point : FuncId := 200
noncomputable abbrev b_slices_ContainsFunc_sl_sl_api_Point_sl_api_Point : Func := Tryz.f200
theorem h_slices_ContainsFunc_sl_sl_api_Point_sl_api_Point : PP.funcs[f_slices_ContainsFunc_sl_sl_api_Point_sl_api_Point]? = some b_slices_ContainsFunc_sl_sl_api_Point_sl_api_Point := Tryz.func200
abbrev f_polygon_checkHole_1 : FuncId := 201
noncomputable abbrev b_polygon_checkHole_1 : Func := Tryz.f201
theorem h_polygon_checkHole_1 : PP.funcs[f_polygon_checkHole_1]? = some b_polygon_checkHole_1 := Tryz.func201
abbrev f_polygon_within : FuncId := 202
noncomputable abbrev b_polygon_within : Func := Tryz.f202
theorem h_polygon_within : PP.funcs[f_polygon_within]? = some b_polygon_within := Tryz.func202
abbrev f_polygon_checkHole_2 : FuncId := 203
noncomputable abbrev b_polygon_checkHole_2 : Func := Tryz.f203
theorem h_polygon_checkHole_2 : PP.funcs[f_polygon_checkHole_2]? = some b_polygon_checkHole_2 := Tryz.func203
abbrev f_polygon_corners : FuncId := 204
noncomputable abbrev b_polygon_corners : Func := Tryz.f204
theorem h_polygon_corners : PP.funcs[f_polygon_corners]? = some b_polygon_corners := Tryz.func204
abbrev f_polygon_rings : FuncId := 219
noncomputable abbrev b_polygon_rings : Func := Tryz.f219
theorem h_polygon_rings : PP.funcs[f_polygon_rings]? = some b_polygon_rings := Tryz.func219
abbrev f_ring_Inside : FuncId := 220
noncomputable abbrev b_ring_Inside : Func := Tryz.f220
theorem h_ring_Inside : PP.funcs[f_ring_Inside]? = some b_ring_Inside := Tryz.func220
abbrev f_ring_edges_1 : FuncId := 225
noncomputable abbrev b_ring_edges_1 : Func := Tryz.f225
theorem h_ring_edges_1 : PP.funcs[f_ring_edges_1]? = some b_ring_edges_1 := Tryz.func225
abbrev f_convex_beside_1 : FuncId := 227
noncomputable abbrev b_convex_beside_1 : Func := Tryz.f227
theorem h_convex_beside_1 : PP.funcs[f_convex_beside_1]? = some b_convex_beside_1 := Tryz.func227
abbrev f_bigint_limbs_short : FuncId := 228
noncomputable abbrev b_bigint_limbs_short : Func := Tryz.f228
theorem h_bigint_limbs_short : PP.funcs[f_bigint_limbs_short]? = some b_bigint_limbs_short := Tryz.func228
abbrev f_math_bits_LeadingZeros32 : FuncId := 229
noncomputable abbrev b_math_bits_LeadingZeros32 : Func := Tryz.f229
theorem h_math_bits_LeadingZeros32 : PP.funcs[f_math_bits_LeadingZeros32]? = some b_math_bits_LeadingZeros32 := Tryz.func229
abbrev f_bigint_limbs_shift : FuncId := 230
noncomputable abbrev b_bigint_limbs_shift : Func := Tryz.f230
theorem h_bigint_limbs_shift : PP.funcs[f_bigint_limbs_shift]? = some b_bigint_limbs_shift := Tryz.func230
abbrev f_bigint_limbs_digit : FuncId := 231
noncomputable abbrev b_bigint_limbs_digit : Func := Tryz.f231
theorem h_bigint_limbs_digit : PP.funcs[f_bigint_limbs_digit]? = some b_bigint_limbs_digit := Tryz.func231
abbrev f_bigint_limbs_unshift : FuncId := 232
noncomputable abbrev b_bigint_limbs_unshift : Func := Tryz.f232
theorem h_bigint_limbs_unshift : PP.funcs[f_bigint_limbs_unshift]? = some b_bigint_limbs_unshift := Tryz.func232
abbrev f_ring_canonical_1 : FuncId := 233
noncomputable abbrev b_ring_canonical_1 : Func := Tryz.f233
theorem h_ring_canonical_1 : PP.funcs[f_ring_canonical_1]? = some b_ring_canonical_1 := Tryz.func233
abbrev f_slices_IndexFunc_sl_sl_api_Point_sl_api_Point : FuncId := 234
noncomputable abbrev b_slices_IndexFunc_sl_sl_api_Point_sl_api_Point : Func := Tryz.f234
theorem h_slices_IndexFunc_sl_sl_api_Point_sl_api_Point : PP.funcs[f_slices_IndexFunc_sl_sl_api_Point_sl_api_Point]? = some b_slices_IndexFunc_sl_sl_api_Point_sl_api_Point := Tryz.func234
abbrev f_polygon_rings_1 : FuncId := 248
noncomputable abbrev b_polygon_rings_1 : Func := Tryz.f248
theorem h_polygon_rings_1 : PP.funcs[f_polygon_rings_1]? = some b_polygon_rings_1 := Tryz.func248
abbrev f_ring_odd : FuncId := 249
noncomputable abbrev b_ring_odd : Func := Tryz.f249
theorem h_ring_odd : PP.funcs[f_ring_odd]? = some b_ring_odd := Tryz.func249
abbrev f_math_bits_Div32 : FuncId := 254
noncomputable abbrev b_math_bits_Div32 : Func := Tryz.f254
theorem h_math_bits_Div32 : PP.funcs[f_math_bits_Div32]? = some b_math_bits_Div32 := Tryz.func254
abbrev f_math_bits_Len32 : FuncId := 255
noncomputable abbrev b_math_bits_Len32 : Func := Tryz.f255
theorem h_math_bits_Len32 : PP.funcs[f_math_bits_Len32]? = some b_math_bits_Len32 := Tryz.func255
abbrev f_math_bits_Add32 : FuncId := 256
noncomputable abbrev b_math_bits_Add32 : Func := Tryz.f256
theorem h_math_bits_Add32 : PP.funcs[f_math_bits_Add32]? = some b_math_bits_Add32 := Tryz.func256
abbrev f_ring_odd_1 : FuncId := 264
noncomputable abbrev b_ring_odd_1 : Func := Tryz.f264
theorem h_ring_odd_1 : PP.funcs[f_ring_odd_1]? = some b_ring_odd_1 := Tryz.func264
def ty1 : TyE := { size := 1, bytes := 8, desc := .func #[] #[] false, zero := .nilFunc, eqv := none }
theorem ok1 : TyOk PP 1 ty1 := ⟨by kernel_rfl, Tryz.underlying1⟩
def ty2 : TyE := { size := 1, bytes := 8, desc := .int .i64, zero := .int .i64 0, eqv := none }
theorem ok2 : TyOk PP 2 ty2 := ⟨by kernel_rfl, Tryz.underlying2⟩
abbrev t_int : TypeId := 3
def ty3 : TyE := { size := 1, bytes := 8, desc := .int .i64, zero := .int .i64 0, eqv := none }
theorem ok3 : TyOk PP 3 ty3 := ⟨by kernel_rfl, Tryz.underlying3⟩
abbrev t_bool : TypeId := 4
def ty4 : TyE := { size := 1, bytes := 1, desc := .bool, zero := .bool false, eqv := none }
theorem ok4 : TyOk PP 4 ty4 := ⟨by kernel_rfl, Tryz.underlying4⟩
abbrev t_uint8 : TypeId := 5
def ty5 : TyE := { size := 1, bytes := 1, desc := .int .u8, zero := .int .u8 0, eqv := none }
theorem ok5 : TyOk PP 5 ty5 := ⟨by kernel_rfl, Tryz.underlying5⟩
abbrev t_string : TypeId := 9
def ty9 : TyE := { size := 1, bytes := 16, desc := .string, zero := .string (⟨#[]⟩ : ByteArray), eqv := none }
theorem ok9 : TyOk PP 9 ty9 := ⟨by kernel_rfl, Tryz.underlying9⟩
def ty12 : TyE := { size := 1, bytes := 8, desc := .int .u64, zero := .int .u64 0, eqv := none }
theorem ok12 : TyOk PP 12 ty12 := ⟨by kernel_rfl, Tryz.underlying12⟩
def ty15 : TyE := { size := 1, bytes := 8, desc := .pointer 217, zero := .pointer none, eqv := none }
theorem ok15 : TyOk PP 15 ty15 := ⟨by kernel_rfl, Tryz.underlying15⟩
def ty16 : TyE := { size := 1, bytes := 8, desc := .pointer 220, zero := .pointer none, eqv := none }
theorem ok16 : TyOk PP 16 ty16 := ⟨by kernel_rfl, Tryz.underlying16⟩
def ty17 : TyE := { size := 1, bytes := 8, desc := .pointer 229, zero := .pointer none, eqv := none }
theorem ok17 : TyOk PP 17 ty17 := ⟨by kernel_rfl, Tryz.underlying17⟩
def ty21 : TyE := { size := 1, bytes := 4, desc := .int .i32, zero := .int .i32 0, eqv := none }
theorem ok21 : TyOk PP 21 ty21 := ⟨by kernel_rfl, Tryz.underlying21⟩
def ty22 : TyE := { size := 3, bytes := 40, desc := .struct #[{ name := "Neg", type := 4, offset := 0, embedded := false, tag := "", pkgPath := "", byteOffset := 0 }, { name := "Num", type := 9, offset := 1, embedded := false, tag := "", pkgPath := "", byteOffset := 8 }, { name := "Den", type := 9, offset := 2, embedded := false, tag := "", pkgPath := "", byteOffset := 24 }], zero := .agg #[.bool false, .string (⟨#[]⟩ : ByteArray), .string (⟨#[]⟩ : ByteArray)], eqv := some [.b, .s, .s] }
theorem ok22 : TyOk PP 22 ty22 := ⟨by kernel_rfl, Tryz.underlying22⟩
abbrev t_api_Rat : TypeId := 23
def ty23 : TyE := { size := 3, bytes := 40, desc := .struct #[{ name := "Neg", type := 4, offset := 0, embedded := false, tag := "", pkgPath := "", byteOffset := 0 }, { name := "Num", type := 9, offset := 1, embedded := false, tag := "", pkgPath := "", byteOffset := 8 }, { name := "Den", type := 9, offset := 2, embedded := false, tag := "", pkgPath := "", byteOffset := 24 }], zero := .agg #[.bool false, .string (⟨#[]⟩ : ByteArray), .string (⟨#[]⟩ : ByteArray)], eqv := some [.b, .s, .s] }
theorem ok23 : TyOk PP 23 ty23 := ⟨by kernel_rfl, Tryz.underlying23⟩
def ty24 : TyE := { size := 6, bytes := 80, desc := .struct #[{ name := "X", type := 23, offset := 0, embedded := false, tag := "", pkgPath := "", byteOffset := 0 }, { name := "Y", type := 23, offset := 3, embedded := false, tag := "", pkgPath := "", byteOffset := 40 }], zero := .agg #[.bool false, .string (⟨#[]⟩ : ByteArray), .string (⟨#[]⟩ : ByteArray), .bool false, .string (⟨#[]⟩ : ByteArray), .string (⟨#[]⟩ : ByteArray)], eqv := some [.b, .s, .s, .b, .s, .s] }
theorem ok24 : TyOk PP 24 ty24 := ⟨by kernel_rfl, Tryz.underlying24⟩
abbrev t_api_Point : TypeId := 25
def ty25 : TyE := { size := 6, bytes := 80, desc := .struct #[{ name := "X", type := 23, offset := 0, embedded := false, tag := "", pkgPath := "", byteOffset := 0 }, { name := "Y", type := 23, offset := 3, embedded := false, tag := "", pkgPath := "", byteOffset := 40 }], zero := .agg #[.bool false, .string (⟨#[]⟩ : ByteArray), .string (⟨#[]⟩ : ByteArray), .bool false, .string (⟨#[]⟩ : ByteArray), .string (⟨#[]⟩ : ByteArray)], eqv := some [.b, .s, .s, .b, .s, .s] }
theorem ok25 : TyOk PP 25 ty25 := ⟨by kernel_rfl, Tryz.underlying25⟩
def ty26 : TyE := { size := 12, bytes := 160, desc := .struct #[{ name := "A", type := 25, offset := 0, embedded := false, tag := "", pkgPath := "", byteOffset := 0 }, { name := "B", type := 25, offset := 6, embedded := false, tag := "", pkgPath := "", byteOffset := 80 }], zero := .agg #[.bool false, .string (⟨#[]⟩ : ByteArray), .string (⟨#[]⟩ : ByteArray), .bool false, .string (⟨#[]⟩ : ByteArray), .string (⟨#[]⟩ : ByteArray), .bool false, .string (⟨#[]⟩ : ByteArray), .string (⟨#[]⟩ : ByteArray), .bool false, .string (⟨#[]⟩ : ByteArray), .string (⟨#[]⟩ : ByteArray)], eqv := some [.b, .s, .s, .b, .s, .s, .b, .s, .s, .b, .s, .s] }
theorem ok26 : TyOk PP 26 ty26 := ⟨by kernel_rfl, Tryz.underlying26⟩
abbrev t_api_Segment : TypeId := 27
def ty27 : TyE := { size := 12, bytes := 160, desc := .struct #[{ name := "A", type := 25, offset := 0, embedded := false, tag := "", pkgPath := "", byteOffset := 0 }, { name := "B", type := 25, offset := 6, embedded := false, tag := "", pkgPath := "", byteOffset := 80 }], zero := .agg #[.bool false, .string (⟨#[]⟩ : ByteArray), .string (⟨#[]⟩ : ByteArray), .bool false, .string (⟨#[]⟩ : ByteArray), .string (⟨#[]⟩ : ByteArray), .bool false, .string (⟨#[]⟩ : ByteArray), .string (⟨#[]⟩ : ByteArray), .bool false, .string (⟨#[]⟩ : ByteArray), .string (⟨#[]⟩ : ByteArray)], eqv := some [.b, .s, .s, .b, .s, .s, .b, .s, .s, .b, .s, .s] }
theorem ok27 : TyOk PP 27 ty27 := ⟨by kernel_rfl, Tryz.underlying27⟩
def ty28 : TyE := { size := 1, bytes := 8, desc := .func #[71] #[4] true, zero := .nilFunc, eqv := none }
theorem ok28 : TyOk PP 28 ty28 := ⟨by kernel_rfl, Tryz.underlying28⟩
def ty29 : TyE := { size := 1, bytes := 8, desc := .func #[42] #[4] true, zero := .nilFunc, eqv := none }
theorem ok29 : TyOk PP 29 ty29 := ⟨by kernel_rfl, Tryz.underlying29⟩
abbrev t_api_Errno : TypeId := 30
def ty30 : TyE := { size := 1, bytes := 8, desc := .int .i64, zero := .int .i64 0, eqv := none }
theorem ok30 : TyOk PP 30 ty30 := ⟨by kernel_rfl, Tryz.underlying30⟩
def ty31 : TyE := { size := 1, bytes := 8, desc := .func #[25] #[30] false, zero := .nilFunc, eqv := none }
theorem ok31 : TyOk PP 31 ty31 := ⟨by kernel_rfl, Tryz.underlying31⟩
def ty32 : TyE := { size := 1, bytes := 8, desc := .func #[] #[4] false, zero := .nilFunc, eqv := none }
theorem ok32 : TyOk PP 32 ty32 := ⟨by kernel_rfl, Tryz.underlying32⟩
def ty34 : TyE := { size := 1, bytes := 8, desc := .func #[27, 25] #[23, 30] false, zero := .nilFunc, eqv := none }
theorem ok34 : TyOk PP 34 ty34 := ⟨by kernel_rfl, Tryz.underlying34⟩
def ty36 : TyE := { size := 1, bytes := 8, desc := .func #[27, 25] #[25, 30] false, zero := .nilFunc, eqv := none }
theorem ok36 : TyOk PP 36 ty36 := ⟨by kernel_rfl, Tryz.underlying36⟩
def ty37 : TyE := { size := 1, bytes := 8, desc := .func #[23, 23] #[23, 30] false, zero := .nilFunc, eqv := none }
theorem ok37 : TyOk PP 37 ty37 := ⟨by kernel_rfl, Tryz.underlying37⟩
def ty38 : TyE := { size := 1, bytes := 8, desc := .func #[3] #[23] false, zero := .nilFunc, eqv := none }
theorem ok38 : TyOk PP 38 ty38 := ⟨by kernel_rfl, Tryz.underlying38⟩
def ty39 : TyE := { size := 1, bytes := 8, desc := .func #[23, 23] #[23] false, zero := .nilFunc, eqv := none }
theorem ok39 : TyOk PP 39 ty39 := ⟨by kernel_rfl, Tryz.underlying39⟩
def ty40 : TyE := { size := 1, bytes := 8, desc := .func #[25, 25] #[23] false, zero := .nilFunc, eqv := none }
theorem ok40 : TyOk PP 40 ty40 := ⟨by kernel_rfl, Tryz.underlying40⟩
def ty41 : TyE := { size := 1, bytes := 8, desc := .func #[25, 25, 23] #[25] false, zero := .nilFunc, eqv := none }
theorem ok41 : TyOk PP 41 ty41 := ⟨by kernel_rfl, Tryz.underlying41⟩
abbrev t_sl_api_Point : TypeId := 42
def ty42 : TyE := { size := 1, bytes := 24, desc := .slice 25, zero := .slice none 0 0, eqv := none }
theorem ok42 : TyOk PP 42 ty42 := ⟨by kernel_rfl, Tryz.underlying42⟩
def ty43 : TyE := { size := 1, bytes := 8, desc := .func #[23, 23] #[3] false, zero := .nilFunc, eqv := none }
theorem ok43 : TyOk PP 43 ty43 := ⟨by kernel_rfl, Tryz.underlying43⟩
def ty44 : TyE := { size := 1, bytes := 8, desc := .func #[23] #[3] false, zero := .nilFunc, eqv := none }
theorem ok44 : TyOk PP 44 ty44 := ⟨by kernel_rfl, Tryz.underlying44⟩
def ty45 : TyE := { size := 1, bytes := 8, desc := .func #[27, 25] #[4] false, zero := .nilFunc, eqv := none }
theorem ok45 : TyOk PP 45 ty45 := ⟨by kernel_rfl, Tryz.underlying45⟩
def ty46 : TyE := { size := 1, bytes := 8, desc := .func #[27, 25, 23] #[4] false, zero := .nilFunc, eqv := none }
theorem ok46 : TyOk PP 46 ty46 := ⟨by kernel_rfl, Tryz.underlying46⟩
def ty47 : TyE := { size := 1, bytes := 24, desc := .slice 42, zero := .slice none 0 0, eqv := none }
theorem ok47 : TyOk PP 47 ty47 := ⟨by kernel_rfl, Tryz.underlying47⟩
def ty48 : TyE := { size := 2, bytes := 48, desc := .struct #[{ name := "Outer", type := 42, offset := 0, embedded := false, tag := "", pkgPath := "", byteOffset := 0 }, { name := "Holes", type := 47, offset := 1, embedded := false, tag := "", pkgPath := "", byteOffset := 24 }], zero := .agg #[.slice none 0 0, .slice none 0 0], eqv := none }
theorem ok48 : TyOk PP 48 ty48 := ⟨by kernel_rfl, Tryz.underlying48⟩
abbrev t_api_Polygon : TypeId := 49
def ty49 : TyE := { size := 2, bytes := 48, desc := .struct #[{ name := "Outer", type := 42, offset := 0, embedded := false, tag := "", pkgPath := "", byteOffset := 0 }, { name := "Holes", type := 47, offset := 1, embedded := false, tag := "", pkgPath := "", byteOffset := 24 }], zero := .agg #[.slice none 0 0, .slice none 0 0], eqv := none }
theorem ok49 : TyOk PP 49 ty49 := ⟨by kernel_rfl, Tryz.underlying49⟩
def ty50 : TyE := { size := 1, bytes := 8, desc := .func #[49] #[4] false, zero := .nilFunc, eqv := none }
theorem ok50 : TyOk PP 50 ty50 := ⟨by kernel_rfl, Tryz.underlying50⟩
def ty52 : TyE := { size := 1, bytes := 8, desc := .func #[49, 49] #[23, 27, 30] false, zero := .nilFunc, eqv := none }
theorem ok52 : TyOk PP 52 ty52 := ⟨by kernel_rfl, Tryz.underlying52⟩
def ty53 : TyE := { size := 1, bytes := 8, desc := .func #[49, 25] #[23, 30] false, zero := .nilFunc, eqv := none }
theorem ok53 : TyOk PP 53 ty53 := ⟨by kernel_rfl, Tryz.underlying53⟩
def ty54 : TyE := { size := 1, bytes := 8, desc := .func #[49, 49, 25] #[4] false, zero := .nilFunc, eqv := none }
theorem ok54 : TyOk PP 54 ty54 := ⟨by kernel_rfl, Tryz.underlying54⟩
def ty55 : TyE := { size := 1, bytes := 8, desc := .func #[27, 27] #[23, 30] false, zero := .nilFunc, eqv := none }
theorem ok55 : TyOk PP 55 ty55 := ⟨by kernel_rfl, Tryz.underlying55⟩
def ty56 : TyE := { size := 1, bytes := 8, desc := .func #[27, 27, 25] #[4] false, zero := .nilFunc, eqv := none }
theorem ok56 : TyOk PP 56 ty56 := ⟨by kernel_rfl, Tryz.underlying56⟩
def ty57 : TyE := { size := 1, bytes := 8, desc := .func #[25, 25] #[25] false, zero := .nilFunc, eqv := none }
theorem ok57 : TyOk PP 57 ty57 := ⟨by kernel_rfl, Tryz.underlying57⟩
def ty58 : TyE := { size := 1, bytes := 8, desc := .func #[27] #[27] false, zero := .nilFunc, eqv := none }
theorem ok58 : TyOk PP 58 ty58 := ⟨by kernel_rfl, Tryz.underlying58⟩
def ty59 : TyE := { size := 24, bytes := 320, desc := .array 2 27, zero := .agg #[.bool false, .string (⟨#[]⟩ : ByteArray), .string (⟨#[]⟩ : ByteArray), .bool false, .string (⟨#[]⟩ : ByteArray), .string (⟨#[]⟩ : ByteArray), .bool false, .string (⟨#[]⟩ : ByteArray), .string (⟨#[]⟩ : ByteArray), .bool false, .string (⟨#[]⟩ : ByteArray), .string (⟨#[]⟩ : ByteArray), .bool false, .string (⟨#[]⟩ : ByteArray), .string (⟨#[]⟩ : ByteArray), .bool false, .string (⟨#[]⟩ : ByteArray), .string (⟨#[]⟩ : ByteArray), .bool false, .string (⟨#[]⟩ : ByteArray), .string (⟨#[]⟩ : ByteArray), .bool false, .string (⟨#[]⟩ : ByteArray), .string (⟨#[]⟩ : ByteArray)], eqv := none }
theorem ok59 : TyOk PP 59 ty59 := ⟨by kernel_rfl, Tryz.underlying59⟩
def ty60 : TyE := { size := 1, bytes := 24, desc := .slice 59, zero := .slice none 0 0, eqv := none }
theorem ok60 : TyOk PP 60 ty60 := ⟨by kernel_rfl, Tryz.underlying60⟩
def ty62 : TyE := { size := 1, bytes := 8, desc := .func #[27, 27] #[27, 4, 30] false, zero := .nilFunc, eqv := none }
theorem ok62 : TyOk PP 62 ty62 := ⟨by kernel_rfl, Tryz.underlying62⟩
def ty63 : TyE := { size := 1, bytes := 8, desc := .func #[42] #[4] false, zero := .nilFunc, eqv := none }
theorem ok63 : TyOk PP 63 ty63 := ⟨by kernel_rfl, Tryz.underlying63⟩
def ty64 : TyE := { size := 1, bytes := 8, desc := .func #[42, 42] #[23, 30] false, zero := .nilFunc, eqv := none }
theorem ok64 : TyOk PP 64 ty64 := ⟨by kernel_rfl, Tryz.underlying64⟩
def ty65 : TyE := { size := 1, bytes := 8, desc := .func #[42, 42] #[4] false, zero := .nilFunc, eqv := none }
theorem ok65 : TyOk PP 65 ty65 := ⟨by kernel_rfl, Tryz.underlying65⟩
def ty66 : TyE := { size := 1, bytes := 8, desc := .func #[42] #[30] false, zero := .nilFunc, eqv := none }
theorem ok66 : TyOk PP 66 ty66 := ⟨by kernel_rfl, Tryz.underlying66⟩
def ty68 : TyE := { size := 1, bytes := 8, desc := .func #[42, 42] #[4, 30] false, zero := .nilFunc, eqv := none }
theorem ok68 : TyOk PP 68 ty68 := ⟨by kernel_rfl, Tryz.underlying68⟩
def ty69 : TyE := { size := 1, bytes := 8, desc := .func #[3, 3] #[25] false, zero := .nilFunc, eqv := none }
theorem ok69 : TyOk PP 69 ty69 := ⟨by kernel_rfl, Tryz.underlying69⟩
def ty70 : TyE := { size := 1, bytes := 8, desc := .func #[42, 42, 25] #[4] false, zero := .nilFunc, eqv := none }
theorem ok70 : TyOk PP 70 ty70 := ⟨by kernel_rfl, Tryz.underlying70⟩
abbrev t_sl_api_Segment : TypeId := 71
def ty71 : TyE := { size := 1, bytes := 24, desc := .slice 27, zero := .slice none 0 0, eqv := none }
theorem ok71 : TyOk PP 71 ty71 := ⟨by kernel_rfl, Tryz.underlying71⟩
def ty72 : TyE := { size := 1, bytes := 8, desc := .func #[71, 74] #[4] false, zero := .nilFunc, eqv := none }
theorem ok72 : TyOk PP 72 ty72 := ⟨by kernel_rfl, Tryz.underlying72⟩
def ty73 : TyE := { size := 1, bytes := 8, desc := .func #[27] #[30] false, zero := .nilFunc, eqv := none }
theorem ok73 : TyOk PP 73 ty73 := ⟨by kernel_rfl, Tryz.underlying73⟩
def ty74 : TyE := { size := 1, bytes := 8, desc := .func #[27] #[4] false, zero := .nilFunc, eqv := none }
theorem ok74 : TyOk PP 74 ty74 := ⟨by kernel_rfl, Tryz.underlying74⟩
def ty75 : TyE := { size := 1, bytes := 24, desc := .slice 23, zero := .slice none 0 0, eqv := none }
theorem ok75 : TyOk PP 75 ty75 := ⟨by kernel_rfl, Tryz.underlying75⟩
def ty76 : TyE := { size := 1, bytes := 8, desc := .func #[23] #[30] false, zero := .nilFunc, eqv := none }
theorem ok76 : TyOk PP 76 ty76 := ⟨by kernel_rfl, Tryz.underlying76⟩
def ty77 : TyE := { size := 1, bytes := 8, desc := .func #[42, 71] #[30] true, zero := .nilFunc, eqv := none }
theorem ok77 : TyOk PP 77 ty77 := ⟨by kernel_rfl, Tryz.underlying77⟩
def ty78 : TyE := { size := 1, bytes := 8, desc := .func #[27, 25] #[25] false, zero := .nilFunc, eqv := none }
theorem ok78 : TyOk PP 78 ty78 := ⟨by kernel_rfl, Tryz.underlying78⟩
def ty79 : TyE := { size := 2, bytes := 16, desc := .struct #[{ name := "between", type := 40, offset := 0, embedded := false, tag := "", pkgPath := "narrows/distance", byteOffset := 0 }, { name := "nearest", type := 78, offset := 1, embedded := false, tag := "", pkgPath := "narrows/distance", byteOffset := 8 }], zero := .agg #[.nilFunc, .nilFunc], eqv := none }
theorem ok79 : TyOk PP 79 ty79 := ⟨by kernel_rfl, Tryz.underlying79⟩
abbrev t_distance_metric : TypeId := 80
def ty80 : TyE := { size := 2, bytes := 16, desc := .struct #[{ name := "between", type := 40, offset := 0, embedded := false, tag := "", pkgPath := "narrows/distance", byteOffset := 0 }, { name := "nearest", type := 78, offset := 1, embedded := false, tag := "", pkgPath := "narrows/distance", byteOffset := 8 }], zero := .agg #[.nilFunc, .nilFunc], eqv := none }
theorem ok80 : TyOk PP 80 ty80 := ⟨by kernel_rfl, Tryz.underlying80⟩
def ty81 : TyE := { size := 1, bytes := 8, desc := .func #[] #[80] false, zero := .nilFunc, eqv := none }
theorem ok81 : TyOk PP 81 ty81 := ⟨by kernel_rfl, Tryz.underlying81⟩
def ty82 : TyE := { size := 1, bytes := 8, desc := .func #[27, 25] #[23] false, zero := .nilFunc, eqv := none }
theorem ok82 : TyOk PP 82 ty82 := ⟨by kernel_rfl, Tryz.underlying82⟩
def ty83 : TyE := { size := 1, bytes := 8, desc := .func #[25] #[25] false, zero := .nilFunc, eqv := none }
theorem ok83 : TyOk PP 83 ty83 := ⟨by kernel_rfl, Tryz.underlying83⟩
def ty84 : TyE := { size := 2, bytes := 24, desc := .struct #[{ name := "Neg", type := 4, offset := 0, embedded := false, tag := "", pkgPath := "", byteOffset := 0 }, { name := "Mag", type := 9, offset := 1, embedded := false, tag := "", pkgPath := "", byteOffset := 8 }], zero := .agg #[.bool false, .string (⟨#[]⟩ : ByteArray)], eqv := some [.b, .s] }
theorem ok84 : TyOk PP 84 ty84 := ⟨by kernel_rfl, Tryz.underlying84⟩
abbrev t_api_Int : TypeId := 85
def ty85 : TyE := { size := 2, bytes := 24, desc := .struct #[{ name := "Neg", type := 4, offset := 0, embedded := false, tag := "", pkgPath := "", byteOffset := 0 }, { name := "Mag", type := 9, offset := 1, embedded := false, tag := "", pkgPath := "", byteOffset := 8 }], zero := .agg #[.bool false, .string (⟨#[]⟩ : ByteArray)], eqv := some [.b, .s] }
theorem ok85 : TyOk PP 85 ty85 := ⟨by kernel_rfl, Tryz.underlying85⟩
def ty86 : TyE := { size := 4, bytes := 48, desc := .struct #[{ name := "n", type := 85, offset := 0, embedded := false, tag := "", pkgPath := "narrows/rational", byteOffset := 0 }, { name := "d", type := 85, offset := 2, embedded := false, tag := "", pkgPath := "narrows/rational", byteOffset := 24 }], zero := .agg #[.bool false, .string (⟨#[]⟩ : ByteArray), .bool false, .string (⟨#[]⟩ : ByteArray)], eqv := some [.b, .s, .b, .s] }
theorem ok86 : TyOk PP 86 ty86 := ⟨by kernel_rfl, Tryz.underlying86⟩
def ty87 : TyE := { size := 4, bytes := 48, desc := .struct #[{ name := "n", type := 85, offset := 0, embedded := false, tag := "", pkgPath := "narrows/rational", byteOffset := 0 }, { name := "d", type := 85, offset := 2, embedded := false, tag := "", pkgPath := "narrows/rational", byteOffset := 24 }], zero := .agg #[.bool false, .string (⟨#[]⟩ : ByteArray), .bool false, .string (⟨#[]⟩ : ByteArray)], eqv := some [.b, .s, .b, .s] }
theorem ok87 : TyOk PP 87 ty87 := ⟨by kernel_rfl, Tryz.underlying87⟩
def ty88 : TyE := { size := 1, bytes := 8, desc := .func #[23] #[87] false, zero := .nilFunc, eqv := none }
theorem ok88 : TyOk PP 88 ty88 := ⟨by kernel_rfl, Tryz.underlying88⟩
def ty89 : TyE := { size := 1, bytes := 8, desc := .func #[85, 85] #[23, 30] false, zero := .nilFunc, eqv := none }
theorem ok89 : TyOk PP 89 ty89 := ⟨by kernel_rfl, Tryz.underlying89⟩
def ty90 : TyE := { size := 1, bytes := 8, desc := .func #[85, 85] #[85] false, zero := .nilFunc, eqv := none }
theorem ok90 : TyOk PP 90 ty90 := ⟨by kernel_rfl, Tryz.underlying90⟩
def ty91 : TyE := { size := 1, bytes := 8, desc := .func #[3] #[85] false, zero := .nilFunc, eqv := none }
theorem ok91 : TyOk PP 91 ty91 := ⟨by kernel_rfl, Tryz.underlying91⟩
def ty92 : TyE := { size := 1, bytes := 8, desc := .func #[] #[23] false, zero := .nilFunc, eqv := none }
theorem ok92 : TyOk PP 92 ty92 := ⟨by kernel_rfl, Tryz.underlying92⟩
def ty93 : TyE := { size := 1, bytes := 8, desc := .func #[23, 23, 95, 96] #[23] false, zero := .nilFunc, eqv := none }
theorem ok93 : TyOk PP 93 ty93 := ⟨by kernel_rfl, Tryz.underlying93⟩
def ty94 : TyE := { size := 1, bytes := 8, desc := .func #[3, 3] #[23] false, zero := .nilFunc, eqv := none }
theorem ok94 : TyOk PP 94 ty94 := ⟨by kernel_rfl, Tryz.underlying94⟩
def ty95 : TyE := { size := 1, bytes := 8, desc := .func #[3, 3, 3, 3] #[23] false, zero := .nilFunc, eqv := none }
theorem ok95 : TyOk PP 95 ty95 := ⟨by kernel_rfl, Tryz.underlying95⟩
def ty96 : TyE := { size := 1, bytes := 8, desc := .func #[87, 87] #[23] false, zero := .nilFunc, eqv := none }
theorem ok96 : TyOk PP 96 ty96 := ⟨by kernel_rfl, Tryz.underlying96⟩
def ty97 : TyE := { size := 1, bytes := 8, desc := .func #[25, 23] #[25] false, zero := .nilFunc, eqv := none }
theorem ok97 : TyOk PP 97 ty97 := ⟨by kernel_rfl, Tryz.underlying97⟩
def ty98 : TyE := { size := 1, bytes := 8, desc := .func #[23, 23, 99, 101] #[3] false, zero := .nilFunc, eqv := none }
theorem ok98 : TyOk PP 98 ty98 := ⟨by kernel_rfl, Tryz.underlying98⟩
def ty99 : TyE := { size := 1, bytes := 8, desc := .func #[3, 3, 3, 3] #[3] false, zero := .nilFunc, eqv := none }
theorem ok99 : TyOk PP 99 ty99 := ⟨by kernel_rfl, Tryz.underlying99⟩
def ty100 : TyE := { size := 1, bytes := 8, desc := .func #[85, 85] #[3] false, zero := .nilFunc, eqv := none }
theorem ok100 : TyOk PP 100 ty100 := ⟨by kernel_rfl, Tryz.underlying100⟩
def ty101 : TyE := { size := 1, bytes := 8, desc := .func #[87, 87] #[3] false, zero := .nilFunc, eqv := none }
theorem ok101 : TyOk PP 101 ty101 := ⟨by kernel_rfl, Tryz.underlying101⟩
def ty102 : TyE := { size := 1, bytes := 8, desc := .func #[3, 75] #[23] true, zero := .nilFunc, eqv := none }
theorem ok102 : TyOk PP 102 ty102 := ⟨by kernel_rfl, Tryz.underlying102⟩
def ty103 : TyE := { size := 1, bytes := 8, desc := .func #[23] #[23] false, zero := .nilFunc, eqv := none }
theorem ok103 : TyOk PP 103 ty103 := ⟨by kernel_rfl, Tryz.underlying103⟩
def ty104 : TyE := { size := 1, bytes := 8, desc := .func #[25, 25, 25] #[4] false, zero := .nilFunc, eqv := none }
theorem ok104 : TyOk PP 104 ty104 := ⟨by kernel_rfl, Tryz.underlying104⟩
def ty105 : TyE := { size := 1, bytes := 8, desc := .func #[49] #[30] false, zero := .nilFunc, eqv := none }
theorem ok105 : TyOk PP 105 ty105 := ⟨by kernel_rfl, Tryz.underlying105⟩
def ty106 : TyE := { size := 1, bytes := 8, desc := .func #[130] #[] false, zero := .nilFunc, eqv := none }
theorem ok106 : TyOk PP 106 ty106 := ⟨by kernel_rfl, Tryz.underlying106⟩
def ty107 : TyE := { size := 1, bytes := 8, desc := .func #[130] #[] false, zero := .nilFunc, eqv := none }
theorem ok107 : TyOk PP 107 ty107 := ⟨by kernel_rfl, Tryz.underlying107⟩
def ty108 : TyE := { size := 1, bytes := 8, desc := .func #[49, 49] #[107] false, zero := .nilFunc, eqv := none }
theorem ok108 : TyOk PP 108 ty108 := ⟨by kernel_rfl, Tryz.underlying108⟩
def ty109 : TyE := { size := 1, bytes := 8, desc := .func #[25, 25] #[3] false, zero := .nilFunc, eqv := none }
theorem ok109 : TyOk PP 109 ty109 := ⟨by kernel_rfl, Tryz.underlying109⟩
def ty110 : TyE := { size := 1, bytes := 8, desc := .func #[74] #[] false, zero := .nilFunc, eqv := none }
theorem ok110 : TyOk PP 110 ty110 := ⟨by kernel_rfl, Tryz.underlying110⟩
def ty111 : TyE := { size := 1, bytes := 8, desc := .func #[74] #[] false, zero := .nilFunc, eqv := none }
theorem ok111 : TyOk PP 111 ty111 := ⟨by kernel_rfl, Tryz.underlying111⟩
def ty112 : TyE := { size := 1, bytes := 8, desc := .func #[49, 49] #[111] false, zero := .nilFunc, eqv := none }
theorem ok112 : TyOk PP 112 ty112 := ⟨by kernel_rfl, Tryz.underlying112⟩
def ty113 : TyE := { size := 1, bytes := 8, desc := .func #[27, 27] #[4] false, zero := .nilFunc, eqv := none }
theorem ok113 : TyOk PP 113 ty113 := ⟨by kernel_rfl, Tryz.underlying113⟩
def ty114 : TyE := { size := 16, bytes := 208, desc := .struct #[{ name := "is", type := 4, offset := 0, embedded := false, tag := "", pkgPath := "narrows/narrowsref26", byteOffset := 0 }, { name := "square", type := 23, offset := 1, embedded := false, tag := "", pkgPath := "narrows/narrowsref26", byteOffset := 8 }, { name := "nearest", type := 27, offset := 4, embedded := false, tag := "", pkgPath := "narrows/narrowsref26", byteOffset := 48 }], zero := .agg #[.bool false, .bool false, .string (⟨#[]⟩ : ByteArray), .string (⟨#[]⟩ : ByteArray), .bool false, .string (⟨#[]⟩ : ByteArray), .string (⟨#[]⟩ : ByteArray), .bool false, .string (⟨#[]⟩ : ByteArray), .string (⟨#[]⟩ : ByteArray), .bool false, .string (⟨#[]⟩ : ByteArray), .string (⟨#[]⟩ : ByteArray), .bool false, .string (⟨#[]⟩ : ByteArray), .string (⟨#[]⟩ : ByteArray)], eqv := some [.b, .b, .s, .s, .b, .s, .s, .b, .s, .s, .b, .s, .s, .b, .s, .s] }
theorem ok114 : TyOk PP 114 ty114 := ⟨by kernel_rfl, Tryz.underlying114⟩
def ty115 : TyE := { size := 16, bytes := 208, desc := .struct #[{ name := "is", type := 4, offset := 0, embedded := false, tag := "", pkgPath := "narrows/narrowsref26", byteOffset := 0 }, { name := "square", type := 23, offset := 1, embedded := false, tag := "", pkgPath := "narrows/narrowsref26", byteOffset := 8 }, { name := "nearest", type := 27, offset := 4, embedded := false, tag := "", pkgPath := "narrows/narrowsref26", byteOffset := 48 }], zero := .agg #[.bool false, .bool false, .string (⟨#[]⟩ : ByteArray), .string (⟨#[]⟩ : ByteArray), .bool false, .string (⟨#[]⟩ : ByteArray), .string (⟨#[]⟩ : ByteArray), .bool false, .string (⟨#[]⟩ : ByteArray), .string (⟨#[]⟩ : ByteArray), .bool false, .string (⟨#[]⟩ : ByteArray), .string (⟨#[]⟩ : ByteArray), .bool false, .string (⟨#[]⟩ : ByteArray), .string (⟨#[]⟩ : ByteArray)], eqv := some [.b, .b, .s, .s, .b, .s, .s, .b, .s, .s, .b, .s, .s, .b, .s, .s] }
theorem ok115 : TyOk PP 115 ty115 := ⟨by kernel_rfl, Tryz.underlying115⟩
def ty116 : TyE := { size := 1, bytes := 8, desc := .func #[49, 49] #[115] false, zero := .nilFunc, eqv := none }
theorem ok116 : TyOk PP 116 ty116 := ⟨by kernel_rfl, Tryz.underlying116⟩
def ty118 : TyE := { size := 1, bytes := 8, desc := .func #[49] #[42, 30] false, zero := .nilFunc, eqv := none }
theorem ok118 : TyOk PP 118 ty118 := ⟨by kernel_rfl, Tryz.underlying118⟩
def ty120 : TyE := { size := 1, bytes := 8, desc := .func #[49] #[71, 30] false, zero := .nilFunc, eqv := none }
theorem ok120 : TyOk PP 120 ty120 := ⟨by kernel_rfl, Tryz.underlying120⟩
def ty121 : TyE := { size := 1, bytes := 8, desc := .func #[115, 25, 25] #[115] false, zero := .nilFunc, eqv := none }
theorem ok121 : TyOk PP 121 ty121 := ⟨by kernel_rfl, Tryz.underlying121⟩
def ty123 : TyE := { size := 1, bytes := 8, desc := .func #[49, 25] #[3, 30] false, zero := .nilFunc, eqv := none }
theorem ok123 : TyOk PP 123 ty123 := ⟨by kernel_rfl, Tryz.underlying123⟩
def ty124 : TyE := { size := 1, bytes := 8, desc := .func #[75] #[23] true, zero := .nilFunc, eqv := none }
theorem ok124 : TyOk PP 124 ty124 := ⟨by kernel_rfl, Tryz.underlying124⟩
def ty125 : TyE := { size := 1, bytes := 8, desc := .func #[42, 71] #[30] false, zero := .nilFunc, eqv := none }
theorem ok125 : TyOk PP 125 ty125 := ⟨by kernel_rfl, Tryz.underlying125⟩
def ty126 : TyE := { size := 1, bytes := 8, desc := .func #[27, 27] #[23] false, zero := .nilFunc, eqv := none }
theorem ok126 : TyOk PP 126 ty126 := ⟨by kernel_rfl, Tryz.underlying126⟩
def ty127 : TyE := { size := 1, bytes := 8, desc := .func #[25, 25, 39] #[25] false, zero := .nilFunc, eqv := none }
theorem ok127 : TyOk PP 127 ty127 := ⟨by kernel_rfl, Tryz.underlying127⟩
def ty129 : TyE := { size := 1, bytes := 8, desc := .func #[27, 27] #[27, 4] false, zero := .nilFunc, eqv := none }
theorem ok129 : TyOk PP 129 ty129 := ⟨by kernel_rfl, Tryz.underlying129⟩
abbrev t_fn_api_Point_to_bool : TypeId := 130
def ty130 : TyE := { size := 1, bytes := 8, desc := .func #[25] #[4] false, zero := .nilFunc, eqv := none }
theorem ok130 : TyOk PP 130 ty130 := ⟨by kernel_rfl, Tryz.underlying130⟩
def ty131 : TyE := { size := 1, bytes := 8, desc := .func #[42] #[71] false, zero := .nilFunc, eqv := none }
theorem ok131 : TyOk PP 131 ty131 := ⟨by kernel_rfl, Tryz.underlying131⟩
def ty132 : TyE := { size := 1, bytes := 8, desc := .func #[42, 130] #[4] false, zero := .nilFunc, eqv := none }
theorem ok132 : TyOk PP 132 ty132 := ⟨by kernel_rfl, Tryz.underlying132⟩
def ty133 : TyE := { size := 1, bytes := 8, desc := .func #[173] #[] false, zero := .nilFunc, eqv := none }
theorem ok133 : TyOk PP 133 ty133 := ⟨by kernel_rfl, Tryz.underlying133⟩
def ty134 : TyE := { size := 1, bytes := 8, desc := .func #[173] #[] false, zero := .nilFunc, eqv := none }
theorem ok134 : TyOk PP 134 ty134 := ⟨by kernel_rfl, Tryz.underlying134⟩
def ty135 : TyE := { size := 1, bytes := 8, desc := .func #[42] #[134] false, zero := .nilFunc, eqv := none }
theorem ok135 : TyOk PP 135 ty135 := ⟨by kernel_rfl, Tryz.underlying135⟩
def ty136 : TyE := { size := 1, bytes := 8, desc := .func #[25, 25, 25] #[3] false, zero := .nilFunc, eqv := none }
theorem ok136 : TyOk PP 136 ty136 := ⟨by kernel_rfl, Tryz.underlying136⟩
def ty137 : TyE := { size := 1, bytes := 8, desc := .func #[42, 42, 138] #[27, 4] false, zero := .nilFunc, eqv := none }
theorem ok137 : TyOk PP 137 ty137 := ⟨by kernel_rfl, Tryz.underlying137⟩
abbrev t_fn_int_to_bool : TypeId := 138
def ty138 : TyE := { size := 1, bytes := 8, desc := .func #[3] #[4] false, zero := .nilFunc, eqv := none }
theorem ok138 : TyOk PP 138 ty138 := ⟨by kernel_rfl, Tryz.underlying138⟩
def ty139 : TyE := { size := 1, bytes := 8, desc := .func #[71, 74] #[3] false, zero := .nilFunc, eqv := none }
theorem ok139 : TyOk PP 139 ty139 := ⟨by kernel_rfl, Tryz.underlying139⟩
def ty140 : TyE := { size := 1, bytes := 8, desc := .func #[170] #[] false, zero := .nilFunc, eqv := none }
theorem ok140 : TyOk PP 140 ty140 := ⟨by kernel_rfl, Tryz.underlying140⟩
def ty141 : TyE := { size := 1, bytes := 8, desc := .func #[170] #[] false, zero := .nilFunc, eqv := none }
theorem ok141 : TyOk PP 141 ty141 := ⟨by kernel_rfl, Tryz.underlying141⟩
def ty142 : TyE := { size := 1, bytes := 8, desc := .func #[27, 25] #[141] false, zero := .nilFunc, eqv := none }
theorem ok142 : TyOk PP 142 ty142 := ⟨by kernel_rfl, Tryz.underlying142⟩
def ty143 : TyE := { size := 1, bytes := 8, desc := .func #[27] #[25] false, zero := .nilFunc, eqv := none }
theorem ok143 : TyOk PP 143 ty143 := ⟨by kernel_rfl, Tryz.underlying143⟩
def ty144 : TyE := { size := 1, bytes := 8, desc := .func #[4, 9] #[85] false, zero := .nilFunc, eqv := none }
theorem ok144 : TyOk PP 144 ty144 := ⟨by kernel_rfl, Tryz.underlying144⟩
def ty145 : TyE := { size := 1, bytes := 8, desc := .func #[85, 3] #[4] false, zero := .nilFunc, eqv := none }
theorem ok145 : TyOk PP 145 ty145 := ⟨by kernel_rfl, Tryz.underlying145⟩
def ty146 : TyE := { size := 1, bytes := 8, desc := .func #[85] #[85] false, zero := .nilFunc, eqv := none }
theorem ok146 : TyOk PP 146 ty146 := ⟨by kernel_rfl, Tryz.underlying146⟩
def ty147 : TyE := { size := 1, bytes := 8, desc := .func #[4, 149] #[85] false, zero := .nilFunc, eqv := none }
theorem ok147 : TyOk PP 147 ty147 := ⟨by kernel_rfl, Tryz.underlying147⟩
def ty148 : TyE := { size := 1, bytes := 24, desc := .slice 153, zero := .slice none 0 0, eqv := none }
theorem ok148 : TyOk PP 148 ty148 := ⟨by kernel_rfl, Tryz.underlying148⟩
def ty149 : TyE := { size := 1, bytes := 24, desc := .slice 153, zero := .slice none 0 0, eqv := none }
theorem ok149 : TyOk PP 149 ty149 := ⟨by kernel_rfl, Tryz.underlying149⟩
def ty150 : TyE := { size := 1, bytes := 8, desc := .func #[9] #[149] false, zero := .nilFunc, eqv := none }
theorem ok150 : TyOk PP 150 ty150 := ⟨by kernel_rfl, Tryz.underlying150⟩
def ty151 : TyE := { size := 1, bytes := 8, desc := .func #[149] #[149] false, zero := .nilFunc, eqv := none }
theorem ok151 : TyOk PP 151 ty151 := ⟨by kernel_rfl, Tryz.underlying151⟩
def ty152 : TyE := { size := 1, bytes := 8, desc := .int .u64, zero := .int .u64 0, eqv := none }
theorem ok152 : TyOk PP 152 ty152 := ⟨by kernel_rfl, Tryz.underlying152⟩
abbrev t_uint32 : TypeId := 153
def ty153 : TyE := { size := 1, bytes := 4, desc := .int .u32, zero := .int .u32 0, eqv := none }
theorem ok153 : TyOk PP 153 ty153 := ⟨by kernel_rfl, Tryz.underlying153⟩
def ty154 : TyE := { size := 1, bytes := 8, desc := .int .u64, zero := .int .u64 0, eqv := none }
theorem ok154 : TyOk PP 154 ty154 := ⟨by kernel_rfl, Tryz.underlying154⟩
def ty156 : TyE := { size := 1, bytes := 8, desc := .func #[85, 85] #[85, 85, 30] false, zero := .nilFunc, eqv := none }
theorem ok156 : TyOk PP 156 ty156 := ⟨by kernel_rfl, Tryz.underlying156⟩
def ty158 : TyE := { size := 1, bytes := 8, desc := .func #[23] #[3, 3, 4] false, zero := .nilFunc, eqv := none }
theorem ok158 : TyOk PP 158 ty158 := ⟨by kernel_rfl, Tryz.underlying158⟩
def ty159 : TyE := { size := 1, bytes := 8, desc := .func #[3] #[9] false, zero := .nilFunc, eqv := none }
theorem ok159 : TyOk PP 159 ty159 := ⟨by kernel_rfl, Tryz.underlying159⟩
def ty161 : TyE := { size := 1, bytes := 8, desc := .func #[85] #[3, 4] false, zero := .nilFunc, eqv := none }
theorem ok161 : TyOk PP 161 ty161 := ⟨by kernel_rfl, Tryz.underlying161⟩
def ty162 : TyE := { size := 1, bytes := 8, desc := .func #[149] #[3] false, zero := .nilFunc, eqv := none }
theorem ok162 : TyOk PP 162 ty162 := ⟨by kernel_rfl, Tryz.underlying162⟩
def ty163 : TyE := { size := 1, bytes := 8, desc := .func #[49, 3] #[30] false, zero := .nilFunc, eqv := none }
theorem ok163 : TyOk PP 163 ty163 := ⟨by kernel_rfl, Tryz.underlying163⟩
abbrev t_ar2_api_Polygon : TypeId := 164
def ty164 : TyE := { size := 4, bytes := 96, desc := .array 2 49, zero := .agg #[.slice none 0 0, .slice none 0 0, .slice none 0 0, .slice none 0 0], eqv := none }
theorem ok164 : TyOk PP 164 ty164 := ⟨by kernel_rfl, Tryz.underlying164⟩
def ty165 : TyE := { size := 8, bytes := 192, desc := .array 2 164, zero := .agg #[.slice none 0 0, .slice none 0 0, .slice none 0 0, .slice none 0 0, .slice none 0 0, .slice none 0 0, .slice none 0 0, .slice none 0 0], eqv := none }
theorem ok165 : TyOk PP 165 ty165 := ⟨by kernel_rfl, Tryz.underlying165⟩
def ty166 : TyE := { size := 1, bytes := 8, desc := .func #[42, 25] #[4] false, zero := .nilFunc, eqv := none }
theorem ok166 : TyOk PP 166 ty166 := ⟨by kernel_rfl, Tryz.underlying166⟩
def ty167 : TyE := { size := 1, bytes := 8, desc := .func #[49, 25] #[3] false, zero := .nilFunc, eqv := none }
theorem ok167 : TyOk PP 167 ty167 := ⟨by kernel_rfl, Tryz.underlying167⟩
def ty168 : TyE := { size := 1, bytes := 8, desc := .func #[49] #[42] false, zero := .nilFunc, eqv := none }
theorem ok168 : TyOk PP 168 ty168 := ⟨by kernel_rfl, Tryz.underlying168⟩
def ty169 : TyE := { size := 1, bytes := 8, desc := .func #[49] #[71] false, zero := .nilFunc, eqv := none }
theorem ok169 : TyOk PP 169 ty169 := ⟨by kernel_rfl, Tryz.underlying169⟩
def ty170 : TyE := { size := 1, bytes := 8, desc := .func #[23] #[4] false, zero := .nilFunc, eqv := none }
theorem ok170 : TyOk PP 170 ty170 := ⟨by kernel_rfl, Tryz.underlying170⟩
def ty171 : TyE := { size := 1, bytes := 8, desc := .func #[42, 42, 4] #[3] false, zero := .nilFunc, eqv := none }
theorem ok171 : TyOk PP 171 ty171 := ⟨by kernel_rfl, Tryz.underlying171⟩
def ty172 : TyE := { size := 1, bytes := 8, desc := .func #[42, 130] #[3] false, zero := .nilFunc, eqv := none }
theorem ok172 : TyOk PP 172 ty172 := ⟨by kernel_rfl, Tryz.underlying172⟩
def ty173 : TyE := { size := 1, bytes := 8, desc := .func #[25, 25] #[4] false, zero := .nilFunc, eqv := none }
theorem ok173 : TyOk PP 173 ty173 := ⟨by kernel_rfl, Tryz.underlying173⟩
def ty174 : TyE := { size := 6, bytes := 80, desc := .array 2 23, zero := .agg #[.bool false, .string (⟨#[]⟩ : ByteArray), .string (⟨#[]⟩ : ByteArray), .bool false, .string (⟨#[]⟩ : ByteArray), .string (⟨#[]⟩ : ByteArray)], eqv := none }
theorem ok174 : TyOk PP 174 ty174 := ⟨by kernel_rfl, Tryz.underlying174⟩
def ty175 : TyE := { size := 24, bytes := 320, desc := .array 4 174, zero := .agg #[.bool false, .string (⟨#[]⟩ : ByteArray), .string (⟨#[]⟩ : ByteArray), .bool false, .string (⟨#[]⟩ : ByteArray), .string (⟨#[]⟩ : ByteArray), .bool false, .string (⟨#[]⟩ : ByteArray), .string (⟨#[]⟩ : ByteArray), .bool false, .string (⟨#[]⟩ : ByteArray), .string (⟨#[]⟩ : ByteArray), .bool false, .string (⟨#[]⟩ : ByteArray), .string (⟨#[]⟩ : ByteArray), .bool false, .string (⟨#[]⟩ : ByteArray), .string (⟨#[]⟩ : ByteArray), .bool false, .string (⟨#[]⟩ : ByteArray), .string (⟨#[]⟩ : ByteArray), .bool false, .string (⟨#[]⟩ : ByteArray), .string (⟨#[]⟩ : ByteArray)], eqv := none }
theorem ok175 : TyOk PP 175 ty175 := ⟨by kernel_rfl, Tryz.underlying175⟩
def ty176 : TyE := { size := 1, bytes := 8, desc := .func #[] #[149] false, zero := .nilFunc, eqv := none }
theorem ok176 : TyOk PP 176 ty176 := ⟨by kernel_rfl, Tryz.underlying176⟩
def ty177 : TyE := { size := 1, bytes := 8, desc := .func #[] #[9] false, zero := .nilFunc, eqv := none }
theorem ok177 : TyOk PP 177 ty177 := ⟨by kernel_rfl, Tryz.underlying177⟩
def ty178 : TyE := { size := 1, bytes := 8, desc := .func #[9] #[9] false, zero := .nilFunc, eqv := none }
theorem ok178 : TyOk PP 178 ty178 := ⟨by kernel_rfl, Tryz.underlying178⟩
def ty180 : TyE := { size := 1, bytes := 8, desc := .func #[149] #[149, 149] false, zero := .nilFunc, eqv := none }
theorem ok180 : TyOk PP 180 ty180 := ⟨by kernel_rfl, Tryz.underlying180⟩
def ty181 : TyE := { size := 1, bytes := 8, desc := .func #[9] #[3] false, zero := .nilFunc, eqv := none }
theorem ok181 : TyOk PP 181 ty181 := ⟨by kernel_rfl, Tryz.underlying181⟩
abbrev t_ar8_uint8 : TypeId := 182
def ty182 : TyE := { size := 8, bytes := 8, desc := .array 8 5, zero := .agg #[.int .u8 0, .int .u8 0, .int .u8 0, .int .u8 0, .int .u8 0, .int .u8 0, .int .u8 0, .int .u8 0], eqv := none }
theorem ok182 : TyOk PP 182 ty182 := ⟨by kernel_rfl, Tryz.underlying182⟩
def ty183 : TyE := { size := 1, bytes := 24, desc := .slice 5, zero := .slice none 0 0, eqv := none }
theorem ok183 : TyOk PP 183 ty183 := ⟨by kernel_rfl, Tryz.underlying183⟩
def ty185 : TyE := { size := 1, bytes := 8, desc := .func #[153, 153, 153] #[153, 153] false, zero := .nilFunc, eqv := none }
theorem ok185 : TyOk PP 185 ty185 := ⟨by kernel_rfl, Tryz.underlying185⟩
def ty186 : TyE := { size := 1, bytes := 8, desc := .func #[42] #[3] false, zero := .nilFunc, eqv := none }
theorem ok186 : TyOk PP 186 ty186 := ⟨by kernel_rfl, Tryz.underlying186⟩
def ty187 : TyE := { size := 1, bytes := 8, desc := .func #[42] #[23] false, zero := .nilFunc, eqv := none }
theorem ok187 : TyOk PP 187 ty187 := ⟨by kernel_rfl, Tryz.underlying187⟩
def ty188 : TyE := { size := 1, bytes := 8, desc := .func #[47, 63] #[4] false, zero := .nilFunc, eqv := none }
theorem ok188 : TyOk PP 188 ty188 := ⟨by kernel_rfl, Tryz.underlying188⟩
def ty189 : TyE := { size := 1, bytes := 8, desc := .func #[42, 25] #[3, 30] false, zero := .nilFunc, eqv := none }
theorem ok189 : TyOk PP 189 ty189 := ⟨by kernel_rfl, Tryz.underlying189⟩
def ty191 : TyE := { size := 1, bytes := 8, desc := .func #[23] #[85, 85] false, zero := .nilFunc, eqv := none }
theorem ok191 : TyOk PP 191 ty191 := ⟨by kernel_rfl, Tryz.underlying191⟩
def ty192 : TyE := { size := 1, bytes := 8, desc := .func #[85, 85] #[23] false, zero := .nilFunc, eqv := none }
theorem ok192 : TyOk PP 192 ty192 := ⟨by kernel_rfl, Tryz.underlying192⟩
def ty193 : TyE := { size := 1, bytes := 8, desc := .func #[208] #[] false, zero := .nilFunc, eqv := none }
theorem ok193 : TyOk PP 193 ty193 := ⟨by kernel_rfl, Tryz.underlying193⟩
def ty194 : TyE := { size := 1, bytes := 8, desc := .func #[208] #[] false, zero := .nilFunc, eqv := none }
theorem ok194 : TyOk PP 194 ty194 := ⟨by kernel_rfl, Tryz.underlying194⟩
def ty195 : TyE := { size := 1, bytes := 8, desc := .func #[49] #[194] false, zero := .nilFunc, eqv := none }
theorem ok195 : TyOk PP 195 ty195 := ⟨by kernel_rfl, Tryz.underlying195⟩
def ty197 : TyE := { size := 1, bytes := 8, desc := .func #[153] #[149, 153] false, zero := .nilFunc, eqv := none }
theorem ok197 : TyOk PP 197 ty197 := ⟨by kernel_rfl, Tryz.underlying197⟩
def ty198 : TyE := { size := 1, bytes := 8, desc := .func #[153] #[3] false, zero := .nilFunc, eqv := none }
theorem ok198 : TyOk PP 198 ty198 := ⟨by kernel_rfl, Tryz.underlying198⟩
def ty199 : TyE := { size := 1, bytes := 8, desc := .func #[3] #[149] false, zero := .nilFunc, eqv := none }
theorem ok199 : TyOk PP 199 ty199 := ⟨by kernel_rfl, Tryz.underlying199⟩
def ty200 : TyE := { size := 1, bytes := 8, desc := .func #[149, 3] #[153] false, zero := .nilFunc, eqv := none }
theorem ok200 : TyOk PP 200 ty200 := ⟨by kernel_rfl, Tryz.underlying200⟩
def ty201 : TyE := { size := 1, bytes := 8, desc := .func #[47, 63] #[3] false, zero := .nilFunc, eqv := none }
theorem ok201 : TyOk PP 201 ty201 := ⟨by kernel_rfl, Tryz.underlying201⟩
def ty202 : TyE := { size := 1, bytes := 8, desc := .func #[42, 3] #[25] false, zero := .nilFunc, eqv := none }
theorem ok202 : TyOk PP 202 ty202 := ⟨by kernel_rfl, Tryz.underlying202⟩
def ty203 : TyE := { size := 1, bytes := 8, desc := .func #[25, 25, 25, 25] #[4] false, zero := .nilFunc, eqv := none }
theorem ok203 : TyOk PP 203 ty203 := ⟨by kernel_rfl, Tryz.underlying203⟩
def ty204 : TyE := { size := 1, bytes := 8, desc := .func #[42, 25] #[3] false, zero := .nilFunc, eqv := none }
theorem ok204 : TyOk PP 204 ty204 := ⟨by kernel_rfl, Tryz.underlying204⟩
def ty205 : TyE := { size := 1, bytes := 8, desc := .func #[9, 9] #[3] false, zero := .nilFunc, eqv := none }
theorem ok205 : TyOk PP 205 ty205 := ⟨by kernel_rfl, Tryz.underlying205⟩
def ty206 : TyE := { size := 1, bytes := 8, desc := .func #[85] #[3] false, zero := .nilFunc, eqv := none }
theorem ok206 : TyOk PP 206 ty206 := ⟨by kernel_rfl, Tryz.underlying206⟩
def ty207 : TyE := { size := 1, bytes := 8, desc := .func #[9, 9] #[9] false, zero := .nilFunc, eqv := none }
theorem ok207 : TyOk PP 207 ty207 := ⟨by kernel_rfl, Tryz.underlying207⟩
def ty208 : TyE := { size := 1, bytes := 8, desc := .func #[3, 42] #[4] false, zero := .nilFunc, eqv := none }
theorem ok208 : TyOk PP 208 ty208 := ⟨by kernel_rfl, Tryz.underlying208⟩
def ty209 : TyE := { size := 1, bytes := 24, desc := .slice 3, zero := .slice none 0 0, eqv := none }
theorem ok209 : TyOk PP 209 ty209 := ⟨by kernel_rfl, Tryz.underlying209⟩
def ty211 : TyE := { size := 1, bytes := 8, desc := .func #[9, 9] #[9, 9] false, zero := .nilFunc, eqv := none }
theorem ok211 : TyOk PP 211 ty211 := ⟨by kernel_rfl, Tryz.underlying211⟩
def ty214 : TyE := { size := 8, bytes := 128, desc := .array 8 9, zero := .agg #[.string (⟨#[]⟩ : ByteArray), .string (⟨#[]⟩ : ByteArray), .string (⟨#[]⟩ : ByteArray), .string (⟨#[]⟩ : ByteArray), .string (⟨#[]⟩ : ByteArray), .string (⟨#[]⟩ : ByteArray), .string (⟨#[]⟩ : ByteArray), .string (⟨#[]⟩ : ByteArray)], eqv := none }
theorem ok214 : TyOk PP 214 ty214 := ⟨by kernel_rfl, Tryz.underlying214⟩
def ty215 : TyE := { size := 1, bytes := 8, desc := .pointer 231, zero := .pointer none, eqv := none }
theorem ok215 : TyOk PP 215 ty215 := ⟨by kernel_rfl, Tryz.underlying215⟩
def ty218 : TyE := { size := 0, bytes := 0, desc := .array 0 16, zero := .agg #[], eqv := none }
theorem ok218 : TyOk PP 218 ty218 := ⟨by kernel_rfl, Tryz.underlying218⟩
def ty221 : TyE := { size := 1, bytes := 8, desc := .func #[] #[3] false, zero := .nilFunc, eqv := none }
theorem ok221 : TyOk PP 221 ty221 := ⟨by kernel_rfl, Tryz.underlying221⟩
def ty224 : TyE := { size := 1, bytes := 8, desc := .func #[232, 232] #[4] false, zero := .nilFunc, eqv := none }
theorem ok224 : TyOk PP 224 ty224 := ⟨by kernel_rfl, Tryz.underlying224⟩
def ty225 : TyE := { size := 1, bytes := 8, desc := .pointer 5, zero := .pointer none, eqv := none }
theorem ok225 : TyOk PP 225 ty225 := ⟨by kernel_rfl, Tryz.underlying225⟩
def ty228 : TyE := { size := 11, bytes := 48, desc := .struct #[{ name := "Size_", type := 12, offset := 0, embedded := false, tag := "", pkgPath := "", byteOffset := 0 }, { name := "PtrBytes", type := 12, offset := 1, embedded := false, tag := "", pkgPath := "", byteOffset := 8 }, { name := "Hash", type := 153, offset := 2, embedded := false, tag := "", pkgPath := "", byteOffset := 16 }, { name := "TFlag", type := 222, offset := 3, embedded := false, tag := "", pkgPath := "", byteOffset := 20 }, { name := "Align_", type := 5, offset := 4, embedded := false, tag := "", pkgPath := "", byteOffset := 21 }, { name := "FieldAlign_", type := 5, offset := 5, embedded := false, tag := "", pkgPath := "", byteOffset := 22 }, { name := "Kind_", type := 223, offset := 6, embedded := false, tag := "", pkgPath := "", byteOffset := 23 }, { name := "Equal", type := 224, offset := 7, embedded := false, tag := "", pkgPath := "", byteOffset := 24 }, { name := "GCData", type := 225, offset := 8, embedded := false, tag := "", pkgPath := "", byteOffset := 32 }, { name := "Str", type := 226, offset := 9, embedded := false, tag := "", pkgPath := "", byteOffset := 40 }, { name := "PtrToThis", type := 227, offset := 10, embedded := false, tag := "", pkgPath := "", byteOffset := 44 }], zero := .agg #[.int .u64 0, .int .u64 0, .int .u32 0, .int .u8 0, .int .u8 0, .int .u8 0, .int .u8 0, .nilFunc, .pointer none, .int .i32 0, .int .i32 0], eqv := none }
theorem ok228 : TyOk PP 228 ty228 := ⟨by kernel_rfl, Tryz.underlying228⟩
theorem eq4 (d : Nat) : EqIn PP (d + 1) 4 [.b] := EqIn.bool d Tryz.underlying4 (by kernel_rfl)
theorem eq9 (d : Nat) : EqIn PP (d + 1) 9 [.s] := EqIn.str d Tryz.underlying9 (by kernel_rfl)
theorem eq22 (d : Nat) : EqIn PP (d + 2) 22 [.b, .s, .s] := EqIn.struct (ks := [.b, .s, .s]) Tryz.underlying22 (by kernel_rfl) (by kernel_rfl) (.cons (k1 := [.b]) (k2 := [.s, .s]) (by rfl) rfl (eq4 (d + 0)) (.cons (k1 := [.s]) (k2 := [.s]) (by rfl) rfl (eq9 (d + 0)) (.cons (k1 := [.s]) (k2 := []) (by rfl) rfl (eq9 (d + 0)) (.nil _))))
theorem law22 : EqLaw PP 22 [.b, .s, .s] := EqLaw.of Tryz.underlying22 (by kernel_rfl) (eq22 9998)
theorem eq23 (d : Nat) : EqIn PP (d + 2) 23 [.b, .s, .s] := EqIn.struct (ks := [.b, .s, .s]) Tryz.underlying23 (by kernel_rfl) (by kernel_rfl) (.cons (k1 := [.b]) (k2 := [.s, .s]) (by rfl) rfl (eq4 (d + 0)) (.cons (k1 := [.s]) (k2 := [.s]) (by rfl) rfl (eq9 (d + 0)) (.cons (k1 := [.s]) (k2 := []) (by rfl) rfl (eq9 (d + 0)) (.nil _))))
theorem law23 : EqLaw PP 23 [.b, .s, .s] := EqLaw.of Tryz.underlying23 (by kernel_rfl) (eq23 9998)
theorem eq24 (d : Nat) : EqIn PP (d + 3) 24 [.b, .s, .s, .b, .s, .s] := EqIn.struct (ks := [.b, .s, .s, .b, .s, .s]) Tryz.underlying24 (by kernel_rfl) (by kernel_rfl) (.cons (k1 := [.b, .s, .s]) (k2 := [.b, .s, .s]) (by rfl) rfl (eq23 (d + 0)) (.cons (k1 := [.b, .s, .s]) (k2 := []) (by rfl) rfl (eq23 (d + 0)) (.nil _)))
theorem law24 : EqLaw PP 24 [.b, .s, .s, .b, .s, .s] := EqLaw.of Tryz.underlying24 (by kernel_rfl) (eq24 9997)
theorem eq25 (d : Nat) : EqIn PP (d + 3) 25 [.b, .s, .s, .b, .s, .s] := EqIn.struct (ks := [.b, .s, .s, .b, .s, .s]) Tryz.underlying25 (by kernel_rfl) (by kernel_rfl) (.cons (k1 := [.b, .s, .s]) (k2 := [.b, .s, .s]) (by rfl) rfl (eq23 (d + 0)) (.cons (k1 := [.b, .s, .s]) (k2 := []) (by rfl) rfl (eq23 (d + 0)) (.nil _)))
theorem law25 : EqLaw PP 25 [.b, .s, .s, .b, .s, .s] := EqLaw.of Tryz.underlying25 (by kernel_rfl) (eq25 9997)
theorem eq26 (d : Nat) : EqIn PP (d + 4) 26 [.b, .s, .s, .b, .s, .s, .b, .s, .s, .b, .s, .s] := EqIn.struct (ks := [.b, .s, .s, .b, .s, .s, .b, .s, .s, .b, .s, .s]) Tryz.underlying26 (by kernel_rfl) (by kernel_rfl) (.cons (k1 := [.b, .s, .s, .b, .s, .s]) (k2 := [.b, .s, .s, .b, .s, .s]) (by rfl) rfl (eq25 (d + 0)) (.cons (k1 := [.b, .s, .s, .b, .s, .s]) (k2 := []) (by rfl) rfl (eq25 (d + 0)) (.nil _)))
theorem law26 : EqLaw PP 26 [.b, .s, .s, .b, .s, .s, .b, .s, .s, .b, .s, .s] := EqLaw.of Tryz.underlying26 (by kernel_rfl) (eq26 9996)
theorem eq27 (d : Nat) : EqIn PP (d + 4) 27 [.b, .s, .s, .b, .s, .s, .b, .s, .s, .b, .s, .s] := EqIn.struct (ks := [.b, .s, .s, .b, .s, .s, .b, .s, .s, .b, .s, .s]) Tryz.underlying27 (by kernel_rfl) (by kernel_rfl) (.cons (k1 := [.b, .s, .s, .b, .s, .s]) (k2 := [.b, .s, .s, .b, .s, .s]) (by rfl) rfl (eq25 (d + 0)) (.cons (k1 := [.b, .s, .s, .b, .s, .s]) (k2 := []) (by rfl) rfl (eq25 (d + 0)) (.nil _)))
theorem law27 : EqLaw PP 27 [.b, .s, .s, .b, .s, .s, .b, .s, .s, .b, .s, .s] := EqLaw.of Tryz.underlying27 (by kernel_rfl) (eq27 9996)
theorem eq84 (d : Nat) : EqIn PP (d + 2) 84 [.b, .s] := EqIn.struct (ks := [.b, .s]) Tryz.underlying84 (by kernel_rfl) (by kernel_rfl) (.cons (k1 := [.b]) (k2 := [.s]) (by rfl) rfl (eq4 (d + 0)) (.cons (k1 := [.s]) (k2 := []) (by rfl) rfl (eq9 (d + 0)) (.nil _)))
theorem law84 : EqLaw PP 84 [.b, .s] := EqLaw.of Tryz.underlying84 (by kernel_rfl) (eq84 9998)
theorem eq85 (d : Nat) : EqIn PP (d + 2) 85 [.b, .s] := EqIn.struct (ks := [.b, .s]) Tryz.underlying85 (by kernel_rfl) (by kernel_rfl) (.cons (k1 := [.b]) (k2 := [.s]) (by rfl) rfl (eq4 (d + 0)) (.cons (k1 := [.s]) (k2 := []) (by rfl) rfl (eq9 (d + 0)) (.nil _)))
theorem law85 : EqLaw PP 85 [.b, .s] := EqLaw.of Tryz.underlying85 (by kernel_rfl) (eq85 9998)
theorem eq86 (d : Nat) : EqIn PP (d + 3) 86 [.b, .s, .b, .s] := EqIn.struct (ks := [.b, .s, .b, .s]) Tryz.underlying86 (by kernel_rfl) (by kernel_rfl) (.cons (k1 := [.b, .s]) (k2 := [.b, .s]) (by rfl) rfl (eq85 (d + 0)) (.cons (k1 := [.b, .s]) (k2 := []) (by rfl) rfl (eq85 (d + 0)) (.nil _)))
theorem law86 : EqLaw PP 86 [.b, .s, .b, .s] := EqLaw.of Tryz.underlying86 (by kernel_rfl) (eq86 9997)
theorem eq87 (d : Nat) : EqIn PP (d + 3) 87 [.b, .s, .b, .s] := EqIn.struct (ks := [.b, .s, .b, .s]) Tryz.underlying87 (by kernel_rfl) (by kernel_rfl) (.cons (k1 := [.b, .s]) (k2 := [.b, .s]) (by rfl) rfl (eq85 (d + 0)) (.cons (k1 := [.b, .s]) (k2 := []) (by rfl) rfl (eq85 (d + 0)) (.nil _)))
theorem law87 : EqLaw PP 87 [.b, .s, .b, .s] := EqLaw.of Tryz.underlying87 (by kernel_rfl) (eq87 9997)
theorem eq114 (d : Nat) : EqIn PP (d + 5) 114 [.b, .b, .s, .s, .b, .s, .s, .b, .s, .s, .b, .s, .s, .b, .s, .s] := EqIn.struct (ks := [.b, .b, .s, .s, .b, .s, .s, .b, .s, .s, .b, .s, .s, .b, .s, .s]) Tryz.underlying114 (by kernel_rfl) (by kernel_rfl) (.cons (k1 := [.b]) (k2 := [.b, .s, .s, .b, .s, .s, .b, .s, .s, .b, .s, .s, .b, .s, .s]) (by rfl) rfl (eq4 (d + 3)) (.cons (k1 := [.b, .s, .s]) (k2 := [.b, .s, .s, .b, .s, .s, .b, .s, .s, .b, .s, .s]) (by rfl) rfl (eq23 (d + 2)) (.cons (k1 := [.b, .s, .s, .b, .s, .s, .b, .s, .s, .b, .s, .s]) (k2 := []) (by rfl) rfl (eq27 (d + 0)) (.nil _))))
theorem law114 : EqLaw PP 114 [.b, .b, .s, .s, .b, .s, .s, .b, .s, .s, .b, .s, .s, .b, .s, .s] := EqLaw.of Tryz.underlying114 (by kernel_rfl) (eq114 9995)
theorem eq115 (d : Nat) : EqIn PP (d + 5) 115 [.b, .b, .s, .s, .b, .s, .s, .b, .s, .s, .b, .s, .s, .b, .s, .s] := EqIn.struct (ks := [.b, .b, .s, .s, .b, .s, .s, .b, .s, .s, .b, .s, .s, .b, .s, .s]) Tryz.underlying115 (by kernel_rfl) (by kernel_rfl) (.cons (k1 := [.b]) (k2 := [.b, .s, .s, .b, .s, .s, .b, .s, .s, .b, .s, .s, .b, .s, .s]) (by rfl) rfl (eq4 (d + 3)) (.cons (k1 := [.b, .s, .s]) (k2 := [.b, .s, .s, .b, .s, .s, .b, .s, .s, .b, .s, .s]) (by rfl) rfl (eq23 (d + 2)) (.cons (k1 := [.b, .s, .s, .b, .s, .s, .b, .s, .s, .b, .s, .s]) (k2 := []) (by rfl) rfl (eq27 (d + 0)) (.nil _))))
theorem law115 : EqLaw PP 115 [.b, .b, .s, .s, .b, .s, .s, .b, .s, .s, .b, .s, .s, .b, .s, .s] := EqLaw.of Tryz.underlying115 (by kernel_rfl) (eq115 9995)
def TB : TT := [(23, ty23), (25, ty25), (27, ty27), (49, ty49), (80, ty80), (85, ty85), (87, ty87), (115, ty115), (22, ty22), (24, ty24), (26, ty26), (48, ty48), (79, ty79), (84, ty84), (86, ty86), (114, ty114), (228, ty228), (30, ty30), (2, ty2), (3, ty3), (4, ty4), (5, ty5), (9, ty9), (12, ty12), (21, ty21), (152, ty152), (153, ty153), (154, ty154), (149, ty149), (42, ty42), (47, ty47), (60, ty60), (71, ty71), (75, ty75), (148, ty148), (183, ty183), (209, ty209), (59, ty59), (164, ty164), (165, ty165), (174, ty174), (175, ty175), (182, ty182), (214, ty214), (218, ty218), (15, ty15), (16, ty16), (17, ty17), (215, ty215), (225, ty225), (107, ty107), (111, ty111), (134, ty134), (141, ty141), (194, ty194), (1, ty1), (28, ty28), (29, ty29), (31, ty31), (32, ty32), (34, ty34), (36, ty36), (37, ty37), (38, ty38), (39, ty39), (40, ty40), (41, ty41), (43, ty43), (44, ty44), (45, ty45), (46, ty46), (50, ty50), (52, ty52), (53, ty53), (54, ty54), (55, ty55), (56, ty56), (57, ty57), (58, ty58), (62, ty62), (63, ty63), (64, ty64), (65, ty65), (66, ty66), (68, ty68), (69, ty69), (70, ty70), (72, ty72), (73, ty73), (74, ty74), (76, ty76), (77, ty77), (78, ty78), (81, ty81), (82, ty82), (83, ty83), (88, ty88), (89, ty89), (90, ty90), (91, ty91), (92, ty92), (93, ty93), (94, ty94), (95, ty95), (96, ty96), (97, ty97), (98, ty98), (99, ty99), (100, ty100), (101, ty101), (102, ty102), (103, ty103), (104, ty104), (105, ty105), (106, ty106), (108, ty108), (109, ty109), (110, ty110), (112, ty112), (113, ty113), (116, ty116), (118, ty118), (120, ty120), (121, ty121), (123, ty123), (124, ty124), (125, ty125), (126, ty126), (127, ty127), (129, ty129), (130, ty130), (131, ty131), (132, ty132), (133, ty133), (135, ty135), (136, ty136), (137, ty137), (138, ty138), (139, ty139), (140, ty140), (142, ty142), (143, ty143), (144, ty144), (145, ty145), (146, ty146), (147, ty147), (150, ty150), (151, ty151), (156, ty156), (158, ty158), (159, ty159), (161, ty161), (162, ty162), (163, ty163), (166, ty166), (167, ty167), (168, ty168), (169, ty169), (170, ty170), (171, ty171), (172, ty172), (173, ty173), (176, ty176), (177, ty177), (178, ty178), (180, ty180), (181, ty181), (185, ty185), (186, ty186), (187, ty187), (188, ty188), (189, ty189), (191, ty191), (192, ty192), (193, ty193), (195, ty195), (197, ty197), (198, ty198), (199, ty199), (200, ty200), (201, ty201), (202, ty202), (203, ty203), (204, ty204), (205, ty205), (206, ty206), (207, ty207), (208, ty208), (211, ty211), (221, ty221), (224, ty224)]
theorem good_cons {t : TypeId} {e : TyE} {r : TT} (h : TyOk PP t e ∧ (∀ ks, e.eqv = some ks → EqLaw PP t ks)) (hr : TTgood PP r) : TTgood PP ((t, e) :: r) := fun t' e' he => by
 rw [lk_cons] at he
 split at he
 · rename_i e2; subst e2; cases he; exact h
 · exact hr t' e' he
theorem good_nil : TTgood PP [] := fun _ _ h => by cases h
theorem good9 : TTgood PP [(201, ty201), (202, ty202), (203, ty203), (204, ty204), (205, ty205), (206, ty206), (207, ty207), (208, ty208), (211, ty211), (221, ty221), (224, ty224)] := good_cons ⟨ok201, fun _ h => by cases h⟩ (good_cons ⟨ok202, fun _ h => by cases h⟩ (good_cons ⟨ok203, fun _ h => by cases h⟩ (good_cons ⟨ok204, fun _ h => by cases h⟩ (good_cons ⟨ok205, fun _ h => by cases h⟩ (good_cons ⟨ok206, fun _ h => by cases h⟩ (good_cons ⟨ok207, fun _ h => by cases h⟩ (good_cons ⟨ok208, fun _ h => by cases h⟩ (good_cons ⟨ok211, fun _ h => by cases h⟩ (good_cons ⟨ok221, fun _ h => by cases h⟩ (good_cons ⟨ok224, fun _ h => by cases h⟩ (good_nil)))))))))))
theorem good8 : TTgood PP [(172, ty172), (173, ty173), (176, ty176), (177, ty177), (178, ty178), (180, ty180), (181, ty181), (185, ty185), (186, ty186), (187, ty187), (188, ty188), (189, ty189), (191, ty191), (192, ty192), (193, ty193), (195, ty195), (197, ty197), (198, ty198), (199, ty199), (200, ty200), (201, ty201), (202, ty202), (203, ty203), (204, ty204), (205, ty205), (206, ty206), (207, ty207), (208, ty208), (211, ty211), (221, ty221), (224, ty224)] := good_cons ⟨ok172, fun _ h => by cases h⟩ (good_cons ⟨ok173, fun _ h => by cases h⟩ (good_cons ⟨ok176, fun _ h => by cases h⟩ (good_cons ⟨ok177, fun _ h => by cases h⟩ (good_cons ⟨ok178, fun _ h => by cases h⟩ (good_cons ⟨ok180, fun _ h => by cases h⟩ (good_cons ⟨ok181, fun _ h => by cases h⟩ (good_cons ⟨ok185, fun _ h => by cases h⟩ (good_cons ⟨ok186, fun _ h => by cases h⟩ (good_cons ⟨ok187, fun _ h => by cases h⟩ (good_cons ⟨ok188, fun _ h => by cases h⟩ (good_cons ⟨ok189, fun _ h => by cases h⟩ (good_cons ⟨ok191, fun _ h => by cases h⟩ (good_cons ⟨ok192, fun _ h => by cases h⟩ (good_cons ⟨ok193, fun _ h => by cases h⟩ (good_cons ⟨ok195, fun _ h => by cases h⟩ (good_cons ⟨ok197, fun _ h => by cases h⟩ (good_cons ⟨ok198, fun _ h => by cases h⟩ (good_cons ⟨ok199, fun _ h => by cases h⟩ (good_cons ⟨ok200, fun _ h => by cases h⟩ (good9))))))))))))))))))))
theorem good7 : TTgood PP [(142, ty142), (143, ty143), (144, ty144), (145, ty145), (146, ty146), (147, ty147), (150, ty150), (151, ty151), (156, ty156), (158, ty158), (159, ty159), (161, ty161), (162, ty162), (163, ty163), (166, ty166), (167, ty167), (168, ty168), (169, ty169), (170, ty170), (171, ty171), (172, ty172), (173, ty173), (176, ty176), (177, ty177), (178, ty178), (180, ty180), (181, ty181), (185, ty185), (186, ty186), (187, ty187), (188, ty188), (189, ty189), (191, ty191), (192, ty192), (193, ty193), (195, ty195), (197, ty197), (198, ty198), (199, ty199), (200, ty200), (201, ty201), (202, ty202), (203, ty203), (204, ty204), (205, ty205), (206, ty206), (207, ty207), (208, ty208), (211, ty211), (221, ty221), (224, ty224)] := good_cons ⟨ok142, fun _ h => by cases h⟩ (good_cons ⟨ok143, fun _ h => by cases h⟩ (good_cons ⟨ok144, fun _ h => by cases h⟩ (good_cons ⟨ok145, fun _ h => by cases h⟩ (good_cons ⟨ok146, fun _ h => by cases h⟩ (good_cons ⟨ok147, fun _ h => by cases h⟩ (good_cons ⟨ok150, fun _ h => by cases h⟩ (good_cons ⟨ok151, fun _ h => by cases h⟩ (good_cons ⟨ok156, fun _ h => by cases h⟩ (good_cons ⟨ok158, fun _ h => by cases h⟩ (good_cons ⟨ok159, fun _ h => by cases h⟩ (good_cons ⟨ok161, fun _ h => by cases h⟩ (good_cons ⟨ok162, fun _ h => by cases h⟩ (good_cons ⟨ok163, fun _ h => by cases h⟩ (good_cons ⟨ok166, fun _ h => by cases h⟩ (good_cons ⟨ok167, fun _ h => by cases h⟩ (good_cons ⟨ok168, fun _ h => by cases h⟩ (good_cons ⟨ok169, fun _ h => by cases h⟩ (good_cons ⟨ok170, fun _ h => by cases h⟩ (good_cons ⟨ok171, fun _ h => by cases h⟩ (good8))))))))))))))))))))
theorem good6 : TTgood PP [(116, ty116), (118, ty118), (120, ty120), (121, ty121), (123, ty123), (124, ty124), (125, ty125), (126, ty126), (127, ty127), (129, ty129), (130, ty130), (131, ty131), (132, ty132), (133, ty133), (135, ty135), (136, ty136), (137, ty137), (138, ty138), (139, ty139), (140, ty140), (142, ty142), (143, ty143), (144, ty144), (145, ty145), (146, ty146), (147, ty147), (150, ty150), (151, ty151), (156, ty156), (158, ty158), (159, ty159), (161, ty161), (162, ty162), (163, ty163), (166, ty166), (167, ty167), (168, ty168), (169, ty169), (170, ty170), (171, ty171), (172, ty172), (173, ty173), (176, ty176), (177, ty177), (178, ty178), (180, ty180), (181, ty181), (185, ty185), (186, ty186), (187, ty187), (188, ty188), (189, ty189), (191, ty191), (192, ty192), (193, ty193), (195, ty195), (197, ty197), (198, ty198), (199, ty199), (200, ty200), (201, ty201), (202, ty202), (203, ty203), (204, ty204), (205, ty205), (206, ty206), (207, ty207), (208, ty208), (211, ty211), (221, ty221), (224, ty224)] := good_cons ⟨ok116, fun _ h => by cases h⟩ (good_cons ⟨ok118, fun _ h => by cases h⟩ (good_cons ⟨ok120, fun _ h => by cases h⟩ (good_cons ⟨ok121, fun _ h => by cases h⟩ (good_cons ⟨ok123, fun _ h => by cases h⟩ (good_cons ⟨ok124, fun _ h => by cases h⟩ (good_cons ⟨ok125, fun _ h => by cases h⟩ (good_cons ⟨ok126, fun _ h => by cases h⟩ (good_cons ⟨ok127, fun _ h => by cases h⟩ (good_cons ⟨ok129, fun _ h => by cases h⟩ (good_cons ⟨ok130, fun _ h => by cases h⟩ (good_cons ⟨ok131, fun _ h => by cases h⟩ (good_cons ⟨ok132, fun _ h => by cases h⟩ (good_cons ⟨ok133, fun _ h => by cases h⟩ (good_cons ⟨ok135, fun _ h => by cases h⟩ (good_cons ⟨ok136, fun _ h => by cases h⟩ (good_cons ⟨ok137, fun _ h => by cases h⟩ (good_cons ⟨ok138, fun _ h => by cases h⟩ (good_cons ⟨ok139, fun _ h => by cases h⟩ (good_cons ⟨ok140, fun _ h => by cases h⟩ (good7))))))))))))))))))))
theorem good5 : TTgood PP [(92, ty92), (93, ty93), (94, ty94), (95, ty95), (96, ty96), (97, ty97), (98, ty98), (99, ty99), (100, ty100), (101, ty101), (102, ty102), (103, ty103), (104, ty104), (105, ty105), (106, ty106), (108, ty108), (109, ty109), (110, ty110), (112, ty112), (113, ty113), (116, ty116), (118, ty118), (120, ty120), (121, ty121), (123, ty123), (124, ty124), (125, ty125), (126, ty126), (127, ty127), (129, ty129), (130, ty130), (131, ty131), (132, ty132), (133, ty133), (135, ty135), (136, ty136), (137, ty137), (138, ty138), (139, ty139), (140, ty140), (142, ty142), (143, ty143), (144, ty144), (145, ty145), (146, ty146), (147, ty147), (150, ty150), (151, ty151), (156, ty156), (158, ty158), (159, ty159), (161, ty161), (162, ty162), (163, ty163), (166, ty166), (167, ty167), (168, ty168), (169, ty169), (170, ty170), (171, ty171), (172, ty172), (173, ty173), (176, ty176), (177, ty177), (178, ty178), (180, ty180), (181, ty181), (185, ty185), (186, ty186), (187, ty187), (188, ty188), (189, ty189), (191, ty191), (192, ty192), (193, ty193), (195, ty195), (197, ty197), (198, ty198), (199, ty199), (200, ty200), (201, ty201), (202, ty202), (203, ty203), (204, ty204), (205, ty205), (206, ty206), (207, ty207), (208, ty208), (211, ty211), (221, ty221), (224, ty224)] := good_cons ⟨ok92, fun _ h => by cases h⟩ (good_cons ⟨ok93, fun _ h => by cases h⟩ (good_cons ⟨ok94, fun _ h => by cases h⟩ (good_cons ⟨ok95, fun _ h => by cases h⟩ (good_cons ⟨ok96, fun _ h => by cases h⟩ (good_cons ⟨ok97, fun _ h => by cases h⟩ (good_cons ⟨ok98, fun _ h => by cases h⟩ (good_cons ⟨ok99, fun _ h => by cases h⟩ (good_cons ⟨ok100, fun _ h => by cases h⟩ (good_cons ⟨ok101, fun _ h => by cases h⟩ (good_cons ⟨ok102, fun _ h => by cases h⟩ (good_cons ⟨ok103, fun _ h => by cases h⟩ (good_cons ⟨ok104, fun _ h => by cases h⟩ (good_cons ⟨ok105, fun _ h => by cases h⟩ (good_cons ⟨ok106, fun _ h => by cases h⟩ (good_cons ⟨ok108, fun _ h => by cases h⟩ (good_cons ⟨ok109, fun _ h => by cases h⟩ (good_cons ⟨ok110, fun _ h => by cases h⟩ (good_cons ⟨ok112, fun _ h => by cases h⟩ (good_cons ⟨ok113, fun _ h => by cases h⟩ (good6))))))))))))))))))))
theorem good4 : TTgood PP [(63, ty63), (64, ty64), (65, ty65), (66, ty66), (68, ty68), (69, ty69), (70, ty70), (72, ty72), (73, ty73), (74, ty74), (76, ty76), (77, ty77), (78, ty78), (81, ty81), (82, ty82), (83, ty83), (88, ty88), (89, ty89), (90, ty90), (91, ty91), (92, ty92), (93, ty93), (94, ty94), (95, ty95), (96, ty96), (97, ty97), (98, ty98), (99, ty99), (100, ty100), (101, ty101), (102, ty102), (103, ty103), (104, ty104), (105, ty105), (106, ty106), (108, ty108), (109, ty109), (110, ty110), (112, ty112), (113, ty113), (116, ty116), (118, ty118), (120, ty120), (121, ty121), (123, ty123), (124, ty124), (125, ty125), (126, ty126), (127, ty127), (129, ty129), (130, ty130), (131, ty131), (132, ty132), (133, ty133), (135, ty135), (136, ty136), (137, ty137), (138, ty138), (139, ty139), (140, ty140), (142, ty142), (143, ty143), (144, ty144), (145, ty145), (146, ty146), (147, ty147), (150, ty150), (151, ty151), (156, ty156), (158, ty158), (159, ty159), (161, ty161), (162, ty162), (163, ty163), (166, ty166), (167, ty167), (168, ty168), (169, ty169), (170, ty170), (171, ty171), (172, ty172), (173, ty173), (176, ty176), (177, ty177), (178, ty178), (180, ty180), (181, ty181), (185, ty185), (186, ty186), (187, ty187), (188, ty188), (189, ty189), (191, ty191), (192, ty192), (193, ty193), (195, ty195), (197, ty197), (198, ty198), (199, ty199), (200, ty200), (201, ty201), (202, ty202), (203, ty203), (204, ty204), (205, ty205), (206, ty206), (207, ty207), (208, ty208), (211, ty211), (221, ty221), (224, ty224)] := good_cons ⟨ok63, fun _ h => by cases h⟩ (good_cons ⟨ok64, fun _ h => by cases h⟩ (good_cons ⟨ok65, fun _ h => by cases h⟩ (good_cons ⟨ok66, fun _ h => by cases h⟩ (good_cons ⟨ok68, fun _ h => by cases h⟩ (good_cons ⟨ok69, fun _ h => by cases h⟩ (good_cons ⟨ok70, fun _ h => by cases h⟩ (good_cons ⟨ok72, fun _ h => by cases h⟩ (good_cons ⟨ok73, fun _ h => by cases h⟩ (good_cons ⟨ok74, fun _ h => by cases h⟩ (good_cons ⟨ok76, fun _ h => by cases h⟩ (good_cons ⟨ok77, fun _ h => by cases h⟩ (good_cons ⟨ok78, fun _ h => by cases h⟩ (good_cons ⟨ok81, fun _ h => by cases h⟩ (good_cons ⟨ok82, fun _ h => by cases h⟩ (good_cons ⟨ok83, fun _ h => by cases h⟩ (good_cons ⟨ok88, fun _ h => by cases h⟩ (good_cons ⟨ok89, fun _ h => by cases h⟩ (good_cons ⟨ok90, fun _ h => by cases h⟩ (good_cons ⟨ok91, fun _ h => by cases h⟩ (good5))))))))))))))))))))
theorem good3 : TTgood PP [(34, ty34), (36, ty36), (37, ty37), (38, ty38), (39, ty39), (40, ty40), (41, ty41), (43, ty43), (44, ty44), (45, ty45), (46, ty46), (50, ty50), (52, ty52), (53, ty53), (54, ty54), (55, ty55), (56, ty56), (57, ty57), (58, ty58), (62, ty62), (63, ty63), (64, ty64), (65, ty65), (66, ty66), (68, ty68), (69, ty69), (70, ty70), (72, ty72), (73, ty73), (74, ty74), (76, ty76), (77, ty77), (78, ty78), (81, ty81), (82, ty82), (83, ty83), (88, ty88), (89, ty89), (90, ty90), (91, ty91), (92, ty92), (93, ty93), (94, ty94), (95, ty95), (96, ty96), (97, ty97), (98, ty98), (99, ty99), (100, ty100), (101, ty101), (102, ty102), (103, ty103), (104, ty104), (105, ty105), (106, ty106), (108, ty108), (109, ty109), (110, ty110), (112, ty112), (113, ty113), (116, ty116), (118, ty118), (120, ty120), (121, ty121), (123, ty123), (124, ty124), (125, ty125), (126, ty126), (127, ty127), (129, ty129), (130, ty130), (131, ty131), (132, ty132), (133, ty133), (135, ty135), (136, ty136), (137, ty137), (138, ty138), (139, ty139), (140, ty140), (142, ty142), (143, ty143), (144, ty144), (145, ty145), (146, ty146), (147, ty147), (150, ty150), (151, ty151), (156, ty156), (158, ty158), (159, ty159), (161, ty161), (162, ty162), (163, ty163), (166, ty166), (167, ty167), (168, ty168), (169, ty169), (170, ty170), (171, ty171), (172, ty172), (173, ty173), (176, ty176), (177, ty177), (178, ty178), (180, ty180), (181, ty181), (185, ty185), (186, ty186), (187, ty187), (188, ty188), (189, ty189), (191, ty191), (192, ty192), (193, ty193), (195, ty195), (197, ty197), (198, ty198), (199, ty199), (200, ty200), (201, ty201), (202, ty202), (203, ty203), (204, ty204), (205, ty205), (206, ty206), (207, ty207), (208, ty208), (211, ty211), (221, ty221), (224, ty224)] := good_cons ⟨ok34, fun _ h => by cases h⟩ (good_cons ⟨ok36, fun _ h => by cases h⟩ (good_cons ⟨ok37, fun _ h => by cases h⟩ (good_cons ⟨ok38, fun _ h => by cases h⟩ (good_cons ⟨ok39, fun _ h => by cases h⟩ (good_cons ⟨ok40, fun _ h => by cases h⟩ (good_cons ⟨ok41, fun _ h => by cases h⟩ (good_cons ⟨ok43, fun _ h => by cases h⟩ (good_cons ⟨ok44, fun _ h => by cases h⟩ (good_cons ⟨ok45, fun _ h => by cases h⟩ (good_cons ⟨ok46, fun _ h => by cases h⟩ (good_cons ⟨ok50, fun _ h => by cases h⟩ (good_cons ⟨ok52, fun _ h => by cases h⟩ (good_cons ⟨ok53, fun _ h => by cases h⟩ (good_cons ⟨ok54, fun _ h => by cases h⟩ (good_cons ⟨ok55, fun _ h => by cases h⟩ (good_cons ⟨ok56, fun _ h => by cases h⟩ (good_cons ⟨ok57, fun _ h => by cases h⟩ (good_cons ⟨ok58, fun _ h => by cases h⟩ (good_cons ⟨ok62, fun _ h => by cases h⟩ (good4))))))))))))))))))))
theorem good2 : TTgood PP [(174, ty174), (175, ty175), (182, ty182), (214, ty214), (218, ty218), (15, ty15), (16, ty16), (17, ty17), (215, ty215), (225, ty225), (107, ty107), (111, ty111), (134, ty134), (141, ty141), (194, ty194), (1, ty1), (28, ty28), (29, ty29), (31, ty31), (32, ty32), (34, ty34), (36, ty36), (37, ty37), (38, ty38), (39, ty39), (40, ty40), (41, ty41), (43, ty43), (44, ty44), (45, ty45), (46, ty46), (50, ty50), (52, ty52), (53, ty53), (54, ty54), (55, ty55), (56, ty56), (57, ty57), (58, ty58), (62, ty62), (63, ty63), (64, ty64), (65, ty65), (66, ty66), (68, ty68), (69, ty69), (70, ty70), (72, ty72), (73, ty73), (74, ty74), (76, ty76), (77, ty77), (78, ty78), (81, ty81), (82, ty82), (83, ty83), (88, ty88), (89, ty89), (90, ty90), (91, ty91), (92, ty92), (93, ty93), (94, ty94), (95, ty95), (96, ty96), (97, ty97), (98, ty98), (99, ty99), (100, ty100), (101, ty101), (102, ty102), (103, ty103), (104, ty104), (105, ty105), (106, ty106), (108, ty108), (109, ty109), (110, ty110), (112, ty112), (113, ty113), (116, ty116), (118, ty118), (120, ty120), (121, ty121), (123, ty123), (124, ty124), (125, ty125), (126, ty126), (127, ty127), (129, ty129), (130, ty130), (131, ty131), (132, ty132), (133, ty133), (135, ty135), (136, ty136), (137, ty137), (138, ty138), (139, ty139), (140, ty140), (142, ty142), (143, ty143), (144, ty144), (145, ty145), (146, ty146), (147, ty147), (150, ty150), (151, ty151), (156, ty156), (158, ty158), (159, ty159), (161, ty161), (162, ty162), (163, ty163), (166, ty166), (167, ty167), (168, ty168), (169, ty169), (170, ty170), (171, ty171), (172, ty172), (173, ty173), (176, ty176), (177, ty177), (178, ty178), (180, ty180), (181, ty181), (185, ty185), (186, ty186), (187, ty187), (188, ty188), (189, ty189), (191, ty191), (192, ty192), (193, ty193), (195, ty195), (197, ty197), (198, ty198), (199, ty199), (200, ty200), (201, ty201), (202, ty202), (203, ty203), (204, ty204), (205, ty205), (206, ty206), (207, ty207), (208, ty208), (211, ty211), (221, ty221), (224, ty224)] := good_cons ⟨ok174, fun _ h => by cases h⟩ (good_cons ⟨ok175, fun _ h => by cases h⟩ (good_cons ⟨ok182, fun _ h => by cases h⟩ (good_cons ⟨ok214, fun _ h => by cases h⟩ (good_cons ⟨ok218, fun _ h => by cases h⟩ (good_cons ⟨ok15, fun _ h => by cases h⟩ (good_cons ⟨ok16, fun _ h => by cases h⟩ (good_cons ⟨ok17, fun _ h => by cases h⟩ (good_cons ⟨ok215, fun _ h => by cases h⟩ (good_cons ⟨ok225, fun _ h => by cases h⟩ (good_cons ⟨ok107, fun _ h => by cases h⟩ (good_cons ⟨ok111, fun _ h => by cases h⟩ (good_cons ⟨ok134, fun _ h => by cases h⟩ (good_cons ⟨ok141, fun _ h => by cases h⟩ (good_cons ⟨ok194, fun _ h => by cases h⟩ (good_cons ⟨ok1, fun _ h => by cases h⟩ (good_cons ⟨ok28, fun _ h => by cases h⟩ (good_cons ⟨ok29, fun _ h => by cases h⟩ (good_cons ⟨ok31, fun _ h => by cases h⟩ (good_cons ⟨ok32, fun _ h => by cases h⟩ (good3))))))))))))))))))))
theorem good1 : TTgood PP [(4, ty4), (5, ty5), (9, ty9), (12, ty12), (21, ty21), (152, ty152), (153, ty153), (154, ty154), (149, ty149), (42, ty42), (47, ty47), (60, ty60), (71, ty71), (75, ty75), (148, ty148), (183, ty183), (209, ty209), (59, ty59), (164, ty164), (165, ty165), (174, ty174), (175, ty175), (182, ty182), (214, ty214), (218, ty218), (15, ty15), (16, ty16), (17, ty17), (215, ty215), (225, ty225), (107, ty107), (111, ty111), (134, ty134), (141, ty141), (194, ty194), (1, ty1), (28, ty28), (29, ty29), (31, ty31), (32, ty32), (34, ty34), (36, ty36), (37, ty37), (38, ty38), (39, ty39), (40, ty40), (41, ty41), (43, ty43), (44, ty44), (45, ty45), (46, ty46), (50, ty50), (52, ty52), (53, ty53), (54, ty54), (55, ty55), (56, ty56), (57, ty57), (58, ty58), (62, ty62), (63, ty63), (64, ty64), (65, ty65), (66, ty66), (68, ty68), (69, ty69), (70, ty70), (72, ty72), (73, ty73), (74, ty74), (76, ty76), (77, ty77), (78, ty78), (81, ty81), (82, ty82), (83, ty83), (88, ty88), (89, ty89), (90, ty90), (91, ty91), (92, ty92), (93, ty93), (94, ty94), (95, ty95), (96, ty96), (97, ty97), (98, ty98), (99, ty99), (100, ty100), (101, ty101), (102, ty102), (103, ty103), (104, ty104), (105, ty105), (106, ty106), (108, ty108), (109, ty109), (110, ty110), (112, ty112), (113, ty113), (116, ty116), (118, ty118), (120, ty120), (121, ty121), (123, ty123), (124, ty124), (125, ty125), (126, ty126), (127, ty127), (129, ty129), (130, ty130), (131, ty131), (132, ty132), (133, ty133), (135, ty135), (136, ty136), (137, ty137), (138, ty138), (139, ty139), (140, ty140), (142, ty142), (143, ty143), (144, ty144), (145, ty145), (146, ty146), (147, ty147), (150, ty150), (151, ty151), (156, ty156), (158, ty158), (159, ty159), (161, ty161), (162, ty162), (163, ty163), (166, ty166), (167, ty167), (168, ty168), (169, ty169), (170, ty170), (171, ty171), (172, ty172), (173, ty173), (176, ty176), (177, ty177), (178, ty178), (180, ty180), (181, ty181), (185, ty185), (186, ty186), (187, ty187), (188, ty188), (189, ty189), (191, ty191), (192, ty192), (193, ty193), (195, ty195), (197, ty197), (198, ty198), (199, ty199), (200, ty200), (201, ty201), (202, ty202), (203, ty203), (204, ty204), (205, ty205), (206, ty206), (207, ty207), (208, ty208), (211, ty211), (221, ty221), (224, ty224)] := good_cons ⟨ok4, fun _ h => by cases h⟩ (good_cons ⟨ok5, fun _ h => by cases h⟩ (good_cons ⟨ok9, fun _ h => by cases h⟩ (good_cons ⟨ok12, fun _ h => by cases h⟩ (good_cons ⟨ok21, fun _ h => by cases h⟩ (good_cons ⟨ok152, fun _ h => by cases h⟩ (good_cons ⟨ok153, fun _ h => by cases h⟩ (good_cons ⟨ok154, fun _ h => by cases h⟩ (good_cons ⟨ok149, fun _ h => by cases h⟩ (good_cons ⟨ok42, fun _ h => by cases h⟩ (good_cons ⟨ok47, fun _ h => by cases h⟩ (good_cons ⟨ok60, fun _ h => by cases h⟩ (good_cons ⟨ok71, fun _ h => by cases h⟩ (good_cons ⟨ok75, fun _ h => by cases h⟩ (good_cons ⟨ok148, fun _ h => by cases h⟩ (good_cons ⟨ok183, fun _ h => by cases h⟩ (good_cons ⟨ok209, fun _ h => by cases h⟩ (good_cons ⟨ok59, fun _ h => by cases h⟩ (good_cons ⟨ok164, fun _ h => by cases h⟩ (good_cons ⟨ok165, fun _ h => by cases h⟩ (good2))))))))))))))))))))
theorem good0 : TTgood PP [(23, ty23), (25, ty25), (27, ty27), (49, ty49), (80, ty80), (85, ty85), (87, ty87), (115, ty115), (22, ty22), (24, ty24), (26, ty26), (48, ty48), (79, ty79), (84, ty84), (86, ty86), (114, ty114), (228, ty228), (30, ty30), (2, ty2), (3, ty3), (4, ty4), (5, ty5), (9, ty9), (12, ty12), (21, ty21), (152, ty152), (153, ty153), (154, ty154), (149, ty149), (42, ty42), (47, ty47), (60, ty60), (71, ty71), (75, ty75), (148, ty148), (183, ty183), (209, ty209), (59, ty59), (164, ty164), (165, ty165), (174, ty174), (175, ty175), (182, ty182), (214, ty214), (218, ty218), (15, ty15), (16, ty16), (17, ty17), (215, ty215), (225, ty225), (107, ty107), (111, ty111), (134, ty134), (141, ty141), (194, ty194), (1, ty1), (28, ty28), (29, ty29), (31, ty31), (32, ty32), (34, ty34), (36, ty36), (37, ty37), (38, ty38), (39, ty39), (40, ty40), (41, ty41), (43, ty43), (44, ty44), (45, ty45), (46, ty46), (50, ty50), (52, ty52), (53, ty53), (54, ty54), (55, ty55), (56, ty56), (57, ty57), (58, ty58), (62, ty62), (63, ty63), (64, ty64), (65, ty65), (66, ty66), (68, ty68), (69, ty69), (70, ty70), (72, ty72), (73, ty73), (74, ty74), (76, ty76), (77, ty77), (78, ty78), (81, ty81), (82, ty82), (83, ty83), (88, ty88), (89, ty89), (90, ty90), (91, ty91), (92, ty92), (93, ty93), (94, ty94), (95, ty95), (96, ty96), (97, ty97), (98, ty98), (99, ty99), (100, ty100), (101, ty101), (102, ty102), (103, ty103), (104, ty104), (105, ty105), (106, ty106), (108, ty108), (109, ty109), (110, ty110), (112, ty112), (113, ty113), (116, ty116), (118, ty118), (120, ty120), (121, ty121), (123, ty123), (124, ty124), (125, ty125), (126, ty126), (127, ty127), (129, ty129), (130, ty130), (131, ty131), (132, ty132), (133, ty133), (135, ty135), (136, ty136), (137, ty137), (138, ty138), (139, ty139), (140, ty140), (142, ty142), (143, ty143), (144, ty144), (145, ty145), (146, ty146), (147, ty147), (150, ty150), (151, ty151), (156, ty156), (158, ty158), (159, ty159), (161, ty161), (162, ty162), (163, ty163), (166, ty166), (167, ty167), (168, ty168), (169, ty169), (170, ty170), (171, ty171), (172, ty172), (173, ty173), (176, ty176), (177, ty177), (178, ty178), (180, ty180), (181, ty181), (185, ty185), (186, ty186), (187, ty187), (188, ty188), (189, ty189), (191, ty191), (192, ty192), (193, ty193), (195, ty195), (197, ty197), (198, ty198), (199, ty199), (200, ty200), (201, ty201), (202, ty202), (203, ty203), (204, ty204), (205, ty205), (206, ty206), (207, ty207), (208, ty208), (211, ty211), (221, ty221), (224, ty224)] := good_cons ⟨ok23, fun _ h => by cases h; exact law23⟩ (good_cons ⟨ok25, fun _ h => by cases h; exact law25⟩ (good_cons ⟨ok27, fun _ h => by cases h; exact law27⟩ (good_cons ⟨ok49, fun _ h => by cases h⟩ (good_cons ⟨ok80, fun _ h => by cases h⟩ (good_cons ⟨ok85, fun _ h => by cases h; exact law85⟩ (good_cons ⟨ok87, fun _ h => by cases h; exact law87⟩ (good_cons ⟨ok115, fun _ h => by cases h; exact law115⟩ (good_cons ⟨ok22, fun _ h => by cases h; exact law22⟩ (good_cons ⟨ok24, fun _ h => by cases h; exact law24⟩ (good_cons ⟨ok26, fun _ h => by cases h; exact law26⟩ (good_cons ⟨ok48, fun _ h => by cases h⟩ (good_cons ⟨ok79, fun _ h => by cases h⟩ (good_cons ⟨ok84, fun _ h => by cases h; exact law84⟩ (good_cons ⟨ok86, fun _ h => by cases h; exact law86⟩ (good_cons ⟨ok114, fun _ h => by cases h; exact law114⟩ (good_cons ⟨ok228, fun _ h => by cases h⟩ (good_cons ⟨ok30, fun _ h => by cases h⟩ (good_cons ⟨ok2, fun _ h => by cases h⟩ (good_cons ⟨ok3, fun _ h => by cases h⟩ (good1))))))))))))))))))))
theorem TBgood : TTgood PP TB := good0
theorem mixed : PP.follows .mixedOrders = true := by kernel_rfl
end Go.Sx
end
section
set_option maxRecDepth 10000
namespace Go.Sx
open Go Go.Proofs
theorem c_strip (l : List UInt8) : Fn PP f_bigint_strip [.string (bs l)] (.string (bs (stripL l))) := by
 refine Fn.of TBgood mixed h_bigint_strip rfl rfl (Nat.le_of_ble_eq_true rfl) ?_
 intro w
 conv => whnf
 refine sexec_loop (ι := List UInt8) (fun k => ⟨[(0, .o (.v (.string (bs k))))], [], []⟩) (fun k => stripL k = stripL l) (fun k => k.length) l rfl (SLe.id ⟨rfl, trivial⟩ trivial (by simp)) ?_
 intro k hk
 conv => whnf
 refine br_split ?_ ?_
 · intro h
   conv => whnf
   rcases k with _ | ⟨x, r⟩
   · simp [bs] at h
   refine ⟨by simp [bs_size], ?_⟩
   conv => whnf
   refine br_split ?_ ?_
   · intro h2
     conv => whnf
     refine ⟨by simp [bs_size]; omega, ?_⟩
     conv => whnf
     refine ⟨r, ?_, by simp, ?_⟩
     · rw [← hk, stripL, if_pos]
       have h3 : x.toNat = 0 := by simpa [sb_bs] using h2
       exact UInt8.toNat_inj.1 h3
     · refine SLe.id ⟨?_, trivial⟩ trivial (by simp)
       show some _ = some _
       simp [SV.ren, AV.ren, bs_extract, bs_size]
   · intro h2
     conv => whnf
     refine postV_one ?_
     show Value.string (bs (x :: r)) = _
     rw [← hk, stripL, if_neg]
     intro h3
     subst h3
     simp [sb_bs] at h2
 · intro h
   conv => whnf
   refine postV_one ?_
   have : k = [] := by
     have h2 : (bs k).data = #[] := by simpa [ByteArray.toList_eq] using h
     exact congrArg Array.toList h2
   subst this
   show Value.string (bs []) = _
   rw [← hk]; rfl
end Go.Sx
end
section
set_option maxRecDepth 10000
namespace Go.Sx
open Go Go.Proofs
def u32c (x : Nat) : List Value := [.int .u32 (x : Int)]
abbrev u32V (l : List Nat) : List Value := rowV u32c l
theorem u32c_len (x : Nat) : (u32c x).length = 1 := rfl
theorem u32V_length (l : List Nat) : (u32V l).length = l.length := by rw [rowV_length u32c_len]; omega
theorem tr_snoc (l : List Nat) (x : Nat) : tr (l ++ [x]) = if x = 0 then tr l else l ++ [x] := by
 induction l with
 | nil => simp only [List.nil_append, tr]
 | cons y r ih =>
   by_cases hx : x = 0
   · subst hx
     rw [if_pos rfl] at ih ⊢
     simp only [List.cons_append, tr, ih]
   · rw [if_neg hx] at ih ⊢
     simp only [List.cons_append, tr, ih]
     cases r <;> rfl
theorem c_trim (A : Option Addr) (c : Nat) (l : List Nat) (hc : l.length ≤ c) (hl : l.length ≤ 1000000000000) : FnM PP f_bigint_limbs_trim [.slice A l.length c] (facts [SlRes A (u32V l)]) (retsV (.slice A (tr l).length c)) := by
 refine FnS.of TBgood mixed h_bigint_limbs_trim rfl rfl (Nat.le_of_ble_eq_true rfl) (by simp [SlRes.ok]) ?_
 intro w hw
 conv => whnf
 refine sexec_loop (ι := Nat) (fun k => ⟨[(0, .o (.v (.slice A k c)))], [], [SlRes A (u32V l)]⟩) (fun k => tr (l.take k) = tr l ∧ k ≤ l.length) (fun k => k) l.length ⟨by rw [List.take_length], Nat.le_refl _⟩ (SLe.id ⟨rfl, trivial⟩ trivial (fun R hR => hR)) ?_
 rintro k ⟨hk, hkl⟩
 conv => whnf
 refine br_split ?_ ?_
 · intro h
   have hk0 : 0 < k := by simpa using h
   have hwr : IntKind.i64.wrap ((k : Int) - 1) = ((k - 1 : Nat) : Int) := by rw [wrap_i64 (by omega) (by omega)]; omega
   have hsome : A.isSome = true := slres_some (facts_one hw) (by rw [u32V_length]; omega)
   conv => whnf
   refine ⟨⟨by rw [hwr]; omega, by rw [hwr]; omega, hsome⟩, ?_⟩
   conv => whnf
   refine LoadVC.elem u32c u32c_len (List.mem_singleton.2 rfl) rfl (by rw [hwr]; omega) (by decide) (fun _ => rfl) ?_
   rw [hwr]
   intro x hx
   simp only [Int.toNat_natCast] at hx
   have htk : l.take k = l.take (k - 1) ++ [x] := by
     have := List.take_add_one (l := l) (i := k - 1)
     rw [show k - 1 + 1 = k by omega, hx] at this
     exact this
   conv => whnf
   refine br_split ?_ ?_
   · intro h2
     conv => whnf
     refine ⟨⟨by omega, by rw [hwr]; omega, by rw [hwr]; omega⟩, ?_⟩
     conv => whnf
     refine ⟨k - 1, ⟨?_, by omega⟩, by omega, ?_⟩
     · rw [htk, tr_snoc, if_pos (by simpa using h2)] at hk
       exact hk
     · refine SLe.id ⟨?_, trivial⟩ trivial (fun R hR => hR)
       show some _ = some _
       rw [hwr]
       simp only [SV.ren, AV.ren, Option.some.injEq, SV.o.injEq, AV.v.injEq, Value.slice.injEq]
       refine ⟨?_, by omega, by simp⟩
       split
       · rfl
       · cases A <;> simp [Addr.add]
   · intro h2
     conv => whnf
     refine postV_one ?_
     rw [htk, tr_snoc, if_neg (by simpa using h2)] at hk
     rw [← hk, ← htk]
     simp [Nat.min_eq_left hkl]
 · intro h
   conv => whnf
   refine postV_one ?_
   have hk0 : k = 0 := by simpa using h
   subst hk0
   rw [← hk]; rfl
end Go.Sx
end
section
set_option maxRecDepth 10000
namespace Go.Sx
open Go Go.Proofs
def pad (B K v : Nat) : List Nat := (List.range K).map fun j => v / B ^ j % B
theorem pad_length (B K v : Nat) : (pad B K v).length = K := by simp [pad]
theorem pad_get (B K v j : Nat) (hj : j < K) : (pad B K v)[j]? = some (v / B ^ j % B) := by simp [pad, hj]
theorem pad_lt {B : Nat} (hB : 0 < B) (K v : Nat) : ∀ x ∈ pad B K v, x < B := by
 intro x hx
 obtain ⟨j, _, rfl⟩ := List.mem_map.1 hx
 exact Nat.mod_lt _ hB
theorem pad_zero (B K : Nat) : pad B K 0 = List.replicate K 0 := by
 apply List.ext_getElem?
 intro j
 by_cases hj : j < K
 · rw [pad_get _ _ _ _ hj]; simp [hj]
 · rw [List.getElem?_eq_none (by rw [pad_length]; omega), List.getElem?_eq_none (by simp; omega)]
theorem pad_succ (B K v : Nat) : pad B (K + 1) v = v % B :: pad B K (v / B) := by
 simp only [pad, List.range_succ_eq_map, List.map_cons, List.map_map]
 congr 1
 · simp
 · apply List.map_congr_left
   intro j _
   simp only [Function.comp, Nat.succ_eq_add_one, Nat.pow_succ]
   rw [Nat.mul_comm, Nat.div_div_eq_div_mul]
theorem lv_pad {B : Nat} (hB : 0 < B) : ∀ (K v : Nat), lv B (pad B K v) = v % B ^ K
 | 0, v => by simp [pad, lv, Nat.mod_one]
 | K + 1, v => by
   rw [pad_succ, lv, lv_pad hB K, Nat.pow_succ, Nat.mul_comm (B ^ K), Nat.mod_mul]
theorem pad_digs {B K v : Nat} (hB : 2 ≤ B) (h1 : v < B ^ K) (h2 : K = 0 ∨ B ^ (K - 1) ≤ v) : pad B K v = digs B v := by
 have hlv : lv B (pad B K v) = v := by rw [lv_pad (by omega), Nat.mod_eq_of_lt h1]
 have := digs_lv hB (pad B K v) (pad_lt (by omega) K v) (by
   rcases Nat.eq_zero_or_pos K with rfl | hK
   · simp [pad]
   · rw [List.getLast?_eq_getElem?, pad_length, pad_get _ _ _ _ (by omega)]
     have h3 : 0 < v / B ^ (K - 1) := Nat.div_pos (by rcases h2 with h | h; omega; exact h) (Nat.pow_pos (by omega))
     have h4 : v / B ^ (K - 1) < B := by
       apply Nat.div_lt_of_lt_mul
       rw [← Nat.pow_succ, show (K - 1).succ = K by omega]; exact h1
     rw [Nat.mod_eq_of_lt h4]
     simp; omega)
 rw [hlv] at this
 exact this.symm
theorem pad_byte (K i v b : Nat) (hv : v < 256 ^ i) (hb : b < 256) (hK : i / 4 < K) :
   pad (2 ^ 32) K (v + b * 256 ^ i) = (pad (2 ^ 32) K v).set (i / 4) (v / (2 ^ 32) ^ (i / 4) % 2 ^ 32 + b * 2 ^ (8 * (i % 4))) ∧ v / (2 ^ 32) ^ (i / 4) % 2 ^ 32 < 2 ^ (8 * (i % 4)) := by
 have hi : 4 * (i / 4) + i % 4 = i := Nat.div_add_mod i 4
 have hr : i % 4 < 4 := Nat.mod_lt _ (by omega)
 have h256 : (256 : Nat) ^ i = (2 ^ 32) ^ (i / 4) * 2 ^ (8 * (i % 4)) := by
   rw [show (256 : Nat) = 2 ^ 8 by rfl, ← Nat.pow_mul, ← Nat.pow_mul, ← Nat.pow_add]
   congr 1; omega
 have hP : 0 < (2 ^ 32 : Nat) ^ (i / 4) := Nat.pow_pos (by decide)
 have hlow : v / (2 ^ 32) ^ (i / 4) < 2 ^ (8 * (i % 4)) := by
   apply Nat.div_lt_of_lt_mul
   rw [← h256]; exact hv
 have hle : 2 ^ (8 * (i % 4)) ≤ (2 ^ 32 : Nat) := Nat.pow_le_pow_right (by decide) (by omega)
 have hdiv : (v + b * 256 ^ i) / (2 ^ 32) ^ (i / 4) = v / (2 ^ 32) ^ (i / 4) + b * 2 ^ (8 * (i % 4)) := by
   rw [h256, show b * ((2 ^ 32) ^ (i / 4) * 2 ^ (8 * (i % 4))) = (2 ^ 32) ^ (i / 4) * (b * 2 ^ (8 * (i % 4))) by rw [Nat.mul_left_comm], Nat.add_mul_div_left _ _ hP]
 have hb2 : b * 2 ^ (8 * (i % 4)) + 2 ^ (8 * (i % 4)) ≤ 2 ^ 32 := by
   have h1 : (b + 1) * 2 ^ (8 * (i % 4)) ≤ 256 * 2 ^ (8 * (i % 4)) := Nat.mul_le_mul_right _ hb
   have h2 : 256 * 2 ^ (8 * (i % 4)) = 2 ^ (8 + 8 * (i % 4)) := by rw [Nat.pow_add]
   have h3 : (2 : Nat) ^ (8 + 8 * (i % 4)) ≤ 2 ^ 32 := Nat.pow_le_pow_right (by decide) (by omega)
   rw [Nat.add_mul, Nat.one_mul] at h1
   omega
 rw [Nat.mod_eq_of_lt (Nat.lt_of_lt_of_le hlow hle)]
 refine ⟨?_, hlow⟩
 apply List.ext_getElem?
 intro j
 by_cases hj : j < K
 · rw [pad_get _ _ _ _ hj, List.getElem?_set]
   by_cases he : i / 4 = j
   · subst he
     rw [if_pos rfl, if_pos (by rw [pad_length]; exact hK), hdiv, Nat.mod_eq_of_lt (by omega)]
   · rw [if_neg he, pad_get _ _ _ _ hj]
     congr 1
     rcases Nat.lt_or_ge j (i / 4) with hlt | hge
     · -- below: a multiple is added
       have : (2 ^ 32 : Nat) ^ (i / 4) = (2 ^ 32) ^ j * ((2 ^ 32) ^ (i / 4 - j - 1) * 2 ^ 32) := by
         rw [← Nat.pow_succ, ← Nat.pow_add]; congr 1; omega
       rw [h256, this]
       have h5 : b * ((2 ^ 32) ^ j * ((2 ^ 32) ^ (i / 4 - j - 1) * 2 ^ 32) * 2 ^ (8 * (i % 4))) = (2 ^ 32) ^ j * (2 ^ 32 * (b * (2 ^ 32) ^ (i / 4 - j - 1) * 2 ^ (8 * (i % 4)))) := by
         simp only [Nat.mul_assoc, Nat.mul_left_comm, Nat.mul_comm]
       rw [h5, Nat.add_mul_div_left _ _ (Nat.pow_pos (by decide)), Nat.add_mul_mod_self_left]
     · -- above: nothing is there
       have hz : ∀ u, u < (2 ^ 32 : Nat) ^ (i / 4 + 1) → u / (2 ^ 32) ^ j = 0 := fun u hu => by
         apply Nat.div_eq_of_lt
         exact Nat.lt_of_lt_of_le hu (Nat.pow_le_pow_right (by decide) (by omega))
       have hcap : v + b * 256 ^ i < (2 ^ 32 : Nat) ^ (i / 4 + 1) := by
         have h6 : v + b * 256 ^ i < (b + 1) * 256 ^ i := by rw [Nat.add_mul, Nat.one_mul]; omega
         have h7 : (b + 1) * 256 ^ i ≤ (2 ^ 32) ^ (i / 4) * 2 ^ 32 := by
           rw [h256, Nat.mul_left_comm]
           apply Nat.mul_le_mul_left
           rw [Nat.add_mul, Nat.one_mul]; omega
         rw [Nat.pow_succ]; omega
       rw [hz _ hcap, hz v (by omega)]
 · rw [List.getElem?_eq_none (by rw [pad_length]; omega), List.getElem?_eq_none (by rw [List.length_set, pad_length]; omega)]

theorem or_add {a x s : Nat} (ha : a < 2 ^ s) (h : a + x * 2 ^ s < 2 ^ 32) :
   IntKind.u32.wrap ((BitVec.ofInt IntKind.u32.bits (a : Int) ||| BitVec.ofInt IntKind.u32.bits ((x * 2 ^ s : Nat) : Int)).toNat : Int) = ((a + x * 2 ^ s : Nat) : Int) := by
 rw [IntKind.wrap_u32]
 have h1 : (BitVec.ofInt IntKind.u32.bits (a : Int)).toNat = a := by
   rw [BitVec.toNat_ofInt]; simp [IntKind.bits]; omega
 have h2 : (BitVec.ofInt IntKind.u32.bits ((x * 2 ^ s : Nat) : Int)).toNat = x * 2 ^ s := by
   rw [BitVec.toNat_ofInt]; show ((((x * 2 ^ s : Nat) : Int)) % ((2 ^ 32 : Nat) : Int)).toNat = _; omega
 rw [BitVec.toNat_or, h1, h2, Nat.or_comm, Nat.mul_comm x, ← Nat.two_pow_add_eq_or_of_lt ha]
 rw [Nat.mul_comm x] at h
 omega

theorem c_load (l : List UInt8) (hl : l.length ≤ 1000000000000) : FnM PP f_bigint_load [.string (bs l)] (facts []) (retsO t_uint32 1 (digs (2 ^ 32) (nat l)).length (u32V (digs (2 ^ 32) (nat l)))) := by
 refine FnO.of TBgood mixed h_bigint_load rfl rfl (Nat.le_of_ble_eq_true rfl) (by simp) ?_
 intro w hw
 conv => whnf
 refine CallVC.fn (c_strip l) rfl ?_
 obtain ⟨m, hm⟩ : ∃ m, m = stripL l := ⟨_, rfl⟩
 rw [← hm]
 have hml : m.length ≤ 1000000000000 := by rw [hm]; have := stripL_length l; omega
 obtain ⟨n, hn⟩ : ∃ n, n = m.length := ⟨_, rfl⟩
 have hK : IntKind.i64.wrap ((IntKind.i64.wrap (IntKind.i64.wrap (((bs m).size : Int) + 4) - 1)).tdiv 4) = (((n + 3) / 4 : Nat) : Int) := by
   rw [bs_size, ← hn, wrap_i64 (n := (n : Int) + 4) (by omega) (by omega), wrap_i64 (n := (n : Int) + 4 - 1) (by omega) (by omega), Int.tdiv_eq_ediv_of_nonneg (by omega), wrap_i64 (by omega) (by omega)]
   omega
 conv => whnf
 refine ⟨by decide, ?_⟩
 conv => whnf
 refine ⟨by rw [hK]; refine ⟨by omega, by omega, ?_, by omega⟩; show (4 : Int) * _ ≤ _; omega, ?_⟩
 conv => whnf
 refine sexec_loop (ι := Nat) (fun i => ⟨[(0, .o (.v (.string (bs m)))), (3, .o (.w 13)), (15, .o (.v (.int .i64 n))), (16, .o (.v (.int .i64 i)))], [(13, .own t_uint32 1 ((n + 3) / 4) (u32V (pad (2 ^ 32) ((n + 3) / 4) (nat (m.drop (n - i))))))], []⟩)
   (fun i => i ≤ n) (fun i => n - i) 0 (Nat.zero_le _) (SLe.id ⟨rfl, rfl, by rw [hn]; rfl, rfl, trivial⟩ ⟨⟨_, rfl, ?_⟩, trivial⟩ (fun R hR => hR)) ?_
 · rw [hK]
   simp only [ME.ren, Int.toNat_natCast]
   rw [Nat.sub_zero, hn, List.drop_length, nat_nil, pad_zero]
   simp only [u32V, rowV_repl]
   exact .refl _
 intro i hi
 conv => whnf
 refine br_split ?_ ?_
 · intro h
   have hi' : i < n := by simpa using h
   have hk1 : IntKind.i64.wrap (IntKind.i64.wrap (((bs m).size : Int) - 1) - (i : Int)) = ((n - 1 - i : Nat) : Int) := by
     rw [bs_size, ← hn, wrap_i64 (n := (n : Int) - 1) (by omega) (by omega), wrap_i64 (by omega) (by omega)]; omega
   have hq : IntKind.i64.wrap ((i : Int).tdiv 4) = ((i / 4 : Nat) : Int) := by
     rw [Int.tdiv_eq_ediv_of_nonneg (by omega), wrap_i64 (by omega) (by omega)]; omega
   have hr : IntKind.i64.wrap (8 * (i : Int).tmod 4) = ((8 * (i % 4) : Nat) : Int) := by
     rw [Int.tmod_eq_emod_of_nonneg (by omega), wrap_i64 (by omega) (by omega)]; omega
   conv => whnf
   refine DrawVC.quiet (by kernel_rfl) ?_
   conv => whnf
   refine ⟨by decide, ?_⟩
   conv => whnf
   refine ⟨by rw [hq]; omega, ?_⟩
   conv => whnf
   refine RowVC.elem u32c u32c_len (k := i / 4) (by rw [hq]; rfl) (by rw [pad_length]; omega) (by decide) (fun _ => rfl) ?_
   intro x hx
   rw [pad_get _ _ _ _ (by omega), Option.some.injEq] at hx
   conv => whnf
   refine ⟨by rw [hk1, bs_size]; omega, ?_⟩
   conv => whnf
   refine ⟨by decide, ?_⟩
   conv => whnf
   refine ⟨by rw [hr]; omega, ?_⟩
   conv => whnf
   refine ⟨by rw [hq]; omega, ?_⟩
   conv => whnf
   refine ⟨by rw [hq, u32V_length, pad_length]; exact ⟨by show (i / 4) * 1 + 1 ≤ _; omega, by decide⟩, ?_⟩
   conv => whnf
   refine ⟨i + 1, hi', by omega, ?_⟩
   refine SLe.id ⟨rfl, rfl, rfl, ?_, trivial⟩ ⟨⟨_, rfl, ?_⟩, trivial⟩ (fun R hR => hR)
   · show some (SV.o (.v (.int _ (IntKind.i64.wrap ((i : Int) + 1))))) = _
     rw [wrap_i64 (by omega) (by omega)]; rfl
   · have hlt : n - 1 - i < m.length := by omega
     obtain ⟨b, hb⟩ : ∃ b, b = m[n - 1 - i].toNat := ⟨_, rfl⟩
     have hb256 : b < 256 := by rw [hb]; exact UInt8.toNat_lt _
     have hdrop : m.drop (n - (i + 1)) = m[n - 1 - i] :: m.drop (n - i) := by
       rw [show n - (i + 1) = n - 1 - i by omega, List.drop_eq_getElem_cons hlt, show n - 1 - i + 1 = n - i by omega]
     have hlen : (m.drop (n - i)).length = i := by rw [List.length_drop]; omega
     have hv : nat (m.drop (n - i)) < 256 ^ i := by have := nat_lt (m.drop (n - i)); rwa [hlen] at this
     have hnat : nat (m.drop (n - (i + 1))) = nat (m.drop (n - i)) + b * 256 ^ i := by rw [hdrop, nat_cons, hlen, hb, Nat.add_comm]
     obtain ⟨h1, h2⟩ := pad_byte ((n + 3) / 4) i _ b hv hb256 (by omega)
     rw [hx] at h1 h2
     have hle : (2 : Nat) ^ (8 * (i % 4)) * 256 ≤ 2 ^ 32 := by
       rw [show (256 : Nat) = 2 ^ 8 by rfl, ← Nat.pow_add]
       exact Nat.pow_le_pow_right (by decide) (by omega)
     have hsum : x + b * 2 ^ (8 * (i % 4)) < 2 ^ 32 := by
       have h3 : (b + 1) * 2 ^ (8 * (i % 4)) ≤ 256 * 2 ^ (8 * (i % 4)) := Nat.mul_le_mul_right _ hb256
       rw [Nat.add_mul, Nat.one_mul] at h3
       rw [Nat.mul_comm] at hle
       omega
     have hval : sb (bs m) (IntKind.i64.wrap (IntKind.i64.wrap (((bs m).size : Int) - 1) - (i : Int))) = (b : Int) := by
       rw [hk1, sb_bs, Int.toNat_natCast, List.getD_eq_getElem?_getD, List.getElem?_eq_getElem hlt, hb]; rfl
     have hsh : IntKind.u32.wrap (IntKind.u32.wrap (b : Int) * 2 ^ min (IntKind.i64.wrap (8 * (i : Int).tmod 4)).toNat IntKind.u32.bits) = ((b * 2 ^ (8 * (i % 4)) : Nat) : Int) := by
       rw [hr, Int.toNat_natCast, IntKind.wrap_u32 (b : Int), Int.emod_eq_of_lt (by omega) (by omega), show min (8 * (i % 4)) IntKind.u32.bits = 8 * (i % 4) from Nat.min_eq_left (by show _ ≤ 32; omega), IntKind.wrap_u32]
       have : ((b : Int) * 2 ^ (8 * (i % 4))) = ((b * 2 ^ (8 * (i % 4)) : Nat) : Int) := by rw [Int.natCast_mul, Int.natCast_pow]; rfl
       rw [this]
       omega
     rw [hval, hsh, or_add h2 hsum, hq, hnat]
     simp only [ME.ren]
     rw [h1]
     have := rowV_put (f := u32c) u32c_len (k := i / 4) (l := pad (2 ^ 32) ((n + 3) / 4) (nat (m.drop (n - i)))) (x + b * 2 ^ (8 * (i % 4))) (by rw [pad_length]; omega)
     show MEle (ME.own _ _ _ (putN (i / 4 * 1) (u32c _) (rowV u32c _))) (ME.own _ _ _ (rowV u32c _))
     rw [this]
     exact .refl _
 · intro h
   have hi' : i = n := by have : ¬ i < n := by simpa using h
                          omega
   conv => whnf
   refine ⟨13, rfl, ?_⟩
   show some (ME.own t_uint32 1 ((n + 3) / 4) (u32V (pad (2 ^ 32) ((n + 3) / 4) (nat (m.drop (n - i)))))) = _
   have hnm : nat m = nat l := by rw [hm, nat_stripL]
   have hdig : pad (2 ^ 32) ((n + 3) / 4) (nat m) = digs (2 ^ 32) (nat m) := by
     have hpw : ∀ k : Nat, ((2 : Nat) ^ 32) ^ k = 256 ^ (4 * k) := fun k => by rw [show (256 : Nat) = 2 ^ 8 by rfl, ← Nat.pow_mul, ← Nat.pow_mul]; congr 1; omega
     refine pad_digs (by decide) ?_ ?_
     · rw [hpw]
       exact Nat.lt_of_lt_of_le (nat_lt m) (Nat.pow_le_pow_right (by decide) (by omega))
     · rcases Nat.eq_zero_or_pos n with h0 | h0
       · left; omega
       · right
         rw [hpw]
         have hh : m.head? ≠ some 0 := by rw [hm]; exact stripL_head l
         rcases m with _ | ⟨y, r⟩
         · simp at hn; omega
         · have hy : 0 < y.toNat := by
             rcases Nat.eq_zero_or_pos y.toNat with h1 | h1
             · exact absurd (by rw [UInt8.toNat_inj.1 (show y.toNat = (0 : UInt8).toNat from h1)]; rfl) hh
             · exact h1
           rw [nat_cons]
           simp only [List.length_cons] at hn
           have h2 : 256 ^ (4 * ((n + 3) / 4 - 1)) ≤ 256 ^ r.length := Nat.pow_le_pow_right (by decide) (by omega)
           have h3 : 1 * 256 ^ r.length ≤ y.toNat * 256 ^ r.length := Nat.mul_le_mul_right _ hy
           omega
   have hlen : (n + 3) / 4 = (digs (2 ^ 32) (nat m)).length := by rw [← hdig, pad_length]
   rw [hi', Nat.sub_self, List.drop_zero, hdig, ← hnm, ← hlen]
end Go.Sx
end
section
set_option maxRecDepth 10000
namespace Go.Sx
open Go Go.Proofs
def cmpN (x y : Nat) : Int := if x < y then -1 else if y < x then 1 else 0
theorem lv_drop_lt {B : Nat} (hB : 0 < B) {a b : List Nat} {k x y : Nat} (ha : ∀ z ∈ a, z < B) (hlen : a.length = b.length) (hx : a[k]? = some x) (hy : b[k]? = some y) (hd : a.drop (k + 1) = b.drop (k + 1)) (hxy : x < y) : lv B a < lv B b := by
 obtain ⟨hka, rfl⟩ := List.getElem?_eq_some_iff.1 hx
 obtain ⟨hkb, rfl⟩ := List.getElem?_eq_some_iff.1 hy
 have h1 : lv B a = lv B (a.take k) + B ^ k * (a[k] + B * lv B (a.drop (k + 1))) := by
   conv => lhs; rw [← List.take_append_drop k a, List.drop_eq_getElem_cons hka]
   rw [lv_append, List.length_take, Nat.min_eq_left (by omega)]; rfl
 have h2 : lv B b = lv B (b.take k) + B ^ k * (b[k] + B * lv B (b.drop (k + 1))) := by
   conv => lhs; rw [← List.take_append_drop k b, List.drop_eq_getElem_cons hkb]
   rw [lv_append, List.length_take, Nat.min_eq_left (by omega)]; rfl
 have h3 : lv B (a.take k) < B ^ k := by
   have := lv_lt hB (a.take k) (fun z hz => ha z (List.mem_of_mem_take hz))
   rwa [List.length_take, Nat.min_eq_left (by omega)] at this
 rw [h1, h2, hd]
 have h4 : B ^ k * (a[k] + B * lv B (b.drop (k + 1)) + 1) ≤ B ^ k * (b[k] + B * lv B (b.drop (k + 1))) := Nat.mul_le_mul_left _ (by omega)
 rw [Nat.mul_add, Nat.mul_one] at h4
 omega
theorem c_compare (x y : Nat) (A B : Option Addr) (c d : Nat) (hx : (digs (2 ^ 32) x).length ≤ 1000000000000) (hy : (digs (2 ^ 32) y).length ≤ 1000000000000) :
   FnM PP f_bigint_limbs_compare [.slice A (digs (2 ^ 32) x).length c, .slice B (digs (2 ^ 32) y).length d] (facts [SlRes A (u32V (digs (2 ^ 32) x)), SlRes B (u32V (digs (2 ^ 32) y))]) (retsV (.int .i64 (cmpN x y))) := by
 obtain ⟨a, ha⟩ : ∃ a, a = digs (2 ^ 32) x := ⟨_, rfl⟩
 obtain ⟨b, hb⟩ : ∃ b, b = digs (2 ^ 32) y := ⟨_, rfl⟩
 rw [← ha, ← hb]
 rw [← ha] at hx
 rw [← hb] at hy
 have hlva : lv (2 ^ 32) a = x := by rw [ha, lv_digs (by decide)]
 have hlvb : lv (2 ^ 32) b = y := by rw [hb, lv_digs (by decide)]
 have hal : ∀ z ∈ a, z < 2 ^ 32 := by rw [ha]; exact digs_lt (by decide) x
 have hbl : ∀ z ∈ b, z < 2 ^ 32 := by rw [hb]; exact digs_lt (by decide) y
 have hshort : ∀ {u v : Nat}, (digs (2 ^ 32) u).length < (digs (2 ^ 32) v).length → u < v := by
   intro u v h
   rcases Nat.lt_or_ge u v with h1 | h1
   · exact h1
   · have h2 : v < (2 ^ 32) ^ (digs (2 ^ 32) u).length := Nat.lt_of_le_of_lt h1 (le_of_digs_length (by decide))
     have := digs_length_le (by decide) h2
     omega
 refine FnS.of TBgood mixed h_bigint_limbs_compare rfl rfl (Nat.le_of_ble_eq_true rfl) (by simp [SlRes.ok]) ?_
 intro w hw
 conv => whnf
 refine br_split ?_ ?_
 · intro h
   have hne : a.length ≠ b.length := by
     have : ¬ ((a.length : Int) = (b.length : Int)) := by simpa using h
     omega
   conv => whnf
   refine br_split ?_ ?_
   · intro h2
     have hlt : a.length < b.length := by simpa using h2
     conv => whnf
     refine postV_one ?_
     rw [ha, hb] at hlt
     rw [cmpN, if_pos (hshort hlt)]
   · intro h2
     have hlt : ¬ a.length < b.length := by simpa using h2
     conv => whnf
     refine postV_one ?_
     have : b.length < a.length := by omega
     rw [ha, hb] at this
     have := hshort this
     rw [cmpN, if_neg (by omega), if_pos this]
 · intro h
   have hlen : a.length = b.length := by
     have : (a.length : Int) = (b.length : Int) := by simpa using h
     omega
   have hwr : IntKind.i64.wrap ((a.length : Int) - 1) = (a.length : Int) - 1 := wrap_i64 (by omega) (by omega)
   conv => whnf
   refine sexec_loop (ι := Nat) (fun k => ⟨[(0, .o (.v (.slice A a.length c))), (1, .o (.v (.slice B b.length d))), (5, .o (.v (.int .i64 ((k : Int) - 1))))], [], [SlRes A (u32V a), SlRes B (u32V b)]⟩) (fun k => k ≤ a.length ∧ a.drop k = b.drop k) (fun k => k) a.length
     ⟨Nat.le_refl _, by rw [List.drop_length, hlen, List.drop_length]⟩ (SLe.id ⟨rfl, rfl, congrArg (fun z => some (SV.o (.v (.int .i64 z)))) hwr, trivial⟩ trivial (fun R hR => hR)) ?_
   rintro k ⟨hk, hdr⟩
   conv => whnf
   refine br_split ?_ ?_
   · intro h2
     have hk0 : 0 < k := by have : (0 : Int) ≤ (k : Int) - 1 := by simpa using h2
                            omega
     have hA : A.isSome = true := slres_some (facts_two hw).1 (by rw [u32V_length]; omega)
     have hB : B.isSome = true := slres_some (facts_two hw).2 (by rw [u32V_length]; omega)
     have hkn : ((k : Int) - 1).toNat = k - 1 := by omega
     conv => whnf
     refine DrawVC.quiet (by kernel_rfl) ?_
     conv => whnf
     refine ⟨⟨by omega, by omega, hA⟩, ?_⟩
     conv => whnf
     refine LoadVC.elem u32c u32c_len (List.mem_cons_self ..) rfl (by omega) (by decide) (fun _ => rfl) ?_
     intro u hu
     conv => whnf
     refine ⟨⟨by omega, by omega, hB⟩, ?_⟩
     conv => whnf
     refine LoadVC.elem u32c u32c_len (List.mem_cons_of_mem _ (List.mem_singleton.2 rfl)) rfl (by omega) (by decide) (fun _ => rfl) ?_
     intro v hv
     rw [hkn] at hu hv
     have hdr' : a.drop (k - 1 + 1) = b.drop (k - 1 + 1) := by rw [show k - 1 + 1 = k by omega]; exact hdr
     conv => whnf
     refine br_split ?_ ?_
     · intro h3
       have huv : u < v := by simpa using h3
       conv => whnf
       refine postV_one ?_
       have := lv_drop_lt (by decide) hal hlen hu hv hdr' huv
       rw [hlva, hlvb] at this
       rw [cmpN, if_pos this]
     · intro h3
       have huv : ¬ u < v := by simpa using h3
       conv => whnf
       refine DrawVC.quiet (by kernel_rfl) ?_
       conv => whnf
       refine ⟨⟨by omega, by omega, hA⟩, ?_⟩
       conv => whnf
       refine LoadVC.elem u32c u32c_len (List.mem_cons_self ..) rfl (by omega) (by decide) (fun _ => rfl) ?_
       intro u' hu'
       rw [hkn] at hu'
       have hu2 : u' = u := by rw [hu] at hu'; exact (Option.some.inj hu').symm
       subst hu2
       conv => whnf
       refine ⟨⟨by omega, by omega, hB⟩, ?_⟩
       conv => whnf
       refine LoadVC.elem u32c u32c_len (List.mem_cons_of_mem _ (List.mem_singleton.2 rfl)) rfl (by omega) (by decide) (fun _ => rfl) ?_
       intro v' hv'
       rw [hkn] at hv'
       have hv2 : v' = v := by rw [hv] at hv'; exact (Option.some.inj hv').symm
       subst hv2
       conv => whnf
       refine br_split ?_ ?_
       · intro h4
         have huv2 : v' < u' := by simpa using h4
         conv => whnf
         refine postV_one ?_
         have := lv_drop_lt (by decide) hbl hlen.symm hv hu hdr'.symm huv2
         rw [hlva, hlvb] at this
         rw [cmpN, if_neg (by omega), if_pos this]
       · intro h4
         have huv2 : ¬ v' < u' := by simpa using h4
         have e : u' = v' := by omega
         conv => whnf
         refine ⟨k - 1, ⟨by omega, ?_⟩, by omega, ?_⟩
         · obtain ⟨h5, h6⟩ := List.getElem?_eq_some_iff.1 hu
           obtain ⟨h7, h8⟩ := List.getElem?_eq_some_iff.1 hv
           rw [List.drop_eq_getElem_cons h5, List.drop_eq_getElem_cons h7, h6, h8, hdr', e]
         · refine SLe.id ⟨rfl, rfl, ?_, trivial⟩ trivial (fun R hR => hR)
           show some (SV.o (.v (.int _ (IntKind.i64.wrap ((k : Int) - 1 - 1))))) = _
           rw [wrap_i64 (by omega) (by omega)]
           simp only [SV.ren, AV.ren]
           congr 4; omega
   · intro h2
     have hk0 : k = 0 := by have : ¬ (0 : Int) ≤ (k : Int) - 1 := by simpa using h2
                            omega
     subst hk0
     conv => whnf
     refine postV_one ?_
     simp only [List.drop_zero] at hdr
     have : x = y := by rw [← hlva, ← hlvb, hdr]
     rw [cmpN, if_neg (by omega), if_neg (by omega)]
end Go.Sx
end
section
set_option maxRecDepth 10000
namespace Go.Sx
open Go Go.Proofs
def u8c (b : UInt8) : List Value := [.int .u8 (b.toNat : Int)]
theorem u8c_len (b : UInt8) : (u8c b).length = 1 := rfl
theorem rowV_u8 : ∀ l : List UInt8, rowV u8c l = bytV l
 | [] => rfl
 | x :: l => by rw [rowV, rowV_u8 l]; rfl
theorem nat_append (a b : List UInt8) : nat (a ++ b) = nat a * 256 ^ b.length + nat b := by
 induction a with
 | nil => simp [nat_nil]
 | cons x a ih =>
   rw [List.cons_append, nat_cons, nat_cons, ih, List.length_append, Nat.pow_add]
   rw [Nat.add_mul, Nat.mul_assoc]; omega
def be4 (x : Nat) : List UInt8 := [UInt8.ofNat (x / 2 ^ 24), UInt8.ofNat (x / 2 ^ 16), UInt8.ofNat (x / 2 ^ 8), UInt8.ofNat x]
theorem nat_be4 {x : Nat} (hx : x < 2 ^ 32) : nat (be4 x) = x := by
 simp only [be4, nat_cons, List.length_cons, List.length_nil, nat_nil, UInt8.toNat_ofNat']
 omega
def be (l : List Nat) : List UInt8 := l.reverse.flatMap be4
theorem nat_be : ∀ l : List Nat, (∀ x ∈ l, x < 2 ^ 32) → nat (be l) = lv (2 ^ 32) l
 | [], _ => rfl
 | x :: l, h => by
   have ih := nat_be l (fun y hy => h y (List.mem_cons_of_mem _ hy))
   rw [be] at ih ⊢
   rw [List.reverse_cons, List.flatMap_append, nat_append, ih, List.flatMap_cons, List.flatMap_nil, List.append_nil, nat_be4 (h x (by simp)), lv]
   simp only [be4, List.length_cons, List.length_nil]
   omega
theorem be_length (l : List Nat) : (be l).length = 4 * l.length := by
 rw [be]
 have : ∀ r : List Nat, (r.flatMap be4).length = 4 * r.length := by
   intro r
   induction r with
   | nil => rfl
   | cons x r ih => rw [List.flatMap_cons, List.length_append, ih]; simp [be4]; omega
 rw [this, List.length_reverse]
theorem be_cons (x : Nat) (l : List Nat) : be (x :: l) = be l ++ be4 x := by simp [be]
theorem u8_shift (x k : Nat) (hx : x < 2 ^ 32) : IntKind.u8.wrap ((x : Int).fdiv (2 ^ k)) = ((UInt8.ofNat (x / 2 ^ k)).toNat : Int) := by
 have h2 : ((2 : Int) ^ k) = ((2 ^ k : Nat) : Int) := by rw [Int.natCast_pow]; rfl
 rw [IntKind.wrap_u8, UInt8.toNat_ofNat', h2, Int.fdiv_eq_ediv_of_nonneg _ (Int.natCast_nonneg _)]
 have : ((x : Int) / ((2 ^ k : Nat) : Int)) = ((x / 2 ^ k : Nat) : Int) := rfl
 rw [this]; omega
theorem u8_low (x : Nat) : IntKind.u8.wrap (x : Int) = ((UInt8.ofNat x).toNat : Int) := by
 rw [IntKind.wrap_u8, UInt8.toNat_ofNat']; omega

theorem c_store (A : Option Addr) (c : Nat) (l : List Nat) (hl : ∀ x ∈ l, x < 2 ^ 32) (hlen : l.length ≤ 1000000000000) : FnM PP f_bigint_limbs_store [.slice A l.length c] (facts [SlRes A (u32V l)]) (retsV (.string (bs (bytes (lv (2 ^ 32) l))))) := by
 refine FnS.of TBgood mixed h_bigint_limbs_store rfl rfl (Nat.le_of_ble_eq_true rfl) (by simp [SlRes.ok]) ?_
 intro w hw
 have hwr : IntKind.i64.wrap ((l.length : Int) - 1) = (l.length : Int) - 1 := wrap_i64 (by omega) (by omega)
 conv => whnf
 refine sexec_loop (ι := Nat) (fun k => ⟨[(0, .o (.v (.slice A l.length c))), (3, .o (.w 100)), (4, .o (.v (.int .i64 ((k : Int) - 1))))], [(100, .own t_uint8 1 (4 * (l.length - k)) (rowV u8c (be (l.drop k))))], [SlRes A (u32V l)]⟩) (fun k => k ≤ l.length) (fun k => k) l.length (Nat.le_refl _)
   ((SLe.nil 3 100 t_uint8 1 rfl rfl).trans (SLe.id ⟨rfl, rfl, congrArg (fun z => some (SV.o (.v (.int .i64 z)))) hwr, trivial⟩ ⟨⟨_, rfl, ?_⟩, trivial⟩ (fun R hR => hR))) ?_
 · rw [Nat.sub_self, List.drop_length]; exact .refl _
 intro k hk
 conv => whnf
 refine br_split ?_ ?_
 · intro h
   have hk0 : 0 < k := by have : (0 : Int) ≤ (k : Int) - 1 := by simpa using h
                          omega
   have hA : A.isSome = true := slres_some (facts_one hw) (by rw [u32V_length]; omega)
   have hkn : ((k : Int) - 1).toNat = k - 1 := by omega
   have hget : l[k - 1]? = some l[k - 1] := List.getElem?_eq_getElem (by omega)
   conv => whnf
   refine DrawVC.quiet (by kernel_rfl) ?_
   conv => whnf
   refine ⟨⟨by omega, by omega, hA⟩, ?_⟩
   conv => whnf
   refine LoadVC.elem u32c u32c_len (List.mem_singleton.2 rfl) rfl (by omega) (by decide) (fun _ => rfl) ?_
   rw [hkn]
   intro x hx
   conv => whnf
   refine ⟨by decide, ?_⟩
   conv => whnf
   refine ⟨⟨by omega, by omega, hA⟩, ?_⟩
   conv => whnf
   refine LoadVC.elem u32c u32c_len (List.mem_singleton.2 rfl) rfl (by omega) (by decide) (fun _ => rfl) ?_
   rw [hkn]
   intro x2 hx2
   obtain rfl : x2 = x := by rw [hx] at hx2; exact (Option.some.inj hx2).symm
   conv => whnf
   refine ⟨by decide, ?_⟩
   conv => whnf
   refine ⟨⟨by omega, by omega, hA⟩, ?_⟩
   conv => whnf
   refine LoadVC.elem u32c u32c_len (List.mem_singleton.2 rfl) rfl (by omega) (by decide) (fun _ => rfl) ?_
   rw [hkn]
   intro x3 hx3
   obtain rfl : x3 = x2 := by rw [hx] at hx3; exact (Option.some.inj hx3).symm
   conv => whnf
   refine ⟨by decide, ?_⟩
   conv => whnf
   refine ⟨⟨by omega, by omega, hA⟩, ?_⟩
   conv => whnf
   refine LoadVC.elem u32c u32c_len (List.mem_singleton.2 rfl) rfl (by omega) (by decide) (fun _ => rfl) ?_
   rw [hkn]
   intro x4 hx4
   obtain rfl : x4 = x3 := by rw [hx] at hx4; exact (Option.some.inj hx4).symm
   have hxb : x4 < 2 ^ 32 := hl x4 (List.mem_of_getElem? hx)
   conv => whnf
   refine ⟨⟨by omega, by show _ * 1 ≤ _; omega⟩, ?_⟩
   conv => whnf
   refine ⟨k - 1, by omega, by omega, ?_⟩
   refine SLe.mk (fun _ => 37) ⟨rfl, rfl, ?_, trivial⟩ ⟨⟨_, rfl, ?_⟩, trivial⟩ rfl (fun R hR => hR)
   · show some (SV.o (.v (.int _ (IntKind.i64.wrap ((k : Int) - 1 - 1))))) = _
     rw [wrap_i64 (by omega) (by omega)]
     simp only [SV.ren, AV.ren]
     congr 4; omega
   · have hle : be (l.drop (k - 1)) = be (l.drop k) ++ be4 x4 := by
       rw [List.drop_eq_getElem_cons (show k - 1 < l.length by omega), be_cons, show k - 1 + 1 = k by omega]
       congr 2
       rw [hget] at hx; exact Option.some.inj hx
     show MEle (ME.own _ _ (4 * (l.length - k) + 4) (app (rowV u8c (be (l.drop k))) [Value.int _ (IntKind.u8.wrap ((x4 : Int).fdiv (2 ^ 24))), Value.int _ (IntKind.u8.wrap ((x4 : Int).fdiv (2 ^ 16))), Value.int _ (IntKind.u8.wrap ((x4 : Int).fdiv (2 ^ 8))), Value.int _ (IntKind.u8.wrap (x4 : Int))])) (ME.own _ _ (4 * (l.length - (k - 1))) (rowV u8c (be (l.drop (k - 1)))))
     rw [u8_shift x4 24 hxb, u8_shift x4 16 hxb, u8_shift x4 8 hxb, u8_low, app_eq, hle, rowV_append, show 4 * (l.length - k) + 4 = 4 * (l.length - (k - 1)) by omega]
     exact .refl _
 · intro h
   have hk0 : k = 0 := by have : ¬ (0 : Int) ≤ (k : Int) - 1 := by simpa using h
                          omega
   subst hk0
   conv => whnf
   refine ⟨be l, ?_, ?_, ?_⟩
   · rw [be_length]; omega
   · rw [List.drop_zero, ← rowV_u8, List.take_of_length_le]
     rw [rowV_length u8c_len, be_length]; omega
   · conv => whnf
     refine CallVC.fn (c_strip (be l)) rfl ?_
     conv => whnf
     refine postV_one ?_
     rw [stripL_eq, nat_be l hl]
end Go.Sx
end
section
set_option maxRecDepth 10000
namespace Go.Sx
open Go Go.Proofs
abbrev intV (neg : Bool) (mag : ByteArray) : Value := .agg ⟨[.bool neg, .string mag]⟩
abbrev zV (z : Int) : Value := intV (decide (z < 0)) (bs (bytes z.natAbs))
theorem bytes_empty (n : Nat) : ((bs (bytes n)).toList == (⟨#[]⟩ : ByteArray).toList) = decide (n = 0) := by
 rw [bs_toList, ByteArray.toList_eq]
 rcases Nat.eq_zero_or_pos n with rfl | h
 · rw [bytes_zero]; rfl
 · have : bytes n ≠ [] := fun e => by have := bytes_nil.1 e; omega
   have h2 : (bytes n == []) = false := by
     cases hb : bytes n with
     | nil => exact absurd hb this
     | cons x r => rfl
   rw [show (⟨#[]⟩ : ByteArray).data.toList = [] from rfl, h2]
   simp; omega
theorem c_pack (neg : Bool) (A : Option Addr) (c : Nat) (l : List Nat) (hl : ∀ x ∈ l, x < 2 ^ 32) (hc : l.length ≤ c) (hlen : l.length ≤ 1000000000000) : FnM PP f_bigint_pack [.bool neg, .slice A l.length c] (facts [SlRes A (u32V l)]) (retsV (zV (if neg then -(lv (2 ^ 32) l : Int) else lv (2 ^ 32) l))) := by
 refine FnS.of TBgood mixed h_bigint_pack rfl rfl (Nat.le_of_ble_eq_true rfl) (by simp [SlRes.ok]) ?_
 intro w hw
 have htl : (u32V l).take (tr l).length = u32V (tr l) := by
   have := rowV_take (f := u32c) u32c_len (tr l).length l
   rw [Nat.mul_one, tr_take] at this
   exact this
 have htr : lv (2 ^ 32) (tr l) = lv (2 ^ 32) l := by rw [tr_eq (by decide) hl, lv_digs (by decide)]
 have htb : ∀ x ∈ tr l, x < 2 ^ 32 := by rw [tr_eq (by decide) hl]; exact digs_lt (by decide) _
 conv => whnf
 refine CallVC.cutR (k := (tr l).length) (c_trim A c l hc hlen) (List.mem_singleton.2 rfl) ?_ rfl
 rw [htl]
 conv => whnf
 have hcs := c_store A c (tr l) htb (Nat.le_trans (tr_length l) hlen)
 refine CallVC.v hcs.enters (CallV.facts hcs rfl (by intro R hR; rw [List.mem_singleton] at hR; subst hR; exact List.mem_cons_self ..)) ?_
 rw [htr]
 cases neg
 · conv => whnf
   refine postV_one ?_
   rw [if_neg (by decide)]
   have h1 : decide ((lv (2 ^ 32) l : Int) < 0) = false := by simp
   simp only [zV, intV]
   rw [h1, Int.natAbs_natCast]
 · conv => whnf
   refine postV_one ?_
   rw [if_pos rfl, bytes_empty]
   simp only [zV, intV]
   rw [Int.natAbs_neg, Int.natAbs_natCast]
   have h1 : decide (-(lv (2 ^ 32) l : Int) < 0) = (!decide (lv (2 ^ 32) l = 0)) := by
     by_cases h : lv (2 ^ 32) l = 0
     · simp [h]
     · rw [decide_eq_true (show -(lv (2 ^ 32) l : Int) < 0 by omega), decide_eq_false h]; rfl
   rw [h1]
theorem c_Of (n : Int) (h1 : -9223372036854775808 ≤ n) (h2 : n ≤ 9223372036854775807) : Fn PP f_bigint_Of [.int .i64 n] (zV n) := by
 refine Fn.of TBgood mixed h_bigint_Of rfl rfl (Nat.le_of_ble_eq_true rfl) ?_
 intro w
 have key : ∀ (u : Nat) (neg : Bool), u < 2 ^ 64 → ∀ (A : Option Addr) (c : Nat), 2 ≤ c → FnM PP f_bigint_pack [.bool neg, .slice A 2 c] (facts [SlRes A [.int .u32 ((u % 2 ^ 32 : Nat) : Int), .int .u32 ((u / 2 ^ 32 : Nat) : Int)]]) (retsV (zV (if neg then -(u : Int) else u))) := by
   intro u neg hu A c hc
   have := c_pack neg A c [u % 2 ^ 32, u / 2 ^ 32] (by intro x hx; simp at hx; omega) hc (by simp)
   have he : lv (2 ^ 32) [u % 2 ^ 32, u / 2 ^ 32] = u := by simp only [lv]; omega
   rw [he] at this
   exact this
 have hlo : ∀ u : Nat, u < 2 ^ 64 → IntKind.u32.wrap (u : Int) = ((u % 2 ^ 32 : Nat) : Int) := fun u hu => by rw [IntKind.wrap_u32]; omega
 have hhi : ∀ u : Nat, u < 2 ^ 64 → IntKind.u32.wrap ((u : Int).fdiv (2 ^ min (32 : Int).toNat IntKind.u64.bits)) = ((u / 2 ^ 32 : Nat) : Int) := fun u hu => by
   rw [IntKind.wrap_u32, show min (32 : Int).toNat IntKind.u64.bits = 32 from rfl, Int.fdiv_eq_ediv_of_nonneg _ (by decide)]; omega
 conv => whnf
 refine br_split ?_ ?_
 · intro h
   have hn : n < 0 := by simpa using h
   obtain ⟨u, hu⟩ : ∃ u : Nat, (u : Int) = -n := ⟨(-n).toNat, by omega⟩
   have hu2 : u < 2 ^ 64 := by omega
   have hwu : IntKind.u64.wrap (0 - IntKind.u64.wrap n) = (u : Int) := by rw [IntKind.wrap_u64, IntKind.wrap_u64]; omega
   conv => whnf
   refine ⟨by decide, ?_⟩
   conv => whnf
   have hk := key u true hu2
   rw [if_pos rfl, show -(u : Int) = n by omega] at hk
   refine CallVC.v (r := zV n) (hk none 2 (Nat.le_refl _)).enters (CallV.sl1 (x := .o (.s 17 0 2 2)) (fun v => [.bool true, v]) (RdA.box rfl (Nat.le_refl _)) (List.mem_cons_of_mem _ (List.mem_cons_self ..)) ?_ ?_) ?_
   · intro E
     show [Value.bool (decide (n < 0)), _] = _
     rw [decide_eq_true hn]; rfl
   · rw [hwu, hlo u hu2, hhi u hu2]
     exact hk
   · conv => whnf
     exact postV_one rfl
 · intro h
   have hn : ¬ n < 0 := by simpa using h
   obtain ⟨u, hu⟩ : ∃ u : Nat, (u : Int) = n := ⟨n.toNat, by omega⟩
   have hu2 : u < 2 ^ 64 := by omega
   have hwu : IntKind.u64.wrap n = (u : Int) := by rw [IntKind.wrap_u64]; omega
   conv => whnf
   refine ⟨by decide, ?_⟩
   conv => whnf
   have hk := key u false hu2
   rw [if_neg (by decide), hu] at hk
   refine CallVC.v (r := zV n) (hk none 2 (Nat.le_refl _)).enters (CallV.sl1 (x := .o (.s 17 0 2 2)) (fun v => [.bool false, v]) (RdA.box rfl (Nat.le_refl _)) (List.mem_cons_of_mem _ (List.mem_cons_self ..)) ?_ ?_) ?_
   · intro E
     show [Value.bool (decide (n < 0)), _] = _
     rw [decide_eq_false hn]; rfl
   · rw [hwu, hlo u hu2, hhi u hu2]
     exact hk
   · conv => whnf
     exact postV_one rfl
end Go.Sx
end
section
set_option maxRecDepth 10000
namespace Go.Sx
open Go Go.Proofs
theorem lv_snoc (B : Nat) (l : List Nat) (x : Nat) : lv B (l ++ [x]) = lv B l + B ^ l.length * x := by rw [lv_append]; simp [lv]
theorem lv_take_succ {B i x : Nat} {l : List Nat} (h : l[i]? = some x) : lv B (l.take (i + 1)) = lv B (l.take i) + B ^ i * x := by
 obtain ⟨hi, rfl⟩ := List.getElem?_eq_some_iff.1 h
 rw [List.take_add_one, List.getElem?_eq_getElem hi]
 simp only [Option.toList_some]
 rw [lv_snoc, List.length_take, Nat.min_eq_left (by omega)]
theorem take_past {α : Type} {i : Nat} {l : List α} (h : l.length ≤ i) : l.take (i + 1) = l.take i := by rw [List.take_of_length_le (by omega), List.take_of_length_le h]
theorem plus_step {B i cy x y : Nat} {a b o : List Nat} (hB : 0 < B) (ho : o.length = i) (hv : lv B o + B ^ i * cy = lv B (a.take i) + lv B (b.take i)) (hx : a[i]? = some x) (hy : b[i]? = some y ∨ (b.length ≤ i ∧ y = 0)) :
   lv B (o ++ [(cy + x + y) % B]) + B ^ (i + 1) * ((cy + x + y) / B) = lv B (a.take (i + 1)) + lv B (b.take (i + 1)) := by
 have h1 := lv_take_succ (B := B) hx
 have h2 : lv B (b.take (i + 1)) = lv B (b.take i) + B ^ i * y := by
   rcases hy with h | ⟨h, rfl⟩
   · exact lv_take_succ h
   · rw [take_past h]; omega
 rw [h1, h2, lv_snoc, ho, Nat.pow_succ, Nat.mul_assoc]
 have h3 : B ^ i * ((cy + x + y) % B) + B ^ i * (B * ((cy + x + y) / B)) = B ^ i * (cy + x + y) := by
   rw [← Nat.mul_add, Nat.mod_add_div]
 rw [Nat.mul_add, Nat.mul_add] at h3
 omega

theorem c_plus (A B : Option Addr) (c d : Nat) (a b : List Nat) (ha : ∀ x ∈ a, x < 2 ^ 32) (hb : ∀ x ∈ b, x < 2 ^ 32) (hla : a.length ≤ 100000000000) (hlb : b.length ≤ 100000000000) :
   FnM PP f_bigint_limbs_plus [.slice A a.length c, .slice B b.length d] (facts [SlRes A (u32V a), SlRes B (u32V b)]) (retsO t_uint32 1 (digs (2 ^ 32) (lv (2 ^ 32) a + lv (2 ^ 32) b)).length (u32V (digs (2 ^ 32) (lv (2 ^ 32) a + lv (2 ^ 32) b)))) := by
 refine FnO.of TBgood mixed h_bigint_limbs_plus rfl rfl (Nat.le_of_ble_eq_true rfl) (by simp [SlRes.ok]) ?_
 intro w hw
 obtain ⟨re, hre⟩ : ∃ re, re = [SlRes A (u32V a), SlRes B (u32V b)] := ⟨_, rfl⟩
 have hmA : SlRes A (u32V a) ∈ re := by rw [hre]; simp
 have hmB : SlRes B (u32V b) ∈ re := by rw [hre]; simp
 have hfA : SlF A (u32V a) w := (facts_two hw).1
 have hfB : SlF B (u32V b) w := (facts_two hw).2
 obtain ⟨s, hs⟩ : ∃ s, s = lv (2 ^ 32) a + lv (2 ^ 32) b := ⟨_, rfl⟩
 rw [← hre, ← hs]
 clear hre hw
 conv => whnf
 refine br_split ?_ ?_
 · intro h
   obtain ⟨A1, a1, c1, B1, b1, d1, eA, ea, ec, eB, eb, ed⟩ : ∃ A1 a1 c1 B1 b1 d1, A1 = B ∧ a1 = b ∧ c1 = d ∧ B1 = A ∧ b1 = a ∧ d1 = c := ⟨_, _, _, _, _, _, rfl, rfl, rfl, rfl, rfl, rfl⟩
   have hlen : b1.length ≤ a1.length := by
     have : (a.length : Int) < b.length := by simpa using h
     rw [ea, eb]; omega
   have hs1 : s = lv (2 ^ 32) a1 + lv (2 ^ 32) b1 := by rw [hs, ea, eb, Nat.add_comm]
   have ha1 : ∀ x ∈ a1, x < 2 ^ 32 := ea ▸ hb
   have hb1 : ∀ x ∈ b1, x < 2 ^ 32 := eb ▸ ha
   have hla1 : a1.length ≤ 100000000000 := ea ▸ hlb
   have hmA1 : SlRes A1 (u32V a1) ∈ re := by rw [eA, ea]; exact hmB
   have hmB1 : SlRes B1 (u32V b1) ∈ re := by rw [eB, eb]; exact hmA
   have hfA1 : SlF A1 (u32V a1) w := by rw [eA, ea]; exact hfB
   have hfB1 : SlF B1 (u32V b1) w := by rw [eB, eb]; exact hfA
   conv => whnf
   rw [← eA, ← ea, ← ec, ← eB, ← eb, ← ed]
   clear hs hmA hmB hfA hfB ha hb hla hlb
   have hcap : IntKind.i64.wrap ((a1.length : Int) + 1) = ((a1.length + 1 : Nat) : Int) := by rw [wrap_i64 (by omega) (by omega)]; omega
   refine ⟨by rw [hcap]; refine ⟨by decide, by omega, ?_, by omega⟩; show (4 : Int) * _ ≤ _; omega, ?_⟩
   conv => whnf
   refine sexec_loop (ι := List Nat × Nat) (fun ⟨o, cy⟩ => ⟨[(0, .o (.v (.slice A1 a1.length c1))), (1, .o (.v (.slice B1 b1.length d1))), (5, .o (.w 100)), (6, .o (.v (.int .u64 cy))), (20, .o (.v (.slice A1 a1.length c1))), (21, .o (.v (.int .i64 a1.length))), (22, .o (.v (.int .i64 o.length)))], [(100, .own t_uint32 1 o.length (u32V o))], re⟩)
     (fun ⟨o, cy⟩ => o.length ≤ a1.length ∧ cy ≤ 1 ∧ (∀ x ∈ o, x < 2 ^ 32) ∧ lv (2 ^ 32) o + (2 ^ 32) ^ o.length * cy = lv (2 ^ 32) (a1.take o.length) + lv (2 ^ 32) (b1.take o.length)) (fun ⟨o, cy⟩ => a1.length - o.length) ([], 0)
     ⟨Nat.zero_le _, Nat.zero_le _, (fun _ h => by cases h), rfl⟩ (SLe.mk (fun _ => 19) ⟨rfl, rfl, rfl, rfl, rfl, rfl, rfl, trivial⟩ ⟨⟨_, rfl, .refl _⟩, trivial⟩ rfl (fun R hR => hR)) ?_
   rintro ⟨o, cy⟩ ⟨ho, hcy, hob, hinv⟩
   conv => whnf
   refine br_split ?_ ?_
   · intro h
     have hi : o.length < a1.length := by have : (o.length : Int) < a1.length := by simpa using h
                                          omega
     have hA : A1.isSome = true := slres_some hfA1 (by rw [u32V_length]; omega)
     conv => whnf
     refine ⟨⟨by omega, by omega, hA⟩, ?_⟩
     conv => whnf
     refine LoadVC.elem u32c u32c_len hmA1 rfl (by rw [Int.toNat_natCast]; exact hi) (by decide) (fun _ => rfl) ?_
     rw [Int.toNat_natCast]
     intro x hx
     have hxb : x < 2 ^ 32 := ha1 x (List.mem_of_getElem? hx)
     have hc1 : IntKind.u64.wrap ((cy : Int) + IntKind.u64.wrap (x : Int)) = ((cy + x : Nat) : Int) := by rw [IntKind.wrap_u64, IntKind.wrap_u64]; omega
     conv => whnf
     refine br_split ?_ ?_
     · intro h2
       have hi2 : o.length < b1.length := by have : (o.length : Int) < b1.length := by simpa using h2
                                             omega
       have hB : B1.isSome = true := slres_some hfB1 (by rw [u32V_length]; omega)
       conv => whnf
       refine ⟨⟨by omega, by omega, hB⟩, ?_⟩
       conv => whnf
       refine LoadVC.elem u32c u32c_len hmB1 rfl (by rw [Int.toNat_natCast]; exact hi2) (by decide) (fun _ => rfl) ?_
       rw [Int.toNat_natCast]
       intro y hy
       have hyb : y < 2 ^ 32 := hb1 y (List.mem_of_getElem? hy)
       have hc2 : IntKind.u64.wrap (IntKind.u64.wrap ((cy : Int) + IntKind.u64.wrap (x : Int)) + IntKind.u64.wrap (y : Int)) = ((cy + x + y : Nat) : Int) := by rw [hc1, IntKind.wrap_u64, IntKind.wrap_u64]; omega
       conv => whnf
       refine ⟨⟨by omega, by show _ * 4 ≤ _; omega⟩, ?_⟩
       conv => whnf
       refine ⟨by decide, ?_⟩
       conv => whnf
       refine ⟨(o ++ [(cy + x + y) % 2 ^ 32], (cy + x + y) / 2 ^ 32), ⟨?_, ?_, ?_, ?_⟩, ?_, ?_⟩
       · simp; omega
       · show (cy + x + y) / 2 ^ 32 ≤ 1
         omega
       · intro z hz
         rcases List.mem_append.1 hz with hz | hz
         · exact hob z hz
         · rw [List.mem_singleton.1 hz]; exact Nat.mod_lt _ (by decide)
       · show lv (2 ^ 32) (o ++ [(cy + x + y) % 2 ^ 32]) + (2 ^ 32) ^ (o ++ [(cy + x + y) % 2 ^ 32]).length * ((cy + x + y) / 2 ^ 32) = lv (2 ^ 32) (a1.take (o ++ [(cy + x + y) % 2 ^ 32]).length) + lv (2 ^ 32) (b1.take (o ++ [(cy + x + y) % 2 ^ 32]).length)
         rw [List.length_append]
         exact plus_step (by decide) rfl hinv hx (.inl hy)
       · simp; omega
       · refine SLe.mk (fun _ => 46) ⟨rfl, rfl, rfl, ?_, rfl, rfl, ?_, trivial⟩ ⟨⟨_, rfl, ?_⟩, trivial⟩ rfl (fun R hR => hR)
         · show some (SV.o (.v (.int _ (Int.fdiv _ _)))) = some (SV.o (.v (.int _ _)))
           rw [hc2, show min (32 : Int).toNat IntKind.u64.bits = 32 from rfl, Int.fdiv_eq_ediv_of_nonneg _ (by decide)]
           rfl
         · show some (SV.o (.v (.int _ (IntKind.i64.wrap ((o.length : Int) + 1))))) = some (SV.o (.v (.int _ (((o ++ [(cy + x + y) % 2 ^ 32]).length : Nat) : Int))))
           rw [wrap_i64 (by omega) (by omega), List.length_append]; rfl
         · show MEle (ME.own _ _ (o.length + 1) (app (rowV u32c o) [Value.int _ (IntKind.u32.wrap _)])) (ME.own _ _ (o ++ [(cy + x + y) % 2 ^ 32]).length (rowV u32c (o ++ [(cy + x + y) % 2 ^ 32])))
           rw [hc2, app_eq, rowV_append, List.length_append, IntKind.wrap_u32, show ((cy + x + y : Nat) : Int) % 4294967296 = (((cy + x + y) % 2 ^ 32 : Nat) : Int) by omega]
           exact .refl _
     · intro h2
       have hi2 : b1.length ≤ o.length := by have : ¬ (o.length : Int) < b1.length := by simpa using h2
                                             omega
       conv => whnf
       refine ⟨⟨by omega, by show _ * 4 ≤ _; omega⟩, ?_⟩
       conv => whnf
       refine ⟨by decide, ?_⟩
       conv => whnf
       refine ⟨(o ++ [(cy + x) % 2 ^ 32], (cy + x) / 2 ^ 32), ⟨?_, ?_, ?_, ?_⟩, ?_, ?_⟩
       · simp; omega
       · show (cy + x) / 2 ^ 32 ≤ 1
         omega
       · intro z hz
         rcases List.mem_append.1 hz with hz | hz
         · exact hob z hz
         · rw [List.mem_singleton.1 hz]; exact Nat.mod_lt _ (by decide)
       · show lv (2 ^ 32) (o ++ [(cy + x) % 2 ^ 32]) + (2 ^ 32) ^ (o ++ [(cy + x) % 2 ^ 32]).length * ((cy + x) / 2 ^ 32) = lv (2 ^ 32) (a1.take (o ++ [(cy + x) % 2 ^ 32]).length) + lv (2 ^ 32) (b1.take (o ++ [(cy + x) % 2 ^ 32]).length)
         rw [List.length_append]
         exact plus_step (y := 0) (by decide) rfl hinv hx (.inr ⟨hi2, rfl⟩)
       · simp; omega
       · refine SLe.mk (fun _ => 46) ⟨rfl, rfl, rfl, ?_, rfl, rfl, ?_, trivial⟩ ⟨⟨_, rfl, ?_⟩, trivial⟩ rfl (fun R hR => hR)
         · show some (SV.o (.v (.int _ (Int.fdiv _ _)))) = some (SV.o (.v (.int _ _)))
           rw [hc1, show min (32 : Int).toNat IntKind.u64.bits = 32 from rfl, Int.fdiv_eq_ediv_of_nonneg _ (by decide)]
           rfl
         · show some (SV.o (.v (.int _ (IntKind.i64.wrap ((o.length : Int) + 1))))) = some (SV.o (.v (.int _ (((o ++ [(cy + x) % 2 ^ 32]).length : Nat) : Int))))
           rw [wrap_i64 (by omega) (by omega), List.length_append]; rfl
         · show MEle (ME.own _ _ (o.length + 1) (app (rowV u32c o) [Value.int _ (IntKind.u32.wrap _)])) (ME.own _ _ (o ++ [(cy + x) % 2 ^ 32]).length (rowV u32c (o ++ [(cy + x) % 2 ^ 32])))
           rw [hc1, app_eq, rowV_append, List.length_append, IntKind.wrap_u32, show ((cy + x : Nat) : Int) % 4294967296 = (((cy + x) % 2 ^ 32 : Nat) : Int) by omega]
           exact .refl _
   · intro h
     have hi : o.length = a1.length := by have : ¬ (o.length : Int) < a1.length := by simpa using h
                                          omega
     conv => whnf
     refine ⟨⟨by omega, by show _ * 4 ≤ _; omega⟩, ?_⟩
     conv => whnf
     have hrow : app (rowV u32c o) [Value.int .u32 (IntKind.u32.wrap (cy : Int))] = rowV u32c (o ++ [cy]) := by
       rw [app_eq, rowV_append, IntKind.wrap_u32, show (cy : Int) % 4294967296 = (cy : Int) by omega]; rfl
     have hob2 : ∀ x ∈ o ++ [cy], x < 2 ^ 32 := fun z hz => by
       rcases List.mem_append.1 hz with hz | hz
       · exact hob z hz
       · rw [List.mem_singleton.1 hz]; omega
     have hval : lv (2 ^ 32) (o ++ [cy]) = s := by
       rw [lv_snoc, hinv, hi, List.take_length, List.take_of_length_le hlen, hs1]
     have hdig : tr (o ++ [cy]) = digs (2 ^ 32) s := by rw [tr_eq (by decide) hob2, hval]
     refine CallVC.cutO (n' := (tr (o ++ [cy])).length) 55 (fun A c hc => ?_) rfl ?_ rfl rfl ?_ rfl
     · have := c_trim A c (o ++ [cy]) (by rw [List.length_append]; exact hc) (by rw [List.length_append]; simp; omega)
       rw [List.length_append] at this
       rw [hrow]
       exact this
     · have := tr_length (o ++ [cy]); rw [List.length_append] at this; exact this
     · conv => whnf
       refine ⟨55, rfl, ?_⟩
       show some (ME.own t_uint32 1 (tr (o ++ [cy])).length ((app (rowV u32c o) [Value.int .u32 (IntKind.u32.wrap (cy : Int))]).take ((tr (o ++ [cy])).length * 1))) = _
       rw [hrow, rowV_take u32c_len, tr_take, hdig]
 · intro h
   obtain ⟨A1, a1, c1, B1, b1, d1, eA, ea, ec, eB, eb, ed⟩ : ∃ A1 a1 c1 B1 b1 d1, A1 = A ∧ a1 = a ∧ c1 = c ∧ B1 = B ∧ b1 = b ∧ d1 = d := ⟨_, _, _, _, _, _, rfl, rfl, rfl, rfl, rfl, rfl⟩
   have hlen : b1.length ≤ a1.length := by
     have : ¬ (a.length : Int) < b.length := by simpa using h
     rw [ea, eb]; omega
   have hs1 : s = lv (2 ^ 32) a1 + lv (2 ^ 32) b1 := by rw [hs, ea, eb]
   have ha1 : ∀ x ∈ a1, x < 2 ^ 32 := ea ▸ ha
   have hb1 : ∀ x ∈ b1, x < 2 ^ 32 := eb ▸ hb
   have hla1 : a1.length ≤ 100000000000 := ea ▸ hla
   have hmA1 : SlRes A1 (u32V a1) ∈ re := by rw [eA, ea]; exact hmA
   have hmB1 : SlRes B1 (u32V b1) ∈ re := by rw [eB, eb]; exact hmB
   have hfA1 : SlF A1 (u32V a1) w := by rw [eA, ea]; exact hfA
   have hfB1 : SlF B1 (u32V b1) w := by rw [eB, eb]; exact hfB
   conv => whnf
   rw [← eA, ← ea, ← ec, ← eB, ← eb, ← ed]
   clear hs hmA hmB hfA hfB ha hb hla hlb
   have hcap : IntKind.i64.wrap ((a1.length : Int) + 1) = ((a1.length + 1 : Nat) : Int) := by rw [wrap_i64 (by omega) (by omega)]; omega
   refine ⟨by rw [hcap]; refine ⟨by decide, by omega, ?_, by omega⟩; show (4 : Int) * _ ≤ _; omega, ?_⟩
   conv => whnf
   refine sexec_loop (ι := List Nat × Nat) (fun ⟨o, cy⟩ => ⟨[(0, .o (.v (.slice A1 a1.length c1))), (1, .o (.v (.slice B1 b1.length d1))), (5, .o (.w 100)), (6, .o (.v (.int .u64 cy))), (20, .o (.v (.slice A1 a1.length c1))), (21, .o (.v (.int .i64 a1.length))), (22, .o (.v (.int .i64 o.length)))], [(100, .own t_uint32 1 o.length (u32V o))], re⟩)
     (fun ⟨o, cy⟩ => o.length ≤ a1.length ∧ cy ≤ 1 ∧ (∀ x ∈ o, x < 2 ^ 32) ∧ lv (2 ^ 32) o + (2 ^ 32) ^ o.length * cy = lv (2 ^ 32) (a1.take o.length) + lv (2 ^ 32) (b1.take o.length)) (fun ⟨o, cy⟩ => a1.length - o.length) ([], 0)
     ⟨Nat.zero_le _, Nat.zero_le _, (fun _ h => by cases h), rfl⟩ (SLe.mk (fun _ => 19) ⟨rfl, rfl, rfl, rfl, rfl, rfl, rfl, trivial⟩ ⟨⟨_, rfl, .refl _⟩, trivial⟩ rfl (fun R hR => hR)) ?_
   rintro ⟨o, cy⟩ ⟨ho, hcy, hob, hinv⟩
   conv => whnf
   refine br_split ?_ ?_
   · intro h
     have hi : o.length < a1.length := by have : (o.length : Int) < a1.length := by simpa using h
                                          omega
     have hA : A1.isSome = true := slres_some hfA1 (by rw [u32V_length]; omega)
     conv => whnf
     refine ⟨⟨by omega, by omega, hA⟩, ?_⟩
     conv => whnf
     refine LoadVC.elem u32c u32c_len hmA1 rfl (by rw [Int.toNat_natCast]; exact hi) (by decide) (fun _ => rfl) ?_
     rw [Int.toNat_natCast]
     intro x hx
     have hxb : x < 2 ^ 32 := ha1 x (List.mem_of_getElem? hx)
     have hc1 : IntKind.u64.wrap ((cy : Int) + IntKind.u64.wrap (x : Int)) = ((cy + x : Nat) : Int) := by rw [IntKind.wrap_u64, IntKind.wrap_u64]; omega
     conv => whnf
     refine br_split ?_ ?_
     · intro h2
       have hi2 : o.length < b1.length := by have : (o.length : Int) < b1.length := by simpa using h2
                                             omega
       have hB : B1.isSome = true := slres_some hfB1 (by rw [u32V_length]; omega)
       conv => whnf
       refine ⟨⟨by omega, by omega, hB⟩, ?_⟩
       conv => whnf
       refine LoadVC.elem u32c u32c_len hmB1 rfl (by rw [Int.toNat_natCast]; exact hi2) (by decide) (fun _ => rfl) ?_
       rw [Int.toNat_natCast]
       intro y hy
       have hyb : y < 2 ^ 32 := hb1 y (List.mem_of_getElem? hy)
       have hc2 : IntKind.u64.wrap (IntKind.u64.wrap ((cy : Int) + IntKind.u64.wrap (x : Int)) + IntKind.u64.wrap (y : Int)) = ((cy + x + y : Nat) : Int) := by rw [hc1, IntKind.wrap_u64, IntKind.wrap_u64]; omega
       conv => whnf
       refine ⟨⟨by omega, by show _ * 4 ≤ _; omega⟩, ?_⟩
       conv => whnf
       refine ⟨by decide, ?_⟩
       conv => whnf
       refine ⟨(o ++ [(cy + x + y) % 2 ^ 32], (cy + x + y) / 2 ^ 32), ⟨?_, ?_, ?_, ?_⟩, ?_, ?_⟩
       · simp; omega
       · show (cy + x + y) / 2 ^ 32 ≤ 1
         omega
       · intro z hz
         rcases List.mem_append.1 hz with hz | hz
         · exact hob z hz
         · rw [List.mem_singleton.1 hz]; exact Nat.mod_lt _ (by decide)
       · show lv (2 ^ 32) (o ++ [(cy + x + y) % 2 ^ 32]) + (2 ^ 32) ^ (o ++ [(cy + x + y) % 2 ^ 32]).length * ((cy + x + y) / 2 ^ 32) = lv (2 ^ 32) (a1.take (o ++ [(cy + x + y) % 2 ^ 32]).length) + lv (2 ^ 32) (b1.take (o ++ [(cy + x + y) % 2 ^ 32]).length)
         rw [List.length_append]
         exact plus_step (by decide) rfl hinv hx (.inl hy)
       · simp; omega
       · refine SLe.mk (fun _ => 46) ⟨rfl, rfl, rfl, ?_, rfl, rfl, ?_, trivial⟩ ⟨⟨_, rfl, ?_⟩, trivial⟩ rfl (fun R hR => hR)
         · show some (SV.o (.v (.int _ (Int.fdiv _ _)))) = some (SV.o (.v (.int _ _)))
           rw [hc2, show min (32 : Int).toNat IntKind.u64.bits = 32 from rfl, Int.fdiv_eq_ediv_of_nonneg _ (by decide)]
           rfl
         · show some (SV.o (.v (.int _ (IntKind.i64.wrap ((o.length : Int) + 1))))) = some (SV.o (.v (.int _ (((o ++ [(cy + x + y) % 2 ^ 32]).length : Nat) : Int))))
           rw [wrap_i64 (by omega) (by omega), List.length_append]; rfl
         · show MEle (ME.own _ _ (o.length + 1) (app (rowV u32c o) [Value.int _ (IntKind.u32.wrap _)])) (ME.own _ _ (o ++ [(cy + x + y) % 2 ^ 32]).length (rowV u32c (o ++ [(cy + x + y) % 2 ^ 32])))
           rw [hc2, app_eq, rowV_append, List.length_append, IntKind.wrap_u32, show ((cy + x + y : Nat) : Int) % 4294967296 = (((cy + x + y) % 2 ^ 32 : Nat) : Int) by omega]
           exact .refl _
     · intro h2
       have hi2 : b1.length ≤ o.length := by have : ¬ (o.length : Int) < b1.length := by simpa using h2
                                             omega
       conv => whnf
       refine ⟨⟨by omega, by show _ * 4 ≤ _; omega⟩, ?_⟩
       conv => whnf
       refine ⟨by decide, ?_⟩
       conv => whnf
       refine ⟨(o ++ [(cy + x) % 2 ^ 32], (cy + x) / 2 ^ 32), ⟨?_, ?_, ?_, ?_⟩, ?_, ?_⟩
       · simp; omega
       · show (cy + x) / 2 ^ 32 ≤ 1
         omega
       · intro z hz
         rcases List.mem_append.1 hz with hz | hz
         · exact hob z hz
         · rw [List.mem_singleton.1 hz]; exact Nat.mod_lt _ (by decide)
       · show lv (2 ^ 32) (o ++ [(cy + x) % 2 ^ 32]) + (2 ^ 32) ^ (o ++ [(cy + x) % 2 ^ 32]).length * ((cy + x) / 2 ^ 32) = lv (2 ^ 32) (a1.take (o ++ [(cy + x) % 2 ^ 32]).length) + lv (2 ^ 32) (b1.take (o ++ [(cy + x) % 2 ^ 32]).length)
         rw [List.length_append]
         exact plus_step (y := 0) (by decide) rfl hinv hx (.inr ⟨hi2, rfl⟩)
       · simp; omega
       · refine SLe.mk (fun _ => 46) ⟨rfl, rfl, rfl, ?_, rfl, rfl, ?_, trivial⟩ ⟨⟨_, rfl, ?_⟩, trivial⟩ rfl (fun R hR => hR)
         · show some (SV.o (.v (.int _ (Int.fdiv _ _)))) = some (SV.o (.v (.int _ _)))
           rw [hc1, show min (32 : Int).toNat IntKind.u64.bits = 32 from rfl, Int.fdiv_eq_ediv_of_nonneg _ (by decide)]
           rfl
         · show some (SV.o (.v (.int _ (IntKind.i64.wrap ((o.length : Int) + 1))))) = some (SV.o (.v (.int _ (((o ++ [(cy + x) % 2 ^ 32]).length : Nat) : Int))))
           rw [wrap_i64 (by omega) (by omega), List.length_append]; rfl
         · show MEle (ME.own _ _ (o.length + 1) (app (rowV u32c o) [Value.int _ (IntKind.u32.wrap _)])) (ME.own _ _ (o ++ [(cy + x) % 2 ^ 32]).length (rowV u32c (o ++ [(cy + x) % 2 ^ 32])))
           rw [hc1, app_eq, rowV_append, List.length_append, IntKind.wrap_u32, show ((cy + x : Nat) : Int) % 4294967296 = (((cy + x) % 2 ^ 32 : Nat) : Int) by omega]
           exact .refl _
   · intro h
     have hi : o.length = a1.length := by have : ¬ (o.length : Int) < a1.length := by simpa using h
                                          omega
     conv => whnf
     refine ⟨⟨by omega, by show _ * 4 ≤ _; omega⟩, ?_⟩
     conv => whnf
     have hrow : app (rowV u32c o) [Value.int .u32 (IntKind.u32.wrap (cy : Int))] = rowV u32c (o ++ [cy]) := by
       rw [app_eq, rowV_append, IntKind.wrap_u32, show (cy : Int) % 4294967296 = (cy : Int) by omega]; rfl
     have hob2 : ∀ x ∈ o ++ [cy], x < 2 ^ 32 := fun z hz => by
       rcases List.mem_append.1 hz with hz | hz
       · exact hob z hz
       · rw [List.mem_singleton.1 hz]; omega
     have hval : lv (2 ^ 32) (o ++ [cy]) = s := by
       rw [lv_snoc, hinv, hi, List.take_length, List.take_of_length_le hlen, hs1]
     have hdig : tr (o ++ [cy]) = digs (2 ^ 32) s := by rw [tr_eq (by decide) hob2, hval]
     refine CallVC.cutO (n' := (tr (o ++ [cy])).length) 55 (fun A c hc => ?_) rfl ?_ rfl rfl ?_ rfl
     · have := c_trim A c (o ++ [cy]) (by rw [List.length_append]; exact hc) (by rw [List.length_append]; simp; omega)
       rw [List.length_append] at this
       rw [hrow]
       exact this
     · have := tr_length (o ++ [cy]); rw [List.length_append] at this; exact this
     · conv => whnf
       refine ⟨55, rfl, ?_⟩
       show some (ME.own t_uint32 1 (tr (o ++ [cy])).length ((app (rowV u32c o) [Value.int .u32 (IntKind.u32.wrap (cy : Int))]).take ((tr (o ++ [cy])).length * 1))) = _
       rw [hrow, rowV_take u32c_len, tr_take, hdig]
end Go.Sx
end
section
set_option maxRecDepth 10000
namespace Go.Sx
open Go Go.Proofs
theorem u32_bv (v : BitVec 32) : IntKind.u32.wrap (v.toNat : Int) = (v.toNat : Int) := by rw [IntKind.wrap_u32]; have := v.isLt; omega
theorem ofInt_bv (v : BitVec 32) : BitVec.ofInt 32 (v.toNat : Int) = v := by
 apply BitVec.eq_of_toNat_eq
 rw [BitVec.toNat_ofInt]; have := v.isLt; omega
theorem ofInt_toNat {x : Nat} (hx : x < 2 ^ 32) : (BitVec.ofInt 32 (x : Int)).toNat = x := by rw [BitVec.toNat_ofInt]; omega
theorem u64_bv (v : BitVec 64) : IntKind.u64.wrap (v.toNat : Int) = (v.toNat : Int) := by rw [IntKind.wrap_u64]; have := v.isLt; omega
theorem ofInt64_toNat {x : Nat} (hx : x < 2 ^ 64) : (BitVec.ofInt 64 (x : Int)).toNat = x := by rw [BitVec.toNat_ofInt]; omega
theorem top_bit (v : BitVec 32) : v.toNat / 2 ^ 31 = v.msb.toNat := by
 rw [BitVec.msb_eq_decide]
 have := v.isLt
 by_cases h : 2 ^ (32 - 1) ≤ v.toNat
 · rw [decide_eq_true h]; simp at h ⊢; omega
 · rw [decide_eq_false h]; simp at h ⊢; omega
theorem tup2 {a b c d : Value} (h : a = c) (k : b = d) : Value.tuple #[a, b] = .tuple #[c, d] := by rw [h, k]
abbrev u32 (x : Nat) : Value := .int .u32 (x : Int)
theorem c_Sub32 (x y b : Nat) (hx : x < 2 ^ 32) (hy : y < 2 ^ 32) (hb : b ≤ 1) : Fn PP f_math_bits_Sub32 [u32 x, u32 y, u32 b] (.tuple #[u32 ((2 ^ 32 + x - y - b) % 2 ^ 32), u32 (if x < y + b then 1 else 0)]) := by
 refine Fn.of TBgood mixed h_math_bits_Sub32 rfl rfl (Nat.le_of_ble_eq_true rfl) ?_
 intro w
 have hd : IntKind.u32.wrap (IntKind.u32.wrap ((x : Int) - y) - b) = (((2 ^ 32 + x - y - b) % 2 ^ 32 : Nat) : Int) := by
   rw [IntKind.wrap_u32, IntKind.wrap_u32]; omega
 conv => whnf
 refine ⟨by decide, ?_⟩
 conv => whnf
 refine postV_two ?_
 rw [hd]
 obtain ⟨d, hdd⟩ : ∃ d, d = (2 ^ 32 + x - y - b) % 2 ^ 32 := ⟨_, rfl⟩
 rw [← hdd]
 have hdl : d < 2 ^ 32 := by omega
 refine congrArg (fun z => Value.tuple #[u32 d, .int .u32 z]) ?_
 show (IntKind.u32.wrap (BitVec.toNat (w := 32) (BitVec.ofInt 32 (IntKind.u32.wrap (BitVec.toNat (w := 32) (BitVec.ofInt 32 (IntKind.u32.wrap (BitVec.toNat (w := 32) (BitVec.ofInt 32 4294967295 ^^^ BitVec.ofInt 32 (x : Int))))
   &&& BitVec.ofInt 32 (y : Int)))) ||| BitVec.ofInt 32 (IntKind.u32.wrap (BitVec.toNat (w := 32) (BitVec.ofInt 32 (IntKind.u32.wrap (BitVec.toNat (w := 32) (BitVec.ofInt 32 4294967295 ^^^ BitVec.ofInt 32 (IntKind.u32.wrap (BitVec.toNat (w := 32) (BitVec.ofInt 32 (x : Int) ^^^ BitVec.ofInt 32 (y : Int)))))))
   &&& BitVec.ofInt 32 (d : Int))))))).fdiv (2 ^ 31) = _
 simp only [u32_bv, ofInt_bv]
 rw [Int.fdiv_eq_ediv_of_nonneg _ (by decide)]
 obtain ⟨v, hv⟩ : ∃ v : BitVec 32, v = ((BitVec.ofInt 32 4294967295 ^^^ BitVec.ofInt 32 (x : Int)) &&& BitVec.ofInt 32 (y : Int) ||| (BitVec.ofInt 32 4294967295 ^^^ (BitVec.ofInt 32 (x : Int) ^^^ BitVec.ofInt 32 (y : Int))) &&& BitVec.ofInt 32 (d : Int)) := ⟨_, rfl⟩
 rw [← hv]
 have h5 : (v.toNat : Int) / 2 ^ 31 = ((v.toNat / 2 ^ 31 : Nat) : Int) := rfl
 rw [h5, top_bit, hv]
 have hm : (BitVec.ofInt 32 4294967295).msb = true := by decide
 have hmsb : ∀ z : Nat, z < 2 ^ 32 → (BitVec.ofInt 32 (z : Int)).msb = decide (2 ^ 31 ≤ z) := fun z hz => by rw [BitVec.msb_eq_decide, ofInt_toNat hz]
 simp only [BitVec.msb_or, BitVec.msb_and, BitVec.msb_xor, hm, hmsb x hx, hmsb y hy, hmsb d hdl]
 by_cases h1 : 2 ^ 31 ≤ x <;> by_cases h2 : 2 ^ 31 ≤ y <;> by_cases h3 : 2 ^ 31 ≤ d <;> by_cases h4 : x < y + b <;> simp only [h1, h2, h3, h4, decide_true, decide_false, if_true, if_false] <;> first | rfl | (exfalso; omega)
theorem c_Div32 (hi lo y : Nat) (h1 : hi < y) (h2 : lo < 2 ^ 32) (h3 : y < 2 ^ 32) : Fn PP f_math_bits_Div32 [u32 hi, u32 lo, u32 y] (.tuple #[u32 ((hi * 2 ^ 32 + lo) / y), u32 ((hi * 2 ^ 32 + lo) % y)]) := by
 refine Fn.of TBgood mixed h_math_bits_Div32 rfl rfl (Nat.le_of_ble_eq_true rfl) ?_
 intro w
 conv => whnf
 refine br_true (by simp; omega) ?_
 conv => whnf
 refine br_false (by simp; omega) ?_
 conv => whnf
 refine ⟨by decide, ?_⟩
 conv => whnf
 refine DrawVC.quiet (by kernel_rfl) ?_
 conv => whnf
 have hor : IntKind.u64.wrap (BitVec.toNat (w := 64) (BitVec.ofInt 64 (IntKind.u64.wrap (IntKind.u64.wrap (hi : Int) * 2 ^ min (32 : Int).toNat IntKind.u64.bits)) ||| BitVec.ofInt 64 (IntKind.u64.wrap (lo : Int))) : Int) = ((hi * 2 ^ 32 + lo : Nat) : Int) := by
   have e1 : IntKind.u64.wrap (IntKind.u64.wrap (hi : Int) * 2 ^ min (32 : Int).toNat IntKind.u64.bits) = ((hi * 2 ^ 32 : Nat) : Int) := by
     rw [show min (32 : Int).toNat IntKind.u64.bits = 32 from rfl, IntKind.wrap_u64, IntKind.wrap_u64]; omega
   have e2 : IntKind.u64.wrap (lo : Int) = (lo : Int) := by rw [IntKind.wrap_u64]; omega
   rw [e1, e2, u64_bv, BitVec.toNat_or, ofInt64_toNat (by omega), ofInt64_toNat (by omega), Nat.mul_comm, ← Nat.two_pow_add_eq_or_of_lt h2]
 have hy64 : IntKind.u64.wrap (y : Int) = (y : Int) := by rw [IntKind.wrap_u64]; omega
 have hy0 : 0 < y := by omega
 have hq : (hi * 2 ^ 32 + lo) / y < 2 ^ 32 := by
   apply Nat.div_lt_of_lt_mul
   have : (hi + 1) * 2 ^ 32 ≤ y * 2 ^ 32 := Nat.mul_le_mul_right _ h1
   omega
 have hr : (hi * 2 ^ 32 + lo) % y < y := Nat.mod_lt _ hy0
 refine ⟨by rw [hy64]; omega, ?_⟩
 conv => whnf
 refine ⟨by rw [hy64]; omega, ?_⟩
 conv => whnf
 refine postV_two ?_
 refine tup2 (congrArg (Value.int .u32) ?_) (congrArg (Value.int .u32) ?_)
 · show IntKind.u32.wrap (IntKind.u64.wrap (Int.tdiv (IntKind.u64.wrap (BitVec.toNat (w := 64) (BitVec.ofInt 64 _ ||| BitVec.ofInt 64 _) : Int)) _)) = _
   rw [hor, hy64, Int.tdiv_eq_ediv_of_nonneg (by omega)]
   have e3 : ((hi * 2 ^ 32 + lo : Nat) : Int) / (y : Int) = (((hi * 2 ^ 32 + lo) / y : Nat) : Int) := rfl
   rw [e3]
   generalize (hi * 2 ^ 32 + lo) / y = q at hq ⊢
   rw [IntKind.wrap_u64, IntKind.wrap_u32]; omega
 · show IntKind.u32.wrap (Int.tmod (IntKind.u64.wrap (BitVec.toNat (w := 64) (BitVec.ofInt 64 _ ||| BitVec.ofInt 64 _) : Int)) _) = _
   rw [hor, hy64, Int.tmod_eq_emod_of_nonneg (by omega)]
   have e3 : ((hi * 2 ^ 32 + lo : Nat) : Int) % (y : Int) = (((hi * 2 ^ 32 + lo) % y : Nat) : Int) := rfl
   rw [e3]
   generalize (hi * 2 ^ 32 + lo) % y = q at hr ⊢
   rw [IntKind.wrap_u32]; omega
theorem c_Add32 (x y c : Nat) (hx : x < 2 ^ 32) (hy : y < 2 ^ 32) (hc : c ≤ 1) : Fn PP f_math_bits_Add32 [u32 x, u32 y, u32 c] (.tuple #[u32 ((x + y + c) % 2 ^ 32), u32 ((x + y + c) / 2 ^ 32)]) := by
 refine Fn.of TBgood mixed h_math_bits_Add32 rfl rfl (Nat.le_of_ble_eq_true rfl) ?_
 intro w
 conv => whnf
 refine ⟨by decide, ?_⟩
 conv => whnf
 refine postV_two ?_
 have hs : IntKind.u64.wrap (IntKind.u64.wrap (IntKind.u64.wrap (x : Int) + IntKind.u64.wrap (y : Int)) + IntKind.u64.wrap (c : Int)) = ((x + y + c : Nat) : Int) := by
   simp only [IntKind.wrap_u64]; omega
 refine tup2 (congrArg (Value.int .u32) ?_) (congrArg (Value.int .u32) ?_)
 · show IntKind.u32.wrap (IntKind.u64.wrap (IntKind.u64.wrap (IntKind.u64.wrap (x : Int) + IntKind.u64.wrap (y : Int)) + IntKind.u64.wrap (c : Int))) = _
   rw [hs, IntKind.wrap_u32]; omega
 · show IntKind.u32.wrap (Int.fdiv (IntKind.u64.wrap (IntKind.u64.wrap (IntKind.u64.wrap (x : Int) + IntKind.u64.wrap (y : Int)) + IntKind.u64.wrap (c : Int))) (2 ^ 32)) = _
   rw [hs, IntKind.wrap_u32, Int.fdiv_eq_ediv_of_nonneg _ (by decide)]; omega
end Go.Sx
end
section
set_option maxRecDepth 10000
namespace Go.Sx
open Go Go.Proofs
theorem set_mid (o : List Nat) (d k : Nat) : (o ++ List.replicate (k + 1) 0).set o.length d = (o ++ [d]) ++ List.replicate k 0 := by
 rw [List.replicate_succ, List.set_append_right _ _ (Nat.le_refl _), Nat.sub_self]
 simp
theorem u32V_set (o : List Nat) (d k : Nat) {n i : Nat} (hn : n = o.length + (k + 1)) (hi : i = o.length) : putN i [Value.int .u32 (d : Int)] (rowV u32c (o ++ List.replicate (k + 1) 0)) = rowV u32c ((o ++ [d]) ++ List.replicate k 0) := by
 subst hi
 have := rowV_put (f := u32c) u32c_len (k := o.length) (l := o ++ List.replicate (k + 1) 0) d (by simp)
 rw [Nat.mul_one] at this
 rw [← set_mid]
 exact this
theorem minus_step {B i bo x y : Nat} {a b o : List Nat} (hB : 0 < B) (hyB : y < B) (hxB : x < B) (hbo : bo ≤ 1) (ho : o.length = i) (hv : lv B (a.take i) + B ^ i * bo = lv B o + lv B (b.take i)) (hx : a[i]? = some x) (hy : b[i]? = some y ∨ (b.length ≤ i ∧ y = 0)) :
   lv B (a.take (i + 1)) + B ^ (i + 1) * (if x < y + bo then 1 else 0) = lv B (o ++ [(B + x - y - bo) % B]) + lv B (b.take (i + 1)) := by
 have h1 := lv_take_succ (B := B) hx
 have h2 : lv B (b.take (i + 1)) = lv B (b.take i) + B ^ i * y := by
   rcases hy with h | ⟨h, rfl⟩
   · exact lv_take_succ h
   · rw [take_past h]; omega
 rw [h1, h2, lv_snoc, ho, Nat.pow_succ, Nat.mul_assoc]
 have h3 : x + B * (if x < y + bo then 1 else 0) = (B + x - y - bo) % B + y + bo := by
   split
   · rw [Nat.mul_one, Nat.mod_eq_of_lt (by omega)]; omega
   · rw [Nat.mul_zero, show B + x - y - bo = (x - y - bo) + B by omega, Nat.add_mod_right, Nat.mod_eq_of_lt (by omega)]; omega
 have h4 : B ^ i * x + B ^ i * (B * (if x < y + bo then 1 else 0)) = B ^ i * ((B + x - y - bo) % B) + B ^ i * y + B ^ i * bo := by
   rw [← Nat.mul_add, h3, Nat.mul_add, Nat.mul_add]
 omega

theorem c_minus (A B : Option Addr) (c d : Nat) (p q : Nat) (hqp : q ≤ p) (hl : (digs (2 ^ 32) p).length ≤ 100000000000) :
   FnM PP f_bigint_limbs_minus [.slice A (digs (2 ^ 32) p).length c, .slice B (digs (2 ^ 32) q).length d] (facts [SlRes A (u32V (digs (2 ^ 32) p)), SlRes B (u32V (digs (2 ^ 32) q))]) (retsO t_uint32 1 (digs (2 ^ 32) (p - q)).length (u32V (digs (2 ^ 32) (p - q)))) := by
 obtain ⟨a, ea⟩ : ∃ a, a = digs (2 ^ 32) p := ⟨_, rfl⟩
 obtain ⟨b, eb⟩ : ∃ b, b = digs (2 ^ 32) q := ⟨_, rfl⟩
 have hlen : b.length ≤ a.length := by
   rw [ea, eb]
   exact digs_length_le (by decide) (Nat.lt_of_le_of_lt hqp (le_of_digs_length (by decide)))
 have ha : ∀ x ∈ a, x < 2 ^ 32 := by rw [ea]; exact digs_lt (by decide) p
 have hb : ∀ x ∈ b, x < 2 ^ 32 := by rw [eb]; exact digs_lt (by decide) q
 have hva : lv (2 ^ 32) a = p := by rw [ea, lv_digs (by decide)]
 have hvb : lv (2 ^ 32) b = q := by rw [eb, lv_digs (by decide)]
 rw [← ea, ← eb]
 rw [← ea] at hl
 refine FnO.of TBgood mixed h_bigint_limbs_minus rfl rfl (Nat.le_of_ble_eq_true rfl) (by simp [SlRes.ok]) ?_
 intro w hw
 conv => whnf
 refine ⟨⟨by omega, by omega, by show (4 : Int) * _ ≤ _; omega, by omega⟩, ?_⟩
 conv => whnf
 refine sexec_loop (ι := List Nat × Nat) (fun ⟨o, bo⟩ => ⟨[(0, .o (.v (.slice A a.length c))), (1, .o (.v (.slice B b.length d))), (5, .o (.w 12)), (6, .o (.v (u32 bo))), (13, .o (.v (.slice A a.length c))), (14, .o (.v (.int .i64 a.length))), (15, .o (.v (.int .i64 o.length)))], [(12, .own t_uint32 1 a.length (u32V (o ++ List.replicate (a.length - o.length) 0)))], [SlRes A (u32V a), SlRes B (u32V b)]⟩)
   (fun ⟨o, bo⟩ => o.length ≤ a.length ∧ bo ≤ 1 ∧ (∀ x ∈ o, x < 2 ^ 32) ∧ lv (2 ^ 32) (a.take o.length) + (2 ^ 32) ^ o.length * bo = lv (2 ^ 32) o + lv (2 ^ 32) (b.take o.length)) (fun ⟨o, bo⟩ => a.length - o.length) ([], 0)
   ⟨Nat.zero_le _, Nat.zero_le _, (fun _ h => by cases h), rfl⟩ (SLe.id ⟨rfl, rfl, rfl, rfl, rfl, rfl, rfl, trivial⟩ ⟨⟨_, rfl, ?_⟩, trivial⟩ (fun R hR => hR)) ?_
 · simp only [ME.ren, Int.toNat_natCast, List.nil_append, List.length_nil, Nat.sub_zero]
   simp only [u32V, rowV_repl]
   exact .refl _
 rintro ⟨o, bo⟩ ⟨ho, hbo, hob, hinv⟩
 conv => whnf
 refine br_split ?_ ?_
 · intro h
   have hi : o.length < a.length := by have : (o.length : Int) < a.length := by simpa using h
                                       omega
   have hA : A.isSome = true := slres_some (facts_two hw).1 (by rw [u32V_length]; omega)
   conv => whnf
   refine ⟨⟨by omega, by omega, hA⟩, ?_⟩
   conv => whnf
   refine LoadVC.elem u32c u32c_len (List.mem_cons_self ..) rfl (by rw [Int.toNat_natCast]; exact hi) (by decide) (fun _ => rfl) ?_
   rw [Int.toNat_natCast]
   intro x hx
   have hxb : x < 2 ^ 32 := ha x (List.mem_of_getElem? hx)
   conv => whnf
   have key : ∀ y, y < 2 ^ 32 → (b[o.length]? = some y ∨ (b.length ≤ o.length ∧ y = 0)) → ∃ j : List Nat × Nat, (j.1.length ≤ a.length ∧ j.2 ≤ 1 ∧ (∀ x ∈ j.1, x < 2 ^ 32) ∧ lv (2 ^ 32) (a.take j.1.length) + (2 ^ 32) ^ j.1.length * j.2 = lv (2 ^ 32) j.1 + lv (2 ^ 32) (b.take j.1.length)) ∧
       j = (o ++ [(2 ^ 32 + x - y - bo) % 2 ^ 32], if x < y + bo then 1 else 0) := by
     intro y hyb hy
     refine ⟨_, ⟨by simp; omega, ?_, ?_, ?_⟩, rfl⟩
     · show (if x < y + bo then 1 else 0) ≤ 1
       split <;> omega
     · intro z hz
       rcases List.mem_append.1 hz with hz | hz
       · exact hob z hz
       · rw [List.mem_singleton.1 hz]; exact Nat.mod_lt _ (by decide)
     · show lv (2 ^ 32) (a.take (o ++ [(2 ^ 32 + x - y - bo) % 2 ^ 32]).length) + (2 ^ 32) ^ (o ++ [(2 ^ 32 + x - y - bo) % 2 ^ 32]).length * (if x < y + bo then 1 else 0) = lv (2 ^ 32) (o ++ [(2 ^ 32 + x - y - bo) % 2 ^ 32]) + lv (2 ^ 32) (b.take (o ++ [(2 ^ 32 + x - y - bo) % 2 ^ 32]).length)
       rw [List.length_append]
       exact minus_step (by decide) hyb hxb hbo rfl hinv hx hy
   refine br_split ?_ ?_
   · intro h2
     have hi2 : o.length < b.length := by have : (o.length : Int) < b.length := by simpa using h2
                                          omega
     have hB : B.isSome = true := slres_some (facts_two hw).2 (by rw [u32V_length]; omega)
     conv => whnf
     refine ⟨⟨by omega, by omega, hB⟩, ?_⟩
     conv => whnf
     refine LoadVC.elem u32c u32c_len (List.mem_cons_of_mem _ (List.mem_singleton.2 rfl)) rfl (by rw [Int.toNat_natCast]; exact hi2) (by decide) (fun _ => rfl) ?_
     rw [Int.toNat_natCast]
     intro y hy
     have hyb : y < 2 ^ 32 := hb y (List.mem_of_getElem? hy)
     conv => whnf
     refine CallVC.fn (c_Sub32 x y bo hxb hyb hbo) rfl ?_
     conv => whnf
     refine ⟨⟨by omega, by omega⟩, ?_⟩
     conv => whnf
     refine ⟨⟨by rw [u32V_length]; simp; show _ * 1 + 1 ≤ _; omega, by decide⟩, ?_⟩
     conv => whnf
     obtain ⟨j, hj, ej⟩ := key y hyb (.inl hy)
     subst ej
     refine ⟨_, hj, by simp; omega, ?_⟩
     refine SLe.id ⟨rfl, rfl, rfl, rfl, rfl, rfl, ?_, trivial⟩ ⟨⟨_, rfl, ?_⟩, trivial⟩ (fun R hR => hR)
     · show some (SV.o (.v (.int _ (IntKind.i64.wrap ((o.length : Int) + 1))))) = some (SV.o (.v (.int _ (((o ++ [_]).length : Nat) : Int))))
       rw [wrap_i64 (by omega) (by omega), List.length_append]; rfl
     · show MEle (ME.own _ _ _ (putN ((o.length : Int).toNat * 1) [Value.int _ _] (rowV u32c (o ++ List.replicate (a.length - o.length) 0)))) (ME.own _ _ _ (rowV u32c ((o ++ [(2 ^ 32 + x - y - bo) % 2 ^ 32]) ++ List.replicate (a.length - (o ++ [_]).length) 0)))
       rw [List.length_append, show a.length - o.length = (a.length - (o.length + 1)) + 1 by omega, u32V_set o _ _ rfl (by simp)]
       exact .refl _
   · intro h2
     have hi2 : b.length ≤ o.length := by have : ¬ (o.length : Int) < b.length := by simpa using h2
                                          omega
     conv => whnf
     refine CallVC.fn (c_Sub32 x 0 bo hxb (by decide) hbo) rfl ?_
     conv => whnf
     refine ⟨⟨by omega, by omega⟩, ?_⟩
     conv => whnf
     refine ⟨⟨by rw [u32V_length]; simp; show _ * 1 + 1 ≤ _; omega, by decide⟩, ?_⟩
     conv => whnf
     obtain ⟨j, hj, ej⟩ := key 0 (by decide) (.inr ⟨hi2, rfl⟩)
     subst ej
     refine ⟨_, hj, by simp; omega, ?_⟩
     refine SLe.id ⟨rfl, rfl, rfl, rfl, rfl, rfl, ?_, trivial⟩ ⟨⟨_, rfl, ?_⟩, trivial⟩ (fun R hR => hR)
     · show some (SV.o (.v (.int _ (IntKind.i64.wrap ((o.length : Int) + 1))))) = some (SV.o (.v (.int _ (((o ++ [_]).length : Nat) : Int))))
       rw [wrap_i64 (by omega) (by omega), List.length_append]; rfl
     · show MEle (ME.own _ _ _ (putN ((o.length : Int).toNat * 1) [Value.int _ _] (rowV u32c (o ++ List.replicate (a.length - o.length) 0)))) (ME.own _ _ _ (rowV u32c ((o ++ [(2 ^ 32 + x - 0 - bo) % 2 ^ 32]) ++ List.replicate (a.length - (o ++ [_]).length) 0)))
       rw [List.length_append, show a.length - o.length = (a.length - (o.length + 1)) + 1 by omega, u32V_set o _ _ rfl (by simp)]
       exact .refl _
 · intro h
   have hi : o.length = a.length := by have : ¬ (o.length : Int) < a.length := by simpa using h
                                       omega
   have hval : lv (2 ^ 32) o = p - q := by
     rw [hi, List.take_length, List.take_of_length_le hlen, hva, hvb] at hinv
     have h1 := lv_lt (by decide) o hob
     rw [hi] at h1
     rcases Nat.eq_zero_or_pos bo with h2 | h2
     · subst h2; omega
     · have : bo = 1 := by omega
       subst this; omega
   have hdig : tr o = digs (2 ^ 32) (p - q) := by rw [tr_eq (by decide) hob, hval]
   conv => whnf
   have hz : o ++ List.replicate (a.length - o.length) 0 = o := by rw [hi, Nat.sub_self]; simp
   refine CallVC.cutO (n := a.length) (xs := u32V (o ++ List.replicate (a.length - o.length) 0)) (n' := (tr o).length) 40 (fun A c hc => ?_) rfl (by rw [← hi]; exact tr_length o) rfl rfl ?_ rfl
   · rw [hz, ← hi]; exact c_trim A c o (by omega) (by omega)
   · conv => whnf
     refine ⟨40, rfl, ?_⟩
     show some (ME.own t_uint32 1 (tr o).length ((rowV u32c (o ++ List.replicate (a.length - o.length) 0)).take ((tr o).length * 1))) = _
     rw [hz, rowV_take u32c_len, tr_take, hdig]
end Go.Sx
end
section
set_option maxRecDepth 10000
namespace Go.Sx
open Go Go.Proofs
theorem u32V_mid (P R : List Nat) (z d : Nat) {i : Nat} (hi : i = P.length) : putN i [Value.int .u32 (d : Int)] (rowV u32c (P ++ z :: R)) = rowV u32c ((P ++ [d]) ++ R) := by
 subst hi
 have := rowV_put (f := u32c) u32c_len (k := P.length) (l := P ++ z :: R) d (by simp)
 rw [Nat.mul_one] at this
 have e : (P ++ z :: R).set P.length d = (P ++ [d]) ++ R := by
   rw [List.set_append_right _ _ (Nat.le_refl _), Nat.sub_self]; simp
 rw [← e]
 exact this
theorem times_step {B i k cy x y z : Nat} {o P b : List Nat} (hB : 0 < B) (hP : P.length = i + k) (hv : lv B P + B ^ (i + k) * cy = lv B (o.take (i + k)) + B ^ i * (x * lv B (b.take k))) (hz : o[i + k]? = some z) (hy : b[k]? = some y) :
   lv B (P ++ [(cy + (x * y + z)) % B]) + B ^ (i + (k + 1)) * ((cy + (x * y + z)) / B) = lv B (o.take (i + (k + 1))) + B ^ i * (x * lv B (b.take (k + 1))) := by
 have h1 := lv_take_succ (B := B) hz
 have h2 := lv_take_succ (B := B) hy
 rw [show i + (k + 1) = i + k + 1 by omega, h1, h2, lv_snoc, hP, Nat.pow_succ, Nat.mul_assoc]
 have h3 : B ^ (i + k) * ((cy + (x * y + z)) % B) + B ^ (i + k) * (B * ((cy + (x * y + z)) / B)) = B ^ (i + k) * (cy + (x * y + z)) := by
   rw [← Nat.mul_add, Nat.mod_add_div]
 have h4 : B ^ i * (x * (lv B (b.take k) + B ^ k * y)) = B ^ i * (x * lv B (b.take k)) + B ^ (i + k) * (x * y) := by
   rw [Nat.mul_add, Nat.mul_add, Nat.pow_add]
   congr 1
   rw [Nat.mul_assoc (B ^ i)]
   congr 1
   exact Nat.mul_left_comm x (B ^ k) y
 rw [Nat.mul_add, Nat.mul_add] at h3
 rw [h4]
 omega

theorem c_times (A D : Option Addr) (c d : Nat) (a b : List Nat) (ha : ∀ x ∈ a, x < 2 ^ 32) (hb : ∀ x ∈ b, x < 2 ^ 32) (hla : a.length ≤ 100000000000) (hlb : b.length ≤ 100000000000) :
   FnM PP f_bigint_limbs_times [.slice A a.length c, .slice D b.length d] (facts [SlRes A (u32V a), SlRes D (u32V b)]) (retsO t_uint32 1 (digs (2 ^ 32) (lv (2 ^ 32) a * lv (2 ^ 32) b)).length (u32V (digs (2 ^ 32) (lv (2 ^ 32) a * lv (2 ^ 32) b)))) := by
 refine FnO.of TBgood mixed h_bigint_limbs_times rfl rfl (Nat.le_of_ble_eq_true rfl) (by simp [SlRes.ok]) ?_
 intro w hw
 have hcap : IntKind.i64.wrap ((a.length : Int) + (b.length : Int)) = ((a.length + b.length : Nat) : Int) := by rw [wrap_i64 (by omega) (by omega)]; omega
 conv => whnf
 refine ⟨by rw [hcap]; exact ⟨by omega, by omega, by show (4 : Int) * _ ≤ _; omega, by omega⟩, ?_⟩
 conv => whnf
 refine sexec_loop (ι := Nat × List Nat) (fun ⟨i, o⟩ => ⟨[(0, .o (.v (.slice A a.length c))), (1, .o (.v (.slice D b.length d))), (5, .o (.w 16)), (17, .o (.v (.slice A a.length c))), (18, .o (.v (.int .i64 a.length))), (19, .o (.v (.int .i64 i)))], [(16, .own t_uint32 1 (a.length + b.length) (u32V (o ++ List.replicate (a.length - i) 0)))], [SlRes A (u32V a), SlRes D (u32V b)]⟩)
   (fun ⟨i, o⟩ => i ≤ a.length ∧ o.length = i + b.length ∧ (∀ x ∈ o, x < 2 ^ 32) ∧ lv (2 ^ 32) o = lv (2 ^ 32) (a.take i) * lv (2 ^ 32) b) (fun ⟨i, o⟩ => a.length - i) (0, List.replicate b.length 0)
   ⟨Nat.zero_le _, by simp, (fun x h => by rw [(List.mem_replicate.1 h).2]; decide), by simp [lv_zeros, lv]⟩ (SLe.id ⟨rfl, rfl, rfl, rfl, rfl, rfl, trivial⟩ ⟨⟨_, rfl, ?_⟩, trivial⟩ (fun R hR => hR)) ?_
 · rw [hcap]
   simp only [ME.ren, Int.toNat_natCast, Nat.sub_zero, List.replicate_append_replicate]
   rw [Nat.add_comm b.length]
   simp only [u32V, rowV_repl]
   exact .refl _
 rintro ⟨i, o⟩ ⟨hi, ho, hob, hov⟩
 conv => whnf
 refine br_split ?_ ?_
 · intro h
   have hi' : i < a.length := by have : (i : Int) < a.length := by simpa using h
                                 omega
   have hA : A.isSome = true := slres_some (facts_two hw).1 (by rw [u32V_length]; omega)
   conv => whnf
   refine ⟨⟨by omega, by omega, hA⟩, ?_⟩
   conv => whnf
   refine LoadVC.elem u32c u32c_len (List.mem_cons_self ..) rfl (by rw [Int.toNat_natCast]; exact hi') (by decide) (fun _ => rfl) ?_
   rw [Int.toNat_natCast]
   intro x hx
   have hxb : x < 2 ^ 32 := ha x (List.mem_of_getElem? hx)
   conv => whnf
   refine sexec_loop (ι := Nat × List Nat × Nat) (fun ⟨k, P, cy⟩ => ⟨[(0, .o (.v (.slice A a.length c))), (1, .o (.v (.slice D b.length d))), (5, .o (.w 16)), (17, .o (.v (.slice A a.length c))), (18, .o (.v (.int .i64 a.length))), (19, .o (.v (.int .i64 i))),
       (6, .o (.v (.int .i64 i))), (7, .o (.v (u32 x))), (8, .o (.v (.int .u64 cy))), (24, .o (.v (.slice D b.length d))), (25, .o (.v (.int .i64 b.length))), (26, .o (.v (.int .i64 k)))], [(16, .own t_uint32 1 (a.length + b.length) (u32V (P ++ (o.drop (i + k) ++ List.replicate (a.length - i) 0))))], [SlRes A (u32V a), SlRes D (u32V b)]⟩)
     (fun ⟨k, P, cy⟩ => k ≤ b.length ∧ P.length = i + k ∧ cy < 2 ^ 32 ∧ (∀ x ∈ P, x < 2 ^ 32) ∧ lv (2 ^ 32) P + (2 ^ 32) ^ (i + k) * cy = lv (2 ^ 32) (o.take (i + k)) + (2 ^ 32) ^ i * (x * lv (2 ^ 32) (b.take k))) (fun ⟨k, P, cy⟩ => b.length - k) (0, o.take i, 0)
     ⟨Nat.zero_le _, by rw [List.length_take]; omega, by decide, (fun x h => hob x (List.mem_of_mem_take h)), by simp [lv]⟩ (SLe.id ⟨rfl, rfl, rfl, rfl, rfl, rfl, rfl, rfl, rfl, rfl, rfl, rfl, trivial⟩ ⟨⟨_, rfl, ?_⟩, trivial⟩ (fun R hR => hR)) ?_
   · simp only [ME.ren, Nat.add_zero]
     rw [← List.append_assoc, List.take_append_drop]
     exact .refl _
   rintro ⟨k, P, cy⟩ ⟨hk, hP, hcy, hPb, hinv⟩
   have hik : IntKind.i64.wrap ((i : Int) + (k : Int)) = ((i + k : Nat) : Int) := by rw [wrap_i64 (by omega) (by omega)]; omega
   conv => whnf
   refine br_split ?_ ?_
   · intro h2
     have hk' : k < b.length := by have : (k : Int) < b.length := by simpa using h2
                                   omega
     have hD : D.isSome = true := slres_some (facts_two hw).2 (by rw [u32V_length]; omega)
     conv => whnf
     refine ⟨⟨by omega, by omega, hD⟩, ?_⟩
     conv => whnf
     refine LoadVC.elem u32c u32c_len (List.mem_cons_of_mem _ (List.mem_singleton.2 rfl)) rfl (by rw [Int.toNat_natCast]; exact hk') (by decide) (fun _ => rfl) ?_
     rw [Int.toNat_natCast]
     intro y hy
     have hyb : y < 2 ^ 32 := hb y (List.mem_of_getElem? hy)
     have hoz : o[i + k]? = some o[i + k] := List.getElem?_eq_getElem (by omega)
     obtain ⟨z, hz⟩ : ∃ z, z = o[i + k] := ⟨_, rfl⟩
     rw [← hz] at hoz
     have hzb : z < 2 ^ 32 := hob z (List.mem_of_getElem? hoz)
     have hdrop : o.drop (i + k) = z :: o.drop (i + (k + 1)) := by rw [List.drop_eq_getElem_cons (show i + k < o.length by omega), hz]; rfl
     conv => whnf
     refine ⟨⟨by rw [hik]; omega, by rw [hik]; omega⟩, ?_⟩
     conv => whnf
     refine RowVC.elem u32c u32c_len (k := i + k) (by rw [hik]; rfl) (by simp; omega) (by decide) (fun _ => rfl) ?_
     intro z' hz'
     have hzz : z' = z := by
       rw [List.getElem?_append_right (by omega), hP, Nat.sub_self, hdrop] at hz'
       exact (Option.some.inj hz').symm
     subst hzz
     have hxy : x * y ≤ (2 ^ 32 - 1) * (2 ^ 32 - 1) := Nat.mul_le_mul (by omega) (by omega)
     have hmul : IntKind.u64.wrap (IntKind.u64.wrap (x : Int) * IntKind.u64.wrap (y : Int)) = ((x * y : Nat) : Int) := by
       have e1 : IntKind.u64.wrap (x : Int) = x := by rw [IntKind.wrap_u64]; omega
       have e2 : IntKind.u64.wrap (y : Int) = y := by rw [IntKind.wrap_u64]; omega
       rw [e1, e2, ← Int.natCast_mul, IntKind.wrap_u64]; omega
     have ht : IntKind.u64.wrap ((cy : Int) + IntKind.u64.wrap (IntKind.u64.wrap (IntKind.u64.wrap (x : Int) * IntKind.u64.wrap (y : Int)) + IntKind.u64.wrap (z' : Int))) = ((cy + (x * y + z') : Nat) : Int) := by
       rw [hmul]
       generalize x * y = xy at hxy ⊢
       simp only [IntKind.wrap_u64]; omega
     conv => whnf
     refine ⟨⟨by rw [hik]; omega, by rw [hik]; omega⟩, ?_⟩
     conv => whnf
     refine ⟨⟨by rw [hik, u32V_length]; simp; show (i + k) * 1 + 1 ≤ _; omega, by decide⟩, ?_⟩
     conv => whnf
     refine ⟨by decide, ?_⟩
     conv => whnf
     obtain ⟨t, htt⟩ : ∃ t, t = cy + (x * y + z') := ⟨_, rfl⟩
     rw [← htt] at ht
     have htb : t < 2 ^ 64 := by rw [htt]; generalize x * y = xy at hxy ⊢; omega
     refine ⟨(k + 1, P ++ [t % 2 ^ 32], t / 2 ^ 32), ⟨by omega, by simp; omega, by show t / 2 ^ 32 < 2 ^ 32; omega, ?_, ?_⟩, by simp; omega, ?_⟩
     · intro v hv
       rcases List.mem_append.1 hv with hv | hv
       · exact hPb v hv
       · rw [List.mem_singleton.1 hv]; exact Nat.mod_lt _ (by decide)
     · rw [htt]; exact times_step (by decide) hP hinv hoz hy
     · refine SLe.id ⟨rfl, rfl, rfl, rfl, rfl, rfl, rfl, rfl, ?_, rfl, rfl, ?_, trivial⟩ ⟨⟨_, rfl, ?_⟩, trivial⟩ (fun R hR => hR)
       · show some (SV.o (.v (.int _ (Int.fdiv (IntKind.u64.wrap ((cy : Int) + IntKind.u64.wrap (IntKind.u64.wrap (IntKind.u64.wrap (x : Int) * IntKind.u64.wrap (y : Int)) + IntKind.u64.wrap (z' : Int)))) (2 ^ 32))))) = some (SV.o (.v (.int _ ((t / 2 ^ 32 : Nat) : Int))))
         rw [ht, Int.fdiv_eq_ediv_of_nonneg _ (by decide)]; rfl
       · show some (SV.o (.v (.int _ (IntKind.i64.wrap ((k : Int) + 1))))) = some (SV.o (.v (.int _ ((k + 1 : Nat) : Int))))
         rw [wrap_i64 (by omega) (by omega)]; rfl
       · show MEle (ME.own _ _ _ (putN ((IntKind.i64.wrap ((i : Int) + (k : Int))).toNat * 1) [Value.int .u32 (IntKind.u32.wrap (IntKind.u64.wrap ((cy : Int) + IntKind.u64.wrap (IntKind.u64.wrap (IntKind.u64.wrap (x : Int) * IntKind.u64.wrap (y : Int)) + IntKind.u64.wrap (z' : Int)))))] (rowV u32c (P ++ (o.drop (i + k) ++ List.replicate (a.length - i) 0)))))
           (ME.own _ _ _ (rowV u32c ((P ++ [t % 2 ^ 32]) ++ (o.drop (i + (k + 1)) ++ List.replicate (a.length - i) 0))))
         rw [ht, hik, hdrop, List.cons_append, IntKind.wrap_u32, show ((t : Nat) : Int) % 4294967296 = ((t % 2 ^ 32 : Nat) : Int) by omega, u32V_mid P _ _ _ (by rw [hP, Int.toNat_natCast, Nat.mul_one])]
         exact .refl _
   · intro h2
     have hk' : k = b.length := by have : ¬ (k : Int) < b.length := by simpa using h2
                                   omega
     have him : IntKind.i64.wrap ((i : Int) + (b.length : Int)) = ((i + b.length : Nat) : Int) := by rw [wrap_i64 (by omega) (by omega)]; omega
     have hd0 : o.drop (i + k) = [] := by rw [hk', ← ho, List.drop_length]
     have hrep : List.replicate (a.length - i) 0 = 0 :: List.replicate (a.length - (i + 1)) 0 := by
       rw [← List.replicate_succ]; congr 1; omega
     conv => whnf
     refine ⟨⟨by rw [him]; omega, by rw [him]; omega⟩, ?_⟩
     conv => whnf
     refine ⟨⟨by rw [him, u32V_length, hd0]; simp; show (i + b.length) * 1 + 1 ≤ _; omega, by decide⟩, ?_⟩
     conv => whnf
     refine ⟨(i + 1, P ++ [cy]), ⟨by omega, by simp; omega, ?_, ?_⟩, by simp; omega, ?_⟩
     · intro v hv
       rcases List.mem_append.1 hv with hv | hv
       · exact hPb v hv
       · rw [List.mem_singleton.1 hv]; exact hcy
     · rw [lv_snoc, hP, hinv, hk', ← ho, List.take_length, List.take_length, hov, lv_take_succ hx, Nat.add_mul]
       congr 1
       rw [Nat.mul_assoc]
     · refine SLe.id ⟨rfl, rfl, rfl, rfl, rfl, ?_, trivial⟩ ⟨⟨_, rfl, ?_⟩, trivial⟩ (fun R hR => hR)
       · show some (SV.o (.v (.int _ (IntKind.i64.wrap ((i : Int) + 1))))) = some (SV.o (.v (.int _ ((i + 1 : Nat) : Int))))
         rw [wrap_i64 (by omega) (by omega)]; rfl
       · show MEle (ME.own _ _ _ (putN ((IntKind.i64.wrap ((i : Int) + (b.length : Int))).toNat * 1) [Value.int .u32 (IntKind.u32.wrap (cy : Int))] (rowV u32c (P ++ (o.drop (i + k) ++ List.replicate (a.length - i) 0)))))
           (ME.own _ _ _ (rowV u32c ((P ++ [cy]) ++ List.replicate (a.length - (i + 1)) 0)))
         rw [him, hd0, hrep, List.nil_append, IntKind.wrap_u32, show (cy : Int) % 4294967296 = (cy : Int) by omega, u32V_mid P _ _ _ (by rw [hP, hk', Int.toNat_natCast, Nat.mul_one])]
         exact .refl _
 · intro h
   have hi' : i = a.length := by have : ¬ (i : Int) < a.length := by simpa using h
                                 omega
   have hz : o ++ List.replicate (a.length - i) 0 = o := by rw [hi', Nat.sub_self]; simp
   have hdig : tr o = digs (2 ^ 32) (lv (2 ^ 32) a * lv (2 ^ 32) b) := by rw [tr_eq (by decide) hob, hov, hi', List.take_length]
   have hol : a.length + b.length = o.length := by rw [ho, hi']
   conv => whnf
   refine CallVC.cutO (n := a.length + b.length) (xs := u32V (o ++ List.replicate (a.length - i) 0)) (n' := (tr o).length) 66 (fun A c hc => ?_) rfl (by rw [hol]; exact tr_length o) rfl rfl ?_ rfl
   · rw [hz, hol]; exact c_trim A c o (by omega) (by omega)
   · conv => whnf
     refine ⟨66, rfl, ?_⟩
     show some (ME.own t_uint32 1 (tr o).length ((rowV u32c (o ++ List.replicate (a.length - i) 0)).take ((tr o).length * 1))) = _
     rw [hz, rowV_take u32c_len, tr_take, hdig]
end Go.Sx
end
section
set_option maxRecDepth 10000
namespace Go.Sx
open Go Go.Proofs
theorem short_div {v d q r : Nat} (hd : r < d) (h : v = d * q + r) : v / d = q ∧ v % d = r := by
 subst h
 rw [Nat.mul_add_div (by omega), Nat.div_eq_of_lt hd, Nat.mul_add_mod, Nat.mod_eq_of_lt hd]
 exact ⟨by omega, rfl⟩
theorem c_short (A : Option Addr) (c : Nat) (a : List Nat) (d : Nat) (ha : ∀ x ∈ a, x < 2 ^ 32) (hd : 0 < d) (hd2 : d < 2 ^ 32) (hla : a.length ≤ 100000000000) :
   FnM PP f_bigint_limbs_short [.slice A a.length c, u32 d] (facts [SlRes A (u32V a)]) (retsT t_uint32 1 (digs (2 ^ 32) (lv (2 ^ 32) a / d)).length (u32V (digs (2 ^ 32) (lv (2 ^ 32) a / d))) (u32 (lv (2 ^ 32) a % d))) := by
 refine FnT.of TBgood mixed h_bigint_limbs_short rfl rfl (Nat.le_of_ble_eq_true rfl) (by simp [SlRes.ok]) ?_
 intro w hw
 have hwr : IntKind.i64.wrap ((a.length : Int) - 1) = (a.length : Int) - 1 := wrap_i64 (by omega) (by omega)
 conv => whnf
 refine ⟨⟨by omega, by omega, by show (4 : Int) * _ ≤ _; omega, by omega⟩, ?_⟩
 conv => whnf
 refine sexec_loop (ι := Nat × List Nat × Nat) (fun ⟨k, q, r⟩ => ⟨[(0, .o (.v (.slice A a.length c))), (1, .o (.v (u32 d))), (6, .o (.w 11)), (7, .o (.v (u32 r))), (8, .o (.v (.int .i64 ((k : Int) - 1))))], [(11, .own t_uint32 1 a.length (u32V (List.replicate k 0 ++ q)))], [SlRes A (u32V a)]⟩)
   (fun ⟨k, q, r⟩ => k ≤ a.length ∧ q.length = a.length - k ∧ r < d ∧ (∀ x ∈ q, x < 2 ^ 32) ∧ lv (2 ^ 32) (a.drop k) = d * lv (2 ^ 32) q + r) (fun ⟨k, q, r⟩ => k) (a.length, [], 0)
   ⟨Nat.le_refl _, by simp, hd, (fun _ h => by cases h), by simp [lv]⟩ (SLe.id ⟨rfl, rfl, rfl, rfl, congrArg (fun z => some (SV.o (.v (.int .i64 z)))) hwr, trivial⟩ ⟨⟨_, rfl, ?_⟩, trivial⟩ (fun R hR => hR)) ?_
 · simp only [ME.ren, Int.toNat_natCast, List.append_nil]
   simp only [u32V, rowV_repl]
   exact .refl _
 rintro ⟨k, q, r⟩ ⟨hk, hq, hr, hqb, hinv⟩
 conv => whnf
 refine br_split ?_ ?_
 · intro h
   have hk0 : 0 < k := by have : (0 : Int) ≤ (k : Int) - 1 := by simpa using h
                          omega
   have hA : A.isSome = true := slres_some (facts_one hw) (by rw [u32V_length]; omega)
   have hkn : ((k : Int) - 1).toNat = k - 1 := by omega
   conv => whnf
   refine ⟨⟨by omega, by omega, hA⟩, ?_⟩
   conv => whnf
   refine LoadVC.elem u32c u32c_len (List.mem_singleton.2 rfl) rfl (by omega) (by decide) (fun _ => rfl) ?_
   rw [hkn]
   intro x hx
   have hxb : x < 2 ^ 32 := ha x (List.mem_of_getElem? hx)
   conv => whnf
   refine CallVC.fn (c_Div32 r x d hr hxb hd2) rfl ?_
   conv => whnf
   refine ⟨⟨by omega, by omega⟩, ?_⟩
   conv => whnf
   refine ⟨⟨by rw [hkn, u32V_length]; simp; show (k - 1) * 1 + 1 ≤ _; omega, by decide⟩, ?_⟩
   conv => whnf
   have hq2 : (r * 2 ^ 32 + x) / d < 2 ^ 32 := by
     apply Nat.div_lt_of_lt_mul
     have : (r + 1) * 2 ^ 32 ≤ d * 2 ^ 32 := Nat.mul_le_mul_right _ hr
     omega
   have hdrop : a.drop (k - 1) = x :: a.drop k := by
     obtain ⟨h5, h6⟩ := List.getElem?_eq_some_iff.1 hx
     rw [List.drop_eq_getElem_cons h5, h6, show k - 1 + 1 = k by omega]
   refine ⟨(k - 1, (r * 2 ^ 32 + x) / d :: q, (r * 2 ^ 32 + x) % d), ⟨by omega, by simp; omega, Nat.mod_lt _ hd, ?_, ?_⟩, by show k - 1 < k; omega, ?_⟩
   · intro v hv
     rcases List.mem_cons.1 hv with rfl | hv
     · exact hq2
     · exact hqb v hv
   · rw [hdrop]
     simp only [lv]
     rw [hinv]
     have h7 := Nat.div_add_mod (r * 2 ^ 32 + x) d
     generalize (r * 2 ^ 32 + x) / d = q' at *
     generalize (r * 2 ^ 32 + x) % d = r' at *
     rw [Nat.mul_add, Nat.mul_add, Nat.mul_left_comm d (2 ^ 32)]
     omega
   · refine SLe.id ⟨rfl, rfl, rfl, rfl, ?_, trivial⟩ ⟨⟨_, rfl, ?_⟩, trivial⟩ (fun R hR => hR)
     · show some (SV.o (.v (.int _ (IntKind.i64.wrap ((k : Int) - 1 - 1))))) = some (SV.o (.v (.int _ (((k - 1 : Nat) : Int) - 1))))
       rw [wrap_i64 (by omega) (by omega)]
       congr 4; omega
     · show MEle (ME.own _ _ _ (putN (((k : Int) - 1).toNat * 1) [Value.int .u32 (((r * 2 ^ 32 + x) / d : Nat) : Int)] (rowV u32c (List.replicate k 0 ++ q)))) (ME.own _ _ _ (rowV u32c (List.replicate (k - 1) 0 ++ (r * 2 ^ 32 + x) / d :: q)))
       have hrep : List.replicate k 0 ++ q = List.replicate (k - 1) 0 ++ 0 :: q := by
         have : List.replicate k 0 = List.replicate (k - 1) 0 ++ [0] := by rw [← List.replicate_succ']; congr 1; omega
         rw [this]; simp
       rw [hkn, hrep, u32V_mid (List.replicate (k - 1) 0) q 0 _ (by simp)]
       simp only [List.append_assoc, List.singleton_append]
       exact .refl _
 · intro h
   have hk0 : k = 0 := by have : ¬ (0 : Int) ≤ (k : Int) - 1 := by simpa using h
                          omega
   subst hk0
   rw [List.drop_zero] at hinv
   obtain ⟨hdq, hdr⟩ := short_div hr hinv
   have hdig : tr q = digs (2 ^ 32) (lv (2 ^ 32) a / d) := by rw [tr_eq (by decide) hqb, hdq]
   have hql : a.length = q.length := by omega
   conv => whnf
   refine CallVC.cutO (n := a.length) (xs := u32V (List.replicate 0 0 ++ q)) (n' := (tr q).length) 33 (fun A c hc => ?_) rfl (by rw [hql]; exact tr_length q) rfl rfl ?_ rfl
   · rw [hql]; exact c_trim A c q (by omega) (by omega)
   · conv => whnf
     refine ⟨33, by rw [hdr], ?_⟩
     show some (ME.own t_uint32 1 (tr q).length ((rowV u32c q).take ((tr q).length * 1))) = _
     rw [rowV_take u32c_len, tr_take, hdig]
end Go.Sx
end
section
set_option maxRecDepth 10000
namespace Go.Sx
open Go Go.Proofs
theorem pad_lv {B : Nat} (hB : 0 < B) : ∀ (l : List Nat), (∀ x ∈ l, x < B) → pad B l.length (lv B l) = l
 | [], _ => rfl
 | x :: l, h => by
   have hx := h x (by simp)
   rw [List.length_cons, pad_succ, lv, Nat.add_mul_mod_self_left, Nat.mod_eq_of_lt hx, Nat.add_mul_div_left _ _ hB, Nat.div_eq_of_lt hx, Nat.zero_add, pad_lv hB l (fun y hy => h y (List.mem_cons_of_mem _ hy))]
theorem shift_low {x n h : Nat} (hx : x < 2 ^ 32) (hn : n < 32) (hh : h < 2 ^ n) : x * 2 ^ n / 2 ^ 32 < 2 ^ n ∧ ∃ m, x * 2 ^ n % 2 ^ 32 = m * 2 ^ n ∧ h + m * 2 ^ n < 2 ^ 32 := by
 have hp : (2 : Nat) ^ 32 = 2 ^ (32 - n) * 2 ^ n := by rw [← Nat.pow_add]; congr 1; omega
 have hpos : 0 < (2 : Nat) ^ n := Nat.pow_pos (by decide)
 refine ⟨Nat.div_lt_of_lt_mul (Nat.mul_lt_mul_of_pos_right hx hpos), x % 2 ^ (32 - n), ?_, ?_⟩
 · rw [hp, Nat.mul_mod_mul_right]
 · have h1 : x % 2 ^ (32 - n) < 2 ^ (32 - n) := Nat.mod_lt _ (Nat.pow_pos (by decide))
   have h2 : (x % 2 ^ (32 - n) + 1) * 2 ^ n ≤ 2 ^ (32 - n) * 2 ^ n := Nat.mul_le_mul_right _ h1
   rw [← hp, Nat.add_mul, Nat.one_mul] at h2
   omega
theorem shift_step {B i h x p : Nat} {a o : List Nat} (ho : o.length = i) (hv : lv B o + B ^ i * h = lv B (a.take i) * p) (hx : a[i]? = some x) :
   lv B (o ++ [h + x * p % B]) + B ^ (i + 1) * (x * p / B) = lv B (a.take (i + 1)) * p := by
 have h1 : B ^ i * (x * p % B) + B ^ i * (B * (x * p / B)) = B ^ i * (x * p) := by rw [← Nat.mul_add, Nat.mod_add_div]
 rw [lv_snoc, ho, lv_take_succ hx, Nat.add_mul, ← hv, Nat.pow_succ, Nat.mul_add, Nat.mul_assoc (B ^ i) B, Nat.mul_assoc (B ^ i) x]
 omega
theorem c_shift (A : Option Addr) (c : Nat) (a : List Nat) (n : Nat) (ha : ∀ x ∈ a, x < 2 ^ 32) (hn : n < 32) (hla : a.length ≤ 100000000000) :
   FnM PP f_bigint_limbs_shift [.slice A a.length c, .int .i64 n] (facts [SlRes A (u32V a)]) (retsO t_uint32 1 (a.length + 1) (u32V (pad (2 ^ 32) (a.length + 1) (lv (2 ^ 32) a * 2 ^ n)))) := by
 refine FnO.of TBgood mixed h_bigint_limbs_shift rfl rfl (Nat.le_of_ble_eq_true rfl) (by simp [SlRes.ok]) ?_
 intro w hw
 have hcap : IntKind.i64.wrap ((a.length : Int) + 1) = ((a.length + 1 : Nat) : Int) := by rw [wrap_i64 (by omega) (by omega)]; omega
 have hpos : 0 < (2 : Nat) ^ n := Nat.pow_pos (by decide)
 conv => whnf
 refine ⟨by rw [hcap]; exact ⟨by omega, by omega, by show (4 : Int) * _ ≤ _; omega, by omega⟩, ?_⟩
 conv => whnf
 refine sexec_loop (ι := List Nat × Nat) (fun ⟨o, h⟩ => ⟨[(0, .o (.v (.slice A a.length c))), (1, .o (.v (.int .i64 n))), (5, .o (.w 12)), (13, .o (.v (.slice A a.length c))), (14, .o (.v (.int .i64 a.length))), (15, .o (.v (.int .i64 o.length)))], [(12, .own t_uint32 1 (a.length + 1) (u32V (o ++ h :: List.replicate (a.length - o.length) 0)))], [SlRes A (u32V a)]⟩)
   (fun ⟨o, h⟩ => o.length ≤ a.length ∧ h < 2 ^ n ∧ (∀ x ∈ o, x < 2 ^ 32) ∧ lv (2 ^ 32) o + (2 ^ 32) ^ o.length * h = lv (2 ^ 32) (a.take o.length) * 2 ^ n) (fun ⟨o, h⟩ => a.length - o.length) ([], 0)
   ⟨Nat.zero_le _, hpos, (fun _ h => by cases h), by simp [lv]⟩ (SLe.id ⟨rfl, rfl, rfl, rfl, rfl, rfl, trivial⟩ ⟨⟨_, rfl, ?_⟩, trivial⟩ (fun R hR => hR)) ?_
 · rw [hcap]
   simp only [ME.ren, Int.toNat_natCast, List.length_nil, Nat.sub_zero, List.nil_append, ← List.replicate_succ]
   simp only [u32V, rowV_repl]
   exact .refl _
 rintro ⟨o, h⟩ ⟨ho, hh, hob, hinv⟩
 conv => whnf
 refine br_split ?_ ?_
 · intro hlt
   have hi : o.length < a.length := by have : (o.length : Int) < a.length := by simpa using hlt
                                       omega
   have hA : A.isSome = true := slres_some (facts_one hw) (by rw [u32V_length]; omega)
   have hip : IntKind.i64.wrap ((o.length : Int) + 1) = ((o.length + 1 : Nat) : Int) := by rw [wrap_i64 (by omega) (by omega)]; omega
   conv => whnf
   refine ⟨⟨by omega, by omega, hA⟩, ?_⟩
   conv => whnf
   refine LoadVC.elem u32c u32c_len (List.mem_singleton.2 rfl) rfl (by rw [Int.toNat_natCast]; exact hi) (by decide) (fun _ => rfl) ?_
   rw [Int.toNat_natCast]
   intro x hx
   have hxb : x < 2 ^ 32 := ha x (List.mem_of_getElem? hx)
   obtain ⟨hhi, m, hm, hsum⟩ := shift_low hxb hn hh
   have hy : IntKind.u64.wrap (IntKind.u64.wrap (x : Int) * 2 ^ min (n : Int).toNat IntKind.u64.bits) = ((x * 2 ^ n : Nat) : Int) := by
     have e1 : IntKind.u64.wrap (x : Int) = (x : Int) := by rw [IntKind.wrap_u64]; omega
     have e2 : ((x : Int) * 2 ^ n) = ((x * 2 ^ n : Nat) : Int) := by rw [Int.natCast_mul, Int.natCast_pow]; rfl
     have e3 : x * 2 ^ n < 2 ^ 64 := by
       have h1 : x * 2 ^ n < 2 ^ 32 * 2 ^ n := Nat.mul_lt_mul_of_pos_right hxb hpos
       have h2 : (2 : Nat) ^ 32 * 2 ^ n ≤ 2 ^ 64 := by rw [← Nat.pow_add]; exact Nat.pow_le_pow_right (by decide) (by omega)
       omega
     rw [e1, Int.toNat_natCast, show min n IntKind.u64.bits = n from Nat.min_eq_left (by show n ≤ 64; omega), e2, IntKind.wrap_u64]; omega
   conv => whnf
   refine ⟨by omega, ?_⟩
   conv => whnf
   refine ⟨⟨by omega, by omega⟩, ?_⟩
   conv => whnf
   refine RowVC.elem u32c u32c_len (k := o.length) (by rw [Int.toNat_natCast]; rfl) (by simp) (by decide) (fun _ => rfl) ?_
   intro h' hh'
   have hhh : h' = h := by
     rw [List.getElem?_append_right (Nat.le_refl _), Nat.sub_self] at hh'
     exact (Option.some.inj hh').symm
   subst hhh
   conv => whnf
   refine ⟨⟨by omega, by omega⟩, ?_⟩
   conv => whnf
   refine ⟨⟨by rw [u32V_length]; simp; show _ * 1 + 1 ≤ _; omega, by decide⟩, ?_⟩
   conv => whnf
   refine ⟨by decide, ?_⟩
   conv => whnf
   refine ⟨⟨by rw [hip]; omega, by rw [hip]; omega⟩, ?_⟩
   conv => whnf
   have hor : IntKind.u32.wrap (BitVec.toNat (w := 32) (BitVec.ofInt 32 (h' : Int) ||| BitVec.ofInt 32 (IntKind.u32.wrap ((x * 2 ^ n : Nat) : Int))) : Int) = ((h' + m * 2 ^ n : Nat) : Int) := by
     have e1 : IntKind.u32.wrap ((x * 2 ^ n : Nat) : Int) = ((m * 2 ^ n : Nat) : Int) := by rw [IntKind.wrap_u32, ← hm]; rfl
     rw [e1]
     exact or_add hh hsum
   have hrep : List.replicate (a.length - o.length) 0 = 0 :: List.replicate (a.length - (o.length + 1)) 0 := by rw [← List.replicate_succ]; congr 1; omega
   have hput1 : ∀ v : Int, v = ((h' + m * 2 ^ n : Nat) : Int) → putN ((o.length : Int).toNat * 1) [Value.int .u32 v] (rowV u32c (o ++ h' :: List.replicate (a.length - o.length) 0))
       = rowV u32c ((o ++ [h' + m * 2 ^ n]) ++ 0 :: List.replicate (a.length - (o.length + 1)) 0) := by
     intro v hv
     rw [hv, u32V_mid o _ _ _ (by simp), hrep]
   refine ⟨⟨?_, by decide⟩, ?_⟩
   · show _ ≤ (putN ((o.length : Int).toNat * 1) [Value.int .u32 _] (rowV u32c _)).length
     rw [hput1 _ (by rw [hy]; exact hor), hip, u32V_length]
     simp
     show (o.length + 1) * 1 + 1 ≤ _
     omega
   conv => whnf
   refine ⟨(o ++ [h' + m * 2 ^ n], x * 2 ^ n / 2 ^ 32), ⟨by simp; omega, hhi, ?_, ?_⟩, by simp; omega, ?_⟩
   · intro v hv
     rcases List.mem_append.1 hv with hv | hv
     · exact hob v hv
     · rw [List.mem_singleton.1 hv]; exact hsum
   · rw [List.length_append]
     show lv (2 ^ 32) (o ++ [h' + m * 2 ^ n]) + (2 ^ 32) ^ (o.length + 1) * (x * 2 ^ n / 2 ^ 32) = lv (2 ^ 32) (a.take (o.length + 1)) * 2 ^ n
     rw [← hm]
     exact shift_step rfl hinv hx
   · refine SLe.id ⟨rfl, rfl, rfl, rfl, rfl, ?_, trivial⟩ ⟨⟨_, rfl, ?_⟩, trivial⟩ (fun R hR => hR)
     · show some (SV.o (.v (.int _ (IntKind.i64.wrap ((o.length : Int) + 1))))) = some (SV.o (.v (.int _ (((o ++ [_]).length : Nat) : Int))))
       rw [hip, List.length_append]; rfl
     · show MEle (ME.own _ _ _ (putN ((IntKind.i64.wrap ((o.length : Int) + 1)).toNat * 1) [Value.int .u32 (IntKind.u32.wrap (Int.fdiv (IntKind.u64.wrap (IntKind.u64.wrap (x : Int) * 2 ^ min (n : Int).toNat IntKind.u64.bits)) (2 ^ 32)))] (putN ((o.length : Int).toNat * 1) [Value.int .u32 _] (rowV u32c (o ++ h' :: List.replicate (a.length - o.length) 0)))))
         (ME.own _ _ _ (rowV u32c ((o ++ [h' + m * 2 ^ n]) ++ (x * 2 ^ n / 2 ^ 32) :: List.replicate (a.length - (o ++ [_]).length) 0)))
       have hhi2 : IntKind.u32.wrap (Int.fdiv ((x * 2 ^ n : Nat) : Int) (2 ^ 32)) = ((x * 2 ^ n / 2 ^ 32 : Nat) : Int) := by
         rw [Int.fdiv_eq_ediv_of_nonneg _ (by decide)]
         have e5 : ((x * 2 ^ n : Nat) : Int) / 2 ^ 32 = ((x * 2 ^ n / 2 ^ 32 : Nat) : Int) := rfl
         have e6 : (2 : Nat) ^ n ≤ 2 ^ 32 := Nat.pow_le_pow_right (by decide) (by omega)
         rw [e5]
         generalize x * 2 ^ n / 2 ^ 32 = z at hhi ⊢
         rw [IntKind.wrap_u32]; omega
       rw [hput1 _ (by rw [hy]; exact hor), hy, hhi2, hip, u32V_mid (o ++ [h' + m * 2 ^ n]) _ _ _ (by simp)]
       simp only [List.length_append, List.append_assoc, List.singleton_append, List.cons_append, List.nil_append, List.length_cons, List.length_nil]
       exact .refl _
 · intro hlt
   have hi : o.length = a.length := by have : ¬ (o.length : Int) < a.length := by simpa using hlt
                                       omega
   have h32 : (2 : Nat) ^ n ≤ 2 ^ 32 := Nat.pow_le_pow_right (by decide) (by omega)
   conv => whnf
   refine ⟨12, rfl, ?_⟩
   show some (ME.own t_uint32 1 (a.length + 1) (u32V (o ++ h :: List.replicate (a.length - o.length) 0))) = _
   have hval : lv (2 ^ 32) (o ++ [h]) = lv (2 ^ 32) a * 2 ^ n := by rw [lv_snoc, hinv, hi, List.take_length]
   have := pad_lv (B := 2 ^ 32) (by decide) (o ++ [h]) (fun v hv => by
     rcases List.mem_append.1 hv with hv | hv
     · exact hob v hv
     · rw [List.mem_singleton.1 hv]; omega)
   rw [hval, List.length_append, hi] at this
   rw [hi, Nat.sub_self]
   simp only [List.replicate_zero]
   rw [← this]; rfl
end Go.Sx
end
section
set_option maxRecDepth 10000
namespace Go.Sx
open Go Go.Proofs
theorem lv_div_pow {B : Nat} (hB : 0 < B) {a : List Nat} (ha : ∀ x ∈ a, x < B) (i : Nat) (hi : i ≤ a.length) : lv B a / B ^ i = lv B (a.drop i) := by
 have h1 : lv B a = lv B (a.take i) + B ^ i * lv B (a.drop i) := by
   conv => lhs; rw [← List.take_append_drop i a]
   rw [lv_append, List.length_take, Nat.min_eq_left hi]
 have h2 : lv B (a.take i) < B ^ i := by
   have := lv_lt hB (a.take i) (fun z hz => ha z (List.mem_of_mem_take hz))
   rwa [List.length_take, Nat.min_eq_left hi] at this
 rw [h1, Nat.add_mul_div_left _ _ (Nat.pow_pos hB), Nat.div_eq_of_lt h2, Nat.zero_add]
theorem unshift_digit {a : List Nat} {i n x y : Nat} (ha : ∀ z ∈ a, z < 2 ^ 32) (hn : n < 32) (hx : a[i]? = some x) (hy : a[i + 1]? = some y ∨ (a.length ≤ i + 1 ∧ y = 0)) :
   lv (2 ^ 32) a / 2 ^ n / (2 ^ 32) ^ i % 2 ^ 32 = (x + y * 2 ^ 32) / 2 ^ n % 2 ^ 32 := by
 obtain ⟨hi, hxe⟩ := List.getElem?_eq_some_iff.1 hx
 have h1 : ∃ m, lv (2 ^ 32) (a.drop i) = x + 2 ^ 32 * (y + 2 ^ 32 * m) := by
   rw [List.drop_eq_getElem_cons hi, hxe]
   rcases hy with h | ⟨h, rfl⟩
   · obtain ⟨hj, hye⟩ := List.getElem?_eq_some_iff.1 h
     rw [List.drop_eq_getElem_cons hj, hye]
     exact ⟨_, rfl⟩
   · rw [List.drop_of_length_le h]
     exact ⟨0, rfl⟩
 obtain ⟨m, hm⟩ := h1
 have hp : (2 : Nat) ^ 32 = 2 ^ n * 2 ^ (32 - n) := by rw [← Nat.pow_add]; congr 1; omega
 have hpos : 0 < (2 : Nat) ^ n := Nat.pow_pos (by decide)
 rw [Nat.div_div_eq_div_mul, Nat.mul_comm, ← Nat.div_div_eq_div_mul, lv_div_pow (by decide) ha i (by omega), hm]
 have h2 : x + 2 ^ 32 * (y + 2 ^ 32 * m) = (x + y * 2 ^ 32) + 2 ^ n * (2 ^ 32 * (2 ^ (32 - n) * m)) := by
   have : 2 ^ n * (2 ^ 32 * (2 ^ (32 - n) * m)) = 2 ^ 32 * (2 ^ 32 * m) := by
     rw [Nat.mul_left_comm (2 ^ n), ← Nat.mul_assoc (2 ^ n) (2 ^ (32 - n)), ← hp]
   rw [this]; omega
 rw [h2, Nat.add_mul_div_left _ _ hpos, Nat.add_mul_mod_self_left]
theorem pad_snoc (B i v : Nat) : pad B (i + 1) v = pad B i v ++ [v / B ^ i % B] := by simp [pad, List.range_succ]
theorem c_unshift (A : Option Addr) (c : Nat) (a : List Nat) (n : Nat) (ha : ∀ x ∈ a, x < 2 ^ 32) (hn : n < 32) (hla : a.length ≤ 100000000000) :
   FnM PP f_bigint_limbs_unshift [.slice A a.length c, .int .i64 n] (facts [SlRes A (u32V a)]) (retsO t_uint32 1 (digs (2 ^ 32) (lv (2 ^ 32) a / 2 ^ n)).length (u32V (digs (2 ^ 32) (lv (2 ^ 32) a / 2 ^ n)))) := by
 refine FnO.of TBgood mixed h_bigint_limbs_unshift rfl rfl (Nat.le_of_ble_eq_true rfl) (by simp [SlRes.ok]) ?_
 intro w hw
 conv => whnf
 refine ⟨⟨by omega, by omega, by show (4 : Int) * _ ≤ _; omega, by omega⟩, ?_⟩
 conv => whnf
 refine sexec_loop (ι := Nat) (fun i => ⟨[(0, .o (.v (.slice A a.length c))), (1, .o (.v (.int .i64 n))), (5, .o (.w 10)), (12, .o (.v (.int .i64 a.length))), (13, .o (.v (.int .i64 i)))], [(10, .own t_uint32 1 a.length (u32V (pad (2 ^ 32) i (lv (2 ^ 32) a / 2 ^ n) ++ List.replicate (a.length - i) 0)))], [SlRes A (u32V a)]⟩)
   (fun i => i ≤ a.length) (fun i => a.length - i) 0 (Nat.zero_le _) (SLe.id ⟨rfl, rfl, rfl, rfl, rfl, trivial⟩ ⟨⟨_, rfl, ?_⟩, trivial⟩ (fun R hR => hR)) ?_
 · simp only [ME.ren, Int.toNat_natCast, Nat.sub_zero]
   show MEle _ (ME.own _ _ _ (rowV u32c ([] ++ List.replicate a.length 0)))
   rw [List.nil_append, rowV_repl]
   exact .refl _
 intro i hi
 conv => whnf
 refine br_split ?_ ?_
 · intro hlt
   have hi' : i < a.length := by have : (i : Int) < a.length := by simpa using hlt
                                 omega
   have hA : A.isSome = true := slres_some (facts_one hw) (by rw [u32V_length]; omega)
   have hip : IntKind.i64.wrap ((i : Int) + 1) = ((i + 1 : Nat) : Int) := by rw [wrap_i64 (by omega) (by omega)]; omega
   have hrep : List.replicate (a.length - i) 0 = 0 :: List.replicate (a.length - (i + 1)) 0 := by rw [← List.replicate_succ]; congr 1; omega
   have hput : ∀ (v : Int) (x y : Nat), a[i]? = some x → (a[i + 1]? = some y ∨ (a.length ≤ i + 1 ∧ y = 0)) → v = (((x + y * 2 ^ 32) / 2 ^ n % 2 ^ 32 : Nat) : Int) →
       putN ((i : Int).toNat * 1) [Value.int .u32 v] (rowV u32c (pad (2 ^ 32) i (lv (2 ^ 32) a / 2 ^ n) ++ List.replicate (a.length - i) 0)) = rowV u32c (pad (2 ^ 32) (i + 1) (lv (2 ^ 32) a / 2 ^ n) ++ List.replicate (a.length - (i + 1)) 0) := by
     intro v x y hx hy hv
     rw [hv, hrep, u32V_mid _ _ _ _ (by rw [pad_length, Int.toNat_natCast, Nat.mul_one]), pad_snoc, unshift_digit ha hn hx hy]
   conv => whnf
   refine ⟨⟨by omega, by omega, hA⟩, ?_⟩
   conv => whnf
   refine LoadVC.elem u32c u32c_len (List.mem_singleton.2 rfl) rfl (by rw [Int.toNat_natCast]; exact hi') (by decide) (fun _ => rfl) ?_
   rw [Int.toNat_natCast]
   intro x hx
   have hxb : x < 2 ^ 32 := ha x (List.mem_of_getElem? hx)
   have hx64 : IntKind.u64.wrap (x : Int) = (x : Int) := by rw [IntKind.wrap_u64]; omega
   have hshr : ∀ z : Nat, IntKind.u32.wrap (Int.fdiv (z : Int) (2 ^ min (n : Int).toNat IntKind.u64.bits)) = ((z / 2 ^ n % 2 ^ 32 : Nat) : Int) := fun z => by
     have e2 : ((2 : Int) ^ n) = ((2 ^ n : Nat) : Int) := by rw [Int.natCast_pow]; rfl
     rw [Int.toNat_natCast, show min n IntKind.u64.bits = n from Nat.min_eq_left (by show n ≤ 64; omega), e2, Int.fdiv_eq_ediv_of_nonneg _ (Int.natCast_nonneg _), IntKind.wrap_u32]
     have e3 : ((z : Int) / ((2 ^ n : Nat) : Int)) = ((z / 2 ^ n : Nat) : Int) := rfl
     rw [e3]; omega
   conv => whnf
   refine br_split ?_ ?_
   · intro h2
     have hj : i + 1 < a.length := by
       have : IntKind.i64.wrap ((i : Int) + 1) < (a.length : Int) := by simpa using h2
       rw [hip] at this; omega
     conv => whnf
     refine ⟨⟨by rw [hip]; omega, by rw [hip]; omega, hA⟩, ?_⟩
     conv => whnf
     refine LoadVC.elem u32c u32c_len (List.mem_singleton.2 rfl) rfl (by rw [hip, Int.toNat_natCast]; exact hj) (by decide) (fun _ => rfl) ?_
     rw [hip, Int.toNat_natCast]
     intro y hy
     have hyb : y < 2 ^ 32 := ha y (List.mem_of_getElem? hy)
     have hor : IntKind.u64.wrap (BitVec.toNat (w := 64) (BitVec.ofInt 64 (IntKind.u64.wrap (x : Int)) ||| BitVec.ofInt 64 (IntKind.u64.wrap (IntKind.u64.wrap (y : Int) * 2 ^ min (32 : Int).toNat IntKind.u64.bits))) : Int) = ((x + y * 2 ^ 32 : Nat) : Int) := by
       have e1 : IntKind.u64.wrap (IntKind.u64.wrap (y : Int) * 2 ^ min (32 : Int).toNat IntKind.u64.bits) = ((y * 2 ^ 32 : Nat) : Int) := by
         rw [show min (32 : Int).toNat IntKind.u64.bits = 32 from rfl, IntKind.wrap_u64, IntKind.wrap_u64]; omega
       rw [e1, hx64, u64_bv, BitVec.toNat_or, ofInt64_toNat (by omega), ofInt64_toNat (by omega), Nat.or_comm, Nat.mul_comm, ← Nat.two_pow_add_eq_or_of_lt hxb]
       omega
     conv => whnf
     refine ⟨by decide, ?_⟩
     conv => whnf
     refine ⟨by omega, ?_⟩
     conv => whnf
     refine ⟨⟨by omega, by omega⟩, ?_⟩
     conv => whnf
     refine ⟨⟨by rw [u32V_length]; simp [pad_length]; show i * 1 + 1 ≤ _; omega, by decide⟩, ?_⟩
     conv => whnf
     refine ⟨i + 1, by omega, by omega, ?_⟩
     refine SLe.id ⟨rfl, rfl, rfl, rfl, congrArg (fun z => some (SV.o (.v (.int .i64 z)))) hip, trivial⟩ ⟨⟨_, rfl, ?_⟩, trivial⟩ (fun R hR => hR)
     show MEle (ME.own _ _ _ (putN ((i : Int).toNat * 1) [Value.int .u32 _] (rowV u32c _))) (ME.own _ _ _ (rowV u32c _))
     rw [hput _ x y hx (.inl hy) (by exact (congrArg (fun z => IntKind.u32.wrap (Int.fdiv z (2 ^ min (n : Int).toNat IntKind.u64.bits))) hor).trans (hshr _))]
     exact .refl _
   · intro h2
     have hj : a.length ≤ i + 1 := by
       have : ¬ IntKind.i64.wrap ((i : Int) + 1) < (a.length : Int) := by simpa using h2
       rw [hip] at this; omega
     conv => whnf
     refine ⟨by omega, ?_⟩
     conv => whnf
     refine ⟨⟨by omega, by omega⟩, ?_⟩
     conv => whnf
     refine ⟨⟨by rw [u32V_length]; simp [pad_length]; show i * 1 + 1 ≤ _; omega, by decide⟩, ?_⟩
     conv => whnf
     refine ⟨i + 1, by omega, by omega, ?_⟩
     refine SLe.id ⟨rfl, rfl, rfl, rfl, congrArg (fun z => some (SV.o (.v (.int .i64 z)))) hip, trivial⟩ ⟨⟨_, rfl, ?_⟩, trivial⟩ (fun R hR => hR)
     show MEle (ME.own _ _ _ (putN ((i : Int).toNat * 1) [Value.int .u32 _] (rowV u32c _))) (ME.own _ _ _ (rowV u32c _))
     rw [hput _ x 0 hx (.inr ⟨hj, rfl⟩) ((congrArg (fun z => IntKind.u32.wrap (Int.fdiv z (2 ^ min (n : Int).toNat IntKind.u64.bits))) hx64).trans ((hshr x).trans (by simp)))]
     exact .refl _
 · intro hlt
   have hi' : i = a.length := by have : ¬ (i : Int) < a.length := by simpa using hlt
                                 omega
   obtain ⟨o, hoe⟩ : ∃ o, o = pad (2 ^ 32) i (lv (2 ^ 32) a / 2 ^ n) := ⟨_, rfl⟩
   have hz : pad (2 ^ 32) i (lv (2 ^ 32) a / 2 ^ n) ++ List.replicate (a.length - i) 0 = o := by rw [hoe, hi', Nat.sub_self]; simp
   have hol : a.length = o.length := by rw [hoe, pad_length, hi']
   have hob : ∀ x ∈ o, x < 2 ^ 32 := by rw [hoe]; exact pad_lt (by decide) _ _
   have hdig : tr o = digs (2 ^ 32) (lv (2 ^ 32) a / 2 ^ n) := by
     have h1 := lv_lt (by decide) a ha
     have h2 : lv (2 ^ 32) a / 2 ^ n ≤ lv (2 ^ 32) a := Nat.div_le_self _ _
     rw [tr_eq (by decide) hob, hoe, lv_pad (by decide), hi', Nat.mod_eq_of_lt (by omega)]
   conv => whnf
   refine CallVC.cutO (n := a.length) (xs := u32V (pad (2 ^ 32) i (lv (2 ^ 32) a / 2 ^ n) ++ List.replicate (a.length - i) 0)) (n' := (tr o).length) 44 (fun A c hc => ?_) rfl (by rw [hol]; exact tr_length o) rfl rfl ?_ rfl
   · rw [hz, hol]; exact c_trim A c o (by omega) (by omega)
   · conv => whnf
     refine ⟨44, rfl, ?_⟩
     show some (ME.own t_uint32 1 (tr o).length ((rowV u32c (pad (2 ^ 32) i (lv (2 ^ 32) a / 2 ^ n) ++ List.replicate (a.length - i) 0)).take ((tr o).length * 1))) = _
     rw [hz, rowV_take u32c_len, tr_take, hdig]
end Go.Sx
end
section
set_option maxRecDepth 10000
namespace Go.Sx
open Go Go.Proofs
def blen (x : Nat) : Nat := if x = 0 then 0 else Nat.log2 x + 1
theorem blen_lt (x : Nat) : x < 2 ^ blen x := by
 unfold blen
 split
 · rename_i h; subst h; decide
 · exact Nat.lt_log2_self
theorem blen_ge {x : Nat} (hx : 0 < x) : 2 ^ (blen x - 1) ≤ x ∧ 0 < blen x := by
 unfold blen
 rw [if_neg (by omega)]
 exact ⟨Nat.log2_self_le (by omega), by omega⟩
theorem blen_eq {x L : Nat} (h1 : 2 ^ L ≤ x) (h2 : x < 2 ^ (L + 1)) : blen x = L + 1 := by
 have hx : 0 < x := Nat.lt_of_lt_of_le (Nat.pow_pos (by decide)) h1
 obtain ⟨h3, h4⟩ := blen_ge hx
 have h5 := blen_lt x
 have h6 : blen x - 1 < L + 1 := (Nat.pow_lt_pow_iff_right (a := 2) (by decide)).1 (Nat.lt_of_le_of_lt h3 h2)
 have h7 : L < blen x := (Nat.pow_lt_pow_iff_right (a := 2) (by decide)).1 (Nat.lt_of_le_of_lt h1 h5)
 omega
theorem blen_shift {x k : Nat} (h : 2 ^ k ≤ x) : blen x = k + blen (x / 2 ^ k) := by
 have hp : 0 < (2 : Nat) ^ k := Nat.pow_pos (by decide)
 have hq : 0 < x / 2 ^ k := Nat.div_pos h hp
 obtain ⟨h1, h2⟩ := blen_ge hq
 have h3 := blen_lt (x / 2 ^ k)
 obtain ⟨L, hL⟩ : ∃ L, blen (x / 2 ^ k) = L + 1 := ⟨blen (x / 2 ^ k) - 1, by omega⟩
 rw [hL] at h1 h3 ⊢
 simp only [Nat.add_sub_cancel] at h1
 rw [show k + (L + 1) = (k + L) + 1 by omega]
 refine blen_eq ?_ ?_
 · rw [Nat.pow_add, Nat.mul_comm]
   exact (Nat.le_div_iff_mul_le hp).1 h1
 · rw [show k + L + 1 = (L + 1) + k by omega, Nat.pow_add]
   exact (Nat.div_lt_iff_lt_mul hp).1 h3
theorem blen_le {x : Nat} (h : x < 2 ^ 32) : blen x ≤ 32 := by
 rcases Nat.eq_zero_or_pos x with rfl | hx
 · decide
 · obtain ⟨h1, h2⟩ := blen_ge hx
   have := (Nat.pow_lt_pow_iff_right (a := 2) (by decide)).1 (Nat.lt_of_le_of_lt h1 h)
   omega
theorem fdiv_pow (x k m : Nat) (hk : k ≤ m) : (x : Int).fdiv (2 ^ min (k : Int).toNat m) = ((x / 2 ^ k : Nat) : Int) := by
 have e2 : ((2 : Int) ^ k) = ((2 ^ k : Nat) : Int) := by rw [Int.natCast_pow]; rfl
 rw [Int.toNat_natCast, Nat.min_eq_left hk, e2, Int.fdiv_eq_ediv_of_nonneg _ (Int.natCast_nonneg _)]; rfl
theorem len8_fin {s : ByteArray} {v N : Int} {j x n : Nat} (h : ∀ j : Fin 256, sb s (j.val : Int) = (blen j.val : Int)) (hj : j < 256) (hv : v = (j : Int)) (hN : N = (n : Int)) (hx : n + blen j = blen x) (hb : blen x ≤ 32) :
   Value.int .i64 (IntKind.i64.wrap (N + IntKind.i64.wrap (sb s v))) = .int .i64 (blen x) := by
 have := h ⟨j, hj⟩
 rw [hv, hN, this, wrap_i64 (n := (blen j : Int)) (by omega) (by omega), wrap_i64 (by omega) (by omega)]
 congr 1; omega
theorem idx_ok {v : Int} {j : Nat} (hv : v = (j : Int)) (hj : j < 256) : 0 ≤ v ∧ v < 256 := by omega
theorem u8_nat {j : Nat} (hj : j < 256) : IntKind.u8.wrap (j : Int) = (j : Int) := by rw [IntKind.wrap_u8]; omega
theorem c_Len32 (x : Nat) (hx : x < 2 ^ 32) : Fn PP f_math_bits_Len32 [u32 x] (.int .i64 (blen x)) := by
 refine Fn.of TBgood mixed h_math_bits_Len32 rfl rfl (Nat.le_of_ble_eq_true rfl) ?_
 intro w
 have hb := blen_le hx
 conv => whnf
 refine br_split ?_ ?_
 · intro h
   have hge : 65536 ≤ x := by have : (65536 : Int) ≤ x := by simpa using h
                              omega
   have h16 := fdiv_pow x 16 32 (by decide)
   have hs16 := blen_shift (x := x) (k := 16) (by omega)
   conv => whnf
   refine ⟨by decide, ?_⟩
   conv => whnf
   refine br_split ?_ ?_
   · intro h2
     have hge2 : 256 ≤ x / 2 ^ 16 := by
       have : ((x : Int).fdiv (2 ^ min ((16 : Nat) : Int).toNat 32)) ≥ 256 := of_decide_eq_true h2
       rw [h16] at this; omega
     have hs8 := blen_shift (x := x / 2 ^ 16) (k := 8) (by omega)
     have h8 := fdiv_pow (x / 2 ^ 16) 8 32 (by decide)
     have hv : IntKind.u8.wrap (((x : Int).fdiv (2 ^ min ((16 : Nat) : Int).toNat 32)).fdiv (2 ^ min ((8 : Nat) : Int).toNat 32)) = ((x / 2 ^ 16 / 2 ^ 8 : Nat) : Int) := by rw [h16, h8, u8_nat (by omega)]
     conv => whnf
     refine ⟨by decide, ?_⟩
     conv => whnf
     refine ⟨⟨(idx_ok hv (by omega)).1, show _ < (256 : Int) from (idx_ok hv (by omega)).2⟩, ?_⟩
     conv => whnf
     refine postV_one ?_
     refine len8_fin (j := x / 2 ^ 16 / 2 ^ 8) (n := 24) ?_ (by omega) hv (by decide) (by omega) hb
     decide +kernel
   · intro h2
     have hge2 : x / 2 ^ 16 < 256 := by
       have : ¬ ((x : Int).fdiv (2 ^ min ((16 : Nat) : Int).toNat 32)) ≥ 256 := of_decide_eq_false h2
       rw [h16] at this; omega
     have hv : IntKind.u8.wrap ((x : Int).fdiv (2 ^ min ((16 : Nat) : Int).toNat 32)) = ((x / 2 ^ 16 : Nat) : Int) := by rw [h16, u8_nat (by omega)]
     conv => whnf
     refine ⟨⟨(idx_ok hv (by omega)).1, show _ < (256 : Int) from (idx_ok hv (by omega)).2⟩, ?_⟩
     conv => whnf
     refine postV_one ?_
     refine len8_fin (j := x / 2 ^ 16) (n := 16) ?_ (by omega) hv (by decide) (by omega) hb
     decide +kernel
 · intro h
   have hge : x < 65536 := by have : ¬ (65536 : Int) ≤ x := by simpa using h
                              omega
   conv => whnf
   refine br_split ?_ ?_
   · intro h2
     have hge2 : 256 ≤ x := by have : (256 : Int) ≤ x := by simpa using h2
                               omega
     have hs8 := blen_shift (x := x) (k := 8) (by omega)
     have h8 := fdiv_pow x 8 32 (by decide)
     have hv : IntKind.u8.wrap ((x : Int).fdiv (2 ^ min ((8 : Nat) : Int).toNat 32)) = ((x / 2 ^ 8 : Nat) : Int) := by rw [h8, u8_nat (by omega)]
     conv => whnf
     refine ⟨by decide, ?_⟩
     conv => whnf
     refine ⟨⟨(idx_ok hv (by omega)).1, show _ < (256 : Int) from (idx_ok hv (by omega)).2⟩, ?_⟩
     conv => whnf
     refine postV_one ?_
     refine len8_fin (j := x / 2 ^ 8) (n := 8) ?_ (by omega) hv (by decide) (by omega) hb
     decide +kernel
   · intro h2
     have hge2 : x < 256 := by have : ¬ (256 : Int) ≤ x := by simpa using h2
                               omega
     have hv : IntKind.u8.wrap (x : Int) = (x : Int) := u8_nat (by omega)
     conv => whnf
     refine ⟨⟨by rw [hv]; omega, by rw [hv]; show _ < (256 : Int); omega⟩, ?_⟩
     conv => whnf
     refine postV_one ?_
     refine len8_fin (j := x) (n := 0) ?_ (by omega) hv (by decide) (by omega) hb
     decide +kernel
theorem c_LeadingZeros32 (x : Nat) (hx : x < 2 ^ 32) : Fn PP f_math_bits_LeadingZeros32 [u32 x] (.int .i64 ((32 - blen x : Nat) : Int)) := by
 refine Fn.of TBgood mixed h_math_bits_LeadingZeros32 rfl rfl (Nat.le_of_ble_eq_true rfl) ?_
 intro w
 have hb := blen_le hx
 conv => whnf
 refine CallVC.fn (c_Len32 x hx) rfl ?_
 conv => whnf
 refine postV_one ?_
 rw [wrap_i64 (by omega) (by omega)]
 congr 1; omega
end Go.Sx
end
section
set_option maxRecDepth 10000
namespace Go.Sx
open Go Go.Proofs
theorem RowVC.elemJ {α : Type} {xs : List α} {k n : Nat} {agg : Bool} {K : SV → Prop} {junk : List Value} (f : α → List Value) (hf : ∀ x, (f x).length = n) {off : Nat} (ho : off = k * n) (hj : k < xs.length) (h0 : 0 < n) (h1 : agg = false → n = 1) (hk : ∀ x, xs[k]? = some x → K (mkV agg (f x))) :
   RowVC (rowV f xs ++ junk) off n agg K := by
 obtain ⟨h2, l, h3, h4, h5, h6⟩ := RowVC.elem f hf ho hj h0 h1 hk
 refine ⟨h2, l, h3, h4, fun j x hx => ?_, h6⟩
 have := h5 j x hx
 rw [List.getElem?_append_left (List.getElem?_eq_some_iff.1 this).1]; exact this
theorem u32V_midJ (P R : List Nat) (z d : Nat) (junk : List Value) {i : Nat} (hi : i = P.length) : putN i [Value.int .u32 (d : Int)] (rowV u32c (P ++ z :: R) ++ junk) = rowV u32c ((P ++ [d]) ++ R) ++ junk := by
 rw [← u32V_mid P R z d hi]
 have hl : i + 1 ≤ (rowV u32c (P ++ z :: R)).length := by rw [rowV_length u32c_len, List.length_append, hi]; simp
 rw [putN_eq _ _ _ (by rw [List.length_append]; simp; omega), putN_eq _ _ _ (by simpa using hl)]
 rw [List.take_append_of_le_length (by omega), List.drop_append_of_le_length (by simpa using hl)]
 simp

theorem getD_get {l : List Nat} {k : Nat} (h : k < l.length) : l[k]? = some (l.getD k 0) := by rw [List.getD_eq_getElem?_getD, List.getElem?_eq_getElem h]; rfl
theorem getD_lt {l : List Nat} {B : Nat} (hB : 0 < B) (h : ∀ x ∈ l, x < B) (k : Nat) : l.getD k 0 < B := by
 rw [List.getD_eq_getElem?_getD]
 cases hk : l[k]? with
 | none => exact hB
 | some x => exact h x (List.mem_of_getElem? hk)
theorem lv_two {B : Nat} {l : List Nat} {k : Nat} (hk : 2 ≤ k) (hl : l.length = k) : lv B l = (l.getD (k - 1) 0 * B + l.getD (k - 2) 0) * B ^ (k - 2) + lv B (l.take (k - 2)) := by
 have h1 : l = l.take (k - 2) ++ [l.getD (k - 2) 0, l.getD (k - 1) 0] := by
   conv => lhs; rw [← List.take_append_drop (k - 2) l]
   congr 1
   rw [List.drop_eq_getElem_cons (by omega), List.drop_eq_getElem_cons (by omega), List.drop_of_length_le (by omega)]
   simp only [List.getD_eq_getElem?_getD]
   rw [List.getElem?_eq_getElem (show k - 2 < l.length by omega), List.getElem?_eq_getElem (show k - 1 < l.length by omega)]
   simp only [Option.getD_some]
   congr 2
   congr 1
   omega
 conv => lhs; rw [h1]
 rw [lv_append, List.length_take, Nat.min_eq_left (by omega)]
 simp only [lv]
 rw [Nat.mul_zero, Nat.add_zero, Nat.mul_comm B, Nat.mul_comm (B ^ (k - 2))]
 rw [Nat.add_comm (l.getD (k - 2) 0)]; omega
theorem lv_three {B : Nat} {l : List Nat} {k : Nat} (hk : 2 ≤ k) (hl : l.length = k + 1) : lv B l = ((l.getD k 0 * B + l.getD (k - 1) 0) * B + l.getD (k - 2) 0) * B ^ (k - 2) + lv B (l.take (k - 2)) := by
 have h1 := lv_two (B := B) (l := l) (k := k + 1) (by omega) hl
 rw [show k + 1 - 1 = k by omega, show k + 1 - 2 = k - 1 by omega] at h1
 have h2 : l.take (k - 1) = l.take (k - 2) ++ [l.getD (k - 2) 0] := by
   have := List.take_add_one (l := l) (i := k - 2)
   rw [show k - 2 + 1 = k - 1 by omega, getD_get (show k - 2 < l.length by omega)] at this
   exact this
 rw [h1, h2, lv_snoc, List.length_take, Nat.min_eq_left (by omega)]
 obtain ⟨m, rfl⟩ : ∃ m, k = m + 2 := ⟨k - 2, by omega⟩
 simp only [Nat.add_sub_cancel, show m + 2 - 1 = m + 1 by omega, Nat.pow_succ]
 generalize l.getD (m + 2) 0 * B + l.getD (m + 1) 0 = t
 generalize l.getD m 0 = u
 rw [Nat.add_mul, Nat.mul_comm (B ^ m) u, Nat.mul_comm (B ^ m) B, ← Nat.mul_assoc]
 omega
end Go.Sx
end
