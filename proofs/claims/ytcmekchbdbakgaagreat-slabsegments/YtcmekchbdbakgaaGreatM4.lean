/- A part of the proof of a law: the symbolic executor, contracts of functions of the program, plain laws. No conditions. -/
import Derived.Test.YtcmekchbdbakgaaGreatM3
import Derived.Test.YtcmekchbdbakgaaGreatProg
import Derived.KernelRfl
set_option linter.unusedVariables false
set_option linter.unusedSimpArgs false
set_option linter.unusedSectionVars false
section
/- MADE BY wip/nums.py out of the translation: numbers of functions and types, the table of types, its proofs. -/
set_option maxRecDepth 10000
namespace Go.Sx
open Go Go.Proofs
noncomputable abbrev PP : Program := Tryz.prog
abbrev f_narrowslaw16_SlabSegments : FuncId := 4
noncomputable abbrev b_narrowslaw16_SlabSegments : Func := Tryz.f4
theorem h_narrowslaw16_SlabSegments : PP.funcs[f_narrowslaw16_SlabSegments]? = some b_narrowslaw16_SlabSegments := Tryz.func4
abbrev f_narrowsref16_Great : FuncId := 6
noncomputable abbrev b_narrowsref16_Great : Func := Tryz.f6
theorem h_narrowsref16_Great : PP.funcs[f_narrowsref16_Great]? = some b_narrowsref16_Great := Tryz.func6
abbrev f_narrowslaw16_awake : FuncId := 7
noncomputable abbrev b_narrowslaw16_awake : Func := Tryz.f7
theorem h_narrowslaw16_awake : PP.funcs[f_narrowslaw16_awake]? = some b_narrowslaw16_awake := Tryz.func7
abbrev f_slab_Build : FuncId := 8
noncomputable abbrev b_slab_Build : Func := Tryz.f8
theorem h_slab_Build : PP.funcs[f_slab_Build]? = some b_slab_Build := Tryz.func8
abbrev f_slab_Cells : FuncId := 12
noncomputable abbrev b_slab_Cells : Func := Tryz.f12
theorem h_slab_Cells : PP.funcs[f_slab_Cells]? = some b_slab_Cells := Tryz.func12
abbrev f_narrowslaw16_build : FuncId := 14
noncomputable abbrev b_narrowslaw16_build : Func := Tryz.f14
theorem h_narrowslaw16_build : PP.funcs[f_narrowslaw16_build]? = some b_narrowslaw16_build := Tryz.func14
abbrev f_slab_Corners : FuncId := 15
noncomputable abbrev b_slab_Corners : Func := Tryz.f15
theorem h_slab_Corners : PP.funcs[f_slab_Corners]? = some b_slab_Corners := Tryz.func15
abbrev f_slab_Center : FuncId := 16
noncomputable abbrev b_slab_Center : Func := Tryz.f16
theorem h_slab_Center : PP.funcs[f_slab_Center]? = some b_slab_Center := Tryz.func16
abbrev f_slab_Cover : FuncId := 17
noncomputable abbrev b_slab_Cover : Func := Tryz.f17
theorem h_slab_Cover : PP.funcs[f_slab_Cover]? = some b_slab_Cover := Tryz.func17
abbrev f_segment_Clip : FuncId := 18
noncomputable abbrev b_segment_Clip : Func := Tryz.f18
theorem h_segment_Clip : PP.funcs[f_segment_Clip]? = some b_segment_Clip := Tryz.func18
abbrev f_segment_On : FuncId := 19
noncomputable abbrev b_segment_On : Func := Tryz.f19
theorem h_segment_On : PP.funcs[f_segment_On]? = some b_segment_On := Tryz.func19
abbrev f_slices_Contains_sl_int_int : FuncId := 20
noncomputable abbrev b_slices_Contains_sl_int_int : Func := Tryz.f20
theorem h_slices_Contains_sl_int_int : PP.funcs[f_slices_Contains_sl_int_int]? = some b_slices_Contains_sl_int_int := Tryz.func20
abbrev f_slices_ContainsFunc_sl_api_Point_api_Point : FuncId := 21
noncomputable abbrev b_slices_ContainsFunc_sl_api_Point_api_Point : Func := Tryz.f21
theorem h_slices_ContainsFunc_sl_api_Point_api_Point : PP.funcs[f_slices_ContainsFunc_sl_api_Point_api_Point]? = some b_slices_ContainsFunc_sl_api_Point_api_Point := Tryz.func21
abbrev f_narrowslaw16_SlabSegments_1 : FuncId := 22
noncomputable abbrev b_narrowslaw16_SlabSegments_1 : Func := Tryz.f22
theorem h_narrowslaw16_SlabSegments_1 : PP.funcs[f_narrowslaw16_SlabSegments_1]? = some b_narrowslaw16_SlabSegments_1 := Tryz.func22
abbrev f_slab_Is : FuncId := 32
noncomputable abbrev b_slab_Is : Func := Tryz.f32
theorem h_slab_Is : PP.funcs[f_slab_Is]? = some b_slab_Is := Tryz.func32
abbrev f_slices_Equal_sl_int_int : FuncId := 35
noncomputable abbrev b_slices_Equal_sl_int_int : Func := Tryz.f35
theorem h_slices_Equal_sl_int_int : PP.funcs[f_slices_Equal_sl_int_int]? = some b_slices_Equal_sl_int_int := Tryz.func35
abbrev f_narrowsref16_large : FuncId := 36
noncomputable abbrev b_narrowsref16_large : Func := Tryz.f36
theorem h_narrowsref16_large : PP.funcs[f_narrowsref16_large]? = some b_narrowsref16_large := Tryz.func36
abbrev f_vector_Of : FuncId := 37
noncomputable abbrev b_vector_Of : Func := Tryz.f37
theorem h_vector_Of : PP.funcs[f_vector_Of]? = some b_vector_Of := Tryz.func37
abbrev f_slab_validBox : FuncId := 38
noncomputable abbrev b_slab_validBox : Func := Tryz.f38
theorem h_slab_validBox : PP.funcs[f_slab_validBox]? = some b_slab_validBox := Tryz.func38
abbrev f_vector_Check : FuncId := 39
noncomputable abbrev b_vector_Check : Func := Tryz.f39
theorem h_vector_Check : PP.funcs[f_vector_Check]? = some b_vector_Check := Tryz.func39
abbrev f_slab_clip : FuncId := 40
noncomputable abbrev b_slab_clip : Func := Tryz.f40
theorem h_slab_clip : PP.funcs[f_slab_clip]? = some b_slab_clip := Tryz.func40
abbrev f_slab_builder_abscissas : FuncId := 41
noncomputable abbrev b_slab_builder_abscissas : Func := Tryz.f41
theorem h_slab_builder_abscissas : PP.funcs[f_slab_builder_abscissas]? = some b_slab_builder_abscissas := Tryz.func41
abbrev f_slab_builder_ordinates : FuncId := 42
noncomputable abbrev b_slab_builder_ordinates : Func := Tryz.f42
theorem h_slab_builder_ordinates : PP.funcs[f_slab_builder_ordinates]? = some b_slab_builder_ordinates := Tryz.func42
abbrev f_slab_builder_strip : FuncId := 43
noncomputable abbrev b_slab_builder_strip : Func := Tryz.f43
theorem h_slab_builder_strip : PP.funcs[f_slab_builder_strip]? = some b_slab_builder_strip := Tryz.func43
abbrev f_slices_Collect_api_Cell : FuncId := 53
noncomputable abbrev b_slices_Collect_api_Cell : Func := Tryz.f53
theorem h_slices_Collect_api_Cell : PP.funcs[f_slices_Collect_api_Cell]? = some b_slices_Collect_api_Cell := Tryz.func53
abbrev f_slab_all : FuncId := 54
noncomputable abbrev b_slab_all : Func := Tryz.f54
theorem h_slab_all : PP.funcs[f_slab_all]? = some b_slab_all := Tryz.func54
abbrev f_slab_kinds : FuncId := 56
noncomputable abbrev b_slab_kinds : Func := Tryz.f56
theorem h_slab_kinds : PP.funcs[f_slab_kinds]? = some b_slab_kinds := Tryz.func56
abbrev f_slab_Center_1 : FuncId := 57
noncomputable abbrev b_slab_Center_1 : Func := Tryz.f57
theorem h_slab_Center_1 : PP.funcs[f_slab_Center_1]? = some b_slab_Center_1 := Tryz.func57
abbrev f_slab_mean : FuncId := 58
noncomputable abbrev b_slab_mean : Func := Tryz.f58
theorem h_slab_mean : PP.funcs[f_slab_mean]? = some b_slab_mean := Tryz.func58
abbrev f_slab_vertex : FuncId := 59
noncomputable abbrev b_slab_vertex : Func := Tryz.f59
theorem h_slab_vertex : PP.funcs[f_slab_vertex]? = some b_slab_vertex := Tryz.func59
abbrev f_slab_on : FuncId := 60
noncomputable abbrev b_slab_on : Func := Tryz.f60
theorem h_slab_on : PP.funcs[f_slab_on]? = some b_slab_on := Tryz.func60
abbrev f_slab_Cover_1 : FuncId := 61
noncomputable abbrev b_slab_Cover_1 : Func := Tryz.f61
theorem h_slab_Cover_1 : PP.funcs[f_slab_Cover_1]? = some b_slab_Cover_1 := Tryz.func61
abbrev f_segment_Check : FuncId := 62
noncomputable abbrev b_segment_Check : Func := Tryz.f62
theorem h_segment_Check : PP.funcs[f_segment_Check]? = some b_segment_Check := Tryz.func62
abbrev f_rational_Compare : FuncId := 63
noncomputable abbrev b_rational_Compare : Func := Tryz.f63
theorem h_rational_Compare : PP.funcs[f_rational_Compare]? = some b_rational_Compare := Tryz.func63
abbrev f_rational_Of : FuncId := 64
noncomputable abbrev b_rational_Of : Func := Tryz.f64
theorem h_rational_Of : PP.funcs[f_rational_Of]? = some b_rational_Of := Tryz.func64
abbrev f_segment_sides : FuncId := 65
noncomputable abbrev b_segment_sides : Func := Tryz.f65
theorem h_segment_sides : PP.funcs[f_segment_sides]? = some b_segment_sides := Tryz.func65
abbrev f_rational_Sub : FuncId := 66
noncomputable abbrev b_rational_Sub : Func := Tryz.f66
theorem h_rational_Sub : PP.funcs[f_rational_Sub]? = some b_rational_Sub := Tryz.func66
abbrev f_rational_Quo : FuncId := 67
noncomputable abbrev b_rational_Quo : Func := Tryz.f67
theorem h_rational_Quo : PP.funcs[f_rational_Quo]? = some b_rational_Quo := Tryz.func67
abbrev f_rational_Neg : FuncId := 68
noncomputable abbrev b_rational_Neg : Func := Tryz.f68
theorem h_rational_Neg : PP.funcs[f_rational_Neg]? = some b_rational_Neg := Tryz.func68
abbrev f_rational_Sign : FuncId := 69
noncomputable abbrev b_rational_Sign : Func := Tryz.f69
theorem h_rational_Sign : PP.funcs[f_rational_Sign]? = some b_rational_Sign := Tryz.func69
abbrev f_vector_At : FuncId := 70
noncomputable abbrev b_vector_At : Func := Tryz.f70
theorem h_vector_At : PP.funcs[f_vector_At]? = some b_vector_At := Tryz.func70
abbrev f_predicate_Between : FuncId := 71
noncomputable abbrev b_predicate_Between : Func := Tryz.f71
theorem h_predicate_Between : PP.funcs[f_predicate_Between]? = some b_predicate_Between := Tryz.func71
abbrev f_slices_Index_sl_int_int : FuncId := 72
noncomputable abbrev b_slices_Index_sl_int_int : Func := Tryz.f72
theorem h_slices_Index_sl_int_int : PP.funcs[f_slices_Index_sl_int_int]? = some b_slices_Index_sl_int_int := Tryz.func72
abbrev f_slices_IndexFunc_sl_api_Point_api_Point : FuncId := 73
noncomputable abbrev b_slices_IndexFunc_sl_api_Point_api_Point : Func := Tryz.f73
theorem h_slices_IndexFunc_sl_api_Point_api_Point : PP.funcs[f_slices_IndexFunc_sl_api_Point_api_Point]? = some b_slices_IndexFunc_sl_api_Point_api_Point := Tryz.func73
abbrev f_rational_Mul : FuncId := 79
noncomputable abbrev b_rational_Mul : Func := Tryz.f79
theorem h_rational_Mul : PP.funcs[f_rational_Mul]? = some b_rational_Mul := Tryz.func79
abbrev f_rational_Check : FuncId := 85
noncomputable abbrev b_rational_Check : Func := Tryz.f85
theorem h_rational_Check : PP.funcs[f_rational_Check]? = some b_rational_Check := Tryz.func85
abbrev f_segment_Order : FuncId := 86
noncomputable abbrev b_segment_Order : Func := Tryz.f86
theorem h_segment_Order : PP.funcs[f_segment_Order]? = some b_segment_Order := Tryz.func86
abbrev f_segment_Meet : FuncId := 87
noncomputable abbrev b_segment_Meet : Func := Tryz.f87
theorem h_segment_Meet : PP.funcs[f_segment_Meet]? = some b_segment_Meet := Tryz.func87
abbrev f_slab_ascending : FuncId := 88
noncomputable abbrev b_slab_ascending : Func := Tryz.f88
theorem h_slab_ascending : PP.funcs[f_slab_ascending]? = some b_slab_ascending := Tryz.func88
abbrev f_slab_piece_vertical : FuncId := 89
noncomputable abbrev b_slab_piece_vertical : Func := Tryz.f89
theorem h_slab_piece_vertical : PP.funcs[f_slab_piece_vertical]? = some b_slab_piece_vertical := Tryz.func89
abbrev f_slab_piece_height : FuncId := 90
noncomputable abbrev b_slab_piece_height : Func := Tryz.f90
theorem h_slab_piece_height : PP.funcs[f_slab_piece_height]? = some b_slab_piece_height := Tryz.func90
abbrev f_slices_SortFunc_sl_slab_crossing_slab_crossing : FuncId := 91
abbrev f_slab_builder_strip_1 : FuncId := 92
noncomputable abbrev b_slab_builder_strip_1 : Func := Tryz.f92
theorem h_slab_builder_strip_1 : PP.funcs[f_slab_builder_strip_1]? = some b_slab_builder_strip_1 := Tryz.func92
abbrev f_cmp_Or_int : FuncId := 93
noncomputable abbrev b_cmp_Or_int : Func := Tryz.f93
theorem h_cmp_Or_int : PP.funcs[f_cmp_Or_int]? = some b_cmp_Or_int := Tryz.func93
abbrev f_cmp_Compare_int : FuncId := 94
noncomputable abbrev b_cmp_Compare_int : Func := Tryz.f94
theorem h_cmp_Compare_int : PP.funcs[f_cmp_Compare_int]? = some b_cmp_Compare_int := Tryz.func94
abbrev f_slices_AppendSeq_sl_api_Cell_api_Cell : FuncId := 103
noncomputable abbrev b_slices_AppendSeq_sl_api_Cell_api_Cell : Func := Tryz.f103
theorem h_slices_AppendSeq_sl_api_Cell_api_Cell : PP.funcs[f_slices_AppendSeq_sl_api_Cell_api_Cell]? = some b_slices_AppendSeq_sl_api_Cell_api_Cell := Tryz.func103
abbrev f_slab_all_1 : FuncId := 104
noncomputable abbrev b_slab_all_1 : Func := Tryz.f104
theorem h_slab_all_1 : PP.funcs[f_slab_all_1]? = some b_slab_all_1 := Tryz.func104
abbrev f_slab_kinds_1 : FuncId := 105
noncomputable abbrev b_slab_kinds_1 : Func := Tryz.f105
theorem h_slab_kinds_1 : PP.funcs[f_slab_kinds_1]? = some b_slab_kinds_1 := Tryz.func105
abbrev f_slab_kinds_1_1 : FuncId := 106
noncomputable abbrev b_slab_kinds_1_1 : Func := Tryz.f106
theorem h_slab_kinds_1_1 : PP.funcs[f_slab_kinds_1_1]? = some b_slab_kinds_1_1 := Tryz.func106
abbrev f_slab_kinds_2 : FuncId := 107
noncomputable abbrev b_slab_kinds_2 : Func := Tryz.f107
theorem h_slab_kinds_2 : PP.funcs[f_slab_kinds_2]? = some b_slab_kinds_2 := Tryz.func107
abbrev f_slab_kinds_2_1 : FuncId := 108
noncomputable abbrev b_slab_kinds_2_1 : Func := Tryz.f108
theorem h_slab_kinds_2_1 : PP.funcs[f_slab_kinds_2_1]? = some b_slab_kinds_2_1 := Tryz.func108
abbrev f_slab_kinds_3 : FuncId := 109
abbrev f_slab_kinds_4 : FuncId := 110
noncomputable abbrev b_slab_kinds_4 : Func := Tryz.f110
theorem h_slab_kinds_4 : PP.funcs[f_slab_kinds_4]? = some b_slab_kinds_4 := Tryz.func110
abbrev f_slab_kinds_5 : FuncId := 111
abbrev f_slab_kinds_6 : FuncId := 112
noncomputable abbrev b_slab_kinds_6 : Func := Tryz.f112
theorem h_slab_kinds_6 : PP.funcs[f_slab_kinds_6]? = some b_slab_kinds_6 := Tryz.func112
abbrev f_slab_kinds_7 : FuncId := 113
abbrev f_slab_kinds_8 : FuncId := 115
noncomputable abbrev b_slab_kinds_8 : Func := Tryz.f115
theorem h_slab_kinds_8 : PP.funcs[f_slab_kinds_8]? = some b_slab_kinds_8 := Tryz.func115
abbrev f_slab_around : FuncId := 116
abbrev f_slab_kinds_9 : FuncId := 117
noncomputable abbrev b_slab_kinds_9 : Func := Tryz.f117
theorem h_slab_kinds_9 : PP.funcs[f_slab_kinds_9]? = some b_slab_kinds_9 := Tryz.func117
abbrev f_slices_Compact_sl_api_Point_api_Point : FuncId := 118
noncomputable abbrev b_slices_Compact_sl_api_Point_api_Point : Func := Tryz.f118
theorem h_slices_Compact_sl_api_Point_api_Point : PP.funcs[f_slices_Compact_sl_api_Point_api_Point]? = some b_slices_Compact_sl_api_Point_api_Point := Tryz.func118
abbrev f_rational_Add : FuncId := 119
noncomputable abbrev b_rational_Add : Func := Tryz.f119
theorem h_rational_Add : PP.funcs[f_rational_Add]? = some b_rational_Add := Tryz.func119
abbrev f_slab_heights : FuncId := 120
noncomputable abbrev b_slab_heights : Func := Tryz.f120
theorem h_slab_heights : PP.funcs[f_slab_heights]? = some b_slab_heights := Tryz.func120
abbrev f_vector_Compare : FuncId := 121
noncomputable abbrev b_vector_Compare : Func := Tryz.f121
theorem h_vector_Compare : PP.funcs[f_vector_Compare]? = some b_vector_Compare := Tryz.func121
abbrev f_rational_both_int : FuncId := 122
noncomputable abbrev b_rational_both_int : Func := Tryz.f122
theorem h_rational_both_int : PP.funcs[f_rational_both_int]? = some b_rational_both_int := Tryz.func122
abbrev f_rational_Compare_1 : FuncId := 123
noncomputable abbrev b_rational_Compare_1 : Func := Tryz.f123
theorem h_rational_Compare_1 : PP.funcs[f_rational_Compare_1]? = some b_rational_Compare_1 := Tryz.func123
abbrev f_rational_Compare_2 : FuncId := 124
noncomputable abbrev b_rational_Compare_2 : Func := Tryz.f124
theorem h_rational_Compare_2 : PP.funcs[f_rational_Compare_2]? = some b_rational_Compare_2 := Tryz.func124
abbrev f_bigint_Compare : FuncId := 125
noncomputable abbrev b_bigint_Compare : Func := Tryz.f125
theorem h_bigint_Compare : PP.funcs[f_bigint_Compare]? = some b_bigint_Compare := Tryz.func125
abbrev f_bigint_Mul : FuncId := 126
noncomputable abbrev b_bigint_Mul : Func := Tryz.f126
theorem h_bigint_Mul : PP.funcs[f_bigint_Mul]? = some b_bigint_Mul := Tryz.func126
abbrev f_bigint_Of : FuncId := 127
noncomputable abbrev b_bigint_Of : Func := Tryz.f127
theorem h_bigint_Of : PP.funcs[f_bigint_Of]? = some b_bigint_Of := Tryz.func127
abbrev f_rational_fraction_number : FuncId := 128
noncomputable abbrev b_rational_fraction_number : Func := Tryz.f128
theorem h_rational_fraction_number : PP.funcs[f_rational_fraction_number]? = some b_rational_fraction_number := Tryz.func128
abbrev f_segment_sides_1 : FuncId := 129
noncomputable abbrev b_segment_sides_1 : Func := Tryz.f129
theorem h_segment_sides_1 : PP.funcs[f_segment_sides_1]? = some b_segment_sides_1 := Tryz.func129
abbrev f_segment_sides_2 : FuncId := 130
noncomputable abbrev b_segment_sides_2 : Func := Tryz.f130
theorem h_segment_sides_2 : PP.funcs[f_segment_sides_2]? = some b_segment_sides_2 := Tryz.func130
abbrev f_segment_sides_3 : FuncId := 131
noncomputable abbrev b_segment_sides_3 : Func := Tryz.f131
theorem h_segment_sides_3 : PP.funcs[f_segment_sides_3]? = some b_segment_sides_3 := Tryz.func131
abbrev f_segment_sides_4 : FuncId := 132
noncomputable abbrev b_segment_sides_4 : Func := Tryz.f132
theorem h_segment_sides_4 : PP.funcs[f_segment_sides_4]? = some b_segment_sides_4 := Tryz.func132
abbrev f_rational_of : FuncId := 133
noncomputable abbrev b_rational_of : Func := Tryz.f133
theorem h_rational_of : PP.funcs[f_rational_of]? = some b_rational_of := Tryz.func133
abbrev f_rational_New : FuncId := 134
noncomputable abbrev b_rational_New : Func := Tryz.f134
theorem h_rational_New : PP.funcs[f_rational_New]? = some b_rational_New := Tryz.func134
abbrev f_vector_Add : FuncId := 135
noncomputable abbrev b_vector_Add : Func := Tryz.f135
theorem h_vector_Add : PP.funcs[f_vector_Add]? = some b_vector_Add := Tryz.func135
abbrev f_vector_Scale : FuncId := 136
noncomputable abbrev b_vector_Scale : Func := Tryz.f136
theorem h_vector_Scale : PP.funcs[f_vector_Scale]? = some b_vector_Scale := Tryz.func136
abbrev f_vector_Sub : FuncId := 137
noncomputable abbrev b_vector_Sub : Func := Tryz.f137
theorem h_vector_Sub : PP.funcs[f_vector_Sub]? = some b_vector_Sub := Tryz.func137
abbrev f_predicate_Orient : FuncId := 138
noncomputable abbrev b_predicate_Orient : Func := Tryz.f138
theorem h_predicate_Orient : PP.funcs[f_predicate_Orient]? = some b_predicate_Orient := Tryz.func138
abbrev f_rational_both_api_Rat : FuncId := 142
noncomputable abbrev b_rational_both_api_Rat : Func := Tryz.f142
theorem h_rational_both_api_Rat : PP.funcs[f_rational_both_api_Rat]? = some b_rational_both_api_Rat := Tryz.func142
abbrev f_rational_Mul_1 : FuncId := 143
noncomputable abbrev b_rational_Mul_1 : Func := Tryz.f143
theorem h_rational_Mul_1 : PP.funcs[f_rational_Mul_1]? = some b_rational_Mul_1 := Tryz.func143
abbrev f_rational_ratio : FuncId := 144
noncomputable abbrev b_rational_ratio : Func := Tryz.f144
theorem h_rational_ratio : PP.funcs[f_rational_ratio]? = some b_rational_ratio := Tryz.func144
abbrev f_rational_Mul_2 : FuncId := 145
noncomputable abbrev b_rational_Mul_2 : Func := Tryz.f145
theorem h_rational_Mul_2 : PP.funcs[f_rational_Mul_2]? = some b_rational_Mul_2 := Tryz.func145
abbrev f_segment_canonical : FuncId := 156
noncomputable abbrev b_segment_canonical : Func := Tryz.f156
theorem h_segment_canonical : PP.funcs[f_segment_canonical]? = some b_segment_canonical := Tryz.func156
abbrev f_segment_wrong : FuncId := 157
noncomputable abbrev b_segment_wrong : Func := Tryz.f157
theorem h_segment_wrong : PP.funcs[f_segment_wrong]? = some b_segment_wrong := Tryz.func157
abbrev f_segment_meet : FuncId := 158
noncomputable abbrev b_segment_meet : Func := Tryz.f158
theorem h_segment_meet : PP.funcs[f_segment_meet]? = some b_segment_meet := Tryz.func158
abbrev f_slices_SortFunc_sl_api_Rat_api_Rat : FuncId := 159
abbrev f_slices_Compact_sl_api_Rat_api_Rat : FuncId := 160
noncomputable abbrev b_slices_Compact_sl_api_Rat_api_Rat : Func := Tryz.f160
theorem h_slices_Compact_sl_api_Rat_api_Rat : PP.funcs[f_slices_Compact_sl_api_Rat_api_Rat]? = some b_slices_Compact_sl_api_Rat_api_Rat := Tryz.func160
abbrev f_segment_Height : FuncId := 161
noncomputable abbrev b_segment_Height : Func := Tryz.f161
theorem h_segment_Height : PP.funcs[f_segment_Height]? = some b_segment_Height := Tryz.func161
abbrev f_cmp_isNaN_int : FuncId := 164
noncomputable abbrev b_cmp_isNaN_int : Func := Tryz.f164
theorem h_cmp_isNaN_int : PP.funcs[f_cmp_isNaN_int]? = some b_cmp_isNaN_int := Tryz.func164
abbrev f_rational_Add_1 : FuncId := 184
noncomputable abbrev b_rational_Add_1 : Func := Tryz.f184
theorem h_rational_Add_1 : PP.funcs[f_rational_Add_1]? = some b_rational_Add_1 := Tryz.func184
abbrev f_rational_Add_2 : FuncId := 185
noncomputable abbrev b_rational_Add_2 : Func := Tryz.f185
theorem h_rational_Add_2 : PP.funcs[f_rational_Add_2]? = some b_rational_Add_2 := Tryz.func185
abbrev f_bigint_Add : FuncId := 186
noncomputable abbrev b_bigint_Add : Func := Tryz.f186
theorem h_bigint_Add : PP.funcs[f_bigint_Add]? = some b_bigint_Add := Tryz.func186
abbrev f_slab_heights_1 : FuncId := 187
noncomputable abbrev b_slab_heights_1 : Func := Tryz.f187
theorem h_slab_heights_1 : PP.funcs[f_slab_heights_1]? = some b_slab_heights_1 := Tryz.func187
abbrev f_rational_machine : FuncId := 188
noncomputable abbrev b_rational_machine : Func := Tryz.f188
theorem h_rational_machine : PP.funcs[f_rational_machine]? = some b_rational_machine := Tryz.func188
abbrev f_bigint_load : FuncId := 189
noncomputable abbrev b_bigint_load : Func := Tryz.f189
theorem h_bigint_load : PP.funcs[f_bigint_load]? = some b_bigint_load := Tryz.func189
abbrev f_bigint_limbs_compare : FuncId := 190
noncomputable abbrev b_bigint_limbs_compare : Func := Tryz.f190
theorem h_bigint_limbs_compare : PP.funcs[f_bigint_limbs_compare]? = some b_bigint_limbs_compare := Tryz.func190
abbrev f_bigint_pack : FuncId := 191
noncomputable abbrev b_bigint_pack : Func := Tryz.f191
theorem h_bigint_pack : PP.funcs[f_bigint_pack]? = some b_bigint_pack := Tryz.func191
abbrev f_bigint_limbs_times : FuncId := 192
noncomputable abbrev b_bigint_limbs_times : Func := Tryz.f192
theorem h_bigint_limbs_times : PP.funcs[f_bigint_limbs_times]? = some b_bigint_limbs_times := Tryz.func192
abbrev f_rational_is : FuncId := 193
noncomputable abbrev b_rational_is : Func := Tryz.f193
theorem h_rational_is : PP.funcs[f_rational_is]? = some b_rational_is := Tryz.func193
abbrev f_bigint_Gcd : FuncId := 194
noncomputable abbrev b_bigint_Gcd : Func := Tryz.f194
theorem h_bigint_Gcd : PP.funcs[f_bigint_Gcd]? = some b_bigint_Gcd := Tryz.func194
abbrev f_bigint_Div : FuncId := 195
noncomputable abbrev b_bigint_Div : Func := Tryz.f195
theorem h_bigint_Div : PP.funcs[f_bigint_Div]? = some b_bigint_Div := Tryz.func195
abbrev f_rational_integer : FuncId := 196
noncomputable abbrev b_rational_integer : Func := Tryz.f196
theorem h_rational_integer : PP.funcs[f_rational_integer]? = some b_rational_integer := Tryz.func196
abbrev f_bigint_Neg : FuncId := 197
noncomputable abbrev b_bigint_Neg : Func := Tryz.f197
theorem h_bigint_Neg : PP.funcs[f_bigint_Neg]? = some b_bigint_Neg := Tryz.func197
abbrev f_vector_each : FuncId := 198
noncomputable abbrev b_vector_each : Func := Tryz.f198
theorem h_vector_each : PP.funcs[f_vector_each]? = some b_vector_each := Tryz.func198
abbrev f_vector_Cross : FuncId := 199
noncomputable abbrev b_vector_Cross : Func := Tryz.f199
theorem h_vector_Cross : PP.funcs[f_vector_Cross]? = some b_vector_Cross := Tryz.func199
abbrev f_rational_text : FuncId := 200
noncomputable abbrev b_rational_text : Func := Tryz.f200
theorem h_rational_text : PP.funcs[f_rational_text]? = some b_rational_text := Tryz.func200
abbrev f_segment_direction : FuncId := 211
noncomputable abbrev b_segment_direction : Func := Tryz.f211
theorem h_segment_direction : PP.funcs[f_segment_direction]? = some b_segment_direction := Tryz.func211
abbrev f_segment_unit : FuncId := 212
noncomputable abbrev b_segment_unit : Func := Tryz.f212
theorem h_segment_unit : PP.funcs[f_segment_unit]? = some b_segment_unit := Tryz.func212
abbrev f_segment_greater : FuncId := 213
noncomputable abbrev b_segment_greater : Func := Tryz.f213
theorem h_segment_greater : PP.funcs[f_segment_greater]? = some b_segment_greater := Tryz.func213
abbrev f_segment_lesser : FuncId := 214
noncomputable abbrev b_segment_lesser : Func := Tryz.f214
theorem h_segment_lesser : PP.funcs[f_segment_lesser]? = some b_segment_lesser := Tryz.func214
abbrev f_math_bits_Len32 : FuncId := 224
noncomputable abbrev b_math_bits_Len32 : Func := Tryz.f224
theorem h_math_bits_Len32 : PP.funcs[f_math_bits_Len32]? = some b_math_bits_Len32 := Tryz.func224
abbrev f_bigint_little : FuncId := 228
noncomputable abbrev b_bigint_little : Func := Tryz.f228
theorem h_bigint_little : PP.funcs[f_bigint_little]? = some b_bigint_little := Tryz.func228
abbrev f_bigint_limbs_plus : FuncId := 229
noncomputable abbrev b_bigint_limbs_plus : Func := Tryz.f229
theorem h_bigint_limbs_plus : PP.funcs[f_bigint_limbs_plus]? = some b_bigint_limbs_plus := Tryz.func229
abbrev f_bigint_limbs_minus : FuncId := 230
noncomputable abbrev b_bigint_limbs_minus : Func := Tryz.f230
theorem h_bigint_limbs_minus : PP.funcs[f_bigint_limbs_minus]? = some b_bigint_limbs_minus := Tryz.func230
abbrev f_rational_digits : FuncId := 231
noncomputable abbrev b_rational_digits : Func := Tryz.f231
theorem h_rational_digits : PP.funcs[f_rational_digits]? = some b_rational_digits := Tryz.func231
abbrev f_bigint_strip : FuncId := 232
noncomputable abbrev b_bigint_strip : Func := Tryz.f232
theorem h_bigint_strip : PP.funcs[f_bigint_strip]? = some b_bigint_strip := Tryz.func232
abbrev f_bigint_limbs_trim : FuncId := 233
noncomputable abbrev b_bigint_limbs_trim : Func := Tryz.f233
theorem h_bigint_limbs_trim : PP.funcs[f_bigint_limbs_trim]? = some b_bigint_limbs_trim := Tryz.func233
abbrev f_bigint_limbs_store : FuncId := 234
noncomputable abbrev b_bigint_limbs_store : Func := Tryz.f234
theorem h_bigint_limbs_store : PP.funcs[f_bigint_limbs_store]? = some b_bigint_limbs_store := Tryz.func234
abbrev f_bigint_limbs_divide : FuncId := 235
noncomputable abbrev b_bigint_limbs_divide : Func := Tryz.f235
theorem h_bigint_limbs_divide : PP.funcs[f_bigint_limbs_divide]? = some b_bigint_limbs_divide := Tryz.func235
abbrev f_bigint_Sub : FuncId := 236
noncomputable abbrev b_bigint_Sub : Func := Tryz.f236
theorem h_bigint_Sub : PP.funcs[f_bigint_Sub]? = some b_bigint_Sub := Tryz.func236
abbrev f_math_bits_Sub32 : FuncId := 265
noncomputable abbrev b_math_bits_Sub32 : Func := Tryz.f265
theorem h_math_bits_Sub32 : PP.funcs[f_math_bits_Sub32]? = some b_math_bits_Sub32 := Tryz.func265
abbrev f_bigint_limbs_short : FuncId := 266
noncomputable abbrev b_bigint_limbs_short : Func := Tryz.f266
theorem h_bigint_limbs_short : PP.funcs[f_bigint_limbs_short]? = some b_bigint_limbs_short := Tryz.func266
abbrev f_math_bits_LeadingZeros32 : FuncId := 267
noncomputable abbrev b_math_bits_LeadingZeros32 : Func := Tryz.f267
theorem h_math_bits_LeadingZeros32 : PP.funcs[f_math_bits_LeadingZeros32]? = some b_math_bits_LeadingZeros32 := Tryz.func267
abbrev f_bigint_limbs_shift : FuncId := 268
noncomputable abbrev b_bigint_limbs_shift : Func := Tryz.f268
theorem h_bigint_limbs_shift : PP.funcs[f_bigint_limbs_shift]? = some b_bigint_limbs_shift := Tryz.func268
abbrev f_bigint_limbs_digit : FuncId := 269
noncomputable abbrev b_bigint_limbs_digit : Func := Tryz.f269
theorem h_bigint_limbs_digit : PP.funcs[f_bigint_limbs_digit]? = some b_bigint_limbs_digit := Tryz.func269
abbrev f_bigint_limbs_unshift : FuncId := 270
noncomputable abbrev b_bigint_limbs_unshift : Func := Tryz.f270
theorem h_bigint_limbs_unshift : PP.funcs[f_bigint_limbs_unshift]? = some b_bigint_limbs_unshift := Tryz.func270
abbrev f_math_bits_Div32 : FuncId := 278
noncomputable abbrev b_math_bits_Div32 : Func := Tryz.f278
theorem h_math_bits_Div32 : PP.funcs[f_math_bits_Div32]? = some b_math_bits_Div32 := Tryz.func278
abbrev f_math_bits_Add32 : FuncId := 279
noncomputable abbrev b_math_bits_Add32 : Func := Tryz.f279
theorem h_math_bits_Add32 : PP.funcs[f_math_bits_Add32]? = some b_math_bits_Add32 := Tryz.func279
abbrev t_int : TypeId := 3
def ty3 : TyE := { size := 1, bytes := 8, desc := .int .i64, zero := .int .i64 0, eqv := none }
theorem ok3 : TyOk PP 3 ty3 := ⟨by kernel_rfl, Tryz.underlying3⟩
abbrev t_bool : TypeId := 4
def ty4 : TyE := { size := 1, bytes := 1, desc := .bool, zero := .bool false, eqv := none }
theorem ok4 : TyOk PP 4 ty4 := ⟨by kernel_rfl, Tryz.underlying4⟩
abbrev t_uint8 : TypeId := 5
def ty5 : TyE := { size := 1, bytes := 1, desc := .int .u8, zero := .int .u8 0, eqv := none }
theorem ok5 : TyOk PP 5 ty5 := ⟨by kernel_rfl, Tryz.underlying5⟩
abbrev t_string : TypeId := 9
def ty9 : TyE := { size := 1, bytes := 16, desc := .string, zero := .string (⟨#[]⟩ : ByteArray), eqv := none }
theorem ok9 : TyOk PP 9 ty9 := ⟨by kernel_rfl, Tryz.underlying9⟩
abbrev t_api_Rat : TypeId := 23
def ty23 : TyE := { size := 3, bytes := 40, desc := .struct #[{ name := "Neg", type := 4, offset := 0, embedded := false, tag := "", pkgPath := "", byteOffset := 0 }, { name := "Num", type := 9, offset := 1, embedded := false, tag := "", pkgPath := "", byteOffset := 8 }, { name := "Den", type := 9, offset := 2, embedded := false, tag := "", pkgPath := "", byteOffset := 24 }], zero := .agg #[.bool false, .string (⟨#[]⟩ : ByteArray), .string (⟨#[]⟩ : ByteArray)], eqv := some [.b, .s, .s] }
theorem ok23 : TyOk PP 23 ty23 := ⟨by kernel_rfl, Tryz.underlying23⟩
abbrev t_api_Point : TypeId := 25
def ty25 : TyE := { size := 6, bytes := 80, desc := .struct #[{ name := "X", type := 23, offset := 0, embedded := false, tag := "", pkgPath := "", byteOffset := 0 }, { name := "Y", type := 23, offset := 3, embedded := false, tag := "", pkgPath := "", byteOffset := 40 }], zero := .agg #[.bool false, .string (⟨#[]⟩ : ByteArray), .string (⟨#[]⟩ : ByteArray), .bool false, .string (⟨#[]⟩ : ByteArray), .string (⟨#[]⟩ : ByteArray)], eqv := some [.b, .s, .s, .b, .s, .s] }
theorem ok25 : TyOk PP 25 ty25 := ⟨by kernel_rfl, Tryz.underlying25⟩
abbrev t_api_Box : TypeId := 27
def ty27 : TyE := { size := 12, bytes := 160, desc := .struct #[{ name := "Min", type := 25, offset := 0, embedded := false, tag := "", pkgPath := "", byteOffset := 0 }, { name := "Max", type := 25, offset := 6, embedded := false, tag := "", pkgPath := "", byteOffset := 80 }], zero := .agg #[.bool false, .string (⟨#[]⟩ : ByteArray), .string (⟨#[]⟩ : ByteArray), .bool false, .string (⟨#[]⟩ : ByteArray), .string (⟨#[]⟩ : ByteArray), .bool false, .string (⟨#[]⟩ : ByteArray), .string (⟨#[]⟩ : ByteArray), .bool false, .string (⟨#[]⟩ : ByteArray), .string (⟨#[]⟩ : ByteArray)], eqv := some [.b, .s, .s, .b, .s, .s, .b, .s, .s, .b, .s, .s] }
theorem ok27 : TyOk PP 27 ty27 := ⟨by kernel_rfl, Tryz.underlying27⟩
abbrev t_sl_api_Segment : TypeId := 28
def ty28 : TyE := { size := 1, bytes := 24, desc := .slice 57, zero := .slice none 0 0, eqv := none }
theorem ok28 : TyOk PP 28 ty28 := ⟨by kernel_rfl, Tryz.underlying28⟩
abbrev t_sl_api_Rat : TypeId := 31
def ty31 : TyE := { size := 1, bytes := 24, desc := .slice 23, zero := .slice none 0 0, eqv := none }
theorem ok31 : TyOk PP 31 ty31 := ⟨by kernel_rfl, Tryz.underlying31⟩
def ty32 : TyE := { size := 1, bytes := 24, desc := .slice 31, zero := .slice none 0 0, eqv := none }
theorem ok32 : TyOk PP 32 ty32 := ⟨by kernel_rfl, Tryz.underlying32⟩
def ty33 : TyE := { size := 1, bytes := 24, desc := .slice 53, zero := .slice none 0 0, eqv := none }
theorem ok33 : TyOk PP 33 ty33 := ⟨by kernel_rfl, Tryz.underlying33⟩
abbrev t_api_Slabs : TypeId := 35
def ty35 : TyE := { size := 16, bytes := 256, desc := .struct #[{ name := "Box", type := 27, offset := 0, embedded := false, tag := "", pkgPath := "", byteOffset := 0 }, { name := "Segments", type := 28, offset := 12, embedded := false, tag := "", pkgPath := "", byteOffset := 160 }, { name := "Xs", type := 31, offset := 13, embedded := false, tag := "", pkgPath := "", byteOffset := 184 }, { name := "Lines", type := 32, offset := 14, embedded := false, tag := "", pkgPath := "", byteOffset := 208 }, { name := "Strips", type := 33, offset := 15, embedded := false, tag := "", pkgPath := "", byteOffset := 232 }], zero := .agg #[.bool false, .string (⟨#[]⟩ : ByteArray), .string (⟨#[]⟩ : ByteArray), .bool false, .string (⟨#[]⟩ : ByteArray), .string (⟨#[]⟩ : ByteArray), .bool false, .string (⟨#[]⟩ : ByteArray), .string (⟨#[]⟩ : ByteArray), .bool false, .string (⟨#[]⟩ : ByteArray), .string (⟨#[]⟩ : ByteArray), .slice none 0 0, .slice none 0 0, .slice none 0 0, .slice none 0 0], eqv := none }
theorem ok35 : TyOk PP 35 ty35 := ⟨by kernel_rfl, Tryz.underlying35⟩
def ty36 : TyE := { size := 1, bytes := 8, desc := .int .i64, zero := .int .i64 0, eqv := none }
theorem ok36 : TyOk PP 36 ty36 := ⟨by kernel_rfl, Tryz.underlying36⟩
abbrev t_sl_api_Cell : TypeId := 41
def ty41 : TyE := { size := 1, bytes := 24, desc := .slice 47, zero := .slice none 0 0, eqv := none }
theorem ok41 : TyOk PP 41 ty41 := ⟨by kernel_rfl, Tryz.underlying41⟩
abbrev t_api_Cell : TypeId := 47
def ty47 : TyE := { size := 3, bytes := 24, desc := .struct #[{ name := "Kind", type := 3, offset := 0, embedded := false, tag := "", pkgPath := "", byteOffset := 0 }, { name := "Column", type := 3, offset := 1, embedded := false, tag := "", pkgPath := "", byteOffset := 8 }, { name := "Row", type := 3, offset := 2, embedded := false, tag := "", pkgPath := "", byteOffset := 16 }], zero := .agg #[.int .i64 0, .int .i64 0, .int .i64 0], eqv := some [.i .i64, .i .i64, .i .i64] }
theorem ok47 : TyOk PP 47 ty47 := ⟨by kernel_rfl, Tryz.underlying47⟩
def ty48 : TyE := { size := 1, bytes := 24, desc := .slice 25, zero := .slice none 0 0, eqv := none }
theorem ok48 : TyOk PP 48 ty48 := ⟨by kernel_rfl, Tryz.underlying48⟩
abbrev t_sl_int : TypeId := 53
def ty53 : TyE := { size := 1, bytes := 24, desc := .slice 3, zero := .slice none 0 0, eqv := none }
theorem ok53 : TyOk PP 53 ty53 := ⟨by kernel_rfl, Tryz.underlying53⟩
abbrev t_api_Segment : TypeId := 57
def ty57 : TyE := { size := 12, bytes := 160, desc := .struct #[{ name := "A", type := 25, offset := 0, embedded := false, tag := "", pkgPath := "", byteOffset := 0 }, { name := "B", type := 25, offset := 6, embedded := false, tag := "", pkgPath := "", byteOffset := 80 }], zero := .agg #[.bool false, .string (⟨#[]⟩ : ByteArray), .string (⟨#[]⟩ : ByteArray), .bool false, .string (⟨#[]⟩ : ByteArray), .string (⟨#[]⟩ : ByteArray), .bool false, .string (⟨#[]⟩ : ByteArray), .string (⟨#[]⟩ : ByteArray), .bool false, .string (⟨#[]⟩ : ByteArray), .string (⟨#[]⟩ : ByteArray)], eqv := some [.b, .s, .s, .b, .s, .s, .b, .s, .s, .b, .s, .s] }
theorem ok57 : TyOk PP 57 ty57 := ⟨by kernel_rfl, Tryz.underlying57⟩
abbrev t_ar4_int : TypeId := 73
def ty73 : TyE := { size := 4, bytes := 32, desc := .array 4 3, zero := .agg #[.int .i64 0, .int .i64 0, .int .i64 0, .int .i64 0], eqv := some [.i .i64, .i .i64, .i .i64, .i .i64] }
theorem ok73 : TyOk PP 73 ty73 := ⟨by kernel_rfl, Tryz.underlying73⟩
def ty76 : TyE := { size := 1, bytes := 24, desc := .slice 106, zero := .slice none 0 0, eqv := none }
theorem ok76 : TyOk PP 76 ty76 := ⟨by kernel_rfl, Tryz.underlying76⟩
abbrev t_slab_builder : TypeId := 79
def ty79 : TyE := { size := 13, bytes := 184, desc := .struct #[{ name := "box", type := 27, offset := 0, embedded := false, tag := "", pkgPath := "narrows/slab", byteOffset := 0 }, { name := "pieces", type := 76, offset := 12, embedded := false, tag := "", pkgPath := "narrows/slab", byteOffset := 160 }], zero := .agg #[.bool false, .string (⟨#[]⟩ : ByteArray), .string (⟨#[]⟩ : ByteArray), .bool false, .string (⟨#[]⟩ : ByteArray), .string (⟨#[]⟩ : ByteArray), .bool false, .string (⟨#[]⟩ : ByteArray), .string (⟨#[]⟩ : ByteArray), .bool false, .string (⟨#[]⟩ : ByteArray), .string (⟨#[]⟩ : ByteArray), .slice none 0 0], eqv := none }
theorem ok79 : TyOk PP 79 ty79 := ⟨by kernel_rfl, Tryz.underlying79⟩
def ty94 : TyE := { size := 1, bytes := 8, desc := .func #[35, 3] #[3] false, zero := .nilFunc, eqv := none }
theorem ok94 : TyOk PP 94 ty94 := ⟨by kernel_rfl, Tryz.underlying94⟩
def ty95 : TyE := { size := 1, bytes := 8, desc := .func #[35, 47] #[41] false, zero := .nilFunc, eqv := none }
theorem ok95 : TyOk PP 95 ty95 := ⟨by kernel_rfl, Tryz.underlying95⟩
def ty96 : TyE := { size := 1, bytes := 8, desc := .func #[35, 47] #[48] false, zero := .nilFunc, eqv := none }
theorem ok96 : TyOk PP 96 ty96 := ⟨by kernel_rfl, Tryz.underlying96⟩
def ty98 : TyE := { size := 3, bytes := 24, desc := .struct #[{ name := "count", type := 94, offset := 0, embedded := false, tag := "", pkgPath := "narrows/slab", byteOffset := 0 }, { name := "faces", type := 95, offset := 1, embedded := false, tag := "", pkgPath := "narrows/slab", byteOffset := 8 }, { name := "corners", type := 96, offset := 2, embedded := false, tag := "", pkgPath := "narrows/slab", byteOffset := 16 }], zero := .agg #[.nilFunc, .nilFunc, .nilFunc], eqv := none }
theorem ok98 : TyOk PP 98 ty98 := ⟨by kernel_rfl, Tryz.underlying98⟩
abbrev t_ar4_slab_kind : TypeId := 99
def ty99 : TyE := { size := 12, bytes := 96, desc := .array 4 98, zero := .agg #[.nilFunc, .nilFunc, .nilFunc, .nilFunc, .nilFunc, .nilFunc, .nilFunc, .nilFunc, .nilFunc, .nilFunc, .nilFunc, .nilFunc], eqv := none }
theorem ok99 : TyOk PP 99 ty99 := ⟨by kernel_rfl, Tryz.underlying99⟩
abbrev t_slab_piece : TypeId := 106
def ty106 : TyE := { size := 13, bytes := 168, desc := .struct #[{ name := "Segment", type := 57, offset := 0, embedded := true, tag := "", pkgPath := "", byteOffset := 0 }, { name := "index", type := 3, offset := 12, embedded := false, tag := "", pkgPath := "narrows/slab", byteOffset := 160 }], zero := .agg #[.bool false, .string (⟨#[]⟩ : ByteArray), .string (⟨#[]⟩ : ByteArray), .bool false, .string (⟨#[]⟩ : ByteArray), .string (⟨#[]⟩ : ByteArray), .bool false, .string (⟨#[]⟩ : ByteArray), .string (⟨#[]⟩ : ByteArray), .bool false, .string (⟨#[]⟩ : ByteArray), .string (⟨#[]⟩ : ByteArray), .int .i64 0], eqv := some [.b, .s, .s, .b, .s, .s, .b, .s, .s, .b, .s, .s, .i .i64] }
theorem ok106 : TyOk PP 106 ty106 := ⟨by kernel_rfl, Tryz.underlying106⟩
def ty111 : TyE := { size := 1, bytes := 8, desc := .func #[25] #[23] false, zero := .nilFunc, eqv := none }
theorem ok111 : TyOk PP 111 ty111 := ⟨by kernel_rfl, Tryz.underlying111⟩
def ty112 : TyE := { size := 4, bytes := 32, desc := .array 4 111, zero := .agg #[.nilFunc, .nilFunc, .nilFunc, .nilFunc], eqv := none }
theorem ok112 : TyOk PP 112 ty112 := ⟨by kernel_rfl, Tryz.underlying112⟩
def ty131 : TyE := { size := 1, bytes := 24, desc := .slice 133, zero := .slice none 0 0, eqv := none }
theorem ok131 : TyOk PP 131 ty131 := ⟨by kernel_rfl, Tryz.underlying131⟩
abbrev t_slab_crossing : TypeId := 133
def ty133 : TyE := { size := 4, bytes := 48, desc := .struct #[{ name := "y", type := 23, offset := 0, embedded := false, tag := "", pkgPath := "narrows/slab", byteOffset := 0 }, { name := "index", type := 3, offset := 3, embedded := false, tag := "", pkgPath := "narrows/slab", byteOffset := 40 }], zero := .agg #[.bool false, .string (⟨#[]⟩ : ByteArray), .string (⟨#[]⟩ : ByteArray), .int .i64 0], eqv := some [.b, .s, .s, .i .i64] }
theorem ok133 : TyOk PP 133 ty133 := ⟨by kernel_rfl, Tryz.underlying133⟩
abbrev t_api_Int : TypeId := 152
def ty152 : TyE := { size := 2, bytes := 24, desc := .struct #[{ name := "Neg", type := 4, offset := 0, embedded := false, tag := "", pkgPath := "", byteOffset := 0 }, { name := "Mag", type := 9, offset := 1, embedded := false, tag := "", pkgPath := "", byteOffset := 8 }], zero := .agg #[.bool false, .string (⟨#[]⟩ : ByteArray)], eqv := some [.b, .s] }
theorem ok152 : TyOk PP 152 ty152 := ⟨by kernel_rfl, Tryz.underlying152⟩
def ty154 : TyE := { size := 4, bytes := 48, desc := .struct #[{ name := "n", type := 152, offset := 0, embedded := false, tag := "", pkgPath := "narrows/rational", byteOffset := 0 }, { name := "d", type := 152, offset := 2, embedded := false, tag := "", pkgPath := "narrows/rational", byteOffset := 24 }], zero := .agg #[.bool false, .string (⟨#[]⟩ : ByteArray), .bool false, .string (⟨#[]⟩ : ByteArray)], eqv := some [.b, .s, .b, .s] }
theorem ok154 : TyOk PP 154 ty154 := ⟨by kernel_rfl, Tryz.underlying154⟩
def ty182 : TyE := { size := 1, bytes := 8, desc := .int .u64, zero := .int .u64 0, eqv := none }
theorem ok182 : TyOk PP 182 ty182 := ⟨by kernel_rfl, Tryz.underlying182⟩
def ty193 : TyE := { size := 1, bytes := 24, desc := .slice 199, zero := .slice none 0 0, eqv := none }
theorem ok193 : TyOk PP 193 ty193 := ⟨by kernel_rfl, Tryz.underlying193⟩
def ty198 : TyE := { size := 1, bytes := 8, desc := .int .u64, zero := .int .u64 0, eqv := none }
theorem ok198 : TyOk PP 198 ty198 := ⟨by kernel_rfl, Tryz.underlying198⟩
abbrev t_uint32 : TypeId := 199
def ty199 : TyE := { size := 1, bytes := 4, desc := .int .u32, zero := .int .u32 0, eqv := none }
theorem ok199 : TyOk PP 199 ty199 := ⟨by kernel_rfl, Tryz.underlying199⟩
def ty213 : TyE := { size := 1, bytes := 8, desc := .int .i64, zero := .int .i64 0, eqv := none }
theorem ok213 : TyOk PP 213 ty213 := ⟨by kernel_rfl, Tryz.underlying213⟩
abbrev t_ar8_uint8 : TypeId := 230
def ty230 : TyE := { size := 8, bytes := 8, desc := .array 8 5, zero := .agg #[.int .u8 0, .int .u8 0, .int .u8 0, .int .u8 0, .int .u8 0, .int .u8 0, .int .u8 0, .int .u8 0], eqv := some [.i .u8, .i .u8, .i .u8, .i .u8, .i .u8, .i .u8, .i .u8, .i .u8] }
theorem ok230 : TyOk PP 230 ty230 := ⟨by kernel_rfl, Tryz.underlying230⟩
def ty231 : TyE := { size := 1, bytes := 24, desc := .slice 5, zero := .slice none 0 0, eqv := none }
theorem ok231 : TyOk PP 231 ty231 := ⟨by kernel_rfl, Tryz.underlying231⟩
def ty239 : TyE := { size := 1, bytes := 8, desc := .int .u64, zero := .int .u64 0, eqv := none }
theorem ok239 : TyOk PP 239 ty239 := ⟨by kernel_rfl, Tryz.underlying239⟩
def ty256 : TyE := { size := 8, bytes := 128, desc := .array 8 9, zero := .agg #[.string (⟨#[]⟩ : ByteArray), .string (⟨#[]⟩ : ByteArray), .string (⟨#[]⟩ : ByteArray), .string (⟨#[]⟩ : ByteArray), .string (⟨#[]⟩ : ByteArray), .string (⟨#[]⟩ : ByteArray), .string (⟨#[]⟩ : ByteArray), .string (⟨#[]⟩ : ByteArray)], eqv := some [.s, .s, .s, .s, .s, .s, .s, .s] }
theorem ok256 : TyOk PP 256 ty256 := ⟨by kernel_rfl, Tryz.underlying256⟩
theorem eq4 (d : Nat) : EqIn PP (d + 1) 4 [.b] := EqIn.bool d Tryz.underlying4 (by kernel_rfl)
theorem eq9 (d : Nat) : EqIn PP (d + 1) 9 [.s] := EqIn.str d Tryz.underlying9 (by kernel_rfl)
theorem eq23 (d : Nat) : EqIn PP (d + 2) 23 [.b, .s, .s] := EqIn.struct (ks := [.b, .s, .s]) Tryz.underlying23 (by kernel_rfl) (by kernel_rfl) (.cons (k1 := [.b]) (k2 := [.s, .s]) (by rfl) rfl (eq4 (d + 0)) (.cons (k1 := [.s]) (k2 := [.s]) (by rfl) rfl (eq9 (d + 0)) (.cons (k1 := [.s]) (k2 := []) (by rfl) rfl (eq9 (d + 0)) (.nil _))))
theorem law23 : EqLaw PP 23 [.b, .s, .s] := EqLaw.of Tryz.underlying23 (by kernel_rfl) (eq23 9998)
theorem eq25 (d : Nat) : EqIn PP (d + 3) 25 [.b, .s, .s, .b, .s, .s] := EqIn.struct (ks := [.b, .s, .s, .b, .s, .s]) Tryz.underlying25 (by kernel_rfl) (by kernel_rfl) (.cons (k1 := [.b, .s, .s]) (k2 := [.b, .s, .s]) (by rfl) rfl (eq23 (d + 0)) (.cons (k1 := [.b, .s, .s]) (k2 := []) (by rfl) rfl (eq23 (d + 0)) (.nil _)))
theorem law25 : EqLaw PP 25 [.b, .s, .s, .b, .s, .s] := EqLaw.of Tryz.underlying25 (by kernel_rfl) (eq25 9997)
theorem eq27 (d : Nat) : EqIn PP (d + 4) 27 [.b, .s, .s, .b, .s, .s, .b, .s, .s, .b, .s, .s] := EqIn.struct (ks := [.b, .s, .s, .b, .s, .s, .b, .s, .s, .b, .s, .s]) Tryz.underlying27 (by kernel_rfl) (by kernel_rfl) (.cons (k1 := [.b, .s, .s, .b, .s, .s]) (k2 := [.b, .s, .s, .b, .s, .s]) (by rfl) rfl (eq25 (d + 0)) (.cons (k1 := [.b, .s, .s, .b, .s, .s]) (k2 := []) (by rfl) rfl (eq25 (d + 0)) (.nil _)))
theorem law27 : EqLaw PP 27 [.b, .s, .s, .b, .s, .s, .b, .s, .s, .b, .s, .s] := EqLaw.of Tryz.underlying27 (by kernel_rfl) (eq27 9996)
theorem eq3 (d : Nat) : EqIn PP (d + 1) 3 [.i .i64] := EqIn.int d Tryz.underlying3 (by kernel_rfl)
theorem eq47 (d : Nat) : EqIn PP (d + 2) 47 [.i .i64, .i .i64, .i .i64] := EqIn.struct (ks := [.i .i64, .i .i64, .i .i64]) Tryz.underlying47 (by kernel_rfl) (by kernel_rfl) (.cons (k1 := [.i .i64]) (k2 := [.i .i64, .i .i64]) (by rfl) rfl (eq3 (d + 0)) (.cons (k1 := [.i .i64]) (k2 := [.i .i64]) (by rfl) rfl (eq3 (d + 0)) (.cons (k1 := [.i .i64]) (k2 := []) (by rfl) rfl (eq3 (d + 0)) (.nil _))))
theorem law47 : EqLaw PP 47 [.i .i64, .i .i64, .i .i64] := EqLaw.of Tryz.underlying47 (by kernel_rfl) (eq47 9998)
theorem eq57 (d : Nat) : EqIn PP (d + 4) 57 [.b, .s, .s, .b, .s, .s, .b, .s, .s, .b, .s, .s] := EqIn.struct (ks := [.b, .s, .s, .b, .s, .s, .b, .s, .s, .b, .s, .s]) Tryz.underlying57 (by kernel_rfl) (by kernel_rfl) (.cons (k1 := [.b, .s, .s, .b, .s, .s]) (k2 := [.b, .s, .s, .b, .s, .s]) (by rfl) rfl (eq25 (d + 0)) (.cons (k1 := [.b, .s, .s, .b, .s, .s]) (k2 := []) (by rfl) rfl (eq25 (d + 0)) (.nil _)))
theorem law57 : EqLaw PP 57 [.b, .s, .s, .b, .s, .s, .b, .s, .s, .b, .s, .s] := EqLaw.of Tryz.underlying57 (by kernel_rfl) (eq57 9996)
theorem eq73 (d : Nat) : EqIn PP (d + 2) 73 [.i .i64, .i .i64, .i .i64, .i .i64] := EqIn.array (n := 4) (ks := [.i .i64]) Tryz.underlying73 (by kernel_rfl) (eq3 d)
theorem law73 : EqLaw PP 73 [.i .i64, .i .i64, .i .i64, .i .i64] := EqLaw.ofArr Tryz.underlying73 (by kernel_rfl) (eq73 9998)
theorem eq106 (d : Nat) : EqIn PP (d + 5) 106 [.b, .s, .s, .b, .s, .s, .b, .s, .s, .b, .s, .s, .i .i64] := EqIn.struct (ks := [.b, .s, .s, .b, .s, .s, .b, .s, .s, .b, .s, .s, .i .i64]) Tryz.underlying106 (by kernel_rfl) (by kernel_rfl) (.cons (k1 := [.b, .s, .s, .b, .s, .s, .b, .s, .s, .b, .s, .s]) (k2 := [.i .i64]) (by rfl) rfl (eq57 (d + 0)) (.cons (k1 := [.i .i64]) (k2 := []) (by rfl) rfl (eq3 (d + 3)) (.nil _)))
theorem law106 : EqLaw PP 106 [.b, .s, .s, .b, .s, .s, .b, .s, .s, .b, .s, .s, .i .i64] := EqLaw.of Tryz.underlying106 (by kernel_rfl) (eq106 9995)
theorem eq133 (d : Nat) : EqIn PP (d + 3) 133 [.b, .s, .s, .i .i64] := EqIn.struct (ks := [.b, .s, .s, .i .i64]) Tryz.underlying133 (by kernel_rfl) (by kernel_rfl) (.cons (k1 := [.b, .s, .s]) (k2 := [.i .i64]) (by rfl) rfl (eq23 (d + 0)) (.cons (k1 := [.i .i64]) (k2 := []) (by rfl) rfl (eq3 (d + 1)) (.nil _)))
theorem law133 : EqLaw PP 133 [.b, .s, .s, .i .i64] := EqLaw.of Tryz.underlying133 (by kernel_rfl) (eq133 9997)
theorem eq152 (d : Nat) : EqIn PP (d + 2) 152 [.b, .s] := EqIn.struct (ks := [.b, .s]) Tryz.underlying152 (by kernel_rfl) (by kernel_rfl) (.cons (k1 := [.b]) (k2 := [.s]) (by rfl) rfl (eq4 (d + 0)) (.cons (k1 := [.s]) (k2 := []) (by rfl) rfl (eq9 (d + 0)) (.nil _)))
theorem law152 : EqLaw PP 152 [.b, .s] := EqLaw.of Tryz.underlying152 (by kernel_rfl) (eq152 9998)
theorem eq154 (d : Nat) : EqIn PP (d + 3) 154 [.b, .s, .b, .s] := EqIn.struct (ks := [.b, .s, .b, .s]) Tryz.underlying154 (by kernel_rfl) (by kernel_rfl) (.cons (k1 := [.b, .s]) (k2 := [.b, .s]) (by rfl) rfl (eq152 (d + 0)) (.cons (k1 := [.b, .s]) (k2 := []) (by rfl) rfl (eq152 (d + 0)) (.nil _)))
theorem law154 : EqLaw PP 154 [.b, .s, .b, .s] := EqLaw.of Tryz.underlying154 (by kernel_rfl) (eq154 9997)
theorem eq5 (d : Nat) : EqIn PP (d + 1) 5 [.i .u8] := EqIn.int d Tryz.underlying5 (by kernel_rfl)
theorem eq230 (d : Nat) : EqIn PP (d + 2) 230 [.i .u8, .i .u8, .i .u8, .i .u8, .i .u8, .i .u8, .i .u8, .i .u8] := EqIn.array (n := 8) (ks := [.i .u8]) Tryz.underlying230 (by kernel_rfl) (eq5 d)
theorem law230 : EqLaw PP 230 [.i .u8, .i .u8, .i .u8, .i .u8, .i .u8, .i .u8, .i .u8, .i .u8] := EqLaw.ofArr Tryz.underlying230 (by kernel_rfl) (eq230 9998)
theorem eq256 (d : Nat) : EqIn PP (d + 2) 256 [.s, .s, .s, .s, .s, .s, .s, .s] := EqIn.array (n := 8) (ks := [.s]) Tryz.underlying256 (by kernel_rfl) (eq9 d)
theorem law256 : EqLaw PP 256 [.s, .s, .s, .s, .s, .s, .s, .s] := EqLaw.ofArr Tryz.underlying256 (by kernel_rfl) (eq256 9998)
def TB : TT := [(23, ty23), (25, ty25), (27, ty27), (35, ty35), (47, ty47), (57, ty57), (79, ty79), (98, ty98), (106, ty106), (133, ty133), (152, ty152), (154, ty154), (36, ty36), (213, ty213), (239, ty239), (3, ty3), (4, ty4), (5, ty5), (9, ty9), (182, ty182), (198, ty198), (199, ty199), (193, ty193), (28, ty28), (31, ty31), (32, ty32), (33, ty33), (41, ty41), (48, ty48), (53, ty53), (76, ty76), (131, ty131), (231, ty231), (73, ty73), (99, ty99), (112, ty112), (230, ty230), (256, ty256), (111, ty111), (94, ty94), (95, ty95), (96, ty96)]
theorem good_cons {t : TypeId} {e : TyE} {r : TT} (h : TyOk PP t e ∧ (∀ ks, e.eqv = some ks → EqLaw PP t ks)) (hr : TTgood PP r) : TTgood PP ((t, e) :: r) := fun t' e' he => by
 rw [lk_cons] at he
 split at he
 · rename_i e2; subst e2; cases he; exact h
 · exact hr t' e' he
theorem good_nil : TTgood PP [] := fun _ _ h => by cases h
theorem good2 : TTgood PP [(95, ty95), (96, ty96)] := good_cons ⟨ok95, fun _ h => by cases h⟩ (good_cons ⟨ok96, fun _ h => by cases h⟩ (good_nil))
theorem good1 : TTgood PP [(198, ty198), (199, ty199), (193, ty193), (28, ty28), (31, ty31), (32, ty32), (33, ty33), (41, ty41), (48, ty48), (53, ty53), (76, ty76), (131, ty131), (231, ty231), (73, ty73), (99, ty99), (112, ty112), (230, ty230), (256, ty256), (111, ty111), (94, ty94), (95, ty95), (96, ty96)] := good_cons ⟨ok198, fun _ h => by cases h⟩ (good_cons ⟨ok199, fun _ h => by cases h⟩ (good_cons ⟨ok193, fun _ h => by cases h⟩ (good_cons ⟨ok28, fun _ h => by cases h⟩ (good_cons ⟨ok31, fun _ h => by cases h⟩ (good_cons ⟨ok32, fun _ h => by cases h⟩ (good_cons ⟨ok33, fun _ h => by cases h⟩ (good_cons ⟨ok41, fun _ h => by cases h⟩ (good_cons ⟨ok48, fun _ h => by cases h⟩ (good_cons ⟨ok53, fun _ h => by cases h⟩ (good_cons ⟨ok76, fun _ h => by cases h⟩ (good_cons ⟨ok131, fun _ h => by cases h⟩ (good_cons ⟨ok231, fun _ h => by cases h⟩ (good_cons ⟨ok73, fun _ h => by cases h; exact law73⟩ (good_cons ⟨ok99, fun _ h => by cases h⟩ (good_cons ⟨ok112, fun _ h => by cases h⟩ (good_cons ⟨ok230, fun _ h => by cases h; exact law230⟩ (good_cons ⟨ok256, fun _ h => by cases h; exact law256⟩ (good_cons ⟨ok111, fun _ h => by cases h⟩ (good_cons ⟨ok94, fun _ h => by cases h⟩ (good2))))))))))))))))))))
theorem good0 : TTgood PP [(23, ty23), (25, ty25), (27, ty27), (35, ty35), (47, ty47), (57, ty57), (79, ty79), (98, ty98), (106, ty106), (133, ty133), (152, ty152), (154, ty154), (36, ty36), (213, ty213), (239, ty239), (3, ty3), (4, ty4), (5, ty5), (9, ty9), (182, ty182), (198, ty198), (199, ty199), (193, ty193), (28, ty28), (31, ty31), (32, ty32), (33, ty33), (41, ty41), (48, ty48), (53, ty53), (76, ty76), (131, ty131), (231, ty231), (73, ty73), (99, ty99), (112, ty112), (230, ty230), (256, ty256), (111, ty111), (94, ty94), (95, ty95), (96, ty96)] := good_cons ⟨ok23, fun _ h => by cases h; exact law23⟩ (good_cons ⟨ok25, fun _ h => by cases h; exact law25⟩ (good_cons ⟨ok27, fun _ h => by cases h; exact law27⟩ (good_cons ⟨ok35, fun _ h => by cases h⟩ (good_cons ⟨ok47, fun _ h => by cases h; exact law47⟩ (good_cons ⟨ok57, fun _ h => by cases h; exact law57⟩ (good_cons ⟨ok79, fun _ h => by cases h⟩ (good_cons ⟨ok98, fun _ h => by cases h⟩ (good_cons ⟨ok106, fun _ h => by cases h; exact law106⟩ (good_cons ⟨ok133, fun _ h => by cases h; exact law133⟩ (good_cons ⟨ok152, fun _ h => by cases h; exact law152⟩ (good_cons ⟨ok154, fun _ h => by cases h; exact law154⟩ (good_cons ⟨ok36, fun _ h => by cases h⟩ (good_cons ⟨ok213, fun _ h => by cases h⟩ (good_cons ⟨ok239, fun _ h => by cases h⟩ (good_cons ⟨ok3, fun _ h => by cases h⟩ (good_cons ⟨ok4, fun _ h => by cases h⟩ (good_cons ⟨ok5, fun _ h => by cases h⟩ (good_cons ⟨ok9, fun _ h => by cases h⟩ (good_cons ⟨ok182, fun _ h => by cases h⟩ (good1))))))))))))))))))))
theorem TBgood : TTgood PP TB := good0
theorem mixed : PP.follows .mixedOrders = true := by kernel_rfl
end Go.Sx
end
section
set_option maxRecDepth 10000
namespace Go.Sx
open Go Go.Proofs
theorem c_strip (l : List UInt8) : Fn PP f_bigint_strip [.string (bs l)] (.string (bs (stripL l))) := by
 refine Fn.of TBgood mixed h_bigint_strip rfl rfl (Nat.le_of_ble_eq_true rfl) ?_
 intro w
 conv => whnf
 refine sexec_loop (ι := List UInt8) (fun k => ⟨[(0, .o (.v (.string (bs k))))], [], []⟩) (fun k => stripL k = stripL l) (fun k => k.length) l rfl (SLe.id ⟨rfl, trivial⟩ trivial (by simp)) ?_
 intro k hk
 conv => whnf
 refine br_split ?_ ?_
 · intro h
   conv => whnf
   rcases k with _ | ⟨x, r⟩
   · simp [bs] at h
   refine ⟨by simp [bs_size], ?_⟩
   conv => whnf
   refine br_split ?_ ?_
   · intro h2
     conv => whnf
     refine ⟨by simp [bs_size]; omega, ?_⟩
     conv => whnf
     refine ⟨r, ?_, by simp, ?_⟩
     · rw [← hk, stripL, if_pos]
       have h3 : x.toNat = 0 := by simpa [sb_bs] using h2
       exact UInt8.toNat_inj.1 h3
     · refine SLe.id ⟨?_, trivial⟩ trivial (by simp)
       show some _ = some _
       simp [SV.ren, AV.ren, bs_extract, bs_size]
   · intro h2
     conv => whnf
     refine postV_one ?_
     show Value.string (bs (x :: r)) = _
     rw [← hk, stripL, if_neg]
     intro h3
     subst h3
     simp [sb_bs] at h2
 · intro h
   conv => whnf
   refine postV_one ?_
   have : k = [] := by
     have h2 : (bs k).data = #[] := by simpa [ByteArray.toList_eq] using h
     exact congrArg Array.toList h2
   subst this
   show Value.string (bs []) = _
   rw [← hk]; rfl
end Go.Sx
end
section
set_option maxRecDepth 10000
namespace Go.Sx
open Go Go.Proofs
def u32c (x : Nat) : List Value := [.int .u32 (x : Int)]
abbrev u32V (l : List Nat) : List Value := rowV u32c l
theorem u32c_len (x : Nat) : (u32c x).length = 1 := rfl
theorem u32V_length (l : List Nat) : (u32V l).length = l.length := by rw [rowV_length u32c_len]; omega
theorem tr_snoc (l : List Nat) (x : Nat) : tr (l ++ [x]) = if x = 0 then tr l else l ++ [x] := by
 induction l with
 | nil => simp only [List.nil_append, tr]
 | cons y r ih =>
   by_cases hx : x = 0
   · subst hx
     rw [if_pos rfl] at ih ⊢
     simp only [List.cons_append, tr, ih]
   · rw [if_neg hx] at ih ⊢
     simp only [List.cons_append, tr, ih]
     cases r <;> rfl
theorem c_trim (A : Option Addr) (c : Nat) (l : List Nat) (hc : l.length ≤ c) (hl : l.length ≤ 1000000000000) : FnM PP f_bigint_limbs_trim [.slice A l.length c] (facts [SlRes A (u32V l)]) (retsV (.slice A (tr l).length c)) := by
 refine FnS.of TBgood mixed h_bigint_limbs_trim rfl rfl (Nat.le_of_ble_eq_true rfl) (by simp [SlRes.ok]) ?_
 intro w hw
 conv => whnf
 refine sexec_loop (ι := Nat) (fun k => ⟨[(0, .o (.v (.slice A k c)))], [], [SlRes A (u32V l)]⟩) (fun k => tr (l.take k) = tr l ∧ k ≤ l.length) (fun k => k) l.length ⟨by rw [List.take_length], Nat.le_refl _⟩ (SLe.id ⟨rfl, trivial⟩ trivial (fun R hR => hR)) ?_
 rintro k ⟨hk, hkl⟩
 conv => whnf
 refine br_split ?_ ?_
 · intro h
   have hk0 : 0 < k := by simpa using h
   have hwr : IntKind.i64.wrap ((k : Int) - 1) = ((k - 1 : Nat) : Int) := by rw [wrap_i64 (by omega) (by omega)]; omega
   have hsome : A.isSome = true := slres_some (facts_one hw) (by rw [u32V_length]; omega)
   conv => whnf
   refine ⟨⟨by rw [hwr]; omega, by rw [hwr]; omega, hsome⟩, ?_⟩
   conv => whnf
   refine LoadVC.elem u32c u32c_len (List.mem_singleton.2 rfl) rfl (by rw [hwr]; omega) (by decide) (fun _ => rfl) ?_
   rw [hwr]
   intro x hx
   simp only [Int.toNat_natCast] at hx
   have htk : l.take k = l.take (k - 1) ++ [x] := by
     have := List.take_add_one (l := l) (i := k - 1)
     rw [show k - 1 + 1 = k by omega, hx] at this
     exact this
   conv => whnf
   refine br_split ?_ ?_
   · intro h2
     conv => whnf
     refine ⟨⟨by omega, by rw [hwr]; omega, by rw [hwr]; omega⟩, ?_⟩
     conv => whnf
     refine ⟨k - 1, ⟨?_, by omega⟩, by omega, ?_⟩
     · rw [htk, tr_snoc, if_pos (by simpa using h2)] at hk
       exact hk
     · refine SLe.id ⟨?_, trivial⟩ trivial (fun R hR => hR)
       show some _ = some _
       rw [hwr]
       simp only [SV.ren, AV.ren, Option.some.injEq, SV.o.injEq, AV.v.injEq, Value.slice.injEq]
       refine ⟨?_, by omega, by simp⟩
       split
       · rfl
       · cases A <;> simp [Addr.add]
   · intro h2
     conv => whnf
     refine postV_one ?_
     rw [htk, tr_snoc, if_neg (by simpa using h2)] at hk
     rw [← hk, ← htk]
     simp [Nat.min_eq_left hkl]
 · intro h
   conv => whnf
   refine postV_one ?_
   have hk0 : k = 0 := by simpa using h
   subst hk0
   rw [← hk]; rfl
end Go.Sx
end
section
set_option maxRecDepth 10000
namespace Go.Sx
open Go Go.Proofs
def pad (B K v : Nat) : List Nat := (List.range K).map fun j => v / B ^ j % B
theorem pad_length (B K v : Nat) : (pad B K v).length = K := by simp [pad]
theorem pad_get (B K v j : Nat) (hj : j < K) : (pad B K v)[j]? = some (v / B ^ j % B) := by simp [pad, hj]
theorem pad_lt {B : Nat} (hB : 0 < B) (K v : Nat) : ∀ x ∈ pad B K v, x < B := by
 intro x hx
 obtain ⟨j, _, rfl⟩ := List.mem_map.1 hx
 exact Nat.mod_lt _ hB
theorem pad_zero (B K : Nat) : pad B K 0 = List.replicate K 0 := by
 apply List.ext_getElem?
 intro j
 by_cases hj : j < K
 · rw [pad_get _ _ _ _ hj]; simp [hj]
 · rw [List.getElem?_eq_none (by rw [pad_length]; omega), List.getElem?_eq_none (by simp; omega)]
theorem pad_succ (B K v : Nat) : pad B (K + 1) v = v % B :: pad B K (v / B) := by
 simp only [pad, List.range_succ_eq_map, List.map_cons, List.map_map]
 congr 1
 · simp
 · apply List.map_congr_left
   intro j _
   simp only [Function.comp, Nat.succ_eq_add_one, Nat.pow_succ]
   rw [Nat.mul_comm, Nat.div_div_eq_div_mul]
theorem lv_pad {B : Nat} (hB : 0 < B) : ∀ (K v : Nat), lv B (pad B K v) = v % B ^ K
 | 0, v => by simp [pad, lv, Nat.mod_one]
 | K + 1, v => by
   rw [pad_succ, lv, lv_pad hB K, Nat.pow_succ, Nat.mul_comm (B ^ K), Nat.mod_mul]
theorem pad_digs {B K v : Nat} (hB : 2 ≤ B) (h1 : v < B ^ K) (h2 : K = 0 ∨ B ^ (K - 1) ≤ v) : pad B K v = digs B v := by
 have hlv : lv B (pad B K v) = v := by rw [lv_pad (by omega), Nat.mod_eq_of_lt h1]
 have := digs_lv hB (pad B K v) (pad_lt (by omega) K v) (by
   rcases Nat.eq_zero_or_pos K with rfl | hK
   · simp [pad]
   · rw [List.getLast?_eq_getElem?, pad_length, pad_get _ _ _ _ (by omega)]
     have h3 : 0 < v / B ^ (K - 1) := Nat.div_pos (by rcases h2 with h | h; omega; exact h) (Nat.pow_pos (by omega))
     have h4 : v / B ^ (K - 1) < B := by
       apply Nat.div_lt_of_lt_mul
       rw [← Nat.pow_succ, show (K - 1).succ = K by omega]; exact h1
     rw [Nat.mod_eq_of_lt h4]
     simp; omega)
 rw [hlv] at this
 exact this.symm
theorem pad_byte (K i v b : Nat) (hv : v < 256 ^ i) (hb : b < 256) (hK : i / 4 < K) :
   pad (2 ^ 32) K (v + b * 256 ^ i) = (pad (2 ^ 32) K v).set (i / 4) (v / (2 ^ 32) ^ (i / 4) % 2 ^ 32 + b * 2 ^ (8 * (i % 4))) ∧ v / (2 ^ 32) ^ (i / 4) % 2 ^ 32 < 2 ^ (8 * (i % 4)) := by
 have hi : 4 * (i / 4) + i % 4 = i := Nat.div_add_mod i 4
 have hr : i % 4 < 4 := Nat.mod_lt _ (by omega)
 have h256 : (256 : Nat) ^ i = (2 ^ 32) ^ (i / 4) * 2 ^ (8 * (i % 4)) := by
   rw [show (256 : Nat) = 2 ^ 8 by rfl, ← Nat.pow_mul, ← Nat.pow_mul, ← Nat.pow_add]
   congr 1; omega
 have hP : 0 < (2 ^ 32 : Nat) ^ (i / 4) := Nat.pow_pos (by decide)
 have hlow : v / (2 ^ 32) ^ (i / 4) < 2 ^ (8 * (i % 4)) := by
   apply Nat.div_lt_of_lt_mul
   rw [← h256]; exact hv
 have hle : 2 ^ (8 * (i % 4)) ≤ (2 ^ 32 : Nat) := Nat.pow_le_pow_right (by decide) (by omega)
 have hdiv : (v + b * 256 ^ i) / (2 ^ 32) ^ (i / 4) = v / (2 ^ 32) ^ (i / 4) + b * 2 ^ (8 * (i % 4)) := by
   rw [h256, show b * ((2 ^ 32) ^ (i / 4) * 2 ^ (8 * (i % 4))) = (2 ^ 32) ^ (i / 4) * (b * 2 ^ (8 * (i % 4))) by rw [Nat.mul_left_comm], Nat.add_mul_div_left _ _ hP]
 have hb2 : b * 2 ^ (8 * (i % 4)) + 2 ^ (8 * (i % 4)) ≤ 2 ^ 32 := by
   have h1 : (b + 1) * 2 ^ (8 * (i % 4)) ≤ 256 * 2 ^ (8 * (i % 4)) := Nat.mul_le_mul_right _ hb
   have h2 : 256 * 2 ^ (8 * (i % 4)) = 2 ^ (8 + 8 * (i % 4)) := by rw [Nat.pow_add]
   have h3 : (2 : Nat) ^ (8 + 8 * (i % 4)) ≤ 2 ^ 32 := Nat.pow_le_pow_right (by decide) (by omega)
   rw [Nat.add_mul, Nat.one_mul] at h1
   omega
 rw [Nat.mod_eq_of_lt (Nat.lt_of_lt_of_le hlow hle)]
 refine ⟨?_, hlow⟩
 apply List.ext_getElem?
 intro j
 by_cases hj : j < K
 · rw [pad_get _ _ _ _ hj, List.getElem?_set]
   by_cases he : i / 4 = j
   · subst he
     rw [if_pos rfl, if_pos (by rw [pad_length]; exact hK), hdiv, Nat.mod_eq_of_lt (by omega)]
   · rw [if_neg he, pad_get _ _ _ _ hj]
     congr 1
     rcases Nat.lt_or_ge j (i / 4) with hlt | hge
     · -- below: a multiple is added
       have : (2 ^ 32 : Nat) ^ (i / 4) = (2 ^ 32) ^ j * ((2 ^ 32) ^ (i / 4 - j - 1) * 2 ^ 32) := by
         rw [← Nat.pow_succ, ← Nat.pow_add]; congr 1; omega
       rw [h256, this]
       have h5 : b * ((2 ^ 32) ^ j * ((2 ^ 32) ^ (i / 4 - j - 1) * 2 ^ 32) * 2 ^ (8 * (i % 4))) = (2 ^ 32) ^ j * (2 ^ 32 * (b * (2 ^ 32) ^ (i / 4 - j - 1) * 2 ^ (8 * (i % 4)))) := by
         simp only [Nat.mul_assoc, Nat.mul_left_comm, Nat.mul_comm]
       rw [h5, Nat.add_mul_div_left _ _ (Nat.pow_pos (by decide)), Nat.add_mul_mod_self_left]
     · -- above: nothing is there
       have hz : ∀ u, u < (2 ^ 32 : Nat) ^ (i / 4 + 1) → u / (2 ^ 32) ^ j = 0 := fun u hu => by
         apply Nat.div_eq_of_lt
         exact Nat.lt_of_lt_of_le hu (Nat.pow_le_pow_right (by decide) (by omega))
       have hcap : v + b * 256 ^ i < (2 ^ 32 : Nat) ^ (i / 4 + 1) := by
         have h6 : v + b * 256 ^ i < (b + 1) * 256 ^ i := by rw [Nat.add_mul, Nat.one_mul]; omega
         have h7 : (b + 1) * 256 ^ i ≤ (2 ^ 32) ^ (i / 4) * 2 ^ 32 := by
           rw [h256, Nat.mul_left_comm]
           apply Nat.mul_le_mul_left
           rw [Nat.add_mul, Nat.one_mul]; omega
         rw [Nat.pow_succ]; omega
       rw [hz _ hcap, hz v (by omega)]
 · rw [List.getElem?_eq_none (by rw [pad_length]; omega), List.getElem?_eq_none (by rw [List.length_set, pad_length]; omega)]

theorem or_add {a x s : Nat} (ha : a < 2 ^ s) (h : a + x * 2 ^ s < 2 ^ 32) :
   IntKind.u32.wrap ((BitVec.ofInt IntKind.u32.bits (a : Int) ||| BitVec.ofInt IntKind.u32.bits ((x * 2 ^ s : Nat) : Int)).toNat : Int) = ((a + x * 2 ^ s : Nat) : Int) := by
 rw [IntKind.wrap_u32]
 have h1 : (BitVec.ofInt IntKind.u32.bits (a : Int)).toNat = a := by
   rw [BitVec.toNat_ofInt]; simp [IntKind.bits]; omega
 have h2 : (BitVec.ofInt IntKind.u32.bits ((x * 2 ^ s : Nat) : Int)).toNat = x * 2 ^ s := by
   rw [BitVec.toNat_ofInt]; show ((((x * 2 ^ s : Nat) : Int)) % ((2 ^ 32 : Nat) : Int)).toNat = _; omega
 rw [BitVec.toNat_or, h1, h2, Nat.or_comm, Nat.mul_comm x, ← Nat.two_pow_add_eq_or_of_lt ha]
 rw [Nat.mul_comm x] at h
 omega

theorem c_load (l : List UInt8) (hl : l.length ≤ 1000000000000) : FnM PP f_bigint_load [.string (bs l)] (facts []) (retsO t_uint32 1 (digs (2 ^ 32) (nat l)).length (u32V (digs (2 ^ 32) (nat l)))) := by
 refine FnO.of TBgood mixed h_bigint_load rfl rfl (Nat.le_of_ble_eq_true rfl) (by simp) ?_
 intro w hw
 conv => whnf
 refine CallVC.fn (c_strip l) rfl ?_
 obtain ⟨m, hm⟩ : ∃ m, m = stripL l := ⟨_, rfl⟩
 rw [← hm]
 have hml : m.length ≤ 1000000000000 := by rw [hm]; have := stripL_length l; omega
 obtain ⟨n, hn⟩ : ∃ n, n = m.length := ⟨_, rfl⟩
 have hK : IntKind.i64.wrap ((IntKind.i64.wrap (IntKind.i64.wrap (((bs m).size : Int) + 4) - 1)).tdiv 4) = (((n + 3) / 4 : Nat) : Int) := by
   rw [bs_size, ← hn, wrap_i64 (n := (n : Int) + 4) (by omega) (by omega), wrap_i64 (n := (n : Int) + 4 - 1) (by omega) (by omega), Int.tdiv_eq_ediv_of_nonneg (by omega), wrap_i64 (by omega) (by omega)]
   omega
 conv => whnf
 refine ⟨by decide, ?_⟩
 conv => whnf
 refine ⟨by rw [hK]; refine ⟨by omega, by omega, ?_, by omega⟩; show (4 : Int) * _ ≤ _; omega, ?_⟩
 conv => whnf
 refine sexec_loop (ι := Nat) (fun i => ⟨[(0, .o (.v (.string (bs m)))), (3, .o (.w 13)), (15, .o (.v (.int .i64 n))), (16, .o (.v (.int .i64 i)))], [(13, .own t_uint32 1 ((n + 3) / 4) (u32V (pad (2 ^ 32) ((n + 3) / 4) (nat (m.drop (n - i))))))], []⟩)
   (fun i => i ≤ n) (fun i => n - i) 0 (Nat.zero_le _) (SLe.id ⟨rfl, rfl, by rw [hn]; rfl, rfl, trivial⟩ ⟨⟨_, rfl, ?_⟩, trivial⟩ (fun R hR => hR)) ?_
 · rw [hK]
   simp only [ME.ren, Int.toNat_natCast]
   rw [Nat.sub_zero, hn, List.drop_length, nat_nil, pad_zero]
   simp only [u32V, rowV_repl]
   exact .refl _
 intro i hi
 conv => whnf
 refine br_split ?_ ?_
 · intro h
   have hi' : i < n := by simpa using h
   have hk1 : IntKind.i64.wrap (IntKind.i64.wrap (((bs m).size : Int) - 1) - (i : Int)) = ((n - 1 - i : Nat) : Int) := by
     rw [bs_size, ← hn, wrap_i64 (n := (n : Int) - 1) (by omega) (by omega), wrap_i64 (by omega) (by omega)]; omega
   have hq : IntKind.i64.wrap ((i : Int).tdiv 4) = ((i / 4 : Nat) : Int) := by
     rw [Int.tdiv_eq_ediv_of_nonneg (by omega), wrap_i64 (by omega) (by omega)]; omega
   have hr : IntKind.i64.wrap (8 * (i : Int).tmod 4) = ((8 * (i % 4) : Nat) : Int) := by
     rw [Int.tmod_eq_emod_of_nonneg (by omega), wrap_i64 (by omega) (by omega)]; omega
   conv => whnf
   refine DrawVC.quiet (by kernel_rfl) ?_
   conv => whnf
   refine ⟨by decide, ?_⟩
   conv => whnf
   refine ⟨by rw [hq]; omega, ?_⟩
   conv => whnf
   refine RowVC.elem u32c u32c_len (k := i / 4) (by rw [hq]; rfl) (by rw [pad_length]; omega) (by decide) (fun _ => rfl) ?_
   intro x hx
   rw [pad_get _ _ _ _ (by omega), Option.some.injEq] at hx
   conv => whnf
   refine ⟨by rw [hk1, bs_size]; omega, ?_⟩
   conv => whnf
   refine ⟨by decide, ?_⟩
   conv => whnf
   refine ⟨by rw [hr]; omega, ?_⟩
   conv => whnf
   refine ⟨by rw [hq]; omega, ?_⟩
   conv => whnf
   refine ⟨by rw [hq, u32V_length, pad_length]; exact ⟨by show (i / 4) * 1 + 1 ≤ _; omega, by decide⟩, ?_⟩
   conv => whnf
   refine ⟨i + 1, hi', by omega, ?_⟩
   refine SLe.id ⟨rfl, rfl, rfl, ?_, trivial⟩ ⟨⟨_, rfl, ?_⟩, trivial⟩ (fun R hR => hR)
   · show some (SV.o (.v (.int _ (IntKind.i64.wrap ((i : Int) + 1))))) = _
     rw [wrap_i64 (by omega) (by omega)]; rfl
   · have hlt : n - 1 - i < m.length := by omega
     obtain ⟨b, hb⟩ : ∃ b, b = m[n - 1 - i].toNat := ⟨_, rfl⟩
     have hb256 : b < 256 := by rw [hb]; exact UInt8.toNat_lt _
     have hdrop : m.drop (n - (i + 1)) = m[n - 1 - i] :: m.drop (n - i) := by
       rw [show n - (i + 1) = n - 1 - i by omega, List.drop_eq_getElem_cons hlt, show n - 1 - i + 1 = n - i by omega]
     have hlen : (m.drop (n - i)).length = i := by rw [List.length_drop]; omega
     have hv : nat (m.drop (n - i)) < 256 ^ i := by have := nat_lt (m.drop (n - i)); rwa [hlen] at this
     have hnat : nat (m.drop (n - (i + 1))) = nat (m.drop (n - i)) + b * 256 ^ i := by rw [hdrop, nat_cons, hlen, hb, Nat.add_comm]
     obtain ⟨h1, h2⟩ := pad_byte ((n + 3) / 4) i _ b hv hb256 (by omega)
     rw [hx] at h1 h2
     have hle : (2 : Nat) ^ (8 * (i % 4)) * 256 ≤ 2 ^ 32 := by
       rw [show (256 : Nat) = 2 ^ 8 by rfl, ← Nat.pow_add]
       exact Nat.pow_le_pow_right (by decide) (by omega)
     have hsum : x + b * 2 ^ (8 * (i % 4)) < 2 ^ 32 := by
       have h3 : (b + 1) * 2 ^ (8 * (i % 4)) ≤ 256 * 2 ^ (8 * (i % 4)) := Nat.mul_le_mul_right _ hb256
       rw [Nat.add_mul, Nat.one_mul] at h3
       rw [Nat.mul_comm] at hle
       omega
     have hval : sb (bs m) (IntKind.i64.wrap (IntKind.i64.wrap (((bs m).size : Int) - 1) - (i : Int))) = (b : Int) := by
       rw [hk1, sb_bs, Int.toNat_natCast, List.getD_eq_getElem?_getD, List.getElem?_eq_getElem hlt, hb]; rfl
     have hsh : IntKind.u32.wrap (IntKind.u32.wrap (b : Int) * 2 ^ min (IntKind.i64.wrap (8 * (i : Int).tmod 4)).toNat IntKind.u32.bits) = ((b * 2 ^ (8 * (i % 4)) : Nat) : Int) := by
       rw [hr, Int.toNat_natCast, IntKind.wrap_u32 (b : Int), Int.emod_eq_of_lt (by omega) (by omega), show min (8 * (i % 4)) IntKind.u32.bits = 8 * (i % 4) from Nat.min_eq_left (by show _ ≤ 32; omega), IntKind.wrap_u32]
       have : ((b : Int) * 2 ^ (8 * (i % 4))) = ((b * 2 ^ (8 * (i % 4)) : Nat) : Int) := by rw [Int.natCast_mul, Int.natCast_pow]; rfl
       rw [this]
       omega
     rw [hval, hsh, or_add h2 hsum, hq, hnat]
     simp only [ME.ren]
     rw [h1]
     have := rowV_put (f := u32c) u32c_len (k := i / 4) (l := pad (2 ^ 32) ((n + 3) / 4) (nat (m.drop (n - i)))) (x + b * 2 ^ (8 * (i % 4))) (by rw [pad_length]; omega)
     show MEle (ME.own _ _ _ (putN (i / 4 * 1) (u32c _) (rowV u32c _))) (ME.own _ _ _ (rowV u32c _))
     rw [this]
     exact .refl _
 · intro h
   have hi' : i = n := by have : ¬ i < n := by simpa using h
                          omega
   conv => whnf
   refine ⟨13, rfl, ?_⟩
   show some (ME.own t_uint32 1 ((n + 3) / 4) (u32V (pad (2 ^ 32) ((n + 3) / 4) (nat (m.drop (n - i)))))) = _
   have hnm : nat m = nat l := by rw [hm, nat_stripL]
   have hdig : pad (2 ^ 32) ((n + 3) / 4) (nat m) = digs (2 ^ 32) (nat m) := by
     have hpw : ∀ k : Nat, ((2 : Nat) ^ 32) ^ k = 256 ^ (4 * k) := fun k => by rw [show (256 : Nat) = 2 ^ 8 by rfl, ← Nat.pow_mul, ← Nat.pow_mul]; congr 1; omega
     refine pad_digs (by decide) ?_ ?_
     · rw [hpw]
       exact Nat.lt_of_lt_of_le (nat_lt m) (Nat.pow_le_pow_right (by decide) (by omega))
     · rcases Nat.eq_zero_or_pos n with h0 | h0
       · left; omega
       · right
         rw [hpw]
         have hh : m.head? ≠ some 0 := by rw [hm]; exact stripL_head l
         rcases m with _ | ⟨y, r⟩
         · simp at hn; omega
         · have hy : 0 < y.toNat := by
             rcases Nat.eq_zero_or_pos y.toNat with h1 | h1
             · exact absurd (by rw [UInt8.toNat_inj.1 (show y.toNat = (0 : UInt8).toNat from h1)]; rfl) hh
             · exact h1
           rw [nat_cons]
           simp only [List.length_cons] at hn
           have h2 : 256 ^ (4 * ((n + 3) / 4 - 1)) ≤ 256 ^ r.length := Nat.pow_le_pow_right (by decide) (by omega)
           have h3 : 1 * 256 ^ r.length ≤ y.toNat * 256 ^ r.length := Nat.mul_le_mul_right _ hy
           omega
   have hlen : (n + 3) / 4 = (digs (2 ^ 32) (nat m)).length := by rw [← hdig, pad_length]
   rw [hi', Nat.sub_self, List.drop_zero, hdig, ← hnm, ← hlen]
end Go.Sx
end
section
set_option maxRecDepth 10000
namespace Go.Sx
open Go Go.Proofs
def cmpN (x y : Nat) : Int := if x < y then -1 else if y < x then 1 else 0
theorem lv_drop_lt {B : Nat} (hB : 0 < B) {a b : List Nat} {k x y : Nat} (ha : ∀ z ∈ a, z < B) (hlen : a.length = b.length) (hx : a[k]? = some x) (hy : b[k]? = some y) (hd : a.drop (k + 1) = b.drop (k + 1)) (hxy : x < y) : lv B a < lv B b := by
 obtain ⟨hka, rfl⟩ := List.getElem?_eq_some_iff.1 hx
 obtain ⟨hkb, rfl⟩ := List.getElem?_eq_some_iff.1 hy
 have h1 : lv B a = lv B (a.take k) + B ^ k * (a[k] + B * lv B (a.drop (k + 1))) := by
   conv => lhs; rw [← List.take_append_drop k a, List.drop_eq_getElem_cons hka]
   rw [lv_append, List.length_take, Nat.min_eq_left (by omega)]; rfl
 have h2 : lv B b = lv B (b.take k) + B ^ k * (b[k] + B * lv B (b.drop (k + 1))) := by
   conv => lhs; rw [← List.take_append_drop k b, List.drop_eq_getElem_cons hkb]
   rw [lv_append, List.length_take, Nat.min_eq_left (by omega)]; rfl
 have h3 : lv B (a.take k) < B ^ k := by
   have := lv_lt hB (a.take k) (fun z hz => ha z (List.mem_of_mem_take hz))
   rwa [List.length_take, Nat.min_eq_left (by omega)] at this
 rw [h1, h2, hd]
 have h4 : B ^ k * (a[k] + B * lv B (b.drop (k + 1)) + 1) ≤ B ^ k * (b[k] + B * lv B (b.drop (k + 1))) := Nat.mul_le_mul_left _ (by omega)
 rw [Nat.mul_add, Nat.mul_one] at h4
 omega
theorem c_compare (x y : Nat) (A B : Option Addr) (c d : Nat) (hx : (digs (2 ^ 32) x).length ≤ 1000000000000) (hy : (digs (2 ^ 32) y).length ≤ 1000000000000) :
   FnM PP f_bigint_limbs_compare [.slice A (digs (2 ^ 32) x).length c, .slice B (digs (2 ^ 32) y).length d] (facts [SlRes A (u32V (digs (2 ^ 32) x)), SlRes B (u32V (digs (2 ^ 32) y))]) (retsV (.int .i64 (cmpN x y))) := by
 obtain ⟨a, ha⟩ : ∃ a, a = digs (2 ^ 32) x := ⟨_, rfl⟩
 obtain ⟨b, hb⟩ : ∃ b, b = digs (2 ^ 32) y := ⟨_, rfl⟩
 rw [← ha, ← hb]
 rw [← ha] at hx
 rw [← hb] at hy
 have hlva : lv (2 ^ 32) a = x := by rw [ha, lv_digs (by decide)]
 have hlvb : lv (2 ^ 32) b = y := by rw [hb, lv_digs (by decide)]
 have hal : ∀ z ∈ a, z < 2 ^ 32 := by rw [ha]; exact digs_lt (by decide) x
 have hbl : ∀ z ∈ b, z < 2 ^ 32 := by rw [hb]; exact digs_lt (by decide) y
 have hshort : ∀ {u v : Nat}, (digs (2 ^ 32) u).length < (digs (2 ^ 32) v).length → u < v := by
   intro u v h
   rcases Nat.lt_or_ge u v with h1 | h1
   · exact h1
   · have h2 : v < (2 ^ 32) ^ (digs (2 ^ 32) u).length := Nat.lt_of_le_of_lt h1 (le_of_digs_length (by decide))
     have := digs_length_le (by decide) h2
     omega
 refine FnS.of TBgood mixed h_bigint_limbs_compare rfl rfl (Nat.le_of_ble_eq_true rfl) (by simp [SlRes.ok]) ?_
 intro w hw
 conv => whnf
 refine br_split ?_ ?_
 · intro h
   have hne : a.length ≠ b.length := by
     have : ¬ ((a.length : Int) = (b.length : Int)) := by simpa using h
     omega
   conv => whnf
   refine br_split ?_ ?_
   · intro h2
     have hlt : a.length < b.length := by simpa using h2
     conv => whnf
     refine postV_one ?_
     rw [ha, hb] at hlt
     rw [cmpN, if_pos (hshort hlt)]
   · intro h2
     have hlt : ¬ a.length < b.length := by simpa using h2
     conv => whnf
     refine postV_one ?_
     have : b.length < a.length := by omega
     rw [ha, hb] at this
     have := hshort this
     rw [cmpN, if_neg (by omega), if_pos this]
 · intro h
   have hlen : a.length = b.length := by
     have : (a.length : Int) = (b.length : Int) := by simpa using h
     omega
   have hwr : IntKind.i64.wrap ((a.length : Int) - 1) = (a.length : Int) - 1 := wrap_i64 (by omega) (by omega)
   conv => whnf
   refine sexec_loop (ι := Nat) (fun k => ⟨[(0, .o (.v (.slice A a.length c))), (1, .o (.v (.slice B b.length d))), (5, .o (.v (.int .i64 ((k : Int) - 1))))], [], [SlRes A (u32V a), SlRes B (u32V b)]⟩) (fun k => k ≤ a.length ∧ a.drop k = b.drop k) (fun k => k) a.length
     ⟨Nat.le_refl _, by rw [List.drop_length, hlen, List.drop_length]⟩ (SLe.id ⟨rfl, rfl, congrArg (fun z => some (SV.o (.v (.int .i64 z)))) hwr, trivial⟩ trivial (fun R hR => hR)) ?_
   rintro k ⟨hk, hdr⟩
   conv => whnf
   refine br_split ?_ ?_
   · intro h2
     have hk0 : 0 < k := by have : (0 : Int) ≤ (k : Int) - 1 := by simpa using h2
                            omega
     have hA : A.isSome = true := slres_some (facts_two hw).1 (by rw [u32V_length]; omega)
     have hB : B.isSome = true := slres_some (facts_two hw).2 (by rw [u32V_length]; omega)
     have hkn : ((k : Int) - 1).toNat = k - 1 := by omega
     conv => whnf
     refine DrawVC.quiet (by kernel_rfl) ?_
     conv => whnf
     refine ⟨⟨by omega, by omega, hA⟩, ?_⟩
     conv => whnf
     refine LoadVC.elem u32c u32c_len (List.mem_cons_self ..) rfl (by omega) (by decide) (fun _ => rfl) ?_
     intro u hu
     conv => whnf
     refine ⟨⟨by omega, by omega, hB⟩, ?_⟩
     conv => whnf
     refine LoadVC.elem u32c u32c_len (List.mem_cons_of_mem _ (List.mem_singleton.2 rfl)) rfl (by omega) (by decide) (fun _ => rfl) ?_
     intro v hv
     rw [hkn] at hu hv
     have hdr' : a.drop (k - 1 + 1) = b.drop (k - 1 + 1) := by rw [show k - 1 + 1 = k by omega]; exact hdr
     conv => whnf
     refine br_split ?_ ?_
     · intro h3
       have huv : u < v := by simpa using h3
       conv => whnf
       refine postV_one ?_
       have := lv_drop_lt (by decide) hal hlen hu hv hdr' huv
       rw [hlva, hlvb] at this
       rw [cmpN, if_pos this]
     · intro h3
       have huv : ¬ u < v := by simpa using h3
       conv => whnf
       refine DrawVC.quiet (by kernel_rfl) ?_
       conv => whnf
       refine ⟨⟨by omega, by omega, hA⟩, ?_⟩
       conv => whnf
       refine LoadVC.elem u32c u32c_len (List.mem_cons_self ..) rfl (by omega) (by decide) (fun _ => rfl) ?_
       intro u' hu'
       rw [hkn] at hu'
       have hu2 : u' = u := by rw [hu] at hu'; exact (Option.some.inj hu').symm
       subst hu2
       conv => whnf
       refine ⟨⟨by omega, by omega, hB⟩, ?_⟩
       conv => whnf
       refine LoadVC.elem u32c u32c_len (List.mem_cons_of_mem _ (List.mem_singleton.2 rfl)) rfl (by omega) (by decide) (fun _ => rfl) ?_
       intro v' hv'
       rw [hkn] at hv'
       have hv2 : v' = v := by rw [hv] at hv'; exact (Option.some.inj hv').symm
       subst hv2
       conv => whnf
       refine br_split ?_ ?_
       · intro h4
         have huv2 : v' < u' := by simpa using h4
         conv => whnf
         refine postV_one ?_
         have := lv_drop_lt (by decide) hbl hlen.symm hv hu hdr'.symm huv2
         rw [hlva, hlvb] at this
         rw [cmpN, if_neg (by omega), if_pos this]
       · intro h4
         have huv2 : ¬ v' < u' := by simpa using h4
         have e : u' = v' := by omega
         conv => whnf
         refine ⟨k - 1, ⟨by omega, ?_⟩, by omega, ?_⟩
         · obtain ⟨h5, h6⟩ := List.getElem?_eq_some_iff.1 hu
           obtain ⟨h7, h8⟩ := List.getElem?_eq_some_iff.1 hv
           rw [List.drop_eq_getElem_cons h5, List.drop_eq_getElem_cons h7, h6, h8, hdr', e]
         · refine SLe.id ⟨rfl, rfl, ?_, trivial⟩ trivial (fun R hR => hR)
           show some (SV.o (.v (.int _ (IntKind.i64.wrap ((k : Int) - 1 - 1))))) = _
           rw [wrap_i64 (by omega) (by omega)]
           simp only [SV.ren, AV.ren]
           congr 4; omega
   · intro h2
     have hk0 : k = 0 := by have : ¬ (0 : Int) ≤ (k : Int) - 1 := by simpa using h2
                            omega
     subst hk0
     conv => whnf
     refine postV_one ?_
     simp only [List.drop_zero] at hdr
     have : x = y := by rw [← hlva, ← hlvb, hdr]
     rw [cmpN, if_neg (by omega), if_neg (by omega)]
end Go.Sx
end
section
set_option maxRecDepth 10000
namespace Go.Sx
open Go Go.Proofs
def u8c (b : UInt8) : List Value := [.int .u8 (b.toNat : Int)]
theorem u8c_len (b : UInt8) : (u8c b).length = 1 := rfl
theorem rowV_u8 : ∀ l : List UInt8, rowV u8c l = bytV l
 | [] => rfl
 | x :: l => by rw [rowV, rowV_u8 l]; rfl
theorem nat_append (a b : List UInt8) : nat (a ++ b) = nat a * 256 ^ b.length + nat b := by
 induction a with
 | nil => simp [nat_nil]
 | cons x a ih =>
   rw [List.cons_append, nat_cons, nat_cons, ih, List.length_append, Nat.pow_add]
   rw [Nat.add_mul, Nat.mul_assoc]; omega
def be4 (x : Nat) : List UInt8 := [UInt8.ofNat (x / 2 ^ 24), UInt8.ofNat (x / 2 ^ 16), UInt8.ofNat (x / 2 ^ 8), UInt8.ofNat x]
theorem nat_be4 {x : Nat} (hx : x < 2 ^ 32) : nat (be4 x) = x := by
 simp only [be4, nat_cons, List.length_cons, List.length_nil, nat_nil, UInt8.toNat_ofNat']
 omega
def be (l : List Nat) : List UInt8 := l.reverse.flatMap be4
theorem nat_be : ∀ l : List Nat, (∀ x ∈ l, x < 2 ^ 32) → nat (be l) = lv (2 ^ 32) l
 | [], _ => rfl
 | x :: l, h => by
   have ih := nat_be l (fun y hy => h y (List.mem_cons_of_mem _ hy))
   rw [be] at ih ⊢
   rw [List.reverse_cons, List.flatMap_append, nat_append, ih, List.flatMap_cons, List.flatMap_nil, List.append_nil, nat_be4 (h x (by simp)), lv]
   simp only [be4, List.length_cons, List.length_nil]
   omega
theorem be_length (l : List Nat) : (be l).length = 4 * l.length := by
 rw [be]
 have : ∀ r : List Nat, (r.flatMap be4).length = 4 * r.length := by
   intro r
   induction r with
   | nil => rfl
   | cons x r ih => rw [List.flatMap_cons, List.length_append, ih]; simp [be4]; omega
 rw [this, List.length_reverse]
theorem be_cons (x : Nat) (l : List Nat) : be (x :: l) = be l ++ be4 x := by simp [be]
theorem u8_shift (x k : Nat) (hx : x < 2 ^ 32) : IntKind.u8.wrap ((x : Int).fdiv (2 ^ k)) = ((UInt8.ofNat (x / 2 ^ k)).toNat : Int) := by
 have h2 : ((2 : Int) ^ k) = ((2 ^ k : Nat) : Int) := by rw [Int.natCast_pow]; rfl
 rw [IntKind.wrap_u8, UInt8.toNat_ofNat', h2, Int.fdiv_eq_ediv_of_nonneg _ (Int.natCast_nonneg _)]
 have : ((x : Int) / ((2 ^ k : Nat) : Int)) = ((x / 2 ^ k : Nat) : Int) := rfl
 rw [this]; omega
theorem u8_low (x : Nat) : IntKind.u8.wrap (x : Int) = ((UInt8.ofNat x).toNat : Int) := by
 rw [IntKind.wrap_u8, UInt8.toNat_ofNat']; omega

theorem c_store (A : Option Addr) (c : Nat) (l : List Nat) (hl : ∀ x ∈ l, x < 2 ^ 32) (hlen : l.length ≤ 1000000000000) : FnM PP f_bigint_limbs_store [.slice A l.length c] (facts [SlRes A (u32V l)]) (retsV (.string (bs (bytes (lv (2 ^ 32) l))))) := by
 refine FnS.of TBgood mixed h_bigint_limbs_store rfl rfl (Nat.le_of_ble_eq_true rfl) (by simp [SlRes.ok]) ?_
 intro w hw
 have hwr : IntKind.i64.wrap ((l.length : Int) - 1) = (l.length : Int) - 1 := wrap_i64 (by omega) (by omega)
 conv => whnf
 refine sexec_loop (ι := Nat) (fun k => ⟨[(0, .o (.v (.slice A l.length c))), (3, .o (.w 100)), (4, .o (.v (.int .i64 ((k : Int) - 1))))], [(100, .own t_uint8 1 (4 * (l.length - k)) (rowV u8c (be (l.drop k))))], [SlRes A (u32V l)]⟩) (fun k => k ≤ l.length) (fun k => k) l.length (Nat.le_refl _)
   ((SLe.nil 3 100 t_uint8 1 rfl rfl).trans (SLe.id ⟨rfl, rfl, congrArg (fun z => some (SV.o (.v (.int .i64 z)))) hwr, trivial⟩ ⟨⟨_, rfl, ?_⟩, trivial⟩ (fun R hR => hR))) ?_
 · rw [Nat.sub_self, List.drop_length]; exact .refl _
 intro k hk
 conv => whnf
 refine br_split ?_ ?_
 · intro h
   have hk0 : 0 < k := by have : (0 : Int) ≤ (k : Int) - 1 := by simpa using h
                          omega
   have hA : A.isSome = true := slres_some (facts_one hw) (by rw [u32V_length]; omega)
   have hkn : ((k : Int) - 1).toNat = k - 1 := by omega
   have hget : l[k - 1]? = some l[k - 1] := List.getElem?_eq_getElem (by omega)
   conv => whnf
   refine DrawVC.quiet (by kernel_rfl) ?_
   conv => whnf
   refine ⟨⟨by omega, by omega, hA⟩, ?_⟩
   conv => whnf
   refine LoadVC.elem u32c u32c_len (List.mem_singleton.2 rfl) rfl (by omega) (by decide) (fun _ => rfl) ?_
   rw [hkn]
   intro x hx
   conv => whnf
   refine ⟨by decide, ?_⟩
   conv => whnf
   refine ⟨⟨by omega, by omega, hA⟩, ?_⟩
   conv => whnf
   refine LoadVC.elem u32c u32c_len (List.mem_singleton.2 rfl) rfl (by omega) (by decide) (fun _ => rfl) ?_
   rw [hkn]
   intro x2 hx2
   obtain rfl : x2 = x := by rw [hx] at hx2; exact (Option.some.inj hx2).symm
   conv => whnf
   refine ⟨by decide, ?_⟩
   conv => whnf
   refine ⟨⟨by omega, by omega, hA⟩, ?_⟩
   conv => whnf
   refine LoadVC.elem u32c u32c_len (List.mem_singleton.2 rfl) rfl (by omega) (by decide) (fun _ => rfl) ?_
   rw [hkn]
   intro x3 hx3
   obtain rfl : x3 = x2 := by rw [hx] at hx3; exact (Option.some.inj hx3).symm
   conv => whnf
   refine ⟨by decide, ?_⟩
   conv => whnf
   refine ⟨⟨by omega, by omega, hA⟩, ?_⟩
   conv => whnf
   refine LoadVC.elem u32c u32c_len (List.mem_singleton.2 rfl) rfl (by omega) (by decide) (fun _ => rfl) ?_
   rw [hkn]
   intro x4 hx4
   obtain rfl : x4 = x3 := by rw [hx] at hx4; exact (Option.some.inj hx4).symm
   have hxb : x4 < 2 ^ 32 := hl x4 (List.mem_of_getElem? hx)
   conv => whnf
   refine ⟨⟨by omega, by show _ * 1 ≤ _; omega⟩, ?_⟩
   conv => whnf
   refine ⟨k - 1, by omega, by omega, ?_⟩
   refine SLe.mk (fun _ => 37) ⟨rfl, rfl, ?_, trivial⟩ ⟨⟨_, rfl, ?_⟩, trivial⟩ rfl (fun R hR => hR)
   · show some (SV.o (.v (.int _ (IntKind.i64.wrap ((k : Int) - 1 - 1))))) = _
     rw [wrap_i64 (by omega) (by omega)]
     simp only [SV.ren, AV.ren]
     congr 4; omega
   · have hle : be (l.drop (k - 1)) = be (l.drop k) ++ be4 x4 := by
       rw [List.drop_eq_getElem_cons (show k - 1 < l.length by omega), be_cons, show k - 1 + 1 = k by omega]
       congr 2
       rw [hget] at hx; exact Option.some.inj hx
     show MEle (ME.own _ _ (4 * (l.length - k) + 4) (app (rowV u8c (be (l.drop k))) [Value.int _ (IntKind.u8.wrap ((x4 : Int).fdiv (2 ^ 24))), Value.int _ (IntKind.u8.wrap ((x4 : Int).fdiv (2 ^ 16))), Value.int _ (IntKind.u8.wrap ((x4 : Int).fdiv (2 ^ 8))), Value.int _ (IntKind.u8.wrap (x4 : Int))])) (ME.own _ _ (4 * (l.length - (k - 1))) (rowV u8c (be (l.drop (k - 1)))))
     rw [u8_shift x4 24 hxb, u8_shift x4 16 hxb, u8_shift x4 8 hxb, u8_low, app_eq, hle, rowV_append, show 4 * (l.length - k) + 4 = 4 * (l.length - (k - 1)) by omega]
     exact .refl _
 · intro h
   have hk0 : k = 0 := by have : ¬ (0 : Int) ≤ (k : Int) - 1 := by simpa using h
                          omega
   subst hk0
   conv => whnf
   refine ⟨be l, ?_, ?_, ?_⟩
   · rw [be_length]; omega
   · rw [List.drop_zero, ← rowV_u8, List.take_of_length_le]
     rw [rowV_length u8c_len, be_length]; omega
   · conv => whnf
     refine CallVC.fn (c_strip (be l)) rfl ?_
     conv => whnf
     refine postV_one ?_
     rw [stripL_eq, nat_be l hl]
end Go.Sx
end
section
set_option maxRecDepth 10000
namespace Go.Sx
open Go Go.Proofs
abbrev intV (neg : Bool) (mag : ByteArray) : Value := .agg ⟨[.bool neg, .string mag]⟩
abbrev zV (z : Int) : Value := intV (decide (z < 0)) (bs (bytes z.natAbs))
theorem bytes_empty (n : Nat) : ((bs (bytes n)).toList == (⟨#[]⟩ : ByteArray).toList) = decide (n = 0) := by
 rw [bs_toList, ByteArray.toList_eq]
 rcases Nat.eq_zero_or_pos n with rfl | h
 · rw [bytes_zero]; rfl
 · have : bytes n ≠ [] := fun e => by have := bytes_nil.1 e; omega
   have h2 : (bytes n == []) = false := by
     cases hb : bytes n with
     | nil => exact absurd hb this
     | cons x r => rfl
   rw [show (⟨#[]⟩ : ByteArray).data.toList = [] from rfl, h2]
   simp; omega
theorem c_pack (neg : Bool) (A : Option Addr) (c : Nat) (l : List Nat) (hl : ∀ x ∈ l, x < 2 ^ 32) (hc : l.length ≤ c) (hlen : l.length ≤ 1000000000000) : FnM PP f_bigint_pack [.bool neg, .slice A l.length c] (facts [SlRes A (u32V l)]) (retsV (zV (if neg then -(lv (2 ^ 32) l : Int) else lv (2 ^ 32) l))) := by
 refine FnS.of TBgood mixed h_bigint_pack rfl rfl (Nat.le_of_ble_eq_true rfl) (by simp [SlRes.ok]) ?_
 intro w hw
 have htl : (u32V l).take (tr l).length = u32V (tr l) := by
   have := rowV_take (f := u32c) u32c_len (tr l).length l
   rw [Nat.mul_one, tr_take] at this
   exact this
 have htr : lv (2 ^ 32) (tr l) = lv (2 ^ 32) l := by rw [tr_eq (by decide) hl, lv_digs (by decide)]
 have htb : ∀ x ∈ tr l, x < 2 ^ 32 := by rw [tr_eq (by decide) hl]; exact digs_lt (by decide) _
 conv => whnf
 refine CallVC.cutR (k := (tr l).length) (c_trim A c l hc hlen) (List.mem_singleton.2 rfl) ?_ rfl
 rw [htl]
 conv => whnf
 have hcs := c_store A c (tr l) htb (Nat.le_trans (tr_length l) hlen)
 refine CallVC.v hcs.enters (CallV.facts hcs rfl (by intro R hR; rw [List.mem_singleton] at hR; subst hR; exact List.mem_cons_self ..)) ?_
 rw [htr]
 cases neg
 · conv => whnf
   refine postV_one ?_
   rw [if_neg (by decide)]
   have h1 : decide ((lv (2 ^ 32) l : Int) < 0) = false := by simp
   simp only [zV, intV]
   rw [h1, Int.natAbs_natCast]
 · conv => whnf
   refine postV_one ?_
   rw [if_pos rfl, bytes_empty]
   simp only [zV, intV]
   rw [Int.natAbs_neg, Int.natAbs_natCast]
   have h1 : decide (-(lv (2 ^ 32) l : Int) < 0) = (!decide (lv (2 ^ 32) l = 0)) := by
     by_cases h : lv (2 ^ 32) l = 0
     · simp [h]
     · rw [decide_eq_true (show -(lv (2 ^ 32) l : Int) < 0 by omega), decide_eq_false h]; rfl
   rw [h1]
theorem c_Of (n : Int) (h1 : -9223372036854775808 ≤ n) (h2 : n ≤ 9223372036854775807) : Fn PP f_bigint_Of [.int .i64 n] (zV n) := by
 refine Fn.of TBgood mixed h_bigint_Of rfl rfl (Nat.le_of_ble_eq_true rfl) ?_
 intro w
 have key : ∀ (u : Nat) (neg : Bool), u < 2 ^ 64 → ∀ (A : Option Addr) (c : Nat), 2 ≤ c → FnM PP f_bigint_pack [.bool neg, .slice A 2 c] (facts [SlRes A [.int .u32 ((u % 2 ^ 32 : Nat) : Int), .int .u32 ((u / 2 ^ 32 : Nat) : Int)]]) (retsV (zV (if neg then -(u : Int) else u))) := by
   intro u neg hu A c hc
   have := c_pack neg A c [u % 2 ^ 32, u / 2 ^ 32] (by intro x hx; simp at hx; omega) hc (by simp)
   have he : lv (2 ^ 32) [u % 2 ^ 32, u / 2 ^ 32] = u := by simp only [lv]; omega
   rw [he] at this
   exact this
 have hlo : ∀ u : Nat, u < 2 ^ 64 → IntKind.u32.wrap (u : Int) = ((u % 2 ^ 32 : Nat) : Int) := fun u hu => by rw [IntKind.wrap_u32]; omega
 have hhi : ∀ u : Nat, u < 2 ^ 64 → IntKind.u32.wrap ((u : Int).fdiv (2 ^ min (32 : Int).toNat IntKind.u64.bits)) = ((u / 2 ^ 32 : Nat) : Int) := fun u hu => by
   rw [IntKind.wrap_u32, show min (32 : Int).toNat IntKind.u64.bits = 32 from rfl, Int.fdiv_eq_ediv_of_nonneg _ (by decide)]; omega
 conv => whnf
 refine br_split ?_ ?_
 · intro h
   have hn : n < 0 := by simpa using h
   obtain ⟨u, hu⟩ : ∃ u : Nat, (u : Int) = -n := ⟨(-n).toNat, by omega⟩
   have hu2 : u < 2 ^ 64 := by omega
   have hwu : IntKind.u64.wrap (0 - IntKind.u64.wrap n) = (u : Int) := by rw [IntKind.wrap_u64, IntKind.wrap_u64]; omega
   conv => whnf
   refine ⟨by decide, ?_⟩
   conv => whnf
   have hk := key u true hu2
   rw [if_pos rfl, show -(u : Int) = n by omega] at hk
   refine CallVC.v (r := zV n) (hk none 2 (Nat.le_refl _)).enters (CallV.sl1 (x := .o (.s 17 0 2 2)) (fun v => [.bool true, v]) (RdA.box rfl (Nat.le_refl _)) (List.mem_cons_of_mem _ (List.mem_cons_self ..)) ?_ ?_) ?_
   · intro E
     show [Value.bool (decide (n < 0)), _] = _
     rw [decide_eq_true hn]; rfl
   · rw [hwu, hlo u hu2, hhi u hu2]
     exact hk
   · conv => whnf
     exact postV_one rfl
 · intro h
   have hn : ¬ n < 0 := by simpa using h
   obtain ⟨u, hu⟩ : ∃ u : Nat, (u : Int) = n := ⟨n.toNat, by omega⟩
   have hu2 : u < 2 ^ 64 := by omega
   have hwu : IntKind.u64.wrap n = (u : Int) := by rw [IntKind.wrap_u64]; omega
   conv => whnf
   refine ⟨by decide, ?_⟩
   conv => whnf
   have hk := key u false hu2
   rw [if_neg (by decide), hu] at hk
   refine CallVC.v (r := zV n) (hk none 2 (Nat.le_refl _)).enters (CallV.sl1 (x := .o (.s 17 0 2 2)) (fun v => [.bool false, v]) (RdA.box rfl (Nat.le_refl _)) (List.mem_cons_of_mem _ (List.mem_cons_self ..)) ?_ ?_) ?_
   · intro E
     show [Value.bool (decide (n < 0)), _] = _
     rw [decide_eq_false hn]; rfl
   · rw [hwu, hlo u hu2, hhi u hu2]
     exact hk
   · conv => whnf
     exact postV_one rfl
end Go.Sx
end
section
set_option maxRecDepth 10000
namespace Go.Sx
open Go Go.Proofs
theorem lv_snoc (B : Nat) (l : List Nat) (x : Nat) : lv B (l ++ [x]) = lv B l + B ^ l.length * x := by rw [lv_append]; simp [lv]
theorem lv_take_succ {B i x : Nat} {l : List Nat} (h : l[i]? = some x) : lv B (l.take (i + 1)) = lv B (l.take i) + B ^ i * x := by
 obtain ⟨hi, rfl⟩ := List.getElem?_eq_some_iff.1 h
 rw [List.take_add_one, List.getElem?_eq_getElem hi]
 simp only [Option.toList_some]
 rw [lv_snoc, List.length_take, Nat.min_eq_left (by omega)]
theorem take_past {α : Type} {i : Nat} {l : List α} (h : l.length ≤ i) : l.take (i + 1) = l.take i := by rw [List.take_of_length_le (by omega), List.take_of_length_le h]
theorem plus_step {B i cy x y : Nat} {a b o : List Nat} (hB : 0 < B) (ho : o.length = i) (hv : lv B o + B ^ i * cy = lv B (a.take i) + lv B (b.take i)) (hx : a[i]? = some x) (hy : b[i]? = some y ∨ (b.length ≤ i ∧ y = 0)) :
   lv B (o ++ [(cy + x + y) % B]) + B ^ (i + 1) * ((cy + x + y) / B) = lv B (a.take (i + 1)) + lv B (b.take (i + 1)) := by
 have h1 := lv_take_succ (B := B) hx
 have h2 : lv B (b.take (i + 1)) = lv B (b.take i) + B ^ i * y := by
   rcases hy with h | ⟨h, rfl⟩
   · exact lv_take_succ h
   · rw [take_past h]; omega
 rw [h1, h2, lv_snoc, ho, Nat.pow_succ, Nat.mul_assoc]
 have h3 : B ^ i * ((cy + x + y) % B) + B ^ i * (B * ((cy + x + y) / B)) = B ^ i * (cy + x + y) := by
   rw [← Nat.mul_add, Nat.mod_add_div]
 rw [Nat.mul_add, Nat.mul_add] at h3
 omega

theorem c_plus (A B : Option Addr) (c d : Nat) (a b : List Nat) (ha : ∀ x ∈ a, x < 2 ^ 32) (hb : ∀ x ∈ b, x < 2 ^ 32) (hla : a.length ≤ 100000000000) (hlb : b.length ≤ 100000000000) :
   FnM PP f_bigint_limbs_plus [.slice A a.length c, .slice B b.length d] (facts [SlRes A (u32V a), SlRes B (u32V b)]) (retsO t_uint32 1 (digs (2 ^ 32) (lv (2 ^ 32) a + lv (2 ^ 32) b)).length (u32V (digs (2 ^ 32) (lv (2 ^ 32) a + lv (2 ^ 32) b)))) := by
 refine FnO.of TBgood mixed h_bigint_limbs_plus rfl rfl (Nat.le_of_ble_eq_true rfl) (by simp [SlRes.ok]) ?_
 intro w hw
 obtain ⟨re, hre⟩ : ∃ re, re = [SlRes A (u32V a), SlRes B (u32V b)] := ⟨_, rfl⟩
 have hmA : SlRes A (u32V a) ∈ re := by rw [hre]; simp
 have hmB : SlRes B (u32V b) ∈ re := by rw [hre]; simp
 have hfA : SlF A (u32V a) w := (facts_two hw).1
 have hfB : SlF B (u32V b) w := (facts_two hw).2
 obtain ⟨s, hs⟩ : ∃ s, s = lv (2 ^ 32) a + lv (2 ^ 32) b := ⟨_, rfl⟩
 rw [← hre, ← hs]
 clear hre hw
 conv => whnf
 refine br_split ?_ ?_
 · intro h
   obtain ⟨A1, a1, c1, B1, b1, d1, eA, ea, ec, eB, eb, ed⟩ : ∃ A1 a1 c1 B1 b1 d1, A1 = B ∧ a1 = b ∧ c1 = d ∧ B1 = A ∧ b1 = a ∧ d1 = c := ⟨_, _, _, _, _, _, rfl, rfl, rfl, rfl, rfl, rfl⟩
   have hlen : b1.length ≤ a1.length := by
     have : (a.length : Int) < b.length := by simpa using h
     rw [ea, eb]; omega
   have hs1 : s = lv (2 ^ 32) a1 + lv (2 ^ 32) b1 := by rw [hs, ea, eb, Nat.add_comm]
   have ha1 : ∀ x ∈ a1, x < 2 ^ 32 := ea ▸ hb
   have hb1 : ∀ x ∈ b1, x < 2 ^ 32 := eb ▸ ha
   have hla1 : a1.length ≤ 100000000000 := ea ▸ hlb
   have hmA1 : SlRes A1 (u32V a1) ∈ re := by rw [eA, ea]; exact hmB
   have hmB1 : SlRes B1 (u32V b1) ∈ re := by rw [eB, eb]; exact hmA
   have hfA1 : SlF A1 (u32V a1) w := by rw [eA, ea]; exact hfB
   have hfB1 : SlF B1 (u32V b1) w := by rw [eB, eb]; exact hfA
   conv => whnf
   rw [← eA, ← ea, ← ec, ← eB, ← eb, ← ed]
   clear hs hmA hmB hfA hfB ha hb hla hlb
   have hcap : IntKind.i64.wrap ((a1.length : Int) + 1) = ((a1.length + 1 : Nat) : Int) := by rw [wrap_i64 (by omega) (by omega)]; omega
   refine ⟨by rw [hcap]; refine ⟨by decide, by omega, ?_, by omega⟩; show (4 : Int) * _ ≤ _; omega, ?_⟩
   conv => whnf
   refine sexec_loop (ι := List Nat × Nat) (fun ⟨o, cy⟩ => ⟨[(0, .o (.v (.slice A1 a1.length c1))), (1, .o (.v (.slice B1 b1.length d1))), (5, .o (.w 100)), (6, .o (.v (.int .u64 cy))), (20, .o (.v (.slice A1 a1.length c1))), (21, .o (.v (.int .i64 a1.length))), (22, .o (.v (.int .i64 o.length)))], [(100, .own t_uint32 1 o.length (u32V o))], re⟩)
     (fun ⟨o, cy⟩ => o.length ≤ a1.length ∧ cy ≤ 1 ∧ (∀ x ∈ o, x < 2 ^ 32) ∧ lv (2 ^ 32) o + (2 ^ 32) ^ o.length * cy = lv (2 ^ 32) (a1.take o.length) + lv (2 ^ 32) (b1.take o.length)) (fun ⟨o, cy⟩ => a1.length - o.length) ([], 0)
     ⟨Nat.zero_le _, Nat.zero_le _, (fun _ h => by cases h), rfl⟩ (SLe.mk (fun _ => 19) ⟨rfl, rfl, rfl, rfl, rfl, rfl, rfl, trivial⟩ ⟨⟨_, rfl, .refl _⟩, trivial⟩ rfl (fun R hR => hR)) ?_
   rintro ⟨o, cy⟩ ⟨ho, hcy, hob, hinv⟩
   conv => whnf
   refine br_split ?_ ?_
   · intro h
     have hi : o.length < a1.length := by have : (o.length : Int) < a1.length := by simpa using h
                                          omega
     have hA : A1.isSome = true := slres_some hfA1 (by rw [u32V_length]; omega)
     conv => whnf
     refine ⟨⟨by omega, by omega, hA⟩, ?_⟩
     conv => whnf
     refine LoadVC.elem u32c u32c_len hmA1 rfl (by rw [Int.toNat_natCast]; exact hi) (by decide) (fun _ => rfl) ?_
     rw [Int.toNat_natCast]
     intro x hx
     have hxb : x < 2 ^ 32 := ha1 x (List.mem_of_getElem? hx)
     have hc1 : IntKind.u64.wrap ((cy : Int) + IntKind.u64.wrap (x : Int)) = ((cy + x : Nat) : Int) := by rw [IntKind.wrap_u64, IntKind.wrap_u64]; omega
     conv => whnf
     refine br_split ?_ ?_
     · intro h2
       have hi2 : o.length < b1.length := by have : (o.length : Int) < b1.length := by simpa using h2
                                             omega
       have hB : B1.isSome = true := slres_some hfB1 (by rw [u32V_length]; omega)
       conv => whnf
       refine ⟨⟨by omega, by omega, hB⟩, ?_⟩
       conv => whnf
       refine LoadVC.elem u32c u32c_len hmB1 rfl (by rw [Int.toNat_natCast]; exact hi2) (by decide) (fun _ => rfl) ?_
       rw [Int.toNat_natCast]
       intro y hy
       have hyb : y < 2 ^ 32 := hb1 y (List.mem_of_getElem? hy)
       have hc2 : IntKind.u64.wrap (IntKind.u64.wrap ((cy : Int) + IntKind.u64.wrap (x : Int)) + IntKind.u64.wrap (y : Int)) = ((cy + x + y : Nat) : Int) := by rw [hc1, IntKind.wrap_u64, IntKind.wrap_u64]; omega
       conv => whnf
       refine ⟨⟨by omega, by show _ * 4 ≤ _; omega⟩, ?_⟩
       conv => whnf
       refine ⟨by decide, ?_⟩
       conv => whnf
       refine ⟨(o ++ [(cy + x + y) % 2 ^ 32], (cy + x + y) / 2 ^ 32), ⟨?_, ?_, ?_, ?_⟩, ?_, ?_⟩
       · simp; omega
       · show (cy + x + y) / 2 ^ 32 ≤ 1
         omega
       · intro z hz
         rcases List.mem_append.1 hz with hz | hz
         · exact hob z hz
         · rw [List.mem_singleton.1 hz]; exact Nat.mod_lt _ (by decide)
       · show lv (2 ^ 32) (o ++ [(cy + x + y) % 2 ^ 32]) + (2 ^ 32) ^ (o ++ [(cy + x + y) % 2 ^ 32]).length * ((cy + x + y) / 2 ^ 32) = lv (2 ^ 32) (a1.take (o ++ [(cy + x + y) % 2 ^ 32]).length) + lv (2 ^ 32) (b1.take (o ++ [(cy + x + y) % 2 ^ 32]).length)
         rw [List.length_append]
         exact plus_step (by decide) rfl hinv hx (.inl hy)
       · simp; omega
       · refine SLe.mk (fun _ => 46) ⟨rfl, rfl, rfl, ?_, rfl, rfl, ?_, trivial⟩ ⟨⟨_, rfl, ?_⟩, trivial⟩ rfl (fun R hR => hR)
         · show some (SV.o (.v (.int _ (Int.fdiv _ _)))) = some (SV.o (.v (.int _ _)))
           rw [hc2, show min (32 : Int).toNat IntKind.u64.bits = 32 from rfl, Int.fdiv_eq_ediv_of_nonneg _ (by decide)]
           rfl
         · show some (SV.o (.v (.int _ (IntKind.i64.wrap ((o.length : Int) + 1))))) = some (SV.o (.v (.int _ (((o ++ [(cy + x + y) % 2 ^ 32]).length : Nat) : Int))))
           rw [wrap_i64 (by omega) (by omega), List.length_append]; rfl
         · show MEle (ME.own _ _ (o.length + 1) (app (rowV u32c o) [Value.int _ (IntKind.u32.wrap _)])) (ME.own _ _ (o ++ [(cy + x + y) % 2 ^ 32]).length (rowV u32c (o ++ [(cy + x + y) % 2 ^ 32])))
           rw [hc2, app_eq, rowV_append, List.length_append, IntKind.wrap_u32, show ((cy + x + y : Nat) : Int) % 4294967296 = (((cy + x + y) % 2 ^ 32 : Nat) : Int) by omega]
           exact .refl _
     · intro h2
       have hi2 : b1.length ≤ o.length := by have : ¬ (o.length : Int) < b1.length := by simpa using h2
                                             omega
       conv => whnf
       refine ⟨⟨by omega, by show _ * 4 ≤ _; omega⟩, ?_⟩
       conv => whnf
       refine ⟨by decide, ?_⟩
       conv => whnf
       refine ⟨(o ++ [(cy + x) % 2 ^ 32], (cy + x) / 2 ^ 32), ⟨?_, ?_, ?_, ?_⟩, ?_, ?_⟩
       · simp; omega
       · show (cy + x) / 2 ^ 32 ≤ 1
         omega
       · intro z hz
         rcases List.mem_append.1 hz with hz | hz
         · exact hob z hz
         · rw [List.mem_singleton.1 hz]; exact Nat.mod_lt _ (by decide)
       · show lv (2 ^ 32) (o ++ [(cy + x) % 2 ^ 32]) + (2 ^ 32) ^ (o ++ [(cy + x) % 2 ^ 32]).length * ((cy + x) / 2 ^ 32) = lv (2 ^ 32) (a1.take (o ++ [(cy + x) % 2 ^ 32]).length) + lv (2 ^ 32) (b1.take (o ++ [(cy + x) % 2 ^ 32]).length)
         rw [List.length_append]
         exact plus_step (y := 0) (by decide) rfl hinv hx (.inr ⟨hi2, rfl⟩)
       · simp; omega
       · refine SLe.mk (fun _ => 46) ⟨rfl, rfl, rfl, ?_, rfl, rfl, ?_, trivial⟩ ⟨⟨_, rfl, ?_⟩, trivial⟩ rfl (fun R hR => hR)
         · show some (SV.o (.v (.int _ (Int.fdiv _ _)))) = some (SV.o (.v (.int _ _)))
           rw [hc1, show min (32 : Int).toNat IntKind.u64.bits = 32 from rfl, Int.fdiv_eq_ediv_of_nonneg _ (by decide)]
           rfl
         · show some (SV.o (.v (.int _ (IntKind.i64.wrap ((o.length : Int) + 1))))) = some (SV.o (.v (.int _ (((o ++ [(cy + x) % 2 ^ 32]).length : Nat) : Int))))
           rw [wrap_i64 (by omega) (by omega), List.length_append]; rfl
         · show MEle (ME.own _ _ (o.length + 1) (app (rowV u32c o) [Value.int _ (IntKind.u32.wrap _)])) (ME.own _ _ (o ++ [(cy + x) % 2 ^ 32]).length (rowV u32c (o ++ [(cy + x) % 2 ^ 32])))
           rw [hc1, app_eq, rowV_append, List.length_append, IntKind.wrap_u32, show ((cy + x : Nat) : Int) % 4294967296 = (((cy + x) % 2 ^ 32 : Nat) : Int) by omega]
           exact .refl _
   · intro h
     have hi : o.length = a1.length := by have : ¬ (o.length : Int) < a1.length := by simpa using h
                                          omega
     conv => whnf
     refine ⟨⟨by omega, by show _ * 4 ≤ _; omega⟩, ?_⟩
     conv => whnf
     have hrow : app (rowV u32c o) [Value.int .u32 (IntKind.u32.wrap (cy : Int))] = rowV u32c (o ++ [cy]) := by
       rw [app_eq, rowV_append, IntKind.wrap_u32, show (cy : Int) % 4294967296 = (cy : Int) by omega]; rfl
     have hob2 : ∀ x ∈ o ++ [cy], x < 2 ^ 32 := fun z hz => by
       rcases List.mem_append.1 hz with hz | hz
       · exact hob z hz
       · rw [List.mem_singleton.1 hz]; omega
     have hval : lv (2 ^ 32) (o ++ [cy]) = s := by
       rw [lv_snoc, hinv, hi, List.take_length, List.take_of_length_le hlen, hs1]
     have hdig : tr (o ++ [cy]) = digs (2 ^ 32) s := by rw [tr_eq (by decide) hob2, hval]
     refine CallVC.cutO (n' := (tr (o ++ [cy])).length) 55 (fun A c hc => ?_) rfl ?_ rfl rfl ?_ rfl
     · have := c_trim A c (o ++ [cy]) (by rw [List.length_append]; exact hc) (by rw [List.length_append]; simp; omega)
       rw [List.length_append] at this
       rw [hrow]
       exact this
     · have := tr_length (o ++ [cy]); rw [List.length_append] at this; exact this
     · conv => whnf
       refine ⟨55, rfl, ?_⟩
       show some (ME.own t_uint32 1 (tr (o ++ [cy])).length ((app (rowV u32c o) [Value.int .u32 (IntKind.u32.wrap (cy : Int))]).take ((tr (o ++ [cy])).length * 1))) = _
       rw [hrow, rowV_take u32c_len, tr_take, hdig]
 · intro h
   obtain ⟨A1, a1, c1, B1, b1, d1, eA, ea, ec, eB, eb, ed⟩ : ∃ A1 a1 c1 B1 b1 d1, A1 = A ∧ a1 = a ∧ c1 = c ∧ B1 = B ∧ b1 = b ∧ d1 = d := ⟨_, _, _, _, _, _, rfl, rfl, rfl, rfl, rfl, rfl⟩
   have hlen : b1.length ≤ a1.length := by
     have : ¬ (a.length : Int) < b.length := by simpa using h
     rw [ea, eb]; omega
   have hs1 : s = lv (2 ^ 32) a1 + lv (2 ^ 32) b1 := by rw [hs, ea, eb]
   have ha1 : ∀ x ∈ a1, x < 2 ^ 32 := ea ▸ ha
   have hb1 : ∀ x ∈ b1, x < 2 ^ 32 := eb ▸ hb
   have hla1 : a1.length ≤ 100000000000 := ea ▸ hla
   have hmA1 : SlRes A1 (u32V a1) ∈ re := by rw [eA, ea]; exact hmA
   have hmB1 : SlRes B1 (u32V b1) ∈ re := by rw [eB, eb]; exact hmB
   have hfA1 : SlF A1 (u32V a1) w := by rw [eA, ea]; exact hfA
   have hfB1 : SlF B1 (u32V b1) w := by rw [eB, eb]; exact hfB
   conv => whnf
   rw [← eA, ← ea, ← ec, ← eB, ← eb, ← ed]
   clear hs hmA hmB hfA hfB ha hb hla hlb
   have hcap : IntKind.i64.wrap ((a1.length : Int) + 1) = ((a1.length + 1 : Nat) : Int) := by rw [wrap_i64 (by omega) (by omega)]; omega
   refine ⟨by rw [hcap]; refine ⟨by decide, by omega, ?_, by omega⟩; show (4 : Int) * _ ≤ _; omega, ?_⟩
   conv => whnf
   refine sexec_loop (ι := List Nat × Nat) (fun ⟨o, cy⟩ => ⟨[(0, .o (.v (.slice A1 a1.length c1))), (1, .o (.v (.slice B1 b1.length d1))), (5, .o (.w 100)), (6, .o (.v (.int .u64 cy))), (20, .o (.v (.slice A1 a1.length c1))), (21, .o (.v (.int .i64 a1.length))), (22, .o (.v (.int .i64 o.length)))], [(100, .own t_uint32 1 o.length (u32V o))], re⟩)
     (fun ⟨o, cy⟩ => o.length ≤ a1.length ∧ cy ≤ 1 ∧ (∀ x ∈ o, x < 2 ^ 32) ∧ lv (2 ^ 32) o + (2 ^ 32) ^ o.length * cy = lv (2 ^ 32) (a1.take o.length) + lv (2 ^ 32) (b1.take o.length)) (fun ⟨o, cy⟩ => a1.length - o.length) ([], 0)
     ⟨Nat.zero_le _, Nat.zero_le _, (fun _ h => by cases h), rfl⟩ (SLe.mk (fun _ => 19) ⟨rfl, rfl, rfl, rfl, rfl, rfl, rfl, trivial⟩ ⟨⟨_, rfl, .refl _⟩, trivial⟩ rfl (fun R hR => hR)) ?_
   rintro ⟨o, cy⟩ ⟨ho, hcy, hob, hinv⟩
   conv => whnf
   refine br_split ?_ ?_
   · intro h
     have hi : o.length < a1.length := by have : (o.length : Int) < a1.length := by simpa using h
                                          omega
     have hA : A1.isSome = true := slres_some hfA1 (by rw [u32V_length]; omega)
     conv => whnf
     refine ⟨⟨by omega, by omega, hA⟩, ?_⟩
     conv => whnf
     refine LoadVC.elem u32c u32c_len hmA1 rfl (by rw [Int.toNat_natCast]; exact hi) (by decide) (fun _ => rfl) ?_
     rw [Int.toNat_natCast]
     intro x hx
     have hxb : x < 2 ^ 32 := ha1 x (List.mem_of_getElem? hx)
     have hc1 : IntKind.u64.wrap ((cy : Int) + IntKind.u64.wrap (x : Int)) = ((cy + x : Nat) : Int) := by rw [IntKind.wrap_u64, IntKind.wrap_u64]; omega
     conv => whnf
     refine br_split ?_ ?_
     · intro h2
       have hi2 : o.length < b1.length := by have : (o.length : Int) < b1.length := by simpa using h2
                                             omega
       have hB : B1.isSome = true := slres_some hfB1 (by rw [u32V_length]; omega)
       conv => whnf
       refine ⟨⟨by omega, by omega, hB⟩, ?_⟩
       conv => whnf
       refine LoadVC.elem u32c u32c_len hmB1 rfl (by rw [Int.toNat_natCast]; exact hi2) (by decide) (fun _ => rfl) ?_
       rw [Int.toNat_natCast]
       intro y hy
       have hyb : y < 2 ^ 32 := hb1 y (List.mem_of_getElem? hy)
       have hc2 : IntKind.u64.wrap (IntKind.u64.wrap ((cy : Int) + IntKind.u64.wrap (x : Int)) + IntKind.u64.wrap (y : Int)) = ((cy + x + y : Nat) : Int) := by rw [hc1, IntKind.wrap_u64, IntKind.wrap_u64]; omega
       conv => whnf
       refine ⟨⟨by omega, by show _ * 4 ≤ _; omega⟩, ?_⟩
       conv => whnf
       refine ⟨by decide, ?_⟩
       conv => whnf
       refine ⟨(o ++ [(cy + x + y) % 2 ^ 32], (cy + x + y) / 2 ^ 32), ⟨?_, ?_, ?_, ?_⟩, ?_, ?_⟩
       · simp; omega
       · show (cy + x + y) / 2 ^ 32 ≤ 1
         omega
       · intro z hz
         rcases List.mem_append.1 hz with hz | hz
         · exact hob z hz
         · rw [List.mem_singleton.1 hz]; exact Nat.mod_lt _ (by decide)
       · show lv (2 ^ 32) (o ++ [(cy + x + y) % 2 ^ 32]) + (2 ^ 32) ^ (o ++ [(cy + x + y) % 2 ^ 32]).length * ((cy + x + y) / 2 ^ 32) = lv (2 ^ 32) (a1.take (o ++ [(cy + x + y) % 2 ^ 32]).length) + lv (2 ^ 32) (b1.take (o ++ [(cy + x + y) % 2 ^ 32]).length)
         rw [List.length_append]
         exact plus_step (by decide) rfl hinv hx (.inl hy)
       · simp; omega
       · refine SLe.mk (fun _ => 46) ⟨rfl, rfl, rfl, ?_, rfl, rfl, ?_, trivial⟩ ⟨⟨_, rfl, ?_⟩, trivial⟩ rfl (fun R hR => hR)
         · show some (SV.o (.v (.int _ (Int.fdiv _ _)))) = some (SV.o (.v (.int _ _)))
           rw [hc2, show min (32 : Int).toNat IntKind.u64.bits = 32 from rfl, Int.fdiv_eq_ediv_of_nonneg _ (by decide)]
           rfl
         · show some (SV.o (.v (.int _ (IntKind.i64.wrap ((o.length : Int) + 1))))) = some (SV.o (.v (.int _ (((o ++ [(cy + x + y) % 2 ^ 32]).length : Nat) : Int))))
           rw [wrap_i64 (by omega) (by omega), List.length_append]; rfl
         · show MEle (ME.own _ _ (o.length + 1) (app (rowV u32c o) [Value.int _ (IntKind.u32.wrap _)])) (ME.own _ _ (o ++ [(cy + x + y) % 2 ^ 32]).length (rowV u32c (o ++ [(cy + x + y) % 2 ^ 32])))
           rw [hc2, app_eq, rowV_append, List.length_append, IntKind.wrap_u32, show ((cy + x + y : Nat) : Int) % 4294967296 = (((cy + x + y) % 2 ^ 32 : Nat) : Int) by omega]
           exact .refl _
     · intro h2
       have hi2 : b1.length ≤ o.length := by have : ¬ (o.length : Int) < b1.length := by simpa using h2
                                             omega
       conv => whnf
       refine ⟨⟨by omega, by show _ * 4 ≤ _; omega⟩, ?_⟩
       conv => whnf
       refine ⟨by decide, ?_⟩
       conv => whnf
       refine ⟨(o ++ [(cy + x) % 2 ^ 32], (cy + x) / 2 ^ 32), ⟨?_, ?_, ?_, ?_⟩, ?_, ?_⟩
       · simp; omega
       · show (cy + x) / 2 ^ 32 ≤ 1
         omega
       · intro z hz
         rcases List.mem_append.1 hz with hz | hz
         · exact hob z hz
         · rw [List.mem_singleton.1 hz]; exact Nat.mod_lt _ (by decide)
       · show lv (2 ^ 32) (o ++ [(cy + x) % 2 ^ 32]) + (2 ^ 32) ^ (o ++ [(cy + x) % 2 ^ 32]).length * ((cy + x) / 2 ^ 32) = lv (2 ^ 32) (a1.take (o ++ [(cy + x) % 2 ^ 32]).length) + lv (2 ^ 32) (b1.take (o ++ [(cy + x) % 2 ^ 32]).length)
         rw [List.length_append]
         exact plus_step (y := 0) (by decide) rfl hinv hx (.inr ⟨hi2, rfl⟩)
       · simp; omega
       · refine SLe.mk (fun _ => 46) ⟨rfl, rfl, rfl, ?_, rfl, rfl, ?_, trivial⟩ ⟨⟨_, rfl, ?_⟩, trivial⟩ rfl (fun R hR => hR)
         · show some (SV.o (.v (.int _ (Int.fdiv _ _)))) = some (SV.o (.v (.int _ _)))
           rw [hc1, show min (32 : Int).toNat IntKind.u64.bits = 32 from rfl, Int.fdiv_eq_ediv_of_nonneg _ (by decide)]
           rfl
         · show some (SV.o (.v (.int _ (IntKind.i64.wrap ((o.length : Int) + 1))))) = some (SV.o (.v (.int _ (((o ++ [(cy + x) % 2 ^ 32]).length : Nat) : Int))))
           rw [wrap_i64 (by omega) (by omega), List.length_append]; rfl
         · show MEle (ME.own _ _ (o.length + 1) (app (rowV u32c o) [Value.int _ (IntKind.u32.wrap _)])) (ME.own _ _ (o ++ [(cy + x) % 2 ^ 32]).length (rowV u32c (o ++ [(cy + x) % 2 ^ 32])))
           rw [hc1, app_eq, rowV_append, List.length_append, IntKind.wrap_u32, show ((cy + x : Nat) : Int) % 4294967296 = (((cy + x) % 2 ^ 32 : Nat) : Int) by omega]
           exact .refl _
   · intro h
     have hi : o.length = a1.length := by have : ¬ (o.length : Int) < a1.length := by simpa using h
                                          omega
     conv => whnf
     refine ⟨⟨by omega, by show _ * 4 ≤ _; omega⟩, ?_⟩
     conv => whnf
     have hrow : app (rowV u32c o) [Value.int .u32 (IntKind.u32.wrap (cy : Int))] = rowV u32c (o ++ [cy]) := by
       rw [app_eq, rowV_append, IntKind.wrap_u32, show (cy : Int) % 4294967296 = (cy : Int) by omega]; rfl
     have hob2 : ∀ x ∈ o ++ [cy], x < 2 ^ 32 := fun z hz => by
       rcases List.mem_append.1 hz with hz | hz
       · exact hob z hz
       · rw [List.mem_singleton.1 hz]; omega
     have hval : lv (2 ^ 32) (o ++ [cy]) = s := by
       rw [lv_snoc, hinv, hi, List.take_length, List.take_of_length_le hlen, hs1]
     have hdig : tr (o ++ [cy]) = digs (2 ^ 32) s := by rw [tr_eq (by decide) hob2, hval]
     refine CallVC.cutO (n' := (tr (o ++ [cy])).length) 55 (fun A c hc => ?_) rfl ?_ rfl rfl ?_ rfl
     · have := c_trim A c (o ++ [cy]) (by rw [List.length_append]; exact hc) (by rw [List.length_append]; simp; omega)
       rw [List.length_append] at this
       rw [hrow]
       exact this
     · have := tr_length (o ++ [cy]); rw [List.length_append] at this; exact this
     · conv => whnf
       refine ⟨55, rfl, ?_⟩
       show some (ME.own t_uint32 1 (tr (o ++ [cy])).length ((app (rowV u32c o) [Value.int .u32 (IntKind.u32.wrap (cy : Int))]).take ((tr (o ++ [cy])).length * 1))) = _
       rw [hrow, rowV_take u32c_len, tr_take, hdig]
end Go.Sx
end
section
set_option maxRecDepth 10000
namespace Go.Sx
open Go Go.Proofs
theorem u32_bv (v : BitVec 32) : IntKind.u32.wrap (v.toNat : Int) = (v.toNat : Int) := by rw [IntKind.wrap_u32]; have := v.isLt; omega
theorem ofInt_bv (v : BitVec 32) : BitVec.ofInt 32 (v.toNat : Int) = v := by
 apply BitVec.eq_of_toNat_eq
 rw [BitVec.toNat_ofInt]; have := v.isLt; omega
theorem ofInt_toNat {x : Nat} (hx : x < 2 ^ 32) : (BitVec.ofInt 32 (x : Int)).toNat = x := by rw [BitVec.toNat_ofInt]; omega
theorem u64_bv (v : BitVec 64) : IntKind.u64.wrap (v.toNat : Int) = (v.toNat : Int) := by rw [IntKind.wrap_u64]; have := v.isLt; omega
theorem ofInt64_toNat {x : Nat} (hx : x < 2 ^ 64) : (BitVec.ofInt 64 (x : Int)).toNat = x := by rw [BitVec.toNat_ofInt]; omega
theorem top_bit (v : BitVec 32) : v.toNat / 2 ^ 31 = v.msb.toNat := by
 rw [BitVec.msb_eq_decide]
 have := v.isLt
 by_cases h : 2 ^ (32 - 1) ≤ v.toNat
 · rw [decide_eq_true h]; simp at h ⊢; omega
 · rw [decide_eq_false h]; simp at h ⊢; omega
theorem tup2 {a b c d : Value} (h : a = c) (k : b = d) : Value.tuple #[a, b] = .tuple #[c, d] := by rw [h, k]
abbrev u32 (x : Nat) : Value := .int .u32 (x : Int)
theorem c_Sub32 (x y b : Nat) (hx : x < 2 ^ 32) (hy : y < 2 ^ 32) (hb : b ≤ 1) : Fn PP f_math_bits_Sub32 [u32 x, u32 y, u32 b] (.tuple #[u32 ((2 ^ 32 + x - y - b) % 2 ^ 32), u32 (if x < y + b then 1 else 0)]) := by
 refine Fn.of TBgood mixed h_math_bits_Sub32 rfl rfl (Nat.le_of_ble_eq_true rfl) ?_
 intro w
 have hd : IntKind.u32.wrap (IntKind.u32.wrap ((x : Int) - y) - b) = (((2 ^ 32 + x - y - b) % 2 ^ 32 : Nat) : Int) := by
   rw [IntKind.wrap_u32, IntKind.wrap_u32]; omega
 conv => whnf
 refine ⟨by decide, ?_⟩
 conv => whnf
 refine postV_two ?_
 rw [hd]
 obtain ⟨d, hdd⟩ : ∃ d, d = (2 ^ 32 + x - y - b) % 2 ^ 32 := ⟨_, rfl⟩
 rw [← hdd]
 have hdl : d < 2 ^ 32 := by omega
 refine congrArg (fun z => Value.tuple #[u32 d, .int .u32 z]) ?_
 show (IntKind.u32.wrap (BitVec.toNat (w := 32) (BitVec.ofInt 32 (IntKind.u32.wrap (BitVec.toNat (w := 32) (BitVec.ofInt 32 (IntKind.u32.wrap (BitVec.toNat (w := 32) (BitVec.ofInt 32 4294967295 ^^^ BitVec.ofInt 32 (x : Int))))
   &&& BitVec.ofInt 32 (y : Int)))) ||| BitVec.ofInt 32 (IntKind.u32.wrap (BitVec.toNat (w := 32) (BitVec.ofInt 32 (IntKind.u32.wrap (BitVec.toNat (w := 32) (BitVec.ofInt 32 4294967295 ^^^ BitVec.ofInt 32 (IntKind.u32.wrap (BitVec.toNat (w := 32) (BitVec.ofInt 32 (x : Int) ^^^ BitVec.ofInt 32 (y : Int)))))))
   &&& BitVec.ofInt 32 (d : Int))))))).fdiv (2 ^ 31) = _
 simp only [u32_bv, ofInt_bv]
 rw [Int.fdiv_eq_ediv_of_nonneg _ (by decide)]
 obtain ⟨v, hv⟩ : ∃ v : BitVec 32, v = ((BitVec.ofInt 32 4294967295 ^^^ BitVec.ofInt 32 (x : Int)) &&& BitVec.ofInt 32 (y : Int) ||| (BitVec.ofInt 32 4294967295 ^^^ (BitVec.ofInt 32 (x : Int) ^^^ BitVec.ofInt 32 (y : Int))) &&& BitVec.ofInt 32 (d : Int)) := ⟨_, rfl⟩
 rw [← hv]
 have h5 : (v.toNat : Int) / 2 ^ 31 = ((v.toNat / 2 ^ 31 : Nat) : Int) := rfl
 rw [h5, top_bit, hv]
 have hm : (BitVec.ofInt 32 4294967295).msb = true := by decide
 have hmsb : ∀ z : Nat, z < 2 ^ 32 → (BitVec.ofInt 32 (z : Int)).msb = decide (2 ^ 31 ≤ z) := fun z hz => by rw [BitVec.msb_eq_decide, ofInt_toNat hz]
 simp only [BitVec.msb_or, BitVec.msb_and, BitVec.msb_xor, hm, hmsb x hx, hmsb y hy, hmsb d hdl]
 by_cases h1 : 2 ^ 31 ≤ x <;> by_cases h2 : 2 ^ 31 ≤ y <;> by_cases h3 : 2 ^ 31 ≤ d <;> by_cases h4 : x < y + b <;> simp only [h1, h2, h3, h4, decide_true, decide_false, if_true, if_false] <;> first | rfl | (exfalso; omega)
theorem c_Div32 (hi lo y : Nat) (h1 : hi < y) (h2 : lo < 2 ^ 32) (h3 : y < 2 ^ 32) : Fn PP f_math_bits_Div32 [u32 hi, u32 lo, u32 y] (.tuple #[u32 ((hi * 2 ^ 32 + lo) / y), u32 ((hi * 2 ^ 32 + lo) % y)]) := by
 refine Fn.of TBgood mixed h_math_bits_Div32 rfl rfl (Nat.le_of_ble_eq_true rfl) ?_
 intro w
 conv => whnf
 refine br_true (by simp; omega) ?_
 conv => whnf
 refine br_false (by simp; omega) ?_
 conv => whnf
 refine ⟨by decide, ?_⟩
 conv => whnf
 refine DrawVC.quiet (by kernel_rfl) ?_
 conv => whnf
 have hor : IntKind.u64.wrap (BitVec.toNat (w := 64) (BitVec.ofInt 64 (IntKind.u64.wrap (IntKind.u64.wrap (hi : Int) * 2 ^ min (32 : Int).toNat IntKind.u64.bits)) ||| BitVec.ofInt 64 (IntKind.u64.wrap (lo : Int))) : Int) = ((hi * 2 ^ 32 + lo : Nat) : Int) := by
   have e1 : IntKind.u64.wrap (IntKind.u64.wrap (hi : Int) * 2 ^ min (32 : Int).toNat IntKind.u64.bits) = ((hi * 2 ^ 32 : Nat) : Int) := by
     rw [show min (32 : Int).toNat IntKind.u64.bits = 32 from rfl, IntKind.wrap_u64, IntKind.wrap_u64]; omega
   have e2 : IntKind.u64.wrap (lo : Int) = (lo : Int) := by rw [IntKind.wrap_u64]; omega
   rw [e1, e2, u64_bv, BitVec.toNat_or, ofInt64_toNat (by omega), ofInt64_toNat (by omega), Nat.mul_comm, ← Nat.two_pow_add_eq_or_of_lt h2]
 have hy64 : IntKind.u64.wrap (y : Int) = (y : Int) := by rw [IntKind.wrap_u64]; omega
 have hy0 : 0 < y := by omega
 have hq : (hi * 2 ^ 32 + lo) / y < 2 ^ 32 := by
   apply Nat.div_lt_of_lt_mul
   have : (hi + 1) * 2 ^ 32 ≤ y * 2 ^ 32 := Nat.mul_le_mul_right _ h1
   omega
 have hr : (hi * 2 ^ 32 + lo) % y < y := Nat.mod_lt _ hy0
 refine ⟨by rw [hy64]; omega, ?_⟩
 conv => whnf
 refine ⟨by rw [hy64]; omega, ?_⟩
 conv => whnf
 refine postV_two ?_
 refine tup2 (congrArg (Value.int .u32) ?_) (congrArg (Value.int .u32) ?_)
 · show IntKind.u32.wrap (IntKind.u64.wrap (Int.tdiv (IntKind.u64.wrap (BitVec.toNat (w := 64) (BitVec.ofInt 64 _ ||| BitVec.ofInt 64 _) : Int)) _)) = _
   rw [hor, hy64, Int.tdiv_eq_ediv_of_nonneg (by omega)]
   have e3 : ((hi * 2 ^ 32 + lo : Nat) : Int) / (y : Int) = (((hi * 2 ^ 32 + lo) / y : Nat) : Int) := rfl
   rw [e3]
   generalize (hi * 2 ^ 32 + lo) / y = q at hq ⊢
   rw [IntKind.wrap_u64, IntKind.wrap_u32]; omega
 · show IntKind.u32.wrap (Int.tmod (IntKind.u64.wrap (BitVec.toNat (w := 64) (BitVec.ofInt 64 _ ||| BitVec.ofInt 64 _) : Int)) _) = _
   rw [hor, hy64, Int.tmod_eq_emod_of_nonneg (by omega)]
   have e3 : ((hi * 2 ^ 32 + lo : Nat) : Int) % (y : Int) = (((hi * 2 ^ 32 + lo) % y : Nat) : Int) := rfl
   rw [e3]
   generalize (hi * 2 ^ 32 + lo) % y = q at hr ⊢
   rw [IntKind.wrap_u32]; omega
theorem c_Add32 (x y c : Nat) (hx : x < 2 ^ 32) (hy : y < 2 ^ 32) (hc : c ≤ 1) : Fn PP f_math_bits_Add32 [u32 x, u32 y, u32 c] (.tuple #[u32 ((x + y + c) % 2 ^ 32), u32 ((x + y + c) / 2 ^ 32)]) := by
 refine Fn.of TBgood mixed h_math_bits_Add32 rfl rfl (Nat.le_of_ble_eq_true rfl) ?_
 intro w
 conv => whnf
 refine ⟨by decide, ?_⟩
 conv => whnf
 refine postV_two ?_
 have hs : IntKind.u64.wrap (IntKind.u64.wrap (IntKind.u64.wrap (x : Int) + IntKind.u64.wrap (y : Int)) + IntKind.u64.wrap (c : Int)) = ((x + y + c : Nat) : Int) := by
   simp only [IntKind.wrap_u64]; omega
 refine tup2 (congrArg (Value.int .u32) ?_) (congrArg (Value.int .u32) ?_)
 · show IntKind.u32.wrap (IntKind.u64.wrap (IntKind.u64.wrap (IntKind.u64.wrap (x : Int) + IntKind.u64.wrap (y : Int)) + IntKind.u64.wrap (c : Int))) = _
   rw [hs, IntKind.wrap_u32]; omega
 · show IntKind.u32.wrap (Int.fdiv (IntKind.u64.wrap (IntKind.u64.wrap (IntKind.u64.wrap (x : Int) + IntKind.u64.wrap (y : Int)) + IntKind.u64.wrap (c : Int))) (2 ^ 32)) = _
   rw [hs, IntKind.wrap_u32, Int.fdiv_eq_ediv_of_nonneg _ (by decide)]; omega
end Go.Sx
end
section
set_option maxRecDepth 10000
namespace Go.Sx
open Go Go.Proofs
theorem set_mid (o : List Nat) (d k : Nat) : (o ++ List.replicate (k + 1) 0).set o.length d = (o ++ [d]) ++ List.replicate k 0 := by
 rw [List.replicate_succ, List.set_append_right _ _ (Nat.le_refl _), Nat.sub_self]
 simp
theorem u32V_set (o : List Nat) (d k : Nat) {n i : Nat} (hn : n = o.length + (k + 1)) (hi : i = o.length) : putN i [Value.int .u32 (d : Int)] (rowV u32c (o ++ List.replicate (k + 1) 0)) = rowV u32c ((o ++ [d]) ++ List.replicate k 0) := by
 subst hi
 have := rowV_put (f := u32c) u32c_len (k := o.length) (l := o ++ List.replicate (k + 1) 0) d (by simp)
 rw [Nat.mul_one] at this
 rw [← set_mid]
 exact this
theorem minus_step {B i bo x y : Nat} {a b o : List Nat} (hB : 0 < B) (hyB : y < B) (hxB : x < B) (hbo : bo ≤ 1) (ho : o.length = i) (hv : lv B (a.take i) + B ^ i * bo = lv B o + lv B (b.take i)) (hx : a[i]? = some x) (hy : b[i]? = some y ∨ (b.length ≤ i ∧ y = 0)) :
   lv B (a.take (i + 1)) + B ^ (i + 1) * (if x < y + bo then 1 else 0) = lv B (o ++ [(B + x - y - bo) % B]) + lv B (b.take (i + 1)) := by
 have h1 := lv_take_succ (B := B) hx
 have h2 : lv B (b.take (i + 1)) = lv B (b.take i) + B ^ i * y := by
   rcases hy with h | ⟨h, rfl⟩
   · exact lv_take_succ h
   · rw [take_past h]; omega
 rw [h1, h2, lv_snoc, ho, Nat.pow_succ, Nat.mul_assoc]
 have h3 : x + B * (if x < y + bo then 1 else 0) = (B + x - y - bo) % B + y + bo := by
   split
   · rw [Nat.mul_one, Nat.mod_eq_of_lt (by omega)]; omega
   · rw [Nat.mul_zero, show B + x - y - bo = (x - y - bo) + B by omega, Nat.add_mod_right, Nat.mod_eq_of_lt (by omega)]; omega
 have h4 : B ^ i * x + B ^ i * (B * (if x < y + bo then 1 else 0)) = B ^ i * ((B + x - y - bo) % B) + B ^ i * y + B ^ i * bo := by
   rw [← Nat.mul_add, h3, Nat.mul_add, Nat.mul_add]
 omega

theorem c_minus (A B : Option Addr) (c d : Nat) (p q : Nat) (hqp : q ≤ p) (hl : (digs (2 ^ 32) p).length ≤ 100000000000) :
   FnM PP f_bigint_limbs_minus [.slice A (digs (2 ^ 32) p).length c, .slice B (digs (2 ^ 32) q).length d] (facts [SlRes A (u32V (digs (2 ^ 32) p)), SlRes B (u32V (digs (2 ^ 32) q))]) (retsO t_uint32 1 (digs (2 ^ 32) (p - q)).length (u32V (digs (2 ^ 32) (p - q)))) := by
 obtain ⟨a, ea⟩ : ∃ a, a = digs (2 ^ 32) p := ⟨_, rfl⟩
 obtain ⟨b, eb⟩ : ∃ b, b = digs (2 ^ 32) q := ⟨_, rfl⟩
 have hlen : b.length ≤ a.length := by
   rw [ea, eb]
   exact digs_length_le (by decide) (Nat.lt_of_le_of_lt hqp (le_of_digs_length (by decide)))
 have ha : ∀ x ∈ a, x < 2 ^ 32 := by rw [ea]; exact digs_lt (by decide) p
 have hb : ∀ x ∈ b, x < 2 ^ 32 := by rw [eb]; exact digs_lt (by decide) q
 have hva : lv (2 ^ 32) a = p := by rw [ea, lv_digs (by decide)]
 have hvb : lv (2 ^ 32) b = q := by rw [eb, lv_digs (by decide)]
 rw [← ea, ← eb]
 rw [← ea] at hl
 refine FnO.of TBgood mixed h_bigint_limbs_minus rfl rfl (Nat.le_of_ble_eq_true rfl) (by simp [SlRes.ok]) ?_
 intro w hw
 conv => whnf
 refine ⟨⟨by omega, by omega, by show (4 : Int) * _ ≤ _; omega, by omega⟩, ?_⟩
 conv => whnf
 refine sexec_loop (ι := List Nat × Nat) (fun ⟨o, bo⟩ => ⟨[(0, .o (.v (.slice A a.length c))), (1, .o (.v (.slice B b.length d))), (5, .o (.w 12)), (6, .o (.v (u32 bo))), (13, .o (.v (.slice A a.length c))), (14, .o (.v (.int .i64 a.length))), (15, .o (.v (.int .i64 o.length)))], [(12, .own t_uint32 1 a.length (u32V (o ++ List.replicate (a.length - o.length) 0)))], [SlRes A (u32V a), SlRes B (u32V b)]⟩)
   (fun ⟨o, bo⟩ => o.length ≤ a.length ∧ bo ≤ 1 ∧ (∀ x ∈ o, x < 2 ^ 32) ∧ lv (2 ^ 32) (a.take o.length) + (2 ^ 32) ^ o.length * bo = lv (2 ^ 32) o + lv (2 ^ 32) (b.take o.length)) (fun ⟨o, bo⟩ => a.length - o.length) ([], 0)
   ⟨Nat.zero_le _, Nat.zero_le _, (fun _ h => by cases h), rfl⟩ (SLe.id ⟨rfl, rfl, rfl, rfl, rfl, rfl, rfl, trivial⟩ ⟨⟨_, rfl, ?_⟩, trivial⟩ (fun R hR => hR)) ?_
 · simp only [ME.ren, Int.toNat_natCast, List.nil_append, List.length_nil, Nat.sub_zero]
   simp only [u32V, rowV_repl]
   exact .refl _
 rintro ⟨o, bo⟩ ⟨ho, hbo, hob, hinv⟩
 conv => whnf
 refine br_split ?_ ?_
 · intro h
   have hi : o.length < a.length := by have : (o.length : Int) < a.length := by simpa using h
                                       omega
   have hA : A.isSome = true := slres_some (facts_two hw).1 (by rw [u32V_length]; omega)
   conv => whnf
   refine ⟨⟨by omega, by omega, hA⟩, ?_⟩
   conv => whnf
   refine LoadVC.elem u32c u32c_len (List.mem_cons_self ..) rfl (by rw [Int.toNat_natCast]; exact hi) (by decide) (fun _ => rfl) ?_
   rw [Int.toNat_natCast]
   intro x hx
   have hxb : x < 2 ^ 32 := ha x (List.mem_of_getElem? hx)
   conv => whnf
   have key : ∀ y, y < 2 ^ 32 → (b[o.length]? = some y ∨ (b.length ≤ o.length ∧ y = 0)) → ∃ j : List Nat × Nat, (j.1.length ≤ a.length ∧ j.2 ≤ 1 ∧ (∀ x ∈ j.1, x < 2 ^ 32) ∧ lv (2 ^ 32) (a.take j.1.length) + (2 ^ 32) ^ j.1.length * j.2 = lv (2 ^ 32) j.1 + lv (2 ^ 32) (b.take j.1.length)) ∧
       j = (o ++ [(2 ^ 32 + x - y - bo) % 2 ^ 32], if x < y + bo then 1 else 0) := by
     intro y hyb hy
     refine ⟨_, ⟨by simp; omega, ?_, ?_, ?_⟩, rfl⟩
     · show (if x < y + bo then 1 else 0) ≤ 1
       split <;> omega
     · intro z hz
       rcases List.mem_append.1 hz with hz | hz
       · exact hob z hz
       · rw [List.mem_singleton.1 hz]; exact Nat.mod_lt _ (by decide)
     · show lv (2 ^ 32) (a.take (o ++ [(2 ^ 32 + x - y - bo) % 2 ^ 32]).length) + (2 ^ 32) ^ (o ++ [(2 ^ 32 + x - y - bo) % 2 ^ 32]).length * (if x < y + bo then 1 else 0) = lv (2 ^ 32) (o ++ [(2 ^ 32 + x - y - bo) % 2 ^ 32]) + lv (2 ^ 32) (b.take (o ++ [(2 ^ 32 + x - y - bo) % 2 ^ 32]).length)
       rw [List.length_append]
       exact minus_step (by decide) hyb hxb hbo rfl hinv hx hy
   refine br_split ?_ ?_
   · intro h2
     have hi2 : o.length < b.length := by have : (o.length : Int) < b.length := by simpa using h2
                                          omega
     have hB : B.isSome = true := slres_some (facts_two hw).2 (by rw [u32V_length]; omega)
     conv => whnf
     refine ⟨⟨by omega, by omega, hB⟩, ?_⟩
     conv => whnf
     refine LoadVC.elem u32c u32c_len (List.mem_cons_of_mem _ (List.mem_singleton.2 rfl)) rfl (by rw [Int.toNat_natCast]; exact hi2) (by decide) (fun _ => rfl) ?_
     rw [Int.toNat_natCast]
     intro y hy
     have hyb : y < 2 ^ 32 := hb y (List.mem_of_getElem? hy)
     conv => whnf
     refine CallVC.fn (c_Sub32 x y bo hxb hyb hbo) rfl ?_
     conv => whnf
     refine ⟨⟨by omega, by omega⟩, ?_⟩
     conv => whnf
     refine ⟨⟨by rw [u32V_length]; simp; show _ * 1 + 1 ≤ _; omega, by decide⟩, ?_⟩
     conv => whnf
     obtain ⟨j, hj, ej⟩ := key y hyb (.inl hy)
     subst ej
     refine ⟨_, hj, by simp; omega, ?_⟩
     refine SLe.id ⟨rfl, rfl, rfl, rfl, rfl, rfl, ?_, trivial⟩ ⟨⟨_, rfl, ?_⟩, trivial⟩ (fun R hR => hR)
     · show some (SV.o (.v (.int _ (IntKind.i64.wrap ((o.length : Int) + 1))))) = some (SV.o (.v (.int _ (((o ++ [_]).length : Nat) : Int))))
       rw [wrap_i64 (by omega) (by omega), List.length_append]; rfl
     · show MEle (ME.own _ _ _ (putN ((o.length : Int).toNat * 1) [Value.int _ _] (rowV u32c (o ++ List.replicate (a.length - o.length) 0)))) (ME.own _ _ _ (rowV u32c ((o ++ [(2 ^ 32 + x - y - bo) % 2 ^ 32]) ++ List.replicate (a.length - (o ++ [_]).length) 0)))
       rw [List.length_append, show a.length - o.length = (a.length - (o.length + 1)) + 1 by omega, u32V_set o _ _ rfl (by simp)]
       exact .refl _
   · intro h2
     have hi2 : b.length ≤ o.length := by have : ¬ (o.length : Int) < b.length := by simpa using h2
                                          omega
     conv => whnf
     refine CallVC.fn (c_Sub32 x 0 bo hxb (by decide) hbo) rfl ?_
     conv => whnf
     refine ⟨⟨by omega, by omega⟩, ?_⟩
     conv => whnf
     refine ⟨⟨by rw [u32V_length]; simp; show _ * 1 + 1 ≤ _; omega, by decide⟩, ?_⟩
     conv => whnf
     obtain ⟨j, hj, ej⟩ := key 0 (by decide) (.inr ⟨hi2, rfl⟩)
     subst ej
     refine ⟨_, hj, by simp; omega, ?_⟩
     refine SLe.id ⟨rfl, rfl, rfl, rfl, rfl, rfl, ?_, trivial⟩ ⟨⟨_, rfl, ?_⟩, trivial⟩ (fun R hR => hR)
     · show some (SV.o (.v (.int _ (IntKind.i64.wrap ((o.length : Int) + 1))))) = some (SV.o (.v (.int _ (((o ++ [_]).length : Nat) : Int))))
       rw [wrap_i64 (by omega) (by omega), List.length_append]; rfl
     · show MEle (ME.own _ _ _ (putN ((o.length : Int).toNat * 1) [Value.int _ _] (rowV u32c (o ++ List.replicate (a.length - o.length) 0)))) (ME.own _ _ _ (rowV u32c ((o ++ [(2 ^ 32 + x - 0 - bo) % 2 ^ 32]) ++ List.replicate (a.length - (o ++ [_]).length) 0)))
       rw [List.length_append, show a.length - o.length = (a.length - (o.length + 1)) + 1 by omega, u32V_set o _ _ rfl (by simp)]
       exact .refl _
 · intro h
   have hi : o.length = a.length := by have : ¬ (o.length : Int) < a.length := by simpa using h
                                       omega
   have hval : lv (2 ^ 32) o = p - q := by
     rw [hi, List.take_length, List.take_of_length_le hlen, hva, hvb] at hinv
     have h1 := lv_lt (by decide) o hob
     rw [hi] at h1
     rcases Nat.eq_zero_or_pos bo with h2 | h2
     · subst h2; omega
     · have : bo = 1 := by omega
       subst this; omega
   have hdig : tr o = digs (2 ^ 32) (p - q) := by rw [tr_eq (by decide) hob, hval]
   conv => whnf
   have hz : o ++ List.replicate (a.length - o.length) 0 = o := by rw [hi, Nat.sub_self]; simp
   refine CallVC.cutO (n := a.length) (xs := u32V (o ++ List.replicate (a.length - o.length) 0)) (n' := (tr o).length) 40 (fun A c hc => ?_) rfl (by rw [← hi]; exact tr_length o) rfl rfl ?_ rfl
   · rw [hz, ← hi]; exact c_trim A c o (by omega) (by omega)
   · conv => whnf
     refine ⟨40, rfl, ?_⟩
     show some (ME.own t_uint32 1 (tr o).length ((rowV u32c (o ++ List.replicate (a.length - o.length) 0)).take ((tr o).length * 1))) = _
     rw [hz, rowV_take u32c_len, tr_take, hdig]
end Go.Sx
end
section
set_option maxRecDepth 10000
namespace Go.Sx
open Go Go.Proofs
theorem u32V_mid (P R : List Nat) (z d : Nat) {i : Nat} (hi : i = P.length) : putN i [Value.int .u32 (d : Int)] (rowV u32c (P ++ z :: R)) = rowV u32c ((P ++ [d]) ++ R) := by
 subst hi
 have := rowV_put (f := u32c) u32c_len (k := P.length) (l := P ++ z :: R) d (by simp)
 rw [Nat.mul_one] at this
 have e : (P ++ z :: R).set P.length d = (P ++ [d]) ++ R := by
   rw [List.set_append_right _ _ (Nat.le_refl _), Nat.sub_self]; simp
 rw [← e]
 exact this
theorem times_step {B i k cy x y z : Nat} {o P b : List Nat} (hB : 0 < B) (hP : P.length = i + k) (hv : lv B P + B ^ (i + k) * cy = lv B (o.take (i + k)) + B ^ i * (x * lv B (b.take k))) (hz : o[i + k]? = some z) (hy : b[k]? = some y) :
   lv B (P ++ [(cy + (x * y + z)) % B]) + B ^ (i + (k + 1)) * ((cy + (x * y + z)) / B) = lv B (o.take (i + (k + 1))) + B ^ i * (x * lv B (b.take (k + 1))) := by
 have h1 := lv_take_succ (B := B) hz
 have h2 := lv_take_succ (B := B) hy
 rw [show i + (k + 1) = i + k + 1 by omega, h1, h2, lv_snoc, hP, Nat.pow_succ, Nat.mul_assoc]
 have h3 : B ^ (i + k) * ((cy + (x * y + z)) % B) + B ^ (i + k) * (B * ((cy + (x * y + z)) / B)) = B ^ (i + k) * (cy + (x * y + z)) := by
   rw [← Nat.mul_add, Nat.mod_add_div]
 have h4 : B ^ i * (x * (lv B (b.take k) + B ^ k * y)) = B ^ i * (x * lv B (b.take k)) + B ^ (i + k) * (x * y) := by
   rw [Nat.mul_add, Nat.mul_add, Nat.pow_add]
   congr 1
   rw [Nat.mul_assoc (B ^ i)]
   congr 1
   exact Nat.mul_left_comm x (B ^ k) y
 rw [Nat.mul_add, Nat.mul_add] at h3
 rw [h4]
 omega

theorem c_times (A D : Option Addr) (c d : Nat) (a b : List Nat) (ha : ∀ x ∈ a, x < 2 ^ 32) (hb : ∀ x ∈ b, x < 2 ^ 32) (hla : a.length ≤ 100000000000) (hlb : b.length ≤ 100000000000) :
   FnM PP f_bigint_limbs_times [.slice A a.length c, .slice D b.length d] (facts [SlRes A (u32V a), SlRes D (u32V b)]) (retsO t_uint32 1 (digs (2 ^ 32) (lv (2 ^ 32) a * lv (2 ^ 32) b)).length (u32V (digs (2 ^ 32) (lv (2 ^ 32) a * lv (2 ^ 32) b)))) := by
 refine FnO.of TBgood mixed h_bigint_limbs_times rfl rfl (Nat.le_of_ble_eq_true rfl) (by simp [SlRes.ok]) ?_
 intro w hw
 have hcap : IntKind.i64.wrap ((a.length : Int) + (b.length : Int)) = ((a.length + b.length : Nat) : Int) := by rw [wrap_i64 (by omega) (by omega)]; omega
 conv => whnf
 refine ⟨by rw [hcap]; exact ⟨by omega, by omega, by show (4 : Int) * _ ≤ _; omega, by omega⟩, ?_⟩
 conv => whnf
 refine sexec_loop (ι := Nat × List Nat) (fun ⟨i, o⟩ => ⟨[(0, .o (.v (.slice A a.length c))), (1, .o (.v (.slice D b.length d))), (5, .o (.w 16)), (17, .o (.v (.slice A a.length c))), (18, .o (.v (.int .i64 a.length))), (19, .o (.v (.int .i64 i)))], [(16, .own t_uint32 1 (a.length + b.length) (u32V (o ++ List.replicate (a.length - i) 0)))], [SlRes A (u32V a), SlRes D (u32V b)]⟩)
   (fun ⟨i, o⟩ => i ≤ a.length ∧ o.length = i + b.length ∧ (∀ x ∈ o, x < 2 ^ 32) ∧ lv (2 ^ 32) o = lv (2 ^ 32) (a.take i) * lv (2 ^ 32) b) (fun ⟨i, o⟩ => a.length - i) (0, List.replicate b.length 0)
   ⟨Nat.zero_le _, by simp, (fun x h => by rw [(List.mem_replicate.1 h).2]; decide), by simp [lv_zeros, lv]⟩ (SLe.id ⟨rfl, rfl, rfl, rfl, rfl, rfl, trivial⟩ ⟨⟨_, rfl, ?_⟩, trivial⟩ (fun R hR => hR)) ?_
 · rw [hcap]
   simp only [ME.ren, Int.toNat_natCast, Nat.sub_zero, List.replicate_append_replicate]
   rw [Nat.add_comm b.length]
   simp only [u32V, rowV_repl]
   exact .refl _
 rintro ⟨i, o⟩ ⟨hi, ho, hob, hov⟩
 conv => whnf
 refine br_split ?_ ?_
 · intro h
   have hi' : i < a.length := by have : (i : Int) < a.length := by simpa using h
                                 omega
   have hA : A.isSome = true := slres_some (facts_two hw).1 (by rw [u32V_length]; omega)
   conv => whnf
   refine ⟨⟨by omega, by omega, hA⟩, ?_⟩
   conv => whnf
   refine LoadVC.elem u32c u32c_len (List.mem_cons_self ..) rfl (by rw [Int.toNat_natCast]; exact hi') (by decide) (fun _ => rfl) ?_
   rw [Int.toNat_natCast]
   intro x hx
   have hxb : x < 2 ^ 32 := ha x (List.mem_of_getElem? hx)
   conv => whnf
   refine sexec_loop (ι := Nat × List Nat × Nat) (fun ⟨k, P, cy⟩ => ⟨[(0, .o (.v (.slice A a.length c))), (1, .o (.v (.slice D b.length d))), (5, .o (.w 16)), (17, .o (.v (.slice A a.length c))), (18, .o (.v (.int .i64 a.length))), (19, .o (.v (.int .i64 i))),
       (6, .o (.v (.int .i64 i))), (7, .o (.v (u32 x))), (8, .o (.v (.int .u64 cy))), (24, .o (.v (.slice D b.length d))), (25, .o (.v (.int .i64 b.length))), (26, .o (.v (.int .i64 k)))], [(16, .own t_uint32 1 (a.length + b.length) (u32V (P ++ (o.drop (i + k) ++ List.replicate (a.length - i) 0))))], [SlRes A (u32V a), SlRes D (u32V b)]⟩)
     (fun ⟨k, P, cy⟩ => k ≤ b.length ∧ P.length = i + k ∧ cy < 2 ^ 32 ∧ (∀ x ∈ P, x < 2 ^ 32) ∧ lv (2 ^ 32) P + (2 ^ 32) ^ (i + k) * cy = lv (2 ^ 32) (o.take (i + k)) + (2 ^ 32) ^ i * (x * lv (2 ^ 32) (b.take k))) (fun ⟨k, P, cy⟩ => b.length - k) (0, o.take i, 0)
     ⟨Nat.zero_le _, by rw [List.length_take]; omega, by decide, (fun x h => hob x (List.mem_of_mem_take h)), by simp [lv]⟩ (SLe.id ⟨rfl, rfl, rfl, rfl, rfl, rfl, rfl, rfl, rfl, rfl, rfl, rfl, trivial⟩ ⟨⟨_, rfl, ?_⟩, trivial⟩ (fun R hR => hR)) ?_
   · simp only [ME.ren, Nat.add_zero]
     rw [← List.append_assoc, List.take_append_drop]
     exact .refl _
   rintro ⟨k, P, cy⟩ ⟨hk, hP, hcy, hPb, hinv⟩
   have hik : IntKind.i64.wrap ((i : Int) + (k : Int)) = ((i + k : Nat) : Int) := by rw [wrap_i64 (by omega) (by omega)]; omega
   conv => whnf
   refine br_split ?_ ?_
   · intro h2
     have hk' : k < b.length := by have : (k : Int) < b.length := by simpa using h2
                                   omega
     have hD : D.isSome = true := slres_some (facts_two hw).2 (by rw [u32V_length]; omega)
     conv => whnf
     refine ⟨⟨by omega, by omega, hD⟩, ?_⟩
     conv => whnf
     refine LoadVC.elem u32c u32c_len (List.mem_cons_of_mem _ (List.mem_singleton.2 rfl)) rfl (by rw [Int.toNat_natCast]; exact hk') (by decide) (fun _ => rfl) ?_
     rw [Int.toNat_natCast]
     intro y hy
     have hyb : y < 2 ^ 32 := hb y (List.mem_of_getElem? hy)
     have hoz : o[i + k]? = some o[i + k] := List.getElem?_eq_getElem (by omega)
     obtain ⟨z, hz⟩ : ∃ z, z = o[i + k] := ⟨_, rfl⟩
     rw [← hz] at hoz
     have hzb : z < 2 ^ 32 := hob z (List.mem_of_getElem? hoz)
     have hdrop : o.drop (i + k) = z :: o.drop (i + (k + 1)) := by rw [List.drop_eq_getElem_cons (show i + k < o.length by omega), hz]; rfl
     conv => whnf
     refine ⟨⟨by rw [hik]; omega, by rw [hik]; omega⟩, ?_⟩
     conv => whnf
     refine RowVC.elem u32c u32c_len (k := i + k) (by rw [hik]; rfl) (by simp; omega) (by decide) (fun _ => rfl) ?_
     intro z' hz'
     have hzz : z' = z := by
       rw [List.getElem?_append_right (by omega), hP, Nat.sub_self, hdrop] at hz'
       exact (Option.some.inj hz').symm
     subst hzz
     have hxy : x * y ≤ (2 ^ 32 - 1) * (2 ^ 32 - 1) := Nat.mul_le_mul (by omega) (by omega)
     have hmul : IntKind.u64.wrap (IntKind.u64.wrap (x : Int) * IntKind.u64.wrap (y : Int)) = ((x * y : Nat) : Int) := by
       have e1 : IntKind.u64.wrap (x : Int) = x := by rw [IntKind.wrap_u64]; omega
       have e2 : IntKind.u64.wrap (y : Int) = y := by rw [IntKind.wrap_u64]; omega
       rw [e1, e2, ← Int.natCast_mul, IntKind.wrap_u64]; omega
     have ht : IntKind.u64.wrap ((cy : Int) + IntKind.u64.wrap (IntKind.u64.wrap (IntKind.u64.wrap (x : Int) * IntKind.u64.wrap (y : Int)) + IntKind.u64.wrap (z' : Int))) = ((cy + (x * y + z') : Nat) : Int) := by
       rw [hmul]
       generalize x * y = xy at hxy ⊢
       simp only [IntKind.wrap_u64]; omega
     conv => whnf
     refine ⟨⟨by rw [hik]; omega, by rw [hik]; omega⟩, ?_⟩
     conv => whnf
     refine ⟨⟨by rw [hik, u32V_length]; simp; show (i + k) * 1 + 1 ≤ _; omega, by decide⟩, ?_⟩
     conv => whnf
     refine ⟨by decide, ?_⟩
     conv => whnf
     obtain ⟨t, htt⟩ : ∃ t, t = cy + (x * y + z') := ⟨_, rfl⟩
     rw [← htt] at ht
     have htb : t < 2 ^ 64 := by rw [htt]; generalize x * y = xy at hxy ⊢; omega
     refine ⟨(k + 1, P ++ [t % 2 ^ 32], t / 2 ^ 32), ⟨by omega, by simp; omega, by show t / 2 ^ 32 < 2 ^ 32; omega, ?_, ?_⟩, by simp; omega, ?_⟩
     · intro v hv
       rcases List.mem_append.1 hv with hv | hv
       · exact hPb v hv
       · rw [List.mem_singleton.1 hv]; exact Nat.mod_lt _ (by decide)
     · rw [htt]; exact times_step (by decide) hP hinv hoz hy
     · refine SLe.id ⟨rfl, rfl, rfl, rfl, rfl, rfl, rfl, rfl, ?_, rfl, rfl, ?_, trivial⟩ ⟨⟨_, rfl, ?_⟩, trivial⟩ (fun R hR => hR)
       · show some (SV.o (.v (.int _ (Int.fdiv (IntKind.u64.wrap ((cy : Int) + IntKind.u64.wrap (IntKind.u64.wrap (IntKind.u64.wrap (x : Int) * IntKind.u64.wrap (y : Int)) + IntKind.u64.wrap (z' : Int)))) (2 ^ 32))))) = some (SV.o (.v (.int _ ((t / 2 ^ 32 : Nat) : Int))))
         rw [ht, Int.fdiv_eq_ediv_of_nonneg _ (by decide)]; rfl
       · show some (SV.o (.v (.int _ (IntKind.i64.wrap ((k : Int) + 1))))) = some (SV.o (.v (.int _ ((k + 1 : Nat) : Int))))
         rw [wrap_i64 (by omega) (by omega)]; rfl
       · show MEle (ME.own _ _ _ (putN ((IntKind.i64.wrap ((i : Int) + (k : Int))).toNat * 1) [Value.int .u32 (IntKind.u32.wrap (IntKind.u64.wrap ((cy : Int) + IntKind.u64.wrap (IntKind.u64.wrap (IntKind.u64.wrap (x : Int) * IntKind.u64.wrap (y : Int)) + IntKind.u64.wrap (z' : Int)))))] (rowV u32c (P ++ (o.drop (i + k) ++ List.replicate (a.length - i) 0)))))
           (ME.own _ _ _ (rowV u32c ((P ++ [t % 2 ^ 32]) ++ (o.drop (i + (k + 1)) ++ List.replicate (a.length - i) 0))))
         rw [ht, hik, hdrop, List.cons_append, IntKind.wrap_u32, show ((t : Nat) : Int) % 4294967296 = ((t % 2 ^ 32 : Nat) : Int) by omega, u32V_mid P _ _ _ (by rw [hP, Int.toNat_natCast, Nat.mul_one])]
         exact .refl _
   · intro h2
     have hk' : k = b.length := by have : ¬ (k : Int) < b.length := by simpa using h2
                                   omega
     have him : IntKind.i64.wrap ((i : Int) + (b.length : Int)) = ((i + b.length : Nat) : Int) := by rw [wrap_i64 (by omega) (by omega)]; omega
     have hd0 : o.drop (i + k) = [] := by rw [hk', ← ho, List.drop_length]
     have hrep : List.replicate (a.length - i) 0 = 0 :: List.replicate (a.length - (i + 1)) 0 := by
       rw [← List.replicate_succ]; congr 1; omega
     conv => whnf
     refine ⟨⟨by rw [him]; omega, by rw [him]; omega⟩, ?_⟩
     conv => whnf
     refine ⟨⟨by rw [him, u32V_length, hd0]; simp; show (i + b.length) * 1 + 1 ≤ _; omega, by decide⟩, ?_⟩
     conv => whnf
     refine ⟨(i + 1, P ++ [cy]), ⟨by omega, by simp; omega, ?_, ?_⟩, by simp; omega, ?_⟩
     · intro v hv
       rcases List.mem_append.1 hv with hv | hv
       · exact hPb v hv
       · rw [List.mem_singleton.1 hv]; exact hcy
     · rw [lv_snoc, hP, hinv, hk', ← ho, List.take_length, List.take_length, hov, lv_take_succ hx, Nat.add_mul]
       congr 1
       rw [Nat.mul_assoc]
     · refine SLe.id ⟨rfl, rfl, rfl, rfl, rfl, ?_, trivial⟩ ⟨⟨_, rfl, ?_⟩, trivial⟩ (fun R hR => hR)
       · show some (SV.o (.v (.int _ (IntKind.i64.wrap ((i : Int) + 1))))) = some (SV.o (.v (.int _ ((i + 1 : Nat) : Int))))
         rw [wrap_i64 (by omega) (by omega)]; rfl
       · show MEle (ME.own _ _ _ (putN ((IntKind.i64.wrap ((i : Int) + (b.length : Int))).toNat * 1) [Value.int .u32 (IntKind.u32.wrap (cy : Int))] (rowV u32c (P ++ (o.drop (i + k) ++ List.replicate (a.length - i) 0)))))
           (ME.own _ _ _ (rowV u32c ((P ++ [cy]) ++ List.replicate (a.length - (i + 1)) 0)))
         rw [him, hd0, hrep, List.nil_append, IntKind.wrap_u32, show (cy : Int) % 4294967296 = (cy : Int) by omega, u32V_mid P _ _ _ (by rw [hP, hk', Int.toNat_natCast, Nat.mul_one])]
         exact .refl _
 · intro h
   have hi' : i = a.length := by have : ¬ (i : Int) < a.length := by simpa using h
                                 omega
   have hz : o ++ List.replicate (a.length - i) 0 = o := by rw [hi', Nat.sub_self]; simp
   have hdig : tr o = digs (2 ^ 32) (lv (2 ^ 32) a * lv (2 ^ 32) b) := by rw [tr_eq (by decide) hob, hov, hi', List.take_length]
   have hol : a.length + b.length = o.length := by rw [ho, hi']
   conv => whnf
   refine CallVC.cutO (n := a.length + b.length) (xs := u32V (o ++ List.replicate (a.length - i) 0)) (n' := (tr o).length) 66 (fun A c hc => ?_) rfl (by rw [hol]; exact tr_length o) rfl rfl ?_ rfl
   · rw [hz, hol]; exact c_trim A c o (by omega) (by omega)
   · conv => whnf
     refine ⟨66, rfl, ?_⟩
     show some (ME.own t_uint32 1 (tr o).length ((rowV u32c (o ++ List.replicate (a.length - i) 0)).take ((tr o).length * 1))) = _
     rw [hz, rowV_take u32c_len, tr_take, hdig]
end Go.Sx
end
section
set_option maxRecDepth 10000
namespace Go.Sx
open Go Go.Proofs
theorem short_div {v d q r : Nat} (hd : r < d) (h : v = d * q + r) : v / d = q ∧ v % d = r := by
 subst h
 rw [Nat.mul_add_div (by omega), Nat.div_eq_of_lt hd, Nat.mul_add_mod, Nat.mod_eq_of_lt hd]
 exact ⟨by omega, rfl⟩
theorem c_short (A : Option Addr) (c : Nat) (a : List Nat) (d : Nat) (ha : ∀ x ∈ a, x < 2 ^ 32) (hd : 0 < d) (hd2 : d < 2 ^ 32) (hla : a.length ≤ 100000000000) :
   FnM PP f_bigint_limbs_short [.slice A a.length c, u32 d] (facts [SlRes A (u32V a)]) (retsT t_uint32 1 (digs (2 ^ 32) (lv (2 ^ 32) a / d)).length (u32V (digs (2 ^ 32) (lv (2 ^ 32) a / d))) (u32 (lv (2 ^ 32) a % d))) := by
 refine FnT.of TBgood mixed h_bigint_limbs_short rfl rfl (Nat.le_of_ble_eq_true rfl) (by simp [SlRes.ok]) ?_
 intro w hw
 have hwr : IntKind.i64.wrap ((a.length : Int) - 1) = (a.length : Int) - 1 := wrap_i64 (by omega) (by omega)
 conv => whnf
 refine ⟨⟨by omega, by omega, by show (4 : Int) * _ ≤ _; omega, by omega⟩, ?_⟩
 conv => whnf
 refine sexec_loop (ι := Nat × List Nat × Nat) (fun ⟨k, q, r⟩ => ⟨[(0, .o (.v (.slice A a.length c))), (1, .o (.v (u32 d))), (6, .o (.w 11)), (7, .o (.v (u32 r))), (8, .o (.v (.int .i64 ((k : Int) - 1))))], [(11, .own t_uint32 1 a.length (u32V (List.replicate k 0 ++ q)))], [SlRes A (u32V a)]⟩)
   (fun ⟨k, q, r⟩ => k ≤ a.length ∧ q.length = a.length - k ∧ r < d ∧ (∀ x ∈ q, x < 2 ^ 32) ∧ lv (2 ^ 32) (a.drop k) = d * lv (2 ^ 32) q + r) (fun ⟨k, q, r⟩ => k) (a.length, [], 0)
   ⟨Nat.le_refl _, by simp, hd, (fun _ h => by cases h), by simp [lv]⟩ (SLe.id ⟨rfl, rfl, rfl, rfl, congrArg (fun z => some (SV.o (.v (.int .i64 z)))) hwr, trivial⟩ ⟨⟨_, rfl, ?_⟩, trivial⟩ (fun R hR => hR)) ?_
 · simp only [ME.ren, Int.toNat_natCast, List.append_nil]
   simp only [u32V, rowV_repl]
   exact .refl _
 rintro ⟨k, q, r⟩ ⟨hk, hq, hr, hqb, hinv⟩
 conv => whnf
 refine br_split ?_ ?_
 · intro h
   have hk0 : 0 < k := by have : (0 : Int) ≤ (k : Int) - 1 := by simpa using h
                          omega
   have hA : A.isSome = true := slres_some (facts_one hw) (by rw [u32V_length]; omega)
   have hkn : ((k : Int) - 1).toNat = k - 1 := by omega
   conv => whnf
   refine ⟨⟨by omega, by omega, hA⟩, ?_⟩
   conv => whnf
   refine LoadVC.elem u32c u32c_len (List.mem_singleton.2 rfl) rfl (by omega) (by decide) (fun _ => rfl) ?_
   rw [hkn]
   intro x hx
   have hxb : x < 2 ^ 32 := ha x (List.mem_of_getElem? hx)
   conv => whnf
   refine CallVC.fn (c_Div32 r x d hr hxb hd2) rfl ?_
   conv => whnf
   refine ⟨⟨by omega, by omega⟩, ?_⟩
   conv => whnf
   refine ⟨⟨by rw [hkn, u32V_length]; simp; show (k - 1) * 1 + 1 ≤ _; omega, by decide⟩, ?_⟩
   conv => whnf
   have hq2 : (r * 2 ^ 32 + x) / d < 2 ^ 32 := by
     apply Nat.div_lt_of_lt_mul
     have : (r + 1) * 2 ^ 32 ≤ d * 2 ^ 32 := Nat.mul_le_mul_right _ hr
     omega
   have hdrop : a.drop (k - 1) = x :: a.drop k := by
     obtain ⟨h5, h6⟩ := List.getElem?_eq_some_iff.1 hx
     rw [List.drop_eq_getElem_cons h5, h6, show k - 1 + 1 = k by omega]
   refine ⟨(k - 1, (r * 2 ^ 32 + x) / d :: q, (r * 2 ^ 32 + x) % d), ⟨by omega, by simp; omega, Nat.mod_lt _ hd, ?_, ?_⟩, by show k - 1 < k; omega, ?_⟩
   · intro v hv
     rcases List.mem_cons.1 hv with rfl | hv
     · exact hq2
     · exact hqb v hv
   · rw [hdrop]
     simp only [lv]
     rw [hinv]
     have h7 := Nat.div_add_mod (r * 2 ^ 32 + x) d
     generalize (r * 2 ^ 32 + x) / d = q' at *
     generalize (r * 2 ^ 32 + x) % d = r' at *
     rw [Nat.mul_add, Nat.mul_add, Nat.mul_left_comm d (2 ^ 32)]
     omega
   · refine SLe.id ⟨rfl, rfl, rfl, rfl, ?_, trivial⟩ ⟨⟨_, rfl, ?_⟩, trivial⟩ (fun R hR => hR)
     · show some (SV.o (.v (.int _ (IntKind.i64.wrap ((k : Int) - 1 - 1))))) = some (SV.o (.v (.int _ (((k - 1 : Nat) : Int) - 1))))
       rw [wrap_i64 (by omega) (by omega)]
       congr 4; omega
     · show MEle (ME.own _ _ _ (putN (((k : Int) - 1).toNat * 1) [Value.int .u32 (((r * 2 ^ 32 + x) / d : Nat) : Int)] (rowV u32c (List.replicate k 0 ++ q)))) (ME.own _ _ _ (rowV u32c (List.replicate (k - 1) 0 ++ (r * 2 ^ 32 + x) / d :: q)))
       have hrep : List.replicate k 0 ++ q = List.replicate (k - 1) 0 ++ 0 :: q := by
         have : List.replicate k 0 = List.replicate (k - 1) 0 ++ [0] := by rw [← List.replicate_succ']; congr 1; omega
         rw [this]; simp
       rw [hkn, hrep, u32V_mid (List.replicate (k - 1) 0) q 0 _ (by simp)]
       simp only [List.append_assoc, List.singleton_append]
       exact .refl _
 · intro h
   have hk0 : k = 0 := by have : ¬ (0 : Int) ≤ (k : Int) - 1 := by simpa using h
                          omega
   subst hk0
   rw [List.drop_zero] at hinv
   obtain ⟨hdq, hdr⟩ := short_div hr hinv
   have hdig : tr q = digs (2 ^ 32) (lv (2 ^ 32) a / d) := by rw [tr_eq (by decide) hqb, hdq]
   have hql : a.length = q.length := by omega
   conv => whnf
   refine CallVC.cutO (n := a.length) (xs := u32V (List.replicate 0 0 ++ q)) (n' := (tr q).length) 33 (fun A c hc => ?_) rfl (by rw [hql]; exact tr_length q) rfl rfl ?_ rfl
   · rw [hql]; exact c_trim A c q (by omega) (by omega)
   · conv => whnf
     refine ⟨33, by rw [hdr], ?_⟩
     show some (ME.own t_uint32 1 (tr q).length ((rowV u32c q).take ((tr q).length * 1))) = _
     rw [rowV_take u32c_len, tr_take, hdig]
end Go.Sx
end
section
set_option maxRecDepth 10000
namespace Go.Sx
open Go Go.Proofs
theorem pad_lv {B : Nat} (hB : 0 < B) : ∀ (l : List Nat), (∀ x ∈ l, x < B) → pad B l.length (lv B l) = l
 | [], _ => rfl
 | x :: l, h => by
   have hx := h x (by simp)
   rw [List.length_cons, pad_succ, lv, Nat.add_mul_mod_self_left, Nat.mod_eq_of_lt hx, Nat.add_mul_div_left _ _ hB, Nat.div_eq_of_lt hx, Nat.zero_add, pad_lv hB l (fun y hy => h y (List.mem_cons_of_mem _ hy))]
theorem shift_low {x n h : Nat} (hx : x < 2 ^ 32) (hn : n < 32) (hh : h < 2 ^ n) : x * 2 ^ n / 2 ^ 32 < 2 ^ n ∧ ∃ m, x * 2 ^ n % 2 ^ 32 = m * 2 ^ n ∧ h + m * 2 ^ n < 2 ^ 32 := by
 have hp : (2 : Nat) ^ 32 = 2 ^ (32 - n) * 2 ^ n := by rw [← Nat.pow_add]; congr 1; omega
 have hpos : 0 < (2 : Nat) ^ n := Nat.pow_pos (by decide)
 refine ⟨Nat.div_lt_of_lt_mul (Nat.mul_lt_mul_of_pos_right hx hpos), x % 2 ^ (32 - n), ?_, ?_⟩
 · rw [hp, Nat.mul_mod_mul_right]
 · have h1 : x % 2 ^ (32 - n) < 2 ^ (32 - n) := Nat.mod_lt _ (Nat.pow_pos (by decide))
   have h2 : (x % 2 ^ (32 - n) + 1) * 2 ^ n ≤ 2 ^ (32 - n) * 2 ^ n := Nat.mul_le_mul_right _ h1
   rw [← hp, Nat.add_mul, Nat.one_mul] at h2
   omega
theorem shift_step {B i h x p : Nat} {a o : List Nat} (ho : o.length = i) (hv : lv B o + B ^ i * h = lv B (a.take i) * p) (hx : a[i]? = some x) :
   lv B (o ++ [h + x * p % B]) + B ^ (i + 1) * (x * p / B) = lv B (a.take (i + 1)) * p := by
 have h1 : B ^ i * (x * p % B) + B ^ i * (B * (x * p / B)) = B ^ i * (x * p) := by rw [← Nat.mul_add, Nat.mod_add_div]
 rw [lv_snoc, ho, lv_take_succ hx, Nat.add_mul, ← hv, Nat.pow_succ, Nat.mul_add, Nat.mul_assoc (B ^ i) B, Nat.mul_assoc (B ^ i) x]
 omega
theorem c_shift (A : Option Addr) (c : Nat) (a : List Nat) (n : Nat) (ha : ∀ x ∈ a, x < 2 ^ 32) (hn : n < 32) (hla : a.length ≤ 100000000000) :
   FnM PP f_bigint_limbs_shift [.slice A a.length c, .int .i64 n] (facts [SlRes A (u32V a)]) (retsO t_uint32 1 (a.length + 1) (u32V (pad (2 ^ 32) (a.length + 1) (lv (2 ^ 32) a * 2 ^ n)))) := by
 refine FnO.of TBgood mixed h_bigint_limbs_shift rfl rfl (Nat.le_of_ble_eq_true rfl) (by simp [SlRes.ok]) ?_
 intro w hw
 have hcap : IntKind.i64.wrap ((a.length : Int) + 1) = ((a.length + 1 : Nat) : Int) := by rw [wrap_i64 (by omega) (by omega)]; omega
 have hpos : 0 < (2 : Nat) ^ n := Nat.pow_pos (by decide)
 conv => whnf
 refine ⟨by rw [hcap]; exact ⟨by omega, by omega, by show (4 : Int) * _ ≤ _; omega, by omega⟩, ?_⟩
 conv => whnf
 refine sexec_loop (ι := List Nat × Nat) (fun ⟨o, h⟩ => ⟨[(0, .o (.v (.slice A a.length c))), (1, .o (.v (.int .i64 n))), (5, .o (.w 12)), (13, .o (.v (.slice A a.length c))), (14, .o (.v (.int .i64 a.length))), (15, .o (.v (.int .i64 o.length)))], [(12, .own t_uint32 1 (a.length + 1) (u32V (o ++ h :: List.replicate (a.length - o.length) 0)))], [SlRes A (u32V a)]⟩)
   (fun ⟨o, h⟩ => o.length ≤ a.length ∧ h < 2 ^ n ∧ (∀ x ∈ o, x < 2 ^ 32) ∧ lv (2 ^ 32) o + (2 ^ 32) ^ o.length * h = lv (2 ^ 32) (a.take o.length) * 2 ^ n) (fun ⟨o, h⟩ => a.length - o.length) ([], 0)
   ⟨Nat.zero_le _, hpos, (fun _ h => by cases h), by simp [lv]⟩ (SLe.id ⟨rfl, rfl, rfl, rfl, rfl, rfl, trivial⟩ ⟨⟨_, rfl, ?_⟩, trivial⟩ (fun R hR => hR)) ?_
 · rw [hcap]
   simp only [ME.ren, Int.toNat_natCast, List.length_nil, Nat.sub_zero, List.nil_append, ← List.replicate_succ]
   simp only [u32V, rowV_repl]
   exact .refl _
 rintro ⟨o, h⟩ ⟨ho, hh, hob, hinv⟩
 conv => whnf
 refine br_split ?_ ?_
 · intro hlt
   have hi : o.length < a.length := by have : (o.length : Int) < a.length := by simpa using hlt
                                       omega
   have hA : A.isSome = true := slres_some (facts_one hw) (by rw [u32V_length]; omega)
   have hip : IntKind.i64.wrap ((o.length : Int) + 1) = ((o.length + 1 : Nat) : Int) := by rw [wrap_i64 (by omega) (by omega)]; omega
   conv => whnf
   refine ⟨⟨by omega, by omega, hA⟩, ?_⟩
   conv => whnf
   refine LoadVC.elem u32c u32c_len (List.mem_singleton.2 rfl) rfl (by rw [Int.toNat_natCast]; exact hi) (by decide) (fun _ => rfl) ?_
   rw [Int.toNat_natCast]
   intro x hx
   have hxb : x < 2 ^ 32 := ha x (List.mem_of_getElem? hx)
   obtain ⟨hhi, m, hm, hsum⟩ := shift_low hxb hn hh
   have hy : IntKind.u64.wrap (IntKind.u64.wrap (x : Int) * 2 ^ min (n : Int).toNat IntKind.u64.bits) = ((x * 2 ^ n : Nat) : Int) := by
     have e1 : IntKind.u64.wrap (x : Int) = (x : Int) := by rw [IntKind.wrap_u64]; omega
     have e2 : ((x : Int) * 2 ^ n) = ((x * 2 ^ n : Nat) : Int) := by rw [Int.natCast_mul, Int.natCast_pow]; rfl
     have e3 : x * 2 ^ n < 2 ^ 64 := by
       have h1 : x * 2 ^ n < 2 ^ 32 * 2 ^ n := Nat.mul_lt_mul_of_pos_right hxb hpos
       have h2 : (2 : Nat) ^ 32 * 2 ^ n ≤ 2 ^ 64 := by rw [← Nat.pow_add]; exact Nat.pow_le_pow_right (by decide) (by omega)
       omega
     rw [e1, Int.toNat_natCast, show min n IntKind.u64.bits = n from Nat.min_eq_left (by show n ≤ 64; omega), e2, IntKind.wrap_u64]; omega
   conv => whnf
   refine ⟨by omega, ?_⟩
   conv => whnf
   refine ⟨⟨by omega, by omega⟩, ?_⟩
   conv => whnf
   refine RowVC.elem u32c u32c_len (k := o.length) (by rw [Int.toNat_natCast]; rfl) (by simp) (by decide) (fun _ => rfl) ?_
   intro h' hh'
   have hhh : h' = h := by
     rw [List.getElem?_append_right (Nat.le_refl _), Nat.sub_self] at hh'
     exact (Option.some.inj hh').symm
   subst hhh
   conv => whnf
   refine ⟨⟨by omega, by omega⟩, ?_⟩
   conv => whnf
   refine ⟨⟨by rw [u32V_length]; simp; show _ * 1 + 1 ≤ _; omega, by decide⟩, ?_⟩
   conv => whnf
   refine ⟨by decide, ?_⟩
   conv => whnf
   refine ⟨⟨by rw [hip]; omega, by rw [hip]; omega⟩, ?_⟩
   conv => whnf
   have hor : IntKind.u32.wrap (BitVec.toNat (w := 32) (BitVec.ofInt 32 (h' : Int) ||| BitVec.ofInt 32 (IntKind.u32.wrap ((x * 2 ^ n : Nat) : Int))) : Int) = ((h' + m * 2 ^ n : Nat) : Int) := by
     have e1 : IntKind.u32.wrap ((x * 2 ^ n : Nat) : Int) = ((m * 2 ^ n : Nat) : Int) := by rw [IntKind.wrap_u32, ← hm]; rfl
     rw [e1]
     exact or_add hh hsum
   have hrep : List.replicate (a.length - o.length) 0 = 0 :: List.replicate (a.length - (o.length + 1)) 0 := by rw [← List.replicate_succ]; congr 1; omega
   have hput1 : ∀ v : Int, v = ((h' + m * 2 ^ n : Nat) : Int) → putN ((o.length : Int).toNat * 1) [Value.int .u32 v] (rowV u32c (o ++ h' :: List.replicate (a.length - o.length) 0))
       = rowV u32c ((o ++ [h' + m * 2 ^ n]) ++ 0 :: List.replicate (a.length - (o.length + 1)) 0) := by
     intro v hv
     rw [hv, u32V_mid o _ _ _ (by simp), hrep]
   refine ⟨⟨?_, by decide⟩, ?_⟩
   · show _ ≤ (putN ((o.length : Int).toNat * 1) [Value.int .u32 _] (rowV u32c _)).length
     rw [hput1 _ (by rw [hy]; exact hor), hip, u32V_length]
     simp
     show (o.length + 1) * 1 + 1 ≤ _
     omega
   conv => whnf
   refine ⟨(o ++ [h' + m * 2 ^ n], x * 2 ^ n / 2 ^ 32), ⟨by simp; omega, hhi, ?_, ?_⟩, by simp; omega, ?_⟩
   · intro v hv
     rcases List.mem_append.1 hv with hv | hv
     · exact hob v hv
     · rw [List.mem_singleton.1 hv]; exact hsum
   · rw [List.length_append]
     show lv (2 ^ 32) (o ++ [h' + m * 2 ^ n]) + (2 ^ 32) ^ (o.length + 1) * (x * 2 ^ n / 2 ^ 32) = lv (2 ^ 32) (a.take (o.length + 1)) * 2 ^ n
     rw [← hm]
     exact shift_step rfl hinv hx
   · refine SLe.id ⟨rfl, rfl, rfl, rfl, rfl, ?_, trivial⟩ ⟨⟨_, rfl, ?_⟩, trivial⟩ (fun R hR => hR)
     · show some (SV.o (.v (.int _ (IntKind.i64.wrap ((o.length : Int) + 1))))) = some (SV.o (.v (.int _ (((o ++ [_]).length : Nat) : Int))))
       rw [hip, List.length_append]; rfl
     · show MEle (ME.own _ _ _ (putN ((IntKind.i64.wrap ((o.length : Int) + 1)).toNat * 1) [Value.int .u32 (IntKind.u32.wrap (Int.fdiv (IntKind.u64.wrap (IntKind.u64.wrap (x : Int) * 2 ^ min (n : Int).toNat IntKind.u64.bits)) (2 ^ 32)))] (putN ((o.length : Int).toNat * 1) [Value.int .u32 _] (rowV u32c (o ++ h' :: List.replicate (a.length - o.length) 0)))))
         (ME.own _ _ _ (rowV u32c ((o ++ [h' + m * 2 ^ n]) ++ (x * 2 ^ n / 2 ^ 32) :: List.replicate (a.length - (o ++ [_]).length) 0)))
       have hhi2 : IntKind.u32.wrap (Int.fdiv ((x * 2 ^ n : Nat) : Int) (2 ^ 32)) = ((x * 2 ^ n / 2 ^ 32 : Nat) : Int) := by
         rw [Int.fdiv_eq_ediv_of_nonneg _ (by decide)]
         have e5 : ((x * 2 ^ n : Nat) : Int) / 2 ^ 32 = ((x * 2 ^ n / 2 ^ 32 : Nat) : Int) := rfl
         have e6 : (2 : Nat) ^ n ≤ 2 ^ 32 := Nat.pow_le_pow_right (by decide) (by omega)
         rw [e5]
         generalize x * 2 ^ n / 2 ^ 32 = z at hhi ⊢
         rw [IntKind.wrap_u32]; omega
       rw [hput1 _ (by rw [hy]; exact hor), hy, hhi2, hip, u32V_mid (o ++ [h' + m * 2 ^ n]) _ _ _ (by simp)]
       simp only [List.length_append, List.append_assoc, List.singleton_append, List.cons_append, List.nil_append, List.length_cons, List.length_nil]
       exact .refl _
 · intro hlt
   have hi : o.length = a.length := by have : ¬ (o.length : Int) < a.length := by simpa using hlt
                                       omega
   have h32 : (2 : Nat) ^ n ≤ 2 ^ 32 := Nat.pow_le_pow_right (by decide) (by omega)
   conv => whnf
   refine ⟨12, rfl, ?_⟩
   show some (ME.own t_uint32 1 (a.length + 1) (u32V (o ++ h :: List.replicate (a.length - o.length) 0))) = _
   have hval : lv (2 ^ 32) (o ++ [h]) = lv (2 ^ 32) a * 2 ^ n := by rw [lv_snoc, hinv, hi, List.take_length]
   have := pad_lv (B := 2 ^ 32) (by decide) (o ++ [h]) (fun v hv => by
     rcases List.mem_append.1 hv with hv | hv
     · exact hob v hv
     · rw [List.mem_singleton.1 hv]; omega)
   rw [hval, List.length_append, hi] at this
   rw [hi, Nat.sub_self]
   simp only [List.replicate_zero]
   rw [← this]; rfl
end Go.Sx
end
section
set_option maxRecDepth 10000
namespace Go.Sx
open Go Go.Proofs
theorem lv_div_pow {B : Nat} (hB : 0 < B) {a : List Nat} (ha : ∀ x ∈ a, x < B) (i : Nat) (hi : i ≤ a.length) : lv B a / B ^ i = lv B (a.drop i) := by
 have h1 : lv B a = lv B (a.take i) + B ^ i * lv B (a.drop i) := by
   conv => lhs; rw [← List.take_append_drop i a]
   rw [lv_append, List.length_take, Nat.min_eq_left hi]
 have h2 : lv B (a.take i) < B ^ i := by
   have := lv_lt hB (a.take i) (fun z hz => ha z (List.mem_of_mem_take hz))
   rwa [List.length_take, Nat.min_eq_left hi] at this
 rw [h1, Nat.add_mul_div_left _ _ (Nat.pow_pos hB), Nat.div_eq_of_lt h2, Nat.zero_add]
theorem unshift_digit {a : List Nat} {i n x y : Nat} (ha : ∀ z ∈ a, z < 2 ^ 32) (hn : n < 32) (hx : a[i]? = some x) (hy : a[i + 1]? = some y ∨ (a.length ≤ i + 1 ∧ y = 0)) :
   lv (2 ^ 32) a / 2 ^ n / (2 ^ 32) ^ i % 2 ^ 32 = (x + y * 2 ^ 32) / 2 ^ n % 2 ^ 32 := by
 obtain ⟨hi, hxe⟩ := List.getElem?_eq_some_iff.1 hx
 have h1 : ∃ m, lv (2 ^ 32) (a.drop i) = x + 2 ^ 32 * (y + 2 ^ 32 * m) := by
   rw [List.drop_eq_getElem_cons hi, hxe]
   rcases hy with h | ⟨h, rfl⟩
   · obtain ⟨hj, hye⟩ := List.getElem?_eq_some_iff.1 h
     rw [List.drop_eq_getElem_cons hj, hye]
     exact ⟨_, rfl⟩
   · rw [List.drop_of_length_le h]
     exact ⟨0, rfl⟩
 obtain ⟨m, hm⟩ := h1
 have hp : (2 : Nat) ^ 32 = 2 ^ n * 2 ^ (32 - n) := by rw [← Nat.pow_add]; congr 1; omega
 have hpos : 0 < (2 : Nat) ^ n := Nat.pow_pos (by decide)
 rw [Nat.div_div_eq_div_mul, Nat.mul_comm, ← Nat.div_div_eq_div_mul, lv_div_pow (by decide) ha i (by omega), hm]
 have h2 : x + 2 ^ 32 * (y + 2 ^ 32 * m) = (x + y * 2 ^ 32) + 2 ^ n * (2 ^ 32 * (2 ^ (32 - n) * m)) := by
   have : 2 ^ n * (2 ^ 32 * (2 ^ (32 - n) * m)) = 2 ^ 32 * (2 ^ 32 * m) := by
     rw [Nat.mul_left_comm (2 ^ n), ← Nat.mul_assoc (2 ^ n) (2 ^ (32 - n)), ← hp]
   rw [this]; omega
 rw [h2, Nat.add_mul_div_left _ _ hpos, Nat.add_mul_mod_self_left]
theorem pad_snoc (B i v : Nat) : pad B (i + 1) v = pad B i v ++ [v / B ^ i % B] := by simp [pad, List.range_succ]
theorem c_unshift (A : Option Addr) (c : Nat) (a : List Nat) (n : Nat) (ha : ∀ x ∈ a, x < 2 ^ 32) (hn : n < 32) (hla : a.length ≤ 100000000000) :
   FnM PP f_bigint_limbs_unshift [.slice A a.length c, .int .i64 n] (facts [SlRes A (u32V a)]) (retsO t_uint32 1 (digs (2 ^ 32) (lv (2 ^ 32) a / 2 ^ n)).length (u32V (digs (2 ^ 32) (lv (2 ^ 32) a / 2 ^ n)))) := by
 refine FnO.of TBgood mixed h_bigint_limbs_unshift rfl rfl (Nat.le_of_ble_eq_true rfl) (by simp [SlRes.ok]) ?_
 intro w hw
 conv => whnf
 refine ⟨⟨by omega, by omega, by show (4 : Int) * _ ≤ _; omega, by omega⟩, ?_⟩
 conv => whnf
 refine sexec_loop (ι := Nat) (fun i => ⟨[(0, .o (.v (.slice A a.length c))), (1, .o (.v (.int .i64 n))), (5, .o (.w 10)), (12, .o (.v (.int .i64 a.length))), (13, .o (.v (.int .i64 i)))], [(10, .own t_uint32 1 a.length (u32V (pad (2 ^ 32) i (lv (2 ^ 32) a / 2 ^ n) ++ List.replicate (a.length - i) 0)))], [SlRes A (u32V a)]⟩)
   (fun i => i ≤ a.length) (fun i => a.length - i) 0 (Nat.zero_le _) (SLe.id ⟨rfl, rfl, rfl, rfl, rfl, trivial⟩ ⟨⟨_, rfl, ?_⟩, trivial⟩ (fun R hR => hR)) ?_
 · simp only [ME.ren, Int.toNat_natCast, Nat.sub_zero]
   show MEle _ (ME.own _ _ _ (rowV u32c ([] ++ List.replicate a.length 0)))
   rw [List.nil_append, rowV_repl]
   exact .refl _
 intro i hi
 conv => whnf
 refine br_split ?_ ?_
 · intro hlt
   have hi' : i < a.length := by have : (i : Int) < a.length := by simpa using hlt
                                 omega
   have hA : A.isSome = true := slres_some (facts_one hw) (by rw [u32V_length]; omega)
   have hip : IntKind.i64.wrap ((i : Int) + 1) = ((i + 1 : Nat) : Int) := by rw [wrap_i64 (by omega) (by omega)]; omega
   have hrep : List.replicate (a.length - i) 0 = 0 :: List.replicate (a.length - (i + 1)) 0 := by rw [← List.replicate_succ]; congr 1; omega
   have hput : ∀ (v : Int) (x y : Nat), a[i]? = some x → (a[i + 1]? = some y ∨ (a.length ≤ i + 1 ∧ y = 0)) → v = (((x + y * 2 ^ 32) / 2 ^ n % 2 ^ 32 : Nat) : Int) →
       putN ((i : Int).toNat * 1) [Value.int .u32 v] (rowV u32c (pad (2 ^ 32) i (lv (2 ^ 32) a / 2 ^ n) ++ List.replicate (a.length - i) 0)) = rowV u32c (pad (2 ^ 32) (i + 1) (lv (2 ^ 32) a / 2 ^ n) ++ List.replicate (a.length - (i + 1)) 0) := by
     intro v x y hx hy hv
     rw [hv, hrep, u32V_mid _ _ _ _ (by rw [pad_length, Int.toNat_natCast, Nat.mul_one]), pad_snoc, unshift_digit ha hn hx hy]
   conv => whnf
   refine ⟨⟨by omega, by omega, hA⟩, ?_⟩
   conv => whnf
   refine LoadVC.elem u32c u32c_len (List.mem_singleton.2 rfl) rfl (by rw [Int.toNat_natCast]; exact hi') (by decide) (fun _ => rfl) ?_
   rw [Int.toNat_natCast]
   intro x hx
   have hxb : x < 2 ^ 32 := ha x (List.mem_of_getElem? hx)
   have hx64 : IntKind.u64.wrap (x : Int) = (x : Int) := by rw [IntKind.wrap_u64]; omega
   have hshr : ∀ z : Nat, IntKind.u32.wrap (Int.fdiv (z : Int) (2 ^ min (n : Int).toNat IntKind.u64.bits)) = ((z / 2 ^ n % 2 ^ 32 : Nat) : Int) := fun z => by
     have e2 : ((2 : Int) ^ n) = ((2 ^ n : Nat) : Int) := by rw [Int.natCast_pow]; rfl
     rw [Int.toNat_natCast, show min n IntKind.u64.bits = n from Nat.min_eq_left (by show n ≤ 64; omega), e2, Int.fdiv_eq_ediv_of_nonneg _ (Int.natCast_nonneg _), IntKind.wrap_u32]
     have e3 : ((z : Int) / ((2 ^ n : Nat) : Int)) = ((z / 2 ^ n : Nat) : Int) := rfl
     rw [e3]; omega
   conv => whnf
   refine br_split ?_ ?_
   · intro h2
     have hj : i + 1 < a.length := by
       have : IntKind.i64.wrap ((i : Int) + 1) < (a.length : Int) := by simpa using h2
       rw [hip] at this; omega
     conv => whnf
     refine ⟨⟨by rw [hip]; omega, by rw [hip]; omega, hA⟩, ?_⟩
     conv => whnf
     refine LoadVC.elem u32c u32c_len (List.mem_singleton.2 rfl) rfl (by rw [hip, Int.toNat_natCast]; exact hj) (by decide) (fun _ => rfl) ?_
     rw [hip, Int.toNat_natCast]
     intro y hy
     have hyb : y < 2 ^ 32 := ha y (List.mem_of_getElem? hy)
     have hor : IntKind.u64.wrap (BitVec.toNat (w := 64) (BitVec.ofInt 64 (IntKind.u64.wrap (x : Int)) ||| BitVec.ofInt 64 (IntKind.u64.wrap (IntKind.u64.wrap (y : Int) * 2 ^ min (32 : Int).toNat IntKind.u64.bits))) : Int) = ((x + y * 2 ^ 32 : Nat) : Int) := by
       have e1 : IntKind.u64.wrap (IntKind.u64.wrap (y : Int) * 2 ^ min (32 : Int).toNat IntKind.u64.bits) = ((y * 2 ^ 32 : Nat) : Int) := by
         rw [show min (32 : Int).toNat IntKind.u64.bits = 32 from rfl, IntKind.wrap_u64, IntKind.wrap_u64]; omega
       rw [e1, hx64, u64_bv, BitVec.toNat_or, ofInt64_toNat (by omega), ofInt64_toNat (by omega), Nat.or_comm, Nat.mul_comm, ← Nat.two_pow_add_eq_or_of_lt hxb]
       omega
     conv => whnf
     refine ⟨by decide, ?_⟩
     conv => whnf
     refine ⟨by omega, ?_⟩
     conv => whnf
     refine ⟨⟨by omega, by omega⟩, ?_⟩
     conv => whnf
     refine ⟨⟨by rw [u32V_length]; simp [pad_length]; show i * 1 + 1 ≤ _; omega, by decide⟩, ?_⟩
     conv => whnf
     refine ⟨i + 1, by omega, by omega, ?_⟩
     refine SLe.id ⟨rfl, rfl, rfl, rfl, congrArg (fun z => some (SV.o (.v (.int .i64 z)))) hip, trivial⟩ ⟨⟨_, rfl, ?_⟩, trivial⟩ (fun R hR => hR)
     show MEle (ME.own _ _ _ (putN ((i : Int).toNat * 1) [Value.int .u32 _] (rowV u32c _))) (ME.own _ _ _ (rowV u32c _))
     rw [hput _ x y hx (.inl hy) (by exact (congrArg (fun z => IntKind.u32.wrap (Int.fdiv z (2 ^ min (n : Int).toNat IntKind.u64.bits))) hor).trans (hshr _))]
     exact .refl _
   · intro h2
     have hj : a.length ≤ i + 1 := by
       have : ¬ IntKind.i64.wrap ((i : Int) + 1) < (a.length : Int) := by simpa using h2
       rw [hip] at this; omega
     conv => whnf
     refine ⟨by omega, ?_⟩
     conv => whnf
     refine ⟨⟨by omega, by omega⟩, ?_⟩
     conv => whnf
     refine ⟨⟨by rw [u32V_length]; simp [pad_length]; show i * 1 + 1 ≤ _; omega, by decide⟩, ?_⟩
     conv => whnf
     refine ⟨i + 1, by omega, by omega, ?_⟩
     refine SLe.id ⟨rfl, rfl, rfl, rfl, congrArg (fun z => some (SV.o (.v (.int .i64 z)))) hip, trivial⟩ ⟨⟨_, rfl, ?_⟩, trivial⟩ (fun R hR => hR)
     show MEle (ME.own _ _ _ (putN ((i : Int).toNat * 1) [Value.int .u32 _] (rowV u32c _))) (ME.own _ _ _ (rowV u32c _))
     rw [hput _ x 0 hx (.inr ⟨hj, rfl⟩) ((congrArg (fun z => IntKind.u32.wrap (Int.fdiv z (2 ^ min (n : Int).toNat IntKind.u64.bits))) hx64).trans ((hshr x).trans (by simp)))]
     exact .refl _
 · intro hlt
   have hi' : i = a.length := by have : ¬ (i : Int) < a.length := by simpa using hlt
                                 omega
   obtain ⟨o, hoe⟩ : ∃ o, o = pad (2 ^ 32) i (lv (2 ^ 32) a / 2 ^ n) := ⟨_, rfl⟩
   have hz : pad (2 ^ 32) i (lv (2 ^ 32) a / 2 ^ n) ++ List.replicate (a.length - i) 0 = o := by rw [hoe, hi', Nat.sub_self]; simp
   have hol : a.length = o.length := by rw [hoe, pad_length, hi']
   have hob : ∀ x ∈ o, x < 2 ^ 32 := by rw [hoe]; exact pad_lt (by decide) _ _
   have hdig : tr o = digs (2 ^ 32) (lv (2 ^ 32) a / 2 ^ n) := by
     have h1 := lv_lt (by decide) a ha
     have h2 : lv (2 ^ 32) a / 2 ^ n ≤ lv (2 ^ 32) a := Nat.div_le_self _ _
     rw [tr_eq (by decide) hob, hoe, lv_pad (by decide), hi', Nat.mod_eq_of_lt (by omega)]
   conv => whnf
   refine CallVC.cutO (n := a.length) (xs := u32V (pad (2 ^ 32) i (lv (2 ^ 32) a / 2 ^ n) ++ List.replicate (a.length - i) 0)) (n' := (tr o).length) 44 (fun A c hc => ?_) rfl (by rw [hol]; exact tr_length o) rfl rfl ?_ rfl
   · rw [hz, hol]; exact c_trim A c o (by omega) (by omega)
   · conv => whnf
     refine ⟨44, rfl, ?_⟩
     show some (ME.own t_uint32 1 (tr o).length ((rowV u32c (pad (2 ^ 32) i (lv (2 ^ 32) a / 2 ^ n) ++ List.replicate (a.length - i) 0)).take ((tr o).length * 1))) = _
     rw [hz, rowV_take u32c_len, tr_take, hdig]
end Go.Sx
end
