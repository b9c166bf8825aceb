/- Tables: multiples of an eighth, their exponentials, the logarithms of those; the kernel has reckoned each of them anew, and each pair's check. -/
import Derived.Test.YthmppdaddnnjdaaExpPlain
import Derived.Test.YthmppdaddnnjdaaLogLaw
namespace Go.Proofs.Ythmppdaddnnjdaa
open Go.RowKit

def zL : List Nat := [3238002688, 3237740544, 3237478400, 3237216256, 3236954112, 3236691968, 3236429824, 3236167680, 3235905536, 3235643392, 3235381248, 3235119104, 3234856960, 3234594816, 3234332672, 3234070528, 3233808384, 3233546240, 3233284096, 3233021952, 3232759808, 3232497664, 3232235520, 3231973376, 3231711232, 3231449088, 3231186944, 3230924800, 3230662656, 3230400512, 3230138368, 3229876224, 3229614080, 3229089792, 3228565504, 3228041216, 3227516928, 3226992640, 3226468352, 3225944064, 3225419776, 3224895488, 3224371200, 3223846912, 3223322624, 3222798336, 3222274048, 3221749760, 3221225472, 3220176896, 3219128320, 3218079744, 3217031168, 3215982592, 3214934016, 3213885440, 3212836864, 3210739712, 3208642560, 3206545408, 3204448256, 3200253952, 3196059648, 3187671040, 0, 1040187392, 1048576000, 1052770304, 1056964608, 1059061760, 1061158912, 1063256064, 1065353216, 1066401792, 1067450368, 1068498944, 1069547520, 1070596096, 1071644672, 1072693248, 1073741824, 1074266112, 1074790400, 1075314688, 1075838976, 1076363264, 1076887552, 1077411840, 1077936128, 1078460416, 1078984704, 1079508992, 1080033280, 1080557568, 1081081856, 1081606144, 1082130432, 1082392576, 1082654720, 1082916864, 1083179008, 1083441152, 1083703296, 1083965440, 1084227584, 1084489728, 1084751872, 1085014016, 1085276160, 1085538304, 1085800448, 1086062592, 1086324736, 1086586880, 1086849024, 1087111168, 1087373312, 1087635456, 1087897600, 1088159744, 1088421888, 1088684032, 1088946176, 1089208320, 1089470464, 1089732608, 1089994752, 1090256896, 1090519040]
def xL : List Nat := [967827720, 969362444, 971101513, 973072137, 974191837, 975457003, 976890623, 978515128, 980355933, 981954487, 983136307, 984475485, 985992972, 987712511, 989661003, 990862339, 992113296, 993530815, 995137075, 996957207, 998632019, 999800566, 1001124704, 1002625149, 1004325375, 1006251984, 1007534039, 1008770946, 1010172546, 1011760767, 1013560457, 1015310670, 1016466094, 1017775360, 1019258954, 1020940085, 1022845057, 1024206924, 1025429940, 1026815799, 1028386182, 1030165660, 1031990428, 1033132876, 1034427438, 1035894369, 1037556620, 1039440198, 1040880981, 1042090262, 1043460556, 1045013303, 1046772796, 1048671281, 1049800898, 1051080921, 1052531378, 1054174960, 1056037383, 1057556197, 1058751896, 1060106801, 1061642109, 1063381841, 1065353216, 1066470146, 1067735794, 1069169961, 1070795084, 1072636591, 1074232558, 1075414828, 1076754516, 1078272582, 1079992775, 1081942010, 1083140607, 1084392041, 1085810101, 1087416973, 1089237798, 1090910051, 1092079044, 1093403686, 1094904703, 1096605577, 1098532920, 1099812267, 1101049646, 1102451780, 1104040606, 1105840981, 1107588665, 1108744529, 1110054295, 1111538453, 1113220225, 1115125923, 1116485113, 1117708595, 1119094981, 1120665963, 1122446119, 1124268386, 1125411269, 1126706325, 1128173815, 1129836699, 1131720994, 1133159130, 1134368872, 1135739688, 1137293027, 1139053190, 1140949202, 1142079249, 1143359761, 1144810770, 1146454979, 1148318112, 1149834307, 1151030462, 1152385883, 1153921776, 1155662171, 1157631101, 1158748457, 1160014587, 1161449300]
def lL : List Nat := [3229614080, 3229089792, 3228565504, 3228041216, 3227516928, 3226992640, 3226468352, 3225944064, 3225419776, 3224895488, 3224371200, 3223846912, 3223322624, 3222798336, 3222274048, 3221749760, 3221225472, 3220176896, 3219128320, 3218079744, 3217031168, 3215982592, 3214934016, 3213885440, 3212836864, 3210739712, 3208642560, 3206545407, 3204448256, 3200253951, 3196059648, 3187671041, 0, 1040187389, 1048576000, 1052770305, 1056964607, 1059061760, 1061158913, 1063256064, 1065353215, 1066401792, 1067450368, 1068498944, 1069547520, 1070596096, 1071644672, 1072693248, 1073741824, 1074266112, 1074790400, 1075314688, 1075838976, 1076363264, 1076887552, 1077411840, 1077936128, 1078460416, 1078984704, 1079508992, 1080033280, 1080557568, 1081081856, 1081606144, 1082130432]
def zt (m : Nat) : Nat := zL.getD m 0
def xt (m : Nat) : Nat := xL.getD m 0
def lt (c : Nat) : Nat := lL.getD c 0

def okZ (m : Nat) : Bool := decide (zO m = some (zt m)) && decide (expO (zt m) = some (xt m)) && decide (zt m % 2147483648 < 2139095040) && decide (zt m < 4294967296) && decide (xt m < 2139095040) && decide (xt m ≠ 0) &&
  !(FloatKind.f32.format.order (zt m) 1128792064 == some .gt) && !(FloatKind.f32.format.order (zt m) 3276275712 == some .lt)
def okP (c d : Nat) : Bool := decide (floatBits .add .f32 (zt (c + 32)) (zt (d + 32)) = some (zt (c + d))) &&
  (floatBits .mul .f64 (Flt.W (xt (c + 32))) (Flt.W (xt (d + 32)))).any fun p => (gapO p (Flt.W (xt (c + d)))).any fun g => (floatBits .mul .f64 4562254508917369340 (Flt.W (xt (c + d)))).any fun q => FloatKind.f64.format.order g q == some .lt
def okC (c : Nat) : Bool := decide (lgF (xt (c + 32)) = some (lt c)) && decide (lt c % 2147483648 < 2139095040) && ((gapO (Flt.W (lt c)) (Flt.W (zt (c + 32)))).any fun g => FloatKind.f64.format.order g 4562254508917369340 == some .lt) && (FloatKind.f32.format.order (xt (c + 32)) 0 == some .gt)
theorem okZ_0 : (List.range' 0 13).all okZ = true := by decide +kernel
theorem okZ_1 : (List.range' 13 13).all okZ = true := by decide +kernel
theorem okZ_2 : (List.range' 26 13).all okZ = true := by decide +kernel
theorem okZ_3 : (List.range' 39 13).all okZ = true := by decide +kernel
theorem okZ_4 : (List.range' 52 13).all okZ = true := by decide +kernel
theorem okZ_5 : (List.range' 65 13).all okZ = true := by decide +kernel
theorem okZ_6 : (List.range' 78 13).all okZ = true := by decide +kernel
theorem okZ_7 : (List.range' 91 13).all okZ = true := by decide +kernel
theorem okZ_8 : (List.range' 104 13).all okZ = true := by decide +kernel
theorem okZ_9 : (List.range' 117 12).all okZ = true := by decide +kernel
theorem okZ_all (m : Nat) (h : m < 129) : okZ m = true := by
  by_cases h0 : m < 13
  · exact List.all_eq_true.1 okZ_0 m (List.mem_range'_1.2 (by omega))
  by_cases h1 : m < 26
  · exact List.all_eq_true.1 okZ_1 m (List.mem_range'_1.2 (by omega))
  by_cases h2 : m < 39
  · exact List.all_eq_true.1 okZ_2 m (List.mem_range'_1.2 (by omega))
  by_cases h3 : m < 52
  · exact List.all_eq_true.1 okZ_3 m (List.mem_range'_1.2 (by omega))
  by_cases h4 : m < 65
  · exact List.all_eq_true.1 okZ_4 m (List.mem_range'_1.2 (by omega))
  by_cases h5 : m < 78
  · exact List.all_eq_true.1 okZ_5 m (List.mem_range'_1.2 (by omega))
  by_cases h6 : m < 91
  · exact List.all_eq_true.1 okZ_6 m (List.mem_range'_1.2 (by omega))
  by_cases h7 : m < 104
  · exact List.all_eq_true.1 okZ_7 m (List.mem_range'_1.2 (by omega))
  by_cases h8 : m < 117
  · exact List.all_eq_true.1 okZ_8 m (List.mem_range'_1.2 (by omega))
  exact List.all_eq_true.1 okZ_9 m (List.mem_range'_1.2 (by omega))
theorem okC_0 : (List.range' 0 13).all okC = true := by decide +kernel
theorem okC_1 : (List.range' 13 13).all okC = true := by decide +kernel
theorem okC_2 : (List.range' 26 13).all okC = true := by decide +kernel
theorem okC_3 : (List.range' 39 13).all okC = true := by decide +kernel
theorem okC_4 : (List.range' 52 13).all okC = true := by decide +kernel
theorem okC_all (m : Nat) (h : m < 65) : okC m = true := by
  by_cases h0 : m < 13
  · exact List.all_eq_true.1 okC_0 m (List.mem_range'_1.2 (by omega))
  by_cases h1 : m < 26
  · exact List.all_eq_true.1 okC_1 m (List.mem_range'_1.2 (by omega))
  by_cases h2 : m < 39
  · exact List.all_eq_true.1 okC_2 m (List.mem_range'_1.2 (by omega))
  by_cases h3 : m < 52
  · exact List.all_eq_true.1 okC_3 m (List.mem_range'_1.2 (by omega))
  exact List.all_eq_true.1 okC_4 m (List.mem_range'_1.2 (by omega))

end Go.Proofs.Ythmppdaddnnjdaa
