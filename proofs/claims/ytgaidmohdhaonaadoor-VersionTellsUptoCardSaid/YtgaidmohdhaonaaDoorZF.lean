/-
  Plain law: the check sum's step, many times: one to one; parity; its order.
-/
import Derived.Test.YtgaidmohdhaonaaDoorWP
namespace Go.Proofs.YtgaidmohdhaonaaDoor
set_option linter.unusedVariables false
set_option linter.unusedSimpArgs false
open Go

/-- The step, k times. -/
def csN : Nat → Nat → Nat
  | 0, z => z
  | k + 1, z => csN k (cs z)

theorem csN_add (a : Nat) : ∀ (b z : Nat), csN (a + b) z = csN a (csN b z)
  | 0, _ => rfl
  | b + 1, z => csN_add a b (cs z)
theorem csN_comm (a b z : Nat) : csN a (csN b z) = csN b (csN a z) := by rw [← csN_add, ← csN_add, Nat.add_comm]
theorem csN_xor : ∀ (k a b : Nat), csN k (a ^^^ b) = csN k a ^^^ csN k b
  | 0, _, _ => rfl
  | k + 1, a, b => by show csN k (cs (a ^^^ b)) = _; rw [cs_xor, csN_xor k]; rfl
theorem cs_lt {z : Nat} (h : z < 4294967296) : cs z < 4294967296 := by
  unfold cs
  split
  · exact Nat.xor_lt_two_pow (n := 32) (by omega) (by omega)
  · omega
theorem csN_lt : ∀ (k : Nat) {z : Nat}, z < 4294967296 → csN k z < 4294967296
  | 0, _, h => h
  | k + 1, _, h => csN_lt k (cs_lt h)
theorem xor_zero_eq {a b : Nat} (h : a ^^^ b = 0) : a = b := by
  have h1 : (a ^^^ b) ^^^ b = b := by rw [h, Nat.zero_xor]
  rwa [Nat.xor_assoc, Nat.xor_self, Nat.xor_zero] at h1
theorem cs_zero {z : Nat} (h : z < 4294967296) (h0 : cs z = 0) : z = 0 := by
  unfold cs at h0
  split at h0
  · have := xor_zero_eq h0; omega
  · omega
theorem csN_zero : ∀ (k : Nat) {z : Nat}, z < 4294967296 → csN k z = 0 → z = 0
  | 0, _, _, h => h
  | k + 1, _, h, h0 => cs_zero h (csN_zero k (cs_lt h) h0)
theorem csN_of_zero : ∀ k, csN k 0 = 0
  | 0 => rfl
  | k + 1 => by show csN k (cs 0) = 0; rw [show cs 0 = 0 from rfl]; exact csN_of_zero k
/-- One to one. -/
theorem csN_inj (k : Nat) {a b : Nat} (ha : a < 4294967296) (hb : b < 4294967296) (h : csN k a = csN k b) : a = b := by
  have h1 : csN k (a ^^^ b) = 0 := by rw [csN_xor, h, Nat.xor_self]
  exact xor_zero_eq (csN_zero k (Nat.xor_lt_two_pow (n := 32) ha hb) h1)

/-! Linear maps of 32 bits, by their values at the 32 places. -/
def appL (L : List Nat) (v : Nat) : Nat :=
  match L with
  | [] => 0
  | y :: L => (if v % 2 = 1 then y else 0) ^^^ appL L (v / 2)
/-- L tells what f makes of a number of as many bits as L has places; s is the place of the first. -/
def Rep (f : Nat → Nat) : Nat → List Nat → Prop
  | _, [] => True
  | s, y :: L => y = f (2 ^ s) ∧ Rep f (s + 1) L
def Lin (f : Nat → Nat) : Prop := ∀ a b, f (a ^^^ b) = f a ^^^ f b

theorem Lin.zero {f : Nat → Nat} (h : Lin f) : f 0 = 0 := by
  have := h 0 0
  rw [Nat.xor_self, Nat.xor_self] at this
  exact this
theorem low_split (v s : Nat) : v * 2 ^ s = (v % 2) * 2 ^ s ^^^ (v / 2) * 2 ^ (s + 1) := by
  have h : v = (v % 2) ^^^ (v / 2) * 2 := by
    apply Nat.eq_of_testBit_eq
    intro i
    rw [Nat.testBit_xor]
    cases i with
    | zero => simp [Nat.testBit_zero, Nat.mul_mod_left]
    | succ i => simp [Nat.testBit_succ]
  have h2 : v * 2 ^ s = ((v % 2) ^^^ (v / 2) * 2) * 2 ^ s := by rw [← h]
  rw [h2, ← Nat.shiftLeft_eq, Nat.shiftLeft_xor_distrib, Nat.shiftLeft_eq, Nat.shiftLeft_eq, Nat.mul_assoc, ← Nat.pow_succ']
theorem appL_rep {f : Nat → Nat} (hf : Lin f) : ∀ (L : List Nat) (s v : Nat), Rep f s L → v < 2 ^ L.length → appL L v = f (v * 2 ^ s)
  | [], s, v, _, hv => by
    obtain rfl : v = 0 := by simp at hv; exact hv
    rw [Nat.zero_mul, hf.zero]; rfl
  | y :: L, s, v, h, hv => by
    rw [low_split, hf]
    unfold appL
    rw [appL_rep hf L (s + 1) (v / 2) h.2 (by rw [List.length_cons, Nat.pow_succ] at hv; omega), h.1]
    congr 1
    rcases Nat.mod_two_eq_zero_or_one v with e | e
    · rw [e, if_neg (by decide), Nat.zero_mul, hf.zero]
    · rw [e, if_pos rfl, Nat.one_mul]
theorem rep_map {f g : Nat → Nat} : ∀ (L : List Nat) (s : Nat), Rep f s L → Rep (fun v => g (f v)) s (L.map g)
  | [], _, _ => trivial
  | y :: L, s, h => ⟨by rw [h.1], rep_map L (s + 1) h.2⟩
theorem rep_congr {f g : Nat → Nat} (hfg : ∀ j, j < 32 → f (2 ^ j) = g (2 ^ j)) : ∀ (L : List Nat) (s : Nat), s + L.length ≤ 32 → Rep f s L → Rep g s L
  | [], _, _, _ => trivial
  | y :: L, s, hl, h => ⟨by rw [h.1]; exact hfg s (by rw [List.length_cons] at hl; omega), rep_congr hfg L (s + 1) (by rw [List.length_cons] at hl; omega) h.2⟩
theorem rep_sq {n : Nat} {L M : List Nat} (hl : L.length = 32) (h : Rep (csN n) 0 L) (hM : L.map (appL L) = M) : Rep (csN (n + n)) 0 M := by
  subst hM
  have h1 := rep_map (g := appL L) L 0 h
  refine rep_congr (fun j hj => ?_) _ 0 (by simp [hl]) h1
  have h2 : csN n (2 ^ j) < 2 ^ L.length := by
    rw [hl]; exact csN_lt n (Nat.lt_of_lt_of_le (Nat.pow_lt_pow_right (by omega) hj) (by decide))
  rw [appL_rep (fun a b => csN_xor n a b) L 0 _ h h2, Nat.pow_zero, Nat.mul_one, csN_add]

def sq0 : List Nat := [2197175160, 1, 2, 4, 8, 16, 32, 64, 128, 256, 512, 1024, 2048, 4096, 8192, 16384, 32768, 65536, 131072, 262144, 524288, 1048576, 2097152, 4194304, 8388608, 16777216, 33554432, 67108864, 134217728, 268435456, 536870912, 1073741824]
def sq1 : List Nat := [1098587580, 2197175160, 1, 2, 4, 8, 16, 32, 64, 128, 256, 512, 1024, 2048, 4096, 8192, 16384, 32768, 65536, 131072, 262144, 524288, 1048576, 2097152, 4194304, 8388608, 16777216, 33554432, 67108864, 134217728, 268435456, 536870912]
def sq2 : List Nat := [274646895, 549293790, 1098587580, 2197175160, 1, 2, 4, 8, 16, 32, 64, 128, 256, 512, 1024, 2048, 4096, 8192, 16384, 32768, 65536, 131072, 262144, 524288, 1048576, 2097152, 4194304, 8388608, 16777216, 33554432, 67108864, 134217728]
def sq3 : List Nat := [4067132163, 3778769143, 3348797215, 2329499855, 274646895, 549293790, 1098587580, 2197175160, 1, 2, 4, 8, 16, 32, 64, 128, 256, 512, 1024, 2048, 4096, 8192, 16384, 32768, 65536, 131072, 262144, 524288, 1048576, 2097152, 4194304, 8388608]
def sq4 : List Nat := [329422967, 658845934, 1317691868, 2635383736, 1069937025, 2139874050, 4279748100, 4223924985, 4067132163, 3778769143, 3348797215, 2329499855, 274646895, 549293790, 1098587580, 2197175160, 1, 2, 4, 8, 16, 32, 64, 128, 256, 512, 1024, 2048, 4096, 8192, 16384, 32768]
def sq5 : List Nat := [3712330424, 3211207553, 2065838579, 4131677158, 3915690301, 3609531531, 2879807463, 1386268991, 2772537982, 1332695565, 2665391130, 944848581, 1889697162, 3779394324, 3345318105, 2334619459, 329422967, 658845934, 1317691868, 2635383736, 1069937025, 2139874050, 4279748100, 4223924985, 4067132163, 3778769143, 3348797215, 2329499855, 274646895, 549293790, 1098587580, 2197175160]
def sq6 : List Nat := [1228700967, 2457401934, 555582061, 1111164122, 2222328244, 218129817, 436259634, 872519268, 1745038536, 3490077072, 2782971345, 1311636819, 2623273638, 1029407677, 2058815354, 4117630708, 4012927769, 3683426499, 3002414967, 1611012127, 3222024254, 2247366285, 235166699, 470333398, 940666796, 1881333592, 3762667184, 3311864721, 2401395155, 464041303, 928082606, 1856165212]
def sq7 : List Nat := [4060876286, 3790892301, 3322195179, 2313498407, 371599551, 743199102, 1486398204, 2972796408, 1737424129, 3474848258, 2614592245, 843281179, 1686562358, 3373124716, 2549607977, 704883363, 1409766726, 2819533452, 1441866729, 2883733458, 1378416981, 2756833962, 1297060773, 2594121546, 819083365, 1638166730, 3276333460, 2206053849, 51846467, 103692934, 207385868, 414771736]
def sq8 : List Nat := [1034342603, 2068685206, 4137370412, 3906662569, 3562641315, 2908707255, 1599260063, 3198520126, 2024235149, 4048470298, 3883005125, 3406798715, 2482194439, 571139839, 1142279678, 2284559356, 364593417, 729186834, 1458373668, 2916747336, 1582851681, 3165703362, 2089676661, 4179353322, 4158376741, 3931889851, 3512448903, 2807765503, 1264207119, 2528414238, 679830221, 1359660442]
def sq9 : List Nat := [1947135746, 3894271492, 3587689209, 2923684611, 1500229879, 3000459758, 1614984493, 3229968986, 2229707333, 203502203, 407004406, 814008812, 1628017624, 3256035248, 2177513873, 108529107, 217058214, 434116428, 868232856, 1736465712, 3472931424, 2616001073, 842429075, 1684858150, 3369716300, 2489311849, 760459811, 1520919622, 3041839244, 1869735913, 3739471826, 3089885525]
def sq10 : List Nat := [1771228834, 3542457668, 2745650297, 1117974019, 2235948038, 258461437, 516922874, 1033845748, 2067691496, 4135382992, 3910510929, 3620152403, 2858565207, 1361578591, 2723157182, 1095524237, 2191048474, 14485701, 28971402, 57942804, 115885608, 231771216, 463542432, 927084864, 1854169728, 3708339456, 3221093617, 2048364307, 4096728614, 3987884733, 3733513099, 3103633895]
def sq11 : List Nat := [3702618788, 3163456441, 2096198019, 4192396038, 4129927421, 3921614603, 3599915239, 2831730495, 1417541775, 2835083550, 1411093709, 2822187418, 1434592709, 2869185418, 1407508965, 2815017930, 1249898853, 2499797706, 739488613, 1478977226, 2957954452, 1701965273, 3403930546, 2418786709, 633075163, 1266150326, 2532300652, 674486313, 1348972626, 2697945252, 1148368825, 2296737650]
def sq12 : List Nat := [3178201592, 2134078721, 4268157442, 4179731189, 4155454235, 3937538247, 3498596223, 2768033807, 1276495599, 2552991198, 901475661, 1802951322, 3605902644, 2822184089, 1434603459, 2869206918, 1407535613, 2815071226, 1249464581, 2498929162, 738800357, 1477600714, 2955201428, 1705370073, 3410740146, 2474373525, 589010395, 1178020790, 2356041580, 489740329, 979480658, 1958961316]
def sq13 : List Nat := [4264641112, 4186894913, 4143026803, 3893318167, 3589460703, 2919879503, 1509937263, 3019874526, 1645426509, 3290853018, 2376117189, 514662779, 1029325558, 2058651116, 4117302232, 4013842753, 3683693683, 2999787031, 1618365151, 3236730302, 2218089869, 226938347, 453876694, 907753388, 1815506776, 3631013552, 3040201617, 1871176147, 3742352294, 3153326525, 1913361803, 3826723606]
def sq14 : List Nat := [4149242244, 3947668985, 3547675907, 2735082743, 1138781983, 2277563966, 174967437, 349934874, 699869748, 1399739496, 2799478992, 1213540177, 2427080354, 616098741, 1232197482, 2464394964, 539700057, 1079400114, 2158800228, 78982201, 157964402, 315928804, 631857608, 1263715216, 2527430432, 682064049, 1364128098, 2728256196, 1087878009, 2175756018, 112376597, 224753194]
def sq15 : List Nat := [3265640030, 2158434893, 77742699, 155485398, 310970796, 621941592, 1243883184, 2487766368, 763161649, 1526323298, 3052646596, 1846220665, 3692441330, 3183487765, 2121015515, 4242031030, 4233950621, 4250246603, 4282862951, 4217564223, 4079595151, 3820956655, 3264356655, 2160604335, 75243439, 150486878, 300973756, 601947512, 1203895024, 2407790048, 451648817, 903297634]
def sq16 : List Nat := [3762348204, 3312301993, 2402752931, 461522359, 923044718, 1846089436, 3692178872, 3184012673, 2122067443, 4244134886, 4229742909, 4258657419, 4266106855, 4184033599, 4146783375, 3954819055, 3533637935, 2698142895, 1145618351, 2291236702, 349079629, 698159258, 1396318516, 2792637032, 1225060897, 2450121794, 570408565, 1140817130, 2281634260, 168920409, 337840818, 675681636]
def sq17 : List Nat := [3351957165, 2323245995, 287285671, 574571342, 1149142684, 2298285368, 337013889, 674027778, 1348055556, 2696111112, 1149943521, 2299887042, 398888309, 797776618, 1595553236, 3191106472, 2038735265, 4077470530, 3825135733, 3255932443, 2177850055, 108184447, 216368894, 432737788, 865475576, 1730951152, 3461902304, 2572986673, 928326803, 1856653606, 3713307212, 3208991337]
def sq18 : List Nat := [83680447, 167360894, 334721788, 669443576, 1338887152, 2677774304, 987453745, 1974907490, 3949814980, 3543580537, 2743142403, 1122920183, 2245840366, 240512301, 481024602, 962049204, 1924098408, 3848196816, 3478246225, 2605699155, 863229527, 1726459054, 3452918108, 2658321481, 956956259, 1913912518, 3827825036, 3450045929, 2662038819, 951749815, 1903499630, 3806999260]
def sq19 : List Nat := [1806683169, 3613366338, 2874361461, 1397422619, 2794845238, 1221041821, 2442083642, 653397125, 1306794250, 2613588500, 846992089, 1693984178, 3387968356, 2517426233, 703968899, 1407937798, 2815875596, 1245823721, 2491647442, 753630549, 1507261098, 3014522196, 1656200281, 3312400562, 2402420629, 461928923, 923857846, 1847715692, 3695431384, 3177966401, 2134614131, 4269228262]
def sq20 : List Nat := [335823302, 671646604, 1343293208, 2686586416, 1168665233, 2337330466, 323869877, 647739754, 1295479508, 2590959016, 825343393, 1650686786, 3301373572, 2355207161, 489636099, 979272198, 1958544396, 3917088792, 3608700609, 2883369843, 1381302295, 2762604590, 1287157421, 2574314842, 923642949, 1847285898, 3694571796, 3179353305, 2129551171, 4259102342, 4266986493, 4182139147]
def sq21 : List Nat := [1746360842, 3492721684, 2779848409, 1317948227, 2635896454, 1070947325, 2141894650, 4283789300, 4215712025, 4083229891, 3811458935, 3283093535, 2190239439, 16038767, 32077534, 64155068, 128310136, 256620272, 513240544, 1026481088, 2052962176, 4105924352, 3969558769, 3705218835, 3160291543, 2102396767, 4204793534, 4037831565, 3837043179, 3431281959, 2632326335, 1008750479]
def sq22 : List Nat := [3791599207, 3323075135, 2311602831, 377287663, 754575326, 1509150652, 3018301304, 1646479361, 3292958722, 2371966709, 523164443, 1046328886, 2092657772, 4185315544, 4144088897, 3958372467, 3526592023, 2710272735, 1190822735, 2381645470, 503741389, 1007482778, 2014965556, 4029931112, 3851143713, 3472614067, 2551952279, 903549407, 1807098814, 3614197628, 2872375305, 1401259747]
def sq23 : List Nat := [2339516652, 319297321, 638594642, 1277189284, 2554378568, 896336993, 1792673986, 3585347972, 2927908345, 1491393795, 2982787590, 1719599869, 3439199738, 2618326277, 1036815611, 2073631222, 4147262444, 3951563049, 3539752099, 2685722551, 1170590111, 2341180222, 318460045, 636920090, 1273840180, 2547680360, 710508065, 1421016130, 2842032260, 1462208505, 2924417010, 1500670229]
def sq24 : List Nat := [1444372256, 2888744512, 1571883633, 3143767266, 1932025653, 3864051306, 3377269285, 2541118139, 721466247, 1442932494, 2885864988, 1575611081, 3151222162, 1917574613, 3835149226, 3435332005, 2624222651, 1027120519, 2054241038, 4108482076, 3962084041, 3720168291, 3197562935, 2025952927, 4051905854, 3874106509, 3359125483, 2510039335, 785654975, 1571309950, 3142619900, 1934447369]
def sq25 : List Nat := [3114523856, 1990971217, 3981942434, 3745729461, 3144343963, 1933161927, 3866323854, 3372917229, 2549691691, 706616487, 1413232974, 2826465948, 1427936201, 2855872402, 1369323989, 2738647978, 1133810085, 2267620170, 197013605, 394027210, 788054420, 1576108840, 3152217680, 1915386449, 3830772898, 3443892149, 2674346395, 992142791, 1984285582, 3968571164, 3707459785, 3155871587]
def sq26 : List Nat := [3710744734, 3216410573, 2055305579, 4110611158, 4025062237, 3661582411, 2979190375, 1724504639, 3449009278, 2664111629, 947538667, 1895077334, 3790154668, 3325960617, 2307929507, 382475703, 764951406, 1529902812, 3059805624, 1764601217, 3529202434, 2707079413, 1197078299, 2394156598, 411806365, 823612730, 1647225460, 3294450920, 2371280673, 524404915, 1048809830, 2097619660]
def sq27 : List Nat := [1141075018, 2282150036, 367118297, 734236594, 1468473188, 2936946376, 1542458209, 3084916418, 1781291893, 3562583786, 2908560165, 1599488187, 3198976374, 2025157661, 4050315322, 3879315077, 3416210427, 2463236359, 541619455, 1083238910, 2166477820, 128962825, 257925650, 515851300, 1031702600, 2063405200, 4126810400, 3994563761, 3655081875, 3058977239, 1766122847, 3532245694]
def sq28 : List Nat := [1175610749, 2351221498, 497410821, 994821642, 1989643284, 3979286568, 3753002657, 3129539507, 1895661975, 3791323950, 3323621549, 2312673195, 375216551, 750433102, 1500866204, 3001732408, 1614408833, 3228817666, 2232141045, 268173083, 536346166, 1072692332, 2145384664, 4290769328, 4203976081, 4039859667, 3833253207, 3441028191, 2682236495, 978528879, 1957057758, 3914115516]
def sq29 : List Nat := [1481463145, 2962926290, 1691951957, 3383903914, 2525559717, 687702459, 1375404918, 2750809836, 1107327785, 2214655570, 233675349, 467350698, 934701396, 1869402792, 3738805584, 3093249105, 1968311891, 3936623782, 3500429245, 2762271115, 1285924327, 2571848654, 930799981, 1861599962, 3723199924, 3191569817, 2040171971, 4080343942, 3817226749, 3269522699, 2150472935, 95899455]
def sq30 : List Nat := [3905762274, 3564507445, 2902480027, 1609359303, 3218718606, 2053048813, 4106097626, 3968880965, 3704411259, 3161841159, 2097662719, 4195325438, 4059258125, 3859467499, 3388600103, 2518657215, 701704079, 1403408158, 2806816316, 1265977993, 2531955986, 674847957, 1349695914, 2699391828, 1143378009, 2286756018, 360069013, 720138026, 1440276052, 2880552104, 1385107361, 2770214722]
def sq31 : List Nat := [2197175160, 1, 2, 4, 8, 16, 32, 64, 128, 256, 512, 1024, 2048, 4096, 8192, 16384, 32768, 65536, 131072, 262144, 524288, 1048576, 2097152, 4194304, 8388608, 16777216, 33554432, 67108864, 134217728, 268435456, 536870912, 1073741824]

theorem rep0 : Rep (csN 1) 0 sq0 := by
  unfold sq0
  repeat (first | exact trivial | (refine ⟨by decide +kernel, ?_⟩))
theorem rep1 : Rep (csN 2) 0 sq1 := rep_sq (n := 1) rfl rep0 (by decide +kernel)
theorem rep2 : Rep (csN 4) 0 sq2 := rep_sq (n := 2) rfl rep1 (by decide +kernel)
theorem rep3 : Rep (csN 8) 0 sq3 := rep_sq (n := 4) rfl rep2 (by decide +kernel)
theorem rep4 : Rep (csN 16) 0 sq4 := rep_sq (n := 8) rfl rep3 (by decide +kernel)
theorem rep5 : Rep (csN 32) 0 sq5 := rep_sq (n := 16) rfl rep4 (by decide +kernel)
theorem rep6 : Rep (csN 64) 0 sq6 := rep_sq (n := 32) rfl rep5 (by decide +kernel)
theorem rep7 : Rep (csN 128) 0 sq7 := rep_sq (n := 64) rfl rep6 (by decide +kernel)
theorem rep8 : Rep (csN 256) 0 sq8 := rep_sq (n := 128) rfl rep7 (by decide +kernel)
theorem rep9 : Rep (csN 512) 0 sq9 := rep_sq (n := 256) rfl rep8 (by decide +kernel)
theorem rep10 : Rep (csN 1024) 0 sq10 := rep_sq (n := 512) rfl rep9 (by decide +kernel)
theorem rep11 : Rep (csN 2048) 0 sq11 := rep_sq (n := 1024) rfl rep10 (by decide +kernel)
theorem rep12 : Rep (csN 4096) 0 sq12 := rep_sq (n := 2048) rfl rep11 (by decide +kernel)
theorem rep13 : Rep (csN 8192) 0 sq13 := rep_sq (n := 4096) rfl rep12 (by decide +kernel)
theorem rep14 : Rep (csN 16384) 0 sq14 := rep_sq (n := 8192) rfl rep13 (by decide +kernel)
theorem rep15 : Rep (csN 32768) 0 sq15 := rep_sq (n := 16384) rfl rep14 (by decide +kernel)
theorem rep16 : Rep (csN 65536) 0 sq16 := rep_sq (n := 32768) rfl rep15 (by decide +kernel)
theorem rep17 : Rep (csN 131072) 0 sq17 := rep_sq (n := 65536) rfl rep16 (by decide +kernel)
theorem rep18 : Rep (csN 262144) 0 sq18 := rep_sq (n := 131072) rfl rep17 (by decide +kernel)
theorem rep19 : Rep (csN 524288) 0 sq19 := rep_sq (n := 262144) rfl rep18 (by decide +kernel)
theorem rep20 : Rep (csN 1048576) 0 sq20 := rep_sq (n := 524288) rfl rep19 (by decide +kernel)
theorem rep21 : Rep (csN 2097152) 0 sq21 := rep_sq (n := 1048576) rfl rep20 (by decide +kernel)
theorem rep22 : Rep (csN 4194304) 0 sq22 := rep_sq (n := 2097152) rfl rep21 (by decide +kernel)
theorem rep23 : Rep (csN 8388608) 0 sq23 := rep_sq (n := 4194304) rfl rep22 (by decide +kernel)
theorem rep24 : Rep (csN 16777216) 0 sq24 := rep_sq (n := 8388608) rfl rep23 (by decide +kernel)
theorem rep25 : Rep (csN 33554432) 0 sq25 := rep_sq (n := 16777216) rfl rep24 (by decide +kernel)
theorem rep26 : Rep (csN 67108864) 0 sq26 := rep_sq (n := 33554432) rfl rep25 (by decide +kernel)
theorem rep27 : Rep (csN 134217728) 0 sq27 := rep_sq (n := 67108864) rfl rep26 (by decide +kernel)
theorem rep28 : Rep (csN 268435456) 0 sq28 := rep_sq (n := 134217728) rfl rep27 (by decide +kernel)
theorem rep29 : Rep (csN 536870912) 0 sq29 := rep_sq (n := 268435456) rfl rep28 (by decide +kernel)
theorem rep30 : Rep (csN 1073741824) 0 sq30 := rep_sq (n := 536870912) rfl rep29 (by decide +kernel)
theorem rep31 : Rep (csN 2147483648) 0 sq31 := rep_sq (n := 1073741824) rfl rep30 (by decide +kernel)

/-- 2^31 steps are one. -/
theorem order : csN 2147483648 1 = cs 1 := by
  have h := appL_rep (fun a b => csN_xor 2147483648 a b) sq31 0 1 rep31 (by decide)
  rw [Nat.pow_zero, Nat.mul_one] at h
  rw [← h]
  decide +kernel
theorem order1 : csN 2147483647 1 = 1 := by
  have h : csN 1 (csN 2147483647 1) = csN 1 1 := by rw [← csN_add]; exact order
  exact csN_inj 1 (csN_lt _ (by decide)) (by decide) h

/-- No divisor from 2 on, up to there. -/
def noDiv (n : Nat) : Nat → Bool
  | 0 => true
  | k + 1 => (n % (k + 2) != 0) && noDiv n k
theorem noDiv_spec {n : Nat} : ∀ {k d : Nat}, noDiv n k = true → 2 ≤ d → d ≤ k + 1 → n % d ≠ 0
  | 0, d, _, h1, h2 => by omega
  | k + 1, d, h, h1, h2 => by
    unfold noDiv at h
    simp only [Bool.and_eq_true, bne_iff_ne, ne_eq] at h
    by_cases e : d = k + 2
    · rw [e]; exact h.1
    · exact noDiv_spec h.2 h1 (by omega)
theorem mers : noDiv 2147483647 46340 = true := by decide +kernel
theorem mers_prime {g : Nat} (h1 : 2 ≤ g) (h2 : g < 2147483647) (h : g ∣ 2147483647) : False := by
  obtain ⟨e, he⟩ := h
  by_cases hg : g ≤ 46341
  · exact noDiv_spec mers h1 hg (by rw [he]; exact Nat.mul_mod_right g e)
  · have he1 : e ≤ 46341 := by
      rcases Nat.lt_or_ge 46341 e with hh | hh
      · have := Nat.mul_le_mul (show 46342 ≤ g by omega) (show 46342 ≤ e by omega); omega
      · exact hh
    have he2 : 2 ≤ e := by
      rcases Nat.lt_or_ge e 2 with hh | hh
      · have : e = 0 ∨ e = 1 := by omega
        rcases this with rfl | rfl <;> omega
      · exact hh
    exact noDiv_spec mers he2 he1 (by rw [he]; exact Nat.mul_mod_left g e)

/-- What a power of the step leaves 1 alone: closed under division with rest. -/
theorem fix_mul {k : Nat} (h : csN k 1 = 1) : ∀ q, csN (k * q) 1 = 1
  | 0 => rfl
  | q + 1 => by rw [Nat.mul_succ, csN_add, h, fix_mul h q]
theorem fix_mod {a k : Nat} (ha : csN a 1 = 1) (h : csN k 1 = 1) : csN (a % k) 1 = 1 := by
  have h1 : csN (a % k + k * (a / k)) 1 = 1 := by rw [Nat.mod_add_div]; exact ha
  rwa [csN_add, fix_mul h] at h1
theorem fix_gcd : ∀ (k a : Nat), csN k 1 = 1 → csN a 1 = 1 → csN (Nat.gcd k a) 1 = 1 := by
  intro k
  induction k using Nat.strongRecOn with
  | _ k ih =>
    intro a hk ha
    by_cases h0 : k = 0
    · subst h0; rw [Nat.gcd_zero_left]; exact ha
    · rw [Nat.gcd_rec]
      exact ih (a % k) (Nat.mod_lt _ (by omega)) k (fix_mod ha hk) hk

/-- Two bits that are turned do not make up for one another. -/
theorem order_big {k : Nat} (h0 : 0 < k) (h1 : k < 2147483647) : csN k 1 ≠ 1 := by
  intro h
  have hg := fix_gcd k 2147483647 h order1
  have hd := Nat.gcd_dvd_right k 2147483647
  have hle := Nat.gcd_le_left 2147483647 h0
  have hpos := Nat.gcd_pos_of_pos_left 2147483647 h0
  generalize Nat.gcd k 2147483647 = g at hg hd hle hpos
  by_cases hg1 : g = 1
  · subst hg1
    revert hg
    decide +kernel
  · exact mers_prime (by omega) (by omega) hd

/-- Parity of the bits. -/
def par : Nat → Nat → Bool
  | 0, _ => false
  | k + 1, z => (z % 2 == 1) ^^ par k (z / 2)
theorem par_xor : ∀ (k a b : Nat), par k (a ^^^ b) = (par k a ^^ par k b)
  | 0, _, _ => rfl
  | k + 1, a, b => by
    unfold par
    rw [xor_half, par_xor k]
    have h : ((a ^^^ b) % 2 == 1) = ((a % 2 == 1) ^^ (b % 2 == 1)) := by
      rcases Nat.mod_two_eq_zero_or_one a with e | e <;> rcases Nat.mod_two_eq_zero_or_one b with e2 | e2 <;>
        (have := @Nat.xor_mod_two_eq_one a b; rw [e, e2] at *; rcases Nat.mod_two_eq_zero_or_one (a ^^^ b) with e3 | e3 <;> simp [e3] at this ⊢)
    rw [h]
    cases (a % 2 == 1) <;> cases (b % 2 == 1) <;> cases par k (a / 2) <;> cases par k (b / 2) <;> rfl
theorem par_high : ∀ (k z : Nat), z < 2 ^ k → par (k + 1) z = par k z
  | 0, z, h => by obtain rfl : z = 0 := by simp at h; exact h
                  rfl
  | k + 1, z, h => by
    rw [par, par_high k (z / 2) (by rw [Nat.pow_succ] at h; omega)]
    rfl
/-- A step leaves the parity. -/
theorem par_cs {z : Nat} (h : z < 4294967296) : par 32 (cs z) = par 32 z := by
  have h2 : par 32 (z / 2) = par 31 (z / 2) := par_high 31 (z / 2) (by omega)
  have h3 : par 32 z = ((z % 2 == 1) ^^ par 31 (z / 2)) := rfl
  unfold cs
  rcases Nat.mod_two_eq_zero_or_one z with e | e
  · rw [if_neg (by omega), h2, h3, e]
    cases par 31 (z / 2) <;> rfl
  · rw [if_pos e, par_xor, h2, h3, e, show par 32 2197175160 = true from by decide +kernel]
    cases par 31 (z / 2) <;> rfl
theorem par_csN : ∀ (k : Nat) {z : Nat}, z < 4294967296 → par 32 (csN k z) = par 32 z
  | 0, _, _ => rfl
  | k + 1, z, h => by show par 32 (csN k (cs z)) = _; rw [par_csN k (cs_lt h), par_cs h]

end Go.Proofs.YtgaidmohdhaonaaDoor
