/- The types and the functions of this seat's program, as the engine asks for them: laid by a program (seatgen.py) out of the translation. Conditions: none. -/
import Derived.Test.YtaglpaoipdmboaaGreatChecked
import Derived.Test.YtaglpaoipdmboaaGreatK2
import Derived.KernelRfl
import Derived.Test.YtaglpaoipdmboaaGreatK3
namespace Go.Proofs.YtaglpaoipdmboaaGreat
open Go.Eng
def ti1 : TI := ⟨.func #[] #[] false, 1, 8, .nilFunc, []⟩
theorem g1 : good Tryz.prog (1, ti1) := good_d rfl (by kernel_rfl) (by kernel_rfl)
def ti2 : TI := ⟨.int .i64, 1, 8, .int .i64 0, []⟩
theorem g2 : good Tryz.prog (2, ti2) := good_d rfl (by kernel_rfl) (by kernel_rfl)
def ti3 : TI := ⟨.int .i64, 1, 8, .int .i64 0, []⟩
theorem g3 : good Tryz.prog (3, ti3) := good_d rfl (by kernel_rfl) (by kernel_rfl)
def ti4 : TI := ⟨.bool, 1, 1, .bool false, []⟩
theorem g4 : good Tryz.prog (4, ti4) := good_d rfl (by kernel_rfl) (by kernel_rfl)
def ti5 : TI := ⟨.int .u8, 1, 1, .int .u8 0, []⟩
theorem g5 : good Tryz.prog (5, ti5) := good_d rfl (by kernel_rfl) (by kernel_rfl)
def ti6 : TI := ⟨.int .u8, 1, 1, .int .u8 0, []⟩
theorem g6 : good Tryz.prog (6, ti6) := good_d rfl (by kernel_rfl) (by kernel_rfl)
def ti7 : TI := ⟨.struct #[], 4, 24, .agg ⟨[.int .i64 0, .int .i64 0, .bool false, .int .u8 0]⟩, [(2, 0), (3, 1), (4, 2), (6, 3)]⟩
theorem g7 : good Tryz.prog (7, ti7) := good_s rfl (by kernel_rfl) (by kernel_rfl)
def ti8 : TI := ⟨.struct #[], 4, 24, .agg ⟨[.int .i64 0, .int .i64 0, .bool false, .int .u8 0]⟩, [(2, 0), (3, 1), (4, 2), (6, 3)]⟩
theorem g8 : good Tryz.prog (8, ti8) := good_s rfl (by kernel_rfl) (by kernel_rfl)
def ti9 : TI := ⟨.string, 1, 16, .string ⟨⟨[]⟩⟩, []⟩
theorem g9 : good Tryz.prog (9, ti9) := good_d rfl (by kernel_rfl) (by kernel_rfl)
def ti10 : TI := ⟨.string, 1, 16, .string ⟨⟨[]⟩⟩, []⟩
theorem g10 : good Tryz.prog (10, ti10) := good_d rfl (by kernel_rfl) (by kernel_rfl)
def ti11 : TI := ⟨.string, 1, 16, .string ⟨⟨[]⟩⟩, []⟩
theorem g11 : good Tryz.prog (11, ti11) := good_d rfl (by kernel_rfl) (by kernel_rfl)
def ti12 : TI := ⟨.int .u64, 1, 8, .int .u64 0, []⟩
theorem g12 : good Tryz.prog (12, ti12) := good_d rfl (by kernel_rfl) (by kernel_rfl)
def ti13 : TI := ⟨.struct #[], 2, 24, .agg ⟨[.string ⟨⟨[]⟩⟩, .int .u64 0]⟩, [(9, 0), (12, 1)]⟩
theorem g13 : good Tryz.prog (13, ti13) := good_s rfl (by kernel_rfl) (by kernel_rfl)
def ti14 : TI := ⟨.struct #[], 2, 24, .agg ⟨[.string ⟨⟨[]⟩⟩, .int .u64 0]⟩, [(9, 0), (12, 1)]⟩
theorem g14 : good Tryz.prog (14, ti14) := good_s rfl (by kernel_rfl) (by kernel_rfl)
def ti15 : TI := ⟨.pointer 188, 1, 8, .pointer none, []⟩
theorem g15 : good Tryz.prog (15, ti15) := good_d rfl (by kernel_rfl) (by kernel_rfl)
def ti16 : TI := ⟨.pointer 191, 1, 8, .pointer none, []⟩
theorem g16 : good Tryz.prog (16, ti16) := good_d rfl (by kernel_rfl) (by kernel_rfl)
def ti17 : TI := ⟨.pointer 199, 1, 8, .pointer none, []⟩
theorem g17 : good Tryz.prog (17, ti17) := good_d rfl (by kernel_rfl) (by kernel_rfl)
def ti18 : TI := ⟨.struct #[], 1, 8, .agg ⟨[.pointer none]⟩, [(17, 0)]⟩
theorem g18 : good Tryz.prog (18, ti18) := good_s rfl (by kernel_rfl) (by kernel_rfl)
def ti19 : TI := ⟨.struct #[], 1, 8, .agg ⟨[.pointer none]⟩, [(17, 0)]⟩
theorem g19 : good Tryz.prog (19, ti19) := good_s rfl (by kernel_rfl) (by kernel_rfl)
def ti21 : TI := ⟨.int .i32, 1, 4, .int .i32 0, []⟩
theorem g21 : good Tryz.prog (21, ti21) := good_d rfl (by kernel_rfl) (by kernel_rfl)
def ti22 : TI := ⟨.struct #[], 2, 16, .agg ⟨[.int .i64 0, .int .i64 0]⟩, [(3, 0), (3, 1)]⟩
theorem g22 : good Tryz.prog (22, ti22) := good_s rfl (by kernel_rfl) (by kernel_rfl)
def ti23 : TI := ⟨.struct #[], 2, 16, .agg ⟨[.int .i64 0, .int .i64 0]⟩, [(3, 0), (3, 1)]⟩
theorem g23 : good Tryz.prog (23, ti23) := good_s rfl (by kernel_rfl) (by kernel_rfl)
def ti24 : TI := ⟨.slice 3, 1, 24, .slice none 0 0, []⟩
theorem g24 : good Tryz.prog (24, ti24) := good_d rfl (by kernel_rfl) (by kernel_rfl)
def ti25 : TI := ⟨.array 32 5, 32, 32, .agg ⟨[.int .u8 0, .int .u8 0, .int .u8 0, .int .u8 0, .int .u8 0, .int .u8 0, .int .u8 0, .int .u8 0, .int .u8 0, .int .u8 0, .int .u8 0, .int .u8 0, .int .u8 0, .int .u8 0, .int .u8 0, .int .u8 0, .int .u8 0, .int .u8 0, .int .u8 0, .int .u8 0, .int .u8 0, .int .u8 0, .int .u8 0, .int .u8 0, .int .u8 0, .int .u8 0, .int .u8 0, .int .u8 0, .int .u8 0, .int .u8 0, .int .u8 0, .int .u8 0]⟩, []⟩
theorem g25 : good Tryz.prog (25, ti25) := good_d rfl (by kernel_rfl) (by kernel_rfl)
def ti26 : TI := ⟨.array 32 5, 32, 32, .agg ⟨[.int .u8 0, .int .u8 0, .int .u8 0, .int .u8 0, .int .u8 0, .int .u8 0, .int .u8 0, .int .u8 0, .int .u8 0, .int .u8 0, .int .u8 0, .int .u8 0, .int .u8 0, .int .u8 0, .int .u8 0, .int .u8 0, .int .u8 0, .int .u8 0, .int .u8 0, .int .u8 0, .int .u8 0, .int .u8 0, .int .u8 0, .int .u8 0, .int .u8 0, .int .u8 0, .int .u8 0, .int .u8 0, .int .u8 0, .int .u8 0, .int .u8 0, .int .u8 0]⟩, []⟩
theorem g26 : good Tryz.prog (26, ti26) := good_d rfl (by kernel_rfl) (by kernel_rfl)
def ti27 : TI := ⟨.slice 26, 1, 24, .slice none 0 0, []⟩
theorem g27 : good Tryz.prog (27, ti27) := good_d rfl (by kernel_rfl) (by kernel_rfl)
def ti28 : TI := ⟨.struct #[], 39, 136, .agg ⟨[.int .i64 0, .int .i64 0, .slice none 0 0, .int .i64 0, .string ⟨⟨[]⟩⟩, .string ⟨⟨[]⟩⟩, .int .u8 0, .int .u8 0, .int .u8 0, .int .u8 0, .int .u8 0, .int .u8 0, .int .u8 0, .int .u8 0, .int .u8 0, .int .u8 0, .int .u8 0, .int .u8 0, .int .u8 0, .int .u8 0, .int .u8 0, .int .u8 0, .int .u8 0, .int .u8 0, .int .u8 0, .int .u8 0, .int .u8 0, .int .u8 0, .int .u8 0, .int .u8 0, .int .u8 0, .int .u8 0, .int .u8 0, .int .u8 0, .int .u8 0, .int .u8 0, .int .u8 0, .int .u8 0, .slice none 0 0]⟩, [(23, 0), (24, 2), (3, 3), (9, 4), (9, 5), (26, 6), (27, 38)]⟩
theorem g28 : good Tryz.prog (28, ti28) := good_s rfl (by kernel_rfl) (by kernel_rfl)
def ti29 : TI := ⟨.struct #[], 39, 136, .agg ⟨[.int .i64 0, .int .i64 0, .slice none 0 0, .int .i64 0, .string ⟨⟨[]⟩⟩, .string ⟨⟨[]⟩⟩, .int .u8 0, .int .u8 0, .int .u8 0, .int .u8 0, .int .u8 0, .int .u8 0, .int .u8 0, .int .u8 0, .int .u8 0, .int .u8 0, .int .u8 0, .int .u8 0, .int .u8 0, .int .u8 0, .int .u8 0, .int .u8 0, .int .u8 0, .int .u8 0, .int .u8 0, .int .u8 0, .int .u8 0, .int .u8 0, .int .u8 0, .int .u8 0, .int .u8 0, .int .u8 0, .int .u8 0, .int .u8 0, .int .u8 0, .int .u8 0, .int .u8 0, .int .u8 0, .slice none 0 0]⟩, [(23, 0), (24, 2), (3, 3), (9, 4), (9, 5), (26, 6), (27, 38)]⟩
theorem g29 : good Tryz.prog (29, ti29) := good_s rfl (by kernel_rfl) (by kernel_rfl)
def ti30 : TI := ⟨.func #[29] #[4] false, 1, 8, .nilFunc, []⟩
theorem g30 : good Tryz.prog (30, ti30) := good_d rfl (by kernel_rfl) (by kernel_rfl)
def ti31 : TI := ⟨.func #[] #[4] false, 1, 8, .nilFunc, []⟩
theorem g31 : good Tryz.prog (31, ti31) := good_d rfl (by kernel_rfl) (by kernel_rfl)
def ti32 : TI := ⟨.func #[29] #[29] false, 1, 8, .nilFunc, []⟩
theorem g32 : good Tryz.prog (32, ti32) := good_d rfl (by kernel_rfl) (by kernel_rfl)
def ti33 : TI := ⟨.slice 5, 1, 24, .slice none 0 0, []⟩
theorem g33 : good Tryz.prog (33, ti33) := good_d rfl (by kernel_rfl) (by kernel_rfl)
def ti34 : TI := ⟨.int .i64, 1, 8, .int .i64 0, []⟩
theorem g34 : good Tryz.prog (34, ti34) := good_d rfl (by kernel_rfl) (by kernel_rfl)
def ti36 : TI := ⟨.func #[29] #[33, 34] false, 1, 8, .nilFunc, []⟩
theorem g36 : good Tryz.prog (36, ti36) := good_d rfl (by kernel_rfl) (by kernel_rfl)
def ti37 : TI := ⟨.func #[33, 33] #[4] false, 1, 8, .nilFunc, []⟩
theorem g37 : good Tryz.prog (37, ti37) := good_d rfl (by kernel_rfl) (by kernel_rfl)
def ti38 : TI := ⟨.func #[29, 3, 3] #[34] false, 1, 8, .nilFunc, []⟩
theorem g38 : good Tryz.prog (38, ti38) := good_d rfl (by kernel_rfl) (by kernel_rfl)
def ti39 : TI := ⟨.func #[29, 29] #[4] false, 1, 8, .nilFunc, []⟩
theorem g39 : good Tryz.prog (39, ti39) := good_d rfl (by kernel_rfl) (by kernel_rfl)
def ti40 : TI := ⟨.func #[33] #[] false, 1, 8, .nilFunc, []⟩
theorem g40 : good Tryz.prog (40, ti40) := good_d rfl (by kernel_rfl) (by kernel_rfl)
def ti41 : TI := ⟨.func #[29, 29, 3, 3] #[4] false, 1, 8, .nilFunc, []⟩
theorem g41 : good Tryz.prog (41, ti41) := good_d rfl (by kernel_rfl) (by kernel_rfl)
def ti42 : TI := ⟨.func #[33] #[33] false, 1, 8, .nilFunc, []⟩
theorem g42 : good Tryz.prog (42, ti42) := good_d rfl (by kernel_rfl) (by kernel_rfl)
def ti43 : TI := ⟨.struct #[], 2, 16, .agg ⟨[.int .i64 0, .int .i64 0]⟩, [(34, 0), (3, 1)]⟩
theorem g43 : good Tryz.prog (43, ti43) := good_s rfl (by kernel_rfl) (by kernel_rfl)
def ti44 : TI := ⟨.struct #[], 2, 16, .agg ⟨[.int .i64 0, .int .i64 0]⟩, [(34, 0), (3, 1)]⟩
theorem g44 : good Tryz.prog (44, ti44) := good_s rfl (by kernel_rfl) (by kernel_rfl)
def ti46 : TI := ⟨.func #[33] #[29, 44] false, 1, 8, .nilFunc, []⟩
theorem g46 : good Tryz.prog (46, ti46) := good_d rfl (by kernel_rfl) (by kernel_rfl)
def ti47 : TI := ⟨.func #[48] #[] false, 1, 8, .nilFunc, []⟩
theorem g47 : good Tryz.prog (47, ti47) := good_d rfl (by kernel_rfl) (by kernel_rfl)
def ti48 : TI := ⟨.slice 29, 1, 24, .slice none 0 0, []⟩
theorem g48 : good Tryz.prog (48, ti48) := good_d rfl (by kernel_rfl) (by kernel_rfl)
def ti49 : TI := ⟨.func #[33] #[4] false, 1, 8, .nilFunc, []⟩
theorem g49 : good Tryz.prog (49, ti49) := good_d rfl (by kernel_rfl) (by kernel_rfl)
def ti50 : TI := ⟨.func #[] #[29] false, 1, 8, .nilFunc, []⟩
theorem g50 : good Tryz.prog (50, ti50) := good_d rfl (by kernel_rfl) (by kernel_rfl)
def ti51 : TI := ⟨.func #[3, 3, 24] #[29] true, 1, 8, .nilFunc, []⟩
theorem g51 : good Tryz.prog (51, ti51) := good_d rfl (by kernel_rfl) (by kernel_rfl)
def ti52 : TI := ⟨.func #[3, 3] #[3] false, 1, 8, .nilFunc, []⟩
theorem g52 : good Tryz.prog (52, ti52) := good_d rfl (by kernel_rfl) (by kernel_rfl)
def ti53 : TI := ⟨.func #[29, 3, 3, 3] #[4] false, 1, 8, .nilFunc, []⟩
theorem g53 : good Tryz.prog (53, ti53) := good_d rfl (by kernel_rfl) (by kernel_rfl)
def ti54 : TI := ⟨.func #[33, 3, 5] #[4] false, 1, 8, .nilFunc, []⟩
theorem g54 : good Tryz.prog (54, ti54) := good_d rfl (by kernel_rfl) (by kernel_rfl)
def ti55 : TI := ⟨.func #[48, 3] #[4] false, 1, 8, .nilFunc, []⟩
theorem g55 : good Tryz.prog (55, ti55) := good_d rfl (by kernel_rfl) (by kernel_rfl)
def ti56 : TI := ⟨.func #[48] #[48] false, 1, 8, .nilFunc, []⟩
theorem g56 : good Tryz.prog (56, ti56) := good_d rfl (by kernel_rfl) (by kernel_rfl)
def ti57 : TI := ⟨.func #[48, 48] #[4] false, 1, 8, .nilFunc, []⟩
theorem g57 : good Tryz.prog (57, ti57) := good_d rfl (by kernel_rfl) (by kernel_rfl)
def ti58 : TI := ⟨.func #[48] #[4] false, 1, 8, .nilFunc, []⟩
theorem g58 : good Tryz.prog (58, ti58) := good_d rfl (by kernel_rfl) (by kernel_rfl)
def ti59 : TI := ⟨.slice 4, 1, 24, .slice none 0 0, []⟩
theorem g59 : good Tryz.prog (59, ti59) := good_d rfl (by kernel_rfl) (by kernel_rfl)
def ti60 : TI := ⟨.func #[48, 3, 3] #[4] false, 1, 8, .nilFunc, []⟩
theorem g60 : good Tryz.prog (60, ti60) := good_d rfl (by kernel_rfl) (by kernel_rfl)
def ti61 : TI := ⟨.func #[24] #[24] false, 1, 8, .nilFunc, []⟩
theorem g61 : good Tryz.prog (61, ti61) := good_d rfl (by kernel_rfl) (by kernel_rfl)
def ti62 : TI := ⟨.pointer 113, 1, 8, .pointer none, []⟩
theorem g62 : good Tryz.prog (62, ti62) := good_d rfl (by kernel_rfl) (by kernel_rfl)
def ti64 : TI := ⟨.func #[3] #[62, 34] false, 1, 8, .nilFunc, []⟩
theorem g64 : good Tryz.prog (64, ti64) := good_d rfl (by kernel_rfl) (by kernel_rfl)
def ti65 : TI := ⟨.func #[23] #[34] false, 1, 8, .nilFunc, []⟩
theorem g65 : good Tryz.prog (65, ti65) := good_d rfl (by kernel_rfl) (by kernel_rfl)
def ti66 : TI := ⟨.func #[24] #[34] false, 1, 8, .nilFunc, []⟩
theorem g66 : good Tryz.prog (66, ti66) := good_d rfl (by kernel_rfl) (by kernel_rfl)
def ti67 : TI := ⟨.func #[3] #[34] false, 1, 8, .nilFunc, []⟩
theorem g67 : good Tryz.prog (67, ti67) := good_d rfl (by kernel_rfl) (by kernel_rfl)
def ti68 : TI := ⟨.func #[9] #[34] false, 1, 8, .nilFunc, []⟩
theorem g68 : good Tryz.prog (68, ti68) := good_d rfl (by kernel_rfl) (by kernel_rfl)
def ti69 : TI := ⟨.func #[26] #[34] false, 1, 8, .nilFunc, []⟩
theorem g69 : good Tryz.prog (69, ti69) := good_d rfl (by kernel_rfl) (by kernel_rfl)
def ti70 : TI := ⟨.func #[] #[33, 34] false, 1, 8, .nilFunc, []⟩
theorem g70 : good Tryz.prog (70, ti70) := good_d rfl (by kernel_rfl) (by kernel_rfl)
def ti71 : TI := ⟨.pointer 116, 1, 8, .pointer none, []⟩
theorem g71 : good Tryz.prog (71, ti71) := good_d rfl (by kernel_rfl) (by kernel_rfl)
def ti73 : TI := ⟨.func #[3] #[71, 34] false, 1, 8, .nilFunc, []⟩
theorem g73 : good Tryz.prog (73, ti73) := good_d rfl (by kernel_rfl) (by kernel_rfl)
def ti74 : TI := ⟨.func #[29, 3] #[4] false, 1, 8, .nilFunc, []⟩
theorem g74 : good Tryz.prog (74, ti74) := good_d rfl (by kernel_rfl) (by kernel_rfl)
def ti75 : TI := ⟨.func #[9] #[44] false, 1, 8, .nilFunc, []⟩
theorem g75 : good Tryz.prog (75, ti75) := good_d rfl (by kernel_rfl) (by kernel_rfl)
def ti76 : TI := ⟨.func #[26, 3] #[34] false, 1, 8, .nilFunc, []⟩
theorem g76 : good Tryz.prog (76, ti76) := good_d rfl (by kernel_rfl) (by kernel_rfl)
def ti77 : TI := ⟨.struct #[], 3, 24, .agg ⟨[.nilFunc, .nilFunc, .bool false]⟩, [(68, 0), (76, 1), (4, 2)]⟩
theorem g77 : good Tryz.prog (77, ti77) := good_s rfl (by kernel_rfl) (by kernel_rfl)
def ti78 : TI := ⟨.struct #[], 3, 24, .agg ⟨[.nilFunc, .nilFunc, .bool false]⟩, [(68, 0), (76, 1), (4, 2)]⟩
theorem g78 : good Tryz.prog (78, ti78) := good_s rfl (by kernel_rfl) (by kernel_rfl)
def ti79 : TI := ⟨.array 4 78, 12, 96, .agg ⟨[.nilFunc, .nilFunc, .bool false, .nilFunc, .nilFunc, .bool false, .nilFunc, .nilFunc, .bool false, .nilFunc, .nilFunc, .bool false]⟩, []⟩
theorem g79 : good Tryz.prog (79, ti79) := good_d rfl (by kernel_rfl) (by kernel_rfl)
def ti80 : TI := ⟨.func #[] #[79] false, 1, 8, .nilFunc, []⟩
theorem g80 : good Tryz.prog (80, ti80) := good_d rfl (by kernel_rfl) (by kernel_rfl)
def ti81 : TI := ⟨.func #[29, 4, 3] #[34] false, 1, 8, .nilFunc, []⟩
theorem g81 : good Tryz.prog (81, ti81) := good_d rfl (by kernel_rfl) (by kernel_rfl)
def ti82 : TI := ⟨.array 3 34, 3, 24, .agg ⟨[.int .i64 0, .int .i64 0, .int .i64 0]⟩, []⟩
theorem g82 : good Tryz.prog (82, ti82) := good_d rfl (by kernel_rfl) (by kernel_rfl)
def ti83 : TI := ⟨.func #[26, 3] #[4] false, 1, 8, .nilFunc, []⟩
theorem g83 : good Tryz.prog (83, ti83) := good_d rfl (by kernel_rfl) (by kernel_rfl)
def ti84 : TI := ⟨.func #[29, 3] #[34] false, 1, 8, .nilFunc, []⟩
theorem g84 : good Tryz.prog (84, ti84) := good_d rfl (by kernel_rfl) (by kernel_rfl)
def ti85 : TI := ⟨.func #[24, 23] #[4] false, 1, 8, .nilFunc, []⟩
theorem g85 : good Tryz.prog (85, ti85) := good_d rfl (by kernel_rfl) (by kernel_rfl)
def ti86 : TI := ⟨.func #[23, 24, 23, 24] #[4] false, 1, 8, .nilFunc, []⟩
theorem g86 : good Tryz.prog (86, ti86) := good_d rfl (by kernel_rfl) (by kernel_rfl)
def ti87 : TI := ⟨.func #[24, 24] #[4] false, 1, 8, .nilFunc, []⟩
theorem g87 : good Tryz.prog (87, ti87) := good_d rfl (by kernel_rfl) (by kernel_rfl)
def ti88 : TI := ⟨.func #[27, 27] #[4] false, 1, 8, .nilFunc, []⟩
theorem g88 : good Tryz.prog (88, ti88) := good_d rfl (by kernel_rfl) (by kernel_rfl)
def ti89 : TI := ⟨.pointer 141, 1, 8, .pointer none, []⟩
theorem g89 : good Tryz.prog (89, ti89) := good_d rfl (by kernel_rfl) (by kernel_rfl)
def ti90 : TI := ⟨.func #[33] #[89] false, 1, 8, .nilFunc, []⟩
theorem g90 : good Tryz.prog (90, ti90) := good_d rfl (by kernel_rfl) (by kernel_rfl)
def ti91 : TI := ⟨.func #[] #[23] false, 1, 8, .nilFunc, []⟩
theorem g91 : good Tryz.prog (91, ti91) := good_d rfl (by kernel_rfl) (by kernel_rfl)
def ti92 : TI := ⟨.func #[3] #[24] false, 1, 8, .nilFunc, []⟩
theorem g92 : good Tryz.prog (92, ti92) := good_d rfl (by kernel_rfl) (by kernel_rfl)
def ti93 : TI := ⟨.func #[] #[3] false, 1, 8, .nilFunc, []⟩
theorem g93 : good Tryz.prog (93, ti93) := good_d rfl (by kernel_rfl) (by kernel_rfl)
def ti94 : TI := ⟨.func #[3] #[9] false, 1, 8, .nilFunc, []⟩
theorem g94 : good Tryz.prog (94, ti94) := good_d rfl (by kernel_rfl) (by kernel_rfl)
def ti95 : TI := ⟨.func #[] #[26] false, 1, 8, .nilFunc, []⟩
theorem g95 : good Tryz.prog (95, ti95) := good_d rfl (by kernel_rfl) (by kernel_rfl)
def ti96 : TI := ⟨.func #[] #[44] false, 1, 8, .nilFunc, []⟩
theorem g96 : good Tryz.prog (96, ti96) := good_d rfl (by kernel_rfl) (by kernel_rfl)
def ti97 : TI := ⟨.pointer 148, 1, 8, .pointer none, []⟩
theorem g97 : good Tryz.prog (97, ti97) := good_d rfl (by kernel_rfl) (by kernel_rfl)
def ti98 : TI := ⟨.func #[33] #[97] false, 1, 8, .nilFunc, []⟩
theorem g98 : good Tryz.prog (98, ti98) := good_d rfl (by kernel_rfl) (by kernel_rfl)
def ti99 : TI := ⟨.func #[24] #[] false, 1, 8, .nilFunc, []⟩
theorem g99 : good Tryz.prog (99, ti99) := good_d rfl (by kernel_rfl) (by kernel_rfl)
def ti100 : TI := ⟨.func #[27] #[] false, 1, 8, .nilFunc, []⟩
theorem g100 : good Tryz.prog (100, ti100) := good_d rfl (by kernel_rfl) (by kernel_rfl)
def ti102 : TI := ⟨.func #[33, 3] #[26, 34] false, 1, 8, .nilFunc, []⟩
theorem g102 : good Tryz.prog (102, ti102) := good_d rfl (by kernel_rfl) (by kernel_rfl)
def ti103 : TI := ⟨.slice 105, 1, 24, .slice none 0 0, []⟩
theorem g103 : good Tryz.prog (103, ti103) := good_d rfl (by kernel_rfl) (by kernel_rfl)
def ti104 : TI := ⟨.func #[27] #[27] false, 1, 8, .nilFunc, []⟩
theorem g104 : good Tryz.prog (104, ti104) := good_d rfl (by kernel_rfl) (by kernel_rfl)
def ti105 : TI := ⟨.struct #[], 39, 136, .agg ⟨[.int .i64 0, .int .i64 0, .slice none 0 0, .int .i64 0, .string ⟨⟨[]⟩⟩, .string ⟨⟨[]⟩⟩, .int .u8 0, .int .u8 0, .int .u8 0, .int .u8 0, .int .u8 0, .int .u8 0, .int .u8 0, .int .u8 0, .int .u8 0, .int .u8 0, .int .u8 0, .int .u8 0, .int .u8 0, .int .u8 0, .int .u8 0, .int .u8 0, .int .u8 0, .int .u8 0, .int .u8 0, .int .u8 0, .int .u8 0, .int .u8 0, .int .u8 0, .int .u8 0, .int .u8 0, .int .u8 0, .int .u8 0, .int .u8 0, .int .u8 0, .int .u8 0, .int .u8 0, .int .u8 0, .slice none 0 0]⟩, [(23, 0), (24, 2), (3, 3), (9, 4), (9, 5), (26, 6), (27, 38)]⟩
theorem g105 : good Tryz.prog (105, ti105) := good_s rfl (by kernel_rfl) (by kernel_rfl)
def ti106 : TI := ⟨.func #[103, 107] #[] false, 1, 8, .nilFunc, []⟩
theorem g106 : good Tryz.prog (106, ti106) := good_d rfl (by kernel_rfl) (by kernel_rfl)
def ti107 : TI := ⟨.func #[105, 105] #[3] false, 1, 8, .nilFunc, []⟩
theorem g107 : good Tryz.prog (107, ti107) := good_d rfl (by kernel_rfl) (by kernel_rfl)
def ti108 : TI := ⟨.func #[105] #[3] false, 1, 8, .nilFunc, []⟩
theorem g108 : good Tryz.prog (108, ti108) := good_d rfl (by kernel_rfl) (by kernel_rfl)
def ti109 : TI := ⟨.pointer 111, 1, 8, .pointer none, []⟩
theorem g109 : good Tryz.prog (109, ti109) := good_d rfl (by kernel_rfl) (by kernel_rfl)
def ti110 : TI := ⟨.struct #[], 2, 16, .agg ⟨[.int .i64 0, .int .i64 0]⟩, [(44, 0)]⟩
theorem g110 : good Tryz.prog (110, ti110) := good_s rfl (by kernel_rfl) (by kernel_rfl)
def ti111 : TI := ⟨.struct #[], 2, 16, .agg ⟨[.int .i64 0, .int .i64 0]⟩, [(44, 0)]⟩
theorem g111 : good Tryz.prog (111, ti111) := good_s rfl (by kernel_rfl) (by kernel_rfl)
def ti112 : TI := ⟨.struct #[], 3, 40, .agg ⟨[.pointer none, .int .i64 0, .slice none 0 0]⟩, [(109, 0), (3, 1), (33, 2)]⟩
theorem g112 : good Tryz.prog (112, ti112) := good_s rfl (by kernel_rfl) (by kernel_rfl)
def ti113 : TI := ⟨.struct #[], 3, 40, .agg ⟨[.pointer none, .int .i64 0, .slice none 0 0]⟩, [(109, 0), (3, 1), (33, 2)]⟩
theorem g113 : good Tryz.prog (113, ti113) := good_s rfl (by kernel_rfl) (by kernel_rfl)
def ti114 : TI := ⟨.func #[20] #[34] false, 1, 8, .nilFunc, []⟩
theorem g114 : good Tryz.prog (114, ti114) := good_d rfl (by kernel_rfl) (by kernel_rfl)
def ti115 : TI := ⟨.struct #[], 3, 40, .agg ⟨[.int .i64 0, .slice none 0 0, .int .i64 0]⟩, [(3, 0), (33, 1), (34, 2)]⟩
theorem g115 : good Tryz.prog (115, ti115) := good_s rfl (by kernel_rfl) (by kernel_rfl)
def ti116 : TI := ⟨.struct #[], 3, 40, .agg ⟨[.int .i64 0, .slice none 0 0, .int .i64 0]⟩, [(3, 0), (33, 1), (34, 2)]⟩
theorem g116 : good Tryz.prog (116, ti116) := good_s rfl (by kernel_rfl) (by kernel_rfl)
def ti117 : TI := ⟨.func #[33, 24] #[34] true, 1, 8, .nilFunc, []⟩
theorem g117 : good Tryz.prog (117, ti117) := good_d rfl (by kernel_rfl) (by kernel_rfl)
def ti118 : TI := ⟨.func #[3] #[33] false, 1, 8, .nilFunc, []⟩
theorem g118 : good Tryz.prog (118, ti118) := good_d rfl (by kernel_rfl) (by kernel_rfl)
def ti119 : TI := ⟨.func #[24, 120] #[4] false, 1, 8, .nilFunc, []⟩
theorem g119 : good Tryz.prog (119, ti119) := good_d rfl (by kernel_rfl) (by kernel_rfl)
def ti120 : TI := ⟨.func #[3] #[4] false, 1, 8, .nilFunc, []⟩
theorem g120 : good Tryz.prog (120, ti120) := good_d rfl (by kernel_rfl) (by kernel_rfl)
def ti122 : TI := ⟨.func #[9, 3] #[44, 4] false, 1, 8, .nilFunc, []⟩
theorem g122 : good Tryz.prog (122, ti122) := good_d rfl (by kernel_rfl) (by kernel_rfl)
def ti123 : TI := ⟨.func #[9, 124, 34] #[44] false, 1, 8, .nilFunc, []⟩
theorem g123 : good Tryz.prog (123, ti123) := good_d rfl (by kernel_rfl) (by kernel_rfl)
def ti124 : TI := ⟨.pointer 156, 1, 8, .pointer none, []⟩
theorem g124 : good Tryz.prog (124, ti124) := good_d rfl (by kernel_rfl) (by kernel_rfl)
def ti125 : TI := ⟨.struct #[], 1, 8, .agg ⟨[.int .i64 0]⟩, [(3, 0)]⟩
theorem g125 : good Tryz.prog (125, ti125) := good_s rfl (by kernel_rfl) (by kernel_rfl)
def ti126 : TI := ⟨.struct #[], 1, 8, .agg ⟨[.int .i64 0]⟩, [(3, 0)]⟩
theorem g126 : good Tryz.prog (126, ti126) := good_s rfl (by kernel_rfl) (by kernel_rfl)
def ti127 : TI := ⟨.func #[] #[124] false, 1, 8, .nilFunc, []⟩
theorem g127 : good Tryz.prog (127, ti127) := good_d rfl (by kernel_rfl) (by kernel_rfl)
def ti128 : TI := ⟨.func #[27, 26] #[4] false, 1, 8, .nilFunc, []⟩
theorem g128 : good Tryz.prog (128, ti128) := good_d rfl (by kernel_rfl) (by kernel_rfl)
def ti129 : TI := ⟨.func #[26, 26] #[3] false, 1, 8, .nilFunc, []⟩
theorem g129 : good Tryz.prog (129, ti129) := good_d rfl (by kernel_rfl) (by kernel_rfl)
def ti130 : TI := ⟨.func #[27, 131] #[4] false, 1, 8, .nilFunc, []⟩
theorem g130 : good Tryz.prog (130, ti130) := good_d rfl (by kernel_rfl) (by kernel_rfl)
def ti131 : TI := ⟨.func #[26] #[4] false, 1, 8, .nilFunc, []⟩
theorem g131 : good Tryz.prog (131, ti131) := good_d rfl (by kernel_rfl) (by kernel_rfl)
def ti132 : TI := ⟨.func #[34, 3] #[44] false, 1, 8, .nilFunc, []⟩
theorem g132 : good Tryz.prog (132, ti132) := good_d rfl (by kernel_rfl) (by kernel_rfl)
def ti133 : TI := ⟨.func #[9, 21] #[4] false, 1, 8, .nilFunc, []⟩
theorem g133 : good Tryz.prog (133, ti133) := good_d rfl (by kernel_rfl) (by kernel_rfl)
def ti134 : TI := ⟨.func #[21] #[4] false, 1, 8, .nilFunc, []⟩
theorem g134 : good Tryz.prog (134, ti134) := good_d rfl (by kernel_rfl) (by kernel_rfl)
def ti135 : TI := ⟨.func #[26, 3] #[26, 34] false, 1, 8, .nilFunc, []⟩
theorem g135 : good Tryz.prog (135, ti135) := good_d rfl (by kernel_rfl) (by kernel_rfl)
def ti136 : TI := ⟨.func #[27] #[4] false, 1, 8, .nilFunc, []⟩
theorem g136 : good Tryz.prog (136, ti136) := good_d rfl (by kernel_rfl) (by kernel_rfl)
def ti137 : TI := ⟨.func #[24, 3] #[3] false, 1, 8, .nilFunc, []⟩
theorem g137 : good Tryz.prog (137, ti137) := good_d rfl (by kernel_rfl) (by kernel_rfl)
def ti138 : TI := ⟨.func #[24] #[3] false, 1, 8, .nilFunc, []⟩
theorem g138 : good Tryz.prog (138, ti138) := good_d rfl (by kernel_rfl) (by kernel_rfl)
def ti139 : TI := ⟨.func #[24, 24, 52] #[3] false, 1, 8, .nilFunc, []⟩
theorem g139 : good Tryz.prog (139, ti139) := good_d rfl (by kernel_rfl) (by kernel_rfl)
def ti140 : TI := ⟨.struct #[], 3, 40, .agg ⟨[.pointer none, .slice none 0 0, .int .i64 0]⟩, [(109, 0), (33, 1), (3, 2)]⟩
theorem g140 : good Tryz.prog (140, ti140) := good_s rfl (by kernel_rfl) (by kernel_rfl)
def ti141 : TI := ⟨.struct #[], 3, 40, .agg ⟨[.pointer none, .slice none 0 0, .int .i64 0]⟩, [(109, 0), (33, 1), (3, 2)]⟩
theorem g141 : good Tryz.prog (141, ti141) := good_s rfl (by kernel_rfl) (by kernel_rfl)
def ti142 : TI := ⟨.func #[3] #[3] false, 1, 8, .nilFunc, []⟩
theorem g142 : good Tryz.prog (142, ti142) := good_d rfl (by kernel_rfl) (by kernel_rfl)
def ti143 : TI := ⟨.func #[34, 3] #[] false, 1, 8, .nilFunc, []⟩
theorem g143 : good Tryz.prog (143, ti143) := good_d rfl (by kernel_rfl) (by kernel_rfl)
def ti144 : TI := ⟨.int .u64, 1, 8, .int .u64 0, []⟩
theorem g144 : good Tryz.prog (144, ti144) := good_d rfl (by kernel_rfl) (by kernel_rfl)
def ti145 : TI := ⟨.int .u64, 1, 8, .int .u64 0, []⟩
theorem g145 : good Tryz.prog (145, ti145) := good_d rfl (by kernel_rfl) (by kernel_rfl)
def ti146 : TI := ⟨.func #[3, 3] #[33] false, 1, 8, .nilFunc, []⟩
theorem g146 : good Tryz.prog (146, ti146) := good_d rfl (by kernel_rfl) (by kernel_rfl)
def ti147 : TI := ⟨.struct #[], 4, 48, .agg ⟨[.slice none 0 0, .int .i64 0, .int .i64 0, .int .i64 0]⟩, [(33, 0), (3, 1), (44, 2)]⟩
theorem g147 : good Tryz.prog (147, ti147) := good_s rfl (by kernel_rfl) (by kernel_rfl)
def ti148 : TI := ⟨.struct #[], 4, 48, .agg ⟨[.slice none 0 0, .int .i64 0, .int .i64 0, .int .i64 0]⟩, [(33, 0), (3, 1), (44, 2)]⟩
theorem g148 : good Tryz.prog (148, ti148) := good_s rfl (by kernel_rfl) (by kernel_rfl)
def ti149 : TI := ⟨.func #[33] #[26] false, 1, 8, .nilFunc, []⟩
theorem g149 : good Tryz.prog (149, ti149) := good_d rfl (by kernel_rfl) (by kernel_rfl)
def ti150 : TI := ⟨.func #[103, 3, 107] #[] false, 1, 8, .nilFunc, []⟩
theorem g150 : good Tryz.prog (150, ti150) := good_d rfl (by kernel_rfl) (by kernel_rfl)
def ti152 : TI := ⟨.func #[33, 20] #[33, 4] false, 1, 8, .nilFunc, []⟩
theorem g152 : good Tryz.prog (152, ti152) := good_d rfl (by kernel_rfl) (by kernel_rfl)
def ti153 : TI := ⟨.func #[24, 120] #[3] false, 1, 8, .nilFunc, []⟩
theorem g153 : good Tryz.prog (153, ti153) := good_d rfl (by kernel_rfl) (by kernel_rfl)
def ti154 : TI := ⟨.func #[157] #[124] false, 1, 8, .nilFunc, []⟩
theorem g154 : good Tryz.prog (154, ti154) := good_d rfl (by kernel_rfl) (by kernel_rfl)
def ti155 : TI := ⟨.struct #[], 2, 16, .agg ⟨[.nilFunc, .bool false]⟩, [(154, 0), (4, 1)]⟩
theorem g155 : good Tryz.prog (155, ti155) := good_s rfl (by kernel_rfl) (by kernel_rfl)
def ti156 : TI := ⟨.struct #[], 2, 16, .agg ⟨[.nilFunc, .bool false]⟩, [(154, 0), (4, 1)]⟩
theorem g156 : good Tryz.prog (156, ti156) := good_s rfl (by kernel_rfl) (by kernel_rfl)
def ti157 : TI := ⟨.int .i32, 1, 4, .int .i32 0, []⟩
theorem g157 : good Tryz.prog (157, ti157) := good_d rfl (by kernel_rfl) (by kernel_rfl)
def ti158 : TI := ⟨.func #[27, 26] #[3] false, 1, 8, .nilFunc, []⟩
theorem g158 : good Tryz.prog (158, ti158) := good_d rfl (by kernel_rfl) (by kernel_rfl)
def ti159 : TI := ⟨.func #[33, 33] #[3] false, 1, 8, .nilFunc, []⟩
theorem g159 : good Tryz.prog (159, ti159) := good_d rfl (by kernel_rfl) (by kernel_rfl)
def ti160 : TI := ⟨.func #[27, 131] #[3] false, 1, 8, .nilFunc, []⟩
theorem g160 : good Tryz.prog (160, ti160) := good_d rfl (by kernel_rfl) (by kernel_rfl)
def ti161 : TI := ⟨.func #[163, 3, 165] #[3] false, 1, 8, .nilFunc, []⟩
theorem g161 : good Tryz.prog (161, ti161) := good_d rfl (by kernel_rfl) (by kernel_rfl)
def ti162 : TI := ⟨.func #[174] #[] false, 1, 8, .nilFunc, []⟩
theorem g162 : good Tryz.prog (162, ti162) := good_d rfl (by kernel_rfl) (by kernel_rfl)
def ti163 : TI := ⟨.func #[174] #[] false, 1, 8, .nilFunc, []⟩
theorem g163 : good Tryz.prog (163, ti163) := good_d rfl (by kernel_rfl) (by kernel_rfl)
def ti164 : TI := ⟨.func #[24, 24] #[163] false, 1, 8, .nilFunc, []⟩
theorem g164 : good Tryz.prog (164, ti164) := good_d rfl (by kernel_rfl) (by kernel_rfl)
def ti165 : TI := ⟨.func #[3, 3, 3] #[3] false, 1, 8, .nilFunc, []⟩
theorem g165 : good Tryz.prog (165, ti165) := good_d rfl (by kernel_rfl) (by kernel_rfl)
def ti166 : TI := ⟨.pointer 180, 1, 8, .pointer none, []⟩
theorem g166 : good Tryz.prog (166, ti166) := good_d rfl (by kernel_rfl) (by kernel_rfl)
def ti167 : TI := ⟨.func #[] #[166] false, 1, 8, .nilFunc, []⟩
theorem g167 : good Tryz.prog (167, ti167) := good_d rfl (by kernel_rfl) (by kernel_rfl)
def ti168 : TI := ⟨.func #[33] #[34] false, 1, 8, .nilFunc, []⟩
theorem g168 : good Tryz.prog (168, ti168) := good_d rfl (by kernel_rfl) (by kernel_rfl)
def ti169 : TI := ⟨.func #[] #[26, 34] false, 1, 8, .nilFunc, []⟩
theorem g169 : good Tryz.prog (169, ti169) := good_d rfl (by kernel_rfl) (by kernel_rfl)
def ti170 : TI := ⟨.func #[103, 3, 3, 107] #[] false, 1, 8, .nilFunc, []⟩
theorem g170 : good Tryz.prog (170, ti170) := good_d rfl (by kernel_rfl) (by kernel_rfl)
def ti171 : TI := ⟨.func #[103, 3, 3, 3, 107] #[] false, 1, 8, .nilFunc, []⟩
theorem g171 : good Tryz.prog (171, ti171) := good_d rfl (by kernel_rfl) (by kernel_rfl)
def ti172 : TI := ⟨.func #[173] #[124] false, 1, 8, .nilFunc, []⟩
theorem g172 : good Tryz.prog (172, ti172) := good_d rfl (by kernel_rfl) (by kernel_rfl)
def ti173 : TI := ⟨.func #[157] #[4] false, 1, 8, .nilFunc, []⟩
theorem g173 : good Tryz.prog (173, ti173) := good_d rfl (by kernel_rfl) (by kernel_rfl)
def ti174 : TI := ⟨.func #[3, 3] #[4] false, 1, 8, .nilFunc, []⟩
theorem g174 : good Tryz.prog (174, ti174) := good_d rfl (by kernel_rfl) (by kernel_rfl)
def ti175 : TI := ⟨.int .u32, 1, 4, .int .u32 0, []⟩
theorem g175 : good Tryz.prog (175, ti175) := good_d rfl (by kernel_rfl) (by kernel_rfl)
def ti176 : TI := ⟨.array 8 175, 8, 32, .agg ⟨[.int .u32 0, .int .u32 0, .int .u32 0, .int .u32 0, .int .u32 0, .int .u32 0, .int .u32 0, .int .u32 0]⟩, []⟩
theorem g176 : good Tryz.prog (176, ti176) := good_d rfl (by kernel_rfl) (by kernel_rfl)
def ti177 : TI := ⟨.array 8 175, 8, 32, .agg ⟨[.int .u32 0, .int .u32 0, .int .u32 0, .int .u32 0, .int .u32 0, .int .u32 0, .int .u32 0, .int .u32 0]⟩, []⟩
theorem g177 : good Tryz.prog (177, ti177) := good_d rfl (by kernel_rfl) (by kernel_rfl)
def ti178 : TI := ⟨.func #[] #[177] false, 1, 8, .nilFunc, []⟩
theorem g178 : good Tryz.prog (178, ti178) := good_d rfl (by kernel_rfl) (by kernel_rfl)
def ti179 : TI := ⟨.struct #[], 11, 72, .agg ⟨[.int .u32 0, .int .u32 0, .int .u32 0, .int .u32 0, .int .u32 0, .int .u32 0, .int .u32 0, .int .u32 0, .slice none 0 0, .int .i64 0, .bool false]⟩, [(177, 0), (33, 8), (3, 9), (4, 10)]⟩
theorem g179 : good Tryz.prog (179, ti179) := good_s rfl (by kernel_rfl) (by kernel_rfl)
def ti180 : TI := ⟨.struct #[], 11, 72, .agg ⟨[.int .u32 0, .int .u32 0, .int .u32 0, .int .u32 0, .int .u32 0, .int .u32 0, .int .u32 0, .int .u32 0, .slice none 0 0, .int .i64 0, .bool false]⟩, [(177, 0), (33, 8), (3, 9), (4, 10)]⟩
theorem g180 : good Tryz.prog (180, ti180) := good_s rfl (by kernel_rfl) (by kernel_rfl)
def ti181 : TI := ⟨.pointer 177, 1, 8, .pointer none, []⟩
theorem g181 : good Tryz.prog (181, ti181) := good_d rfl (by kernel_rfl) (by kernel_rfl)
def ti182 : TI := ⟨.array 64 175, 64, 256, .agg ⟨[.int .u32 0, .int .u32 0, .int .u32 0, .int .u32 0, .int .u32 0, .int .u32 0, .int .u32 0, .int .u32 0, .int .u32 0, .int .u32 0, .int .u32 0, .int .u32 0, .int .u32 0, .int .u32 0, .int .u32 0, .int .u32 0, .int .u32 0, .int .u32 0, .int .u32 0, .int .u32 0, .int .u32 0, .int .u32 0, .int .u32 0, .int .u32 0, .int .u32 0, .int .u32 0, .int .u32 0, .int .u32 0, .int .u32 0, .int .u32 0, .int .u32 0, .int .u32 0, .int .u32 0, .int .u32 0, .int .u32 0, .int .u32 0, .int .u32 0, .int .u32 0, .int .u32 0, .int .u32 0, .int .u32 0, .int .u32 0, .int .u32 0, .int .u32 0, .int .u32 0, .int .u32 0, .int .u32 0, .int .u32 0, .int .u32 0, .int .u32 0, .int .u32 0, .int .u32 0, .int .u32 0, .int .u32 0, .int .u32 0, .int .u32 0, .int .u32 0, .int .u32 0, .int .u32 0, .int .u32 0, .int .u32 0, .int .u32 0, .int .u32 0, .int .u32 0]⟩, []⟩
theorem g182 : good Tryz.prog (182, ti182) := good_d rfl (by kernel_rfl) (by kernel_rfl)
def ti183 : TI := ⟨.func #[] #[182] false, 1, 8, .nilFunc, []⟩
theorem g183 : good Tryz.prog (183, ti183) := good_d rfl (by kernel_rfl) (by kernel_rfl)
def ti184 : TI := ⟨.func #[33] #[182] false, 1, 8, .nilFunc, []⟩
theorem g184 : good Tryz.prog (184, ti184) := good_d rfl (by kernel_rfl) (by kernel_rfl)
def ti185 : TI := ⟨.func #[175, 3] #[175] false, 1, 8, .nilFunc, []⟩
theorem g185 : good Tryz.prog (185, ti185) := good_d rfl (by kernel_rfl) (by kernel_rfl)
def ti186 : TI := ⟨.func #[] #[9] false, 1, 8, .nilFunc, []⟩
theorem g186 : good Tryz.prog (186, ti186) := good_d rfl (by kernel_rfl) (by kernel_rfl)
def ti187 : TI := ⟨.struct #[], 4, 40, .agg ⟨[.pointer none, .pointer none, .pointer none, .string ⟨⟨[]⟩⟩]⟩, [(17, 0), (17, 1), (17, 2), (9, 3)]⟩
theorem g187 : good Tryz.prog (187, ti187) := good_s rfl (by kernel_rfl) (by kernel_rfl)
def ti188 : TI := ⟨.struct #[], 4, 40, .agg ⟨[.pointer none, .pointer none, .pointer none, .string ⟨⟨[]⟩⟩]⟩, [(17, 0), (17, 1), (17, 2), (9, 3)]⟩
theorem g188 : good Tryz.prog (188, ti188) := good_s rfl (by kernel_rfl) (by kernel_rfl)
def ti189 : TI := ⟨.array 0 16, 0, 0, .agg ⟨[]⟩, []⟩
theorem g189 : good Tryz.prog (189, ti189) := good_d rfl (by kernel_rfl) (by kernel_rfl)
def ti190 : TI := ⟨.struct #[], 0, 0, .agg ⟨[]⟩, [(189, 0)]⟩
theorem g190 : good Tryz.prog (190, ti190) := good_s rfl (by kernel_rfl) (by kernel_rfl)
def ti191 : TI := ⟨.struct #[], 0, 0, .agg ⟨[]⟩, [(189, 0)]⟩
theorem g191 : good Tryz.prog (191, ti191) := good_s rfl (by kernel_rfl) (by kernel_rfl)
def ti192 : TI := ⟨.int .u8, 1, 1, .int .u8 0, []⟩
theorem g192 : good Tryz.prog (192, ti192) := good_d rfl (by kernel_rfl) (by kernel_rfl)
def ti193 : TI := ⟨.int .u8, 1, 1, .int .u8 0, []⟩
theorem g193 : good Tryz.prog (193, ti193) := good_d rfl (by kernel_rfl) (by kernel_rfl)
def ti194 : TI := ⟨.func #[201, 201] #[4] false, 1, 8, .nilFunc, []⟩
theorem g194 : good Tryz.prog (194, ti194) := good_d rfl (by kernel_rfl) (by kernel_rfl)
def ti195 : TI := ⟨.pointer 5, 1, 8, .pointer none, []⟩
theorem g195 : good Tryz.prog (195, ti195) := good_d rfl (by kernel_rfl) (by kernel_rfl)
def ti196 : TI := ⟨.int .i32, 1, 4, .int .i32 0, []⟩
theorem g196 : good Tryz.prog (196, ti196) := good_d rfl (by kernel_rfl) (by kernel_rfl)
def ti197 : TI := ⟨.int .i32, 1, 4, .int .i32 0, []⟩
theorem g197 : good Tryz.prog (197, ti197) := good_d rfl (by kernel_rfl) (by kernel_rfl)
def ti198 : TI := ⟨.struct #[], 11, 48, .agg ⟨[.int .u64 0, .int .u64 0, .int .u32 0, .int .u8 0, .int .u8 0, .int .u8 0, .int .u8 0, .nilFunc, .pointer none, .int .i32 0, .int .i32 0]⟩, [(12, 0), (12, 1), (175, 2), (192, 3), (5, 4), (5, 5), (193, 6), (194, 7), (195, 8), (196, 9), (197, 10)]⟩
theorem g198 : good Tryz.prog (198, ti198) := good_s rfl (by kernel_rfl) (by kernel_rfl)
def ti199 : TI := ⟨.struct #[], 11, 48, .agg ⟨[.int .u64 0, .int .u64 0, .int .u32 0, .int .u8 0, .int .u8 0, .int .u8 0, .int .u8 0, .nilFunc, .pointer none, .int .i32 0, .int .i32 0]⟩, [(12, 0), (12, 1), (175, 2), (192, 3), (5, 4), (5, 5), (193, 6), (194, 7), (195, 8), (196, 9), (197, 10)]⟩
theorem g199 : good Tryz.prog (199, ti199) := good_s rfl (by kernel_rfl) (by kernel_rfl)
def ti200 : TI := ⟨.func #[4] #[34] false, 1, 8, .nilFunc, []⟩
theorem g200 : good Tryz.prog (200, ti200) := good_d rfl (by kernel_rfl) (by kernel_rfl)
def tts : List (Nat × TI) := [(1, ti1), (2, ti2), (3, ti3), (4, ti4), (5, ti5), (6, ti6), (7, ti7), (8, ti8), (9, ti9), (10, ti10), (11, ti11), (12, ti12), (13, ti13), (14, ti14), (15, ti15), (16, ti16), (17, ti17), (18, ti18), (19, ti19), (21, ti21), (22, ti22), (23, ti23), (24, ti24), (25, ti25), (26, ti26), (27, ti27), (28, ti28), (29, ti29), (30, ti30), (31, ti31), (32, ti32), (33, ti33), (34, ti34), (36, ti36), (37, ti37), (38, ti38), (39, ti39), (40, ti40), (41, ti41), (42, ti42), (43, ti43), (44, ti44), (46, ti46), (47, ti47), (48, ti48), (49, ti49), (50, ti50), (51, ti51), (52, ti52), (53, ti53), (54, ti54), (55, ti55), (56, ti56), (57, ti57), (58, ti58), (59, ti59), (60, ti60), (61, ti61), (62, ti62), (64, ti64), (65, ti65), (66, ti66), (67, ti67), (68, ti68), (69, ti69), (70, ti70), (71, ti71), (73, ti73), (74, ti74), (75, ti75), (76, ti76), (77, ti77), (78, ti78), (79, ti79), (80, ti80), (81, ti81), (82, ti82), (83, ti83), (84, ti84), (85, ti85), (86, ti86), (87, ti87), (88, ti88), (89, ti89), (90, ti90), (91, ti91), (92, ti92), (93, ti93), (94, ti94), (95, ti95), (96, ti96), (97, ti97), (98, ti98), (99, ti99), (100, ti100), (102, ti102), (103, ti103), (104, ti104), (105, ti105), (106, ti106), (107, ti107), (108, ti108), (109, ti109), (110, ti110), (111, ti111), (112, ti112), (113, ti113), (114, ti114), (115, ti115), (116, ti116), (117, ti117), (118, ti118), (119, ti119), (120, ti120), (122, ti122), (123, ti123), (124, ti124), (125, ti125), (126, ti126), (127, ti127), (128, ti128), (129, ti129), (130, ti130), (131, ti131), (132, ti132), (133, ti133), (134, ti134), (135, ti135), (136, ti136), (137, ti137), (138, ti138), (139, ti139), (140, ti140), (141, ti141), (142, ti142), (143, ti143), (144, ti144), (145, ti145), (146, ti146), (147, ti147), (148, ti148), (149, ti149), (150, ti150), (152, ti152), (153, ti153), (154, ti154), (155, ti155), (156, ti156), (157, ti157), (158, ti158), (159, ti159), (160, ti160), (161, ti161), (162, ti162), (163, ti163), (164, ti164), (165, ti165), (166, ti166), (167, ti167), (168, ti168), (169, ti169), (170, ti170), (171, ti171), (172, ti172), (173, ti173), (174, ti174), (175, ti175), (176, ti176), (177, ti177), (178, ti178), (179, ti179), (180, ti180), (181, ti181), (182, ti182), (183, ti183), (184, ti184), (185, ti185), (186, ti186), (187, ti187), (188, ti188), (189, ti189), (190, ti190), (191, ti191), (192, ti192), (193, ti193), (194, ti194), (195, ti195), (196, ti196), (197, ti197), (198, ti198), (199, ti199), (200, ti200)]
theorem good_cons {x : Nat × TI} {l : List (Nat × TI)} (h : good Tryz.prog x) (hl : ∀ p ∈ l, good Tryz.prog p) : ∀ p ∈ x :: l, good Tryz.prog p := fun p hp => (List.mem_cons.1 hp).elim (fun e => e ▸ h) (hl p)
theorem tts_good : ∀ p ∈ tts, good Tryz.prog p := by
  refine good_cons g1 (good_cons g2 (good_cons g3 (good_cons g4 (good_cons g5 (good_cons g6 (good_cons g7 (good_cons g8 (good_cons g9 (good_cons g10 (good_cons g11 (good_cons g12 (good_cons g13 (good_cons g14 (good_cons g15 (good_cons g16 (?_))))))))))))))))
  refine good_cons g17 (good_cons g18 (good_cons g19 (good_cons g21 (good_cons g22 (good_cons g23 (good_cons g24 (good_cons g25 (good_cons g26 (good_cons g27 (good_cons g28 (good_cons g29 (good_cons g30 (good_cons g31 (good_cons g32 (good_cons g33 (?_))))))))))))))))
  refine good_cons g34 (good_cons g36 (good_cons g37 (good_cons g38 (good_cons g39 (good_cons g40 (good_cons g41 (good_cons g42 (good_cons g43 (good_cons g44 (good_cons g46 (good_cons g47 (good_cons g48 (good_cons g49 (good_cons g50 (good_cons g51 (?_))))))))))))))))
  refine good_cons g52 (good_cons g53 (good_cons g54 (good_cons g55 (good_cons g56 (good_cons g57 (good_cons g58 (good_cons g59 (good_cons g60 (good_cons g61 (good_cons g62 (good_cons g64 (good_cons g65 (good_cons g66 (good_cons g67 (good_cons g68 (?_))))))))))))))))
  refine good_cons g69 (good_cons g70 (good_cons g71 (good_cons g73 (good_cons g74 (good_cons g75 (good_cons g76 (good_cons g77 (good_cons g78 (good_cons g79 (good_cons g80 (good_cons g81 (good_cons g82 (good_cons g83 (good_cons g84 (good_cons g85 (?_))))))))))))))))
  refine good_cons g86 (good_cons g87 (good_cons g88 (good_cons g89 (good_cons g90 (good_cons g91 (good_cons g92 (good_cons g93 (good_cons g94 (good_cons g95 (good_cons g96 (good_cons g97 (good_cons g98 (good_cons g99 (good_cons g100 (good_cons g102 (?_))))))))))))))))
  refine good_cons g103 (good_cons g104 (good_cons g105 (good_cons g106 (good_cons g107 (good_cons g108 (good_cons g109 (good_cons g110 (good_cons g111 (good_cons g112 (good_cons g113 (good_cons g114 (good_cons g115 (good_cons g116 (good_cons g117 (good_cons g118 (?_))))))))))))))))
  refine good_cons g119 (good_cons g120 (good_cons g122 (good_cons g123 (good_cons g124 (good_cons g125 (good_cons g126 (good_cons g127 (good_cons g128 (good_cons g129 (good_cons g130 (good_cons g131 (good_cons g132 (good_cons g133 (good_cons g134 (good_cons g135 (?_))))))))))))))))
  refine good_cons g136 (good_cons g137 (good_cons g138 (good_cons g139 (good_cons g140 (good_cons g141 (good_cons g142 (good_cons g143 (good_cons g144 (good_cons g145 (good_cons g146 (good_cons g147 (good_cons g148 (good_cons g149 (good_cons g150 (good_cons g152 (?_))))))))))))))))
  refine good_cons g153 (good_cons g154 (good_cons g155 (good_cons g156 (good_cons g157 (good_cons g158 (good_cons g159 (good_cons g160 (good_cons g161 (good_cons g162 (good_cons g163 (good_cons g164 (good_cons g165 (good_cons g166 (good_cons g167 (good_cons g168 (?_))))))))))))))))
  refine good_cons g169 (good_cons g170 (good_cons g171 (good_cons g172 (good_cons g173 (good_cons g174 (good_cons g175 (good_cons g176 (good_cons g177 (good_cons g178 (good_cons g179 (good_cons g180 (good_cons g181 (good_cons g182 (good_cons g183 (good_cons g184 (?_))))))))))))))))
  refine good_cons g185 (good_cons g186 (good_cons g187 (good_cons g188 (good_cons g189 (good_cons g190 (good_cons g191 (good_cons g192 (good_cons g193 (good_cons g194 (good_cons g195 (good_cons g196 (good_cons g197 (good_cons g198 (good_cons g199 (good_cons g200 (?_))))))))))))))))
  exact fun p hp => by cases hp
set_option maxRecDepth 100000 in
theorem tts_sane : ∀ p ∈ tts, p.2.flds ≠ [(0, 99999)] := by decide
instance : TT Tryz.prog (lookT tts) := TT.of_list tts_good tts_sane
instance : Mixed Tryz.prog := ⟨by kernel_rfl⟩
abbrev n_entrepotlaw19_EventKnown : Nat := 5
theorem F_entrepotlaw19_EventKnown : Tryz.prog.funcs[n_entrepotlaw19_EventKnown]? = some Tryz.f5 := Tryz.func5
abbrev n_entrepotlaw19_EventBack : Nat := 6
theorem F_entrepotlaw19_EventBack : Tryz.prog.funcs[n_entrepotlaw19_EventBack]? = some Tryz.f6 := Tryz.func6
abbrev n_entrepotlaw19_EventSorts : Nat := 8
theorem F_entrepotlaw19_EventSorts : Tryz.prog.funcs[n_entrepotlaw19_EventSorts]? = some Tryz.f8 := Tryz.func8
abbrev n_entrepotkit_LongEvent : Nat := 10
theorem F_entrepotkit_LongEvent : Tryz.prog.funcs[n_entrepotkit_LongEvent]? = some Tryz.f10 := Tryz.func10
abbrev n_entrepotlaw19_awake : Nat := 11
theorem F_entrepotlaw19_awake : Tryz.prog.funcs[n_entrepotlaw19_awake]? = some Tryz.f11 := Tryz.func11
abbrev n_entrepotkit_CopyEvent : Nat := 12
theorem F_entrepotkit_CopyEvent : Tryz.prog.funcs[n_entrepotkit_CopyEvent]? = some Tryz.f12 := Tryz.func12
abbrev n_event_Encode : Nat := 13
theorem F_event_Encode : Tryz.prog.funcs[n_event_Encode]? = some Tryz.f13 := Tryz.func13
abbrev n_event_Check : Nat := 16
theorem F_event_Check : Tryz.prog.funcs[n_event_Check]? = some Tryz.f16 := Tryz.func16
abbrev n_event_Needs : Nat := 18
theorem F_event_Needs : Tryz.prog.funcs[n_event_Needs]? = some Tryz.f18 := Tryz.func18
abbrev n_event_Less : Nat := 20
theorem F_event_Less : Tryz.prog.funcs[n_event_Less]? = some Tryz.f20 := Tryz.func20
abbrev n_entrepotref19_Less : Nat := 21
theorem F_entrepotref19_Less : Tryz.prog.funcs[n_entrepotref19_Less]? = some Tryz.f21 := Tryz.func21
abbrev n_entrepotkit_SameEvent : Nat := 23
theorem F_entrepotkit_SameEvent : Tryz.prog.funcs[n_entrepotkit_SameEvent]? = some Tryz.f23 := Tryz.func23
abbrev n_event_Decode : Nat := 25
theorem F_event_Decode : Tryz.prog.funcs[n_event_Decode]? = some Tryz.f25 := Tryz.func25
abbrev n_entrepotkit_OverEvents : Nat := 27
theorem F_entrepotkit_OverEvents : Tryz.prog.funcs[n_entrepotkit_OverEvents]? = some Tryz.f27 := Tryz.func27
abbrev n_entrepotlaw19_one : Nat := 29
theorem F_entrepotlaw19_one : Tryz.prog.funcs[n_entrepotlaw19_one]? = some Tryz.f29 := Tryz.func29
abbrev n_entrepotlaw19_at : Nat := 30
theorem F_entrepotlaw19_at : Tryz.prog.funcs[n_entrepotlaw19_at]? = some Tryz.f30 := Tryz.func30
abbrev n_entrepotkit_Pick : Nat := 31
theorem F_entrepotkit_Pick : Tryz.prog.funcs[n_entrepotkit_Pick]? = some Tryz.f31 := Tryz.func31
abbrev n_entrepotkit_CopyBytes : Nat := 32
theorem F_entrepotkit_CopyBytes : Tryz.prog.funcs[n_entrepotkit_CopyBytes]? = some Tryz.f32 := Tryz.func32
abbrev n_entrepotkit_LongEvents : Nat := 33
theorem F_entrepotkit_LongEvents : Tryz.prog.funcs[n_entrepotkit_LongEvents]? = some Tryz.f33 := Tryz.func33
abbrev n_entrepotkit_CopyEvents : Nat := 34
theorem F_entrepotkit_CopyEvents : Tryz.prog.funcs[n_entrepotkit_CopyEvents]? = some Tryz.f34 := Tryz.func34
abbrev n_event_Sort : Nat := 35
theorem F_event_Sort : Tryz.prog.funcs[n_event_Sort]? = some Tryz.f35 := Tryz.func35
abbrev n_entrepotkit_SameEvents : Nat := 36
theorem F_entrepotkit_SameEvents : Tryz.prog.funcs[n_entrepotkit_SameEvents]? = some Tryz.f36 := Tryz.func36
abbrev n_entrepotref19_Sort : Nat := 37
theorem F_entrepotref19_Sort : Tryz.prog.funcs[n_entrepotref19_Sort]? = some Tryz.f37 := Tryz.func37
abbrev n_entrepotkit_CopyInts : Nat := 39
theorem F_entrepotkit_CopyInts : Tryz.prog.funcs[n_entrepotkit_CopyInts]? = some Tryz.f39 := Tryz.func39
abbrev n_wire_NewWriter : Nat := 40
theorem F_wire_NewWriter : Tryz.prog.funcs[n_wire_NewWriter]? = some Tryz.f40 := Tryz.func40
abbrev n_p_wire_Writer_Dot : Nat := 41
theorem F_p_wire_Writer_Dot : Tryz.prog.funcs[n_p_wire_Writer_Dot]? = some Tryz.f41 := Tryz.func41
abbrev n_p_wire_Writer_Vector : Nat := 42
theorem F_p_wire_Writer_Vector : Tryz.prog.funcs[n_p_wire_Writer_Vector]? = some Tryz.f42 := Tryz.func42
abbrev n_p_wire_Writer_Num : Nat := 43
theorem F_p_wire_Writer_Num : Tryz.prog.funcs[n_p_wire_Writer_Num]? = some Tryz.f43 := Tryz.func43
abbrev n_p_wire_Writer_Text : Nat := 44
theorem F_p_wire_Writer_Text : Tryz.prog.funcs[n_p_wire_Writer_Text]? = some Tryz.f44 := Tryz.func44
abbrev n_p_wire_Writer_ID : Nat := 45
theorem F_p_wire_Writer_ID : Tryz.prog.funcs[n_p_wire_Writer_ID]? = some Tryz.f45 := Tryz.func45
abbrev n_p_wire_Writer_Done : Nat := 46
theorem F_p_wire_Writer_Done : Tryz.prog.funcs[n_p_wire_Writer_Done]? = some Tryz.f46 := Tryz.func46
abbrev n_event_placed : Nat := 54
theorem F_event_placed : Tryz.prog.funcs[n_event_placed]? = some Tryz.f54 := Tryz.func54
abbrev n_name_Repo : Nat := 55
theorem F_name_Repo : Tryz.prog.funcs[n_name_Repo]? = some Tryz.f55 := Tryz.func55
abbrev n_event_kinds : Nat := 56
theorem F_event_kinds : Tryz.prog.funcs[n_event_kinds]? = some Tryz.f56 := Tryz.func56
abbrev n_event_refs : Nat := 57
theorem F_event_refs : Tryz.prog.funcs[n_event_refs]? = some Tryz.f57 := Tryz.func57
abbrev n_vector_Has : Nat := 63
theorem F_vector_Has : Tryz.prog.funcs[n_vector_Has]? = some Tryz.f63 := Tryz.func63
abbrev n_vector_Less : Nat := 65
theorem F_vector_Less : Tryz.prog.funcs[n_vector_Less]? = some Tryz.f65 := Tryz.func65
abbrev n_entrepotref14_Less : Nat := 66
theorem F_entrepotref14_Less : Tryz.prog.funcs[n_entrepotref14_Less]? = some Tryz.f66 := Tryz.func66
abbrev n_entrepotkit_SameInts : Nat := 67
theorem F_entrepotkit_SameInts : Tryz.prog.funcs[n_entrepotkit_SameInts]? = some Tryz.f67 := Tryz.func67
abbrev n_entrepotkit_SameIDs : Nat := 68
theorem F_entrepotkit_SameIDs : Tryz.prog.funcs[n_entrepotkit_SameIDs]? = some Tryz.f68 := Tryz.func68
abbrev n_wire_NewReader : Nat := 69
theorem F_wire_NewReader : Tryz.prog.funcs[n_wire_NewReader]? = some Tryz.f69 := Tryz.func69
abbrev n_p_wire_Reader_Dot : Nat := 70
theorem F_p_wire_Reader_Dot : Tryz.prog.funcs[n_p_wire_Reader_Dot]? = some Tryz.f70 := Tryz.func70
abbrev n_p_wire_Reader_Vector : Nat := 71
theorem F_p_wire_Reader_Vector : Tryz.prog.funcs[n_p_wire_Reader_Vector]? = some Tryz.f71 := Tryz.func71
abbrev n_p_wire_Reader_Num : Nat := 72
theorem F_p_wire_Reader_Num : Tryz.prog.funcs[n_p_wire_Reader_Num]? = some Tryz.f72 := Tryz.func72
abbrev n_p_wire_Reader_Text : Nat := 73
theorem F_p_wire_Reader_Text : Tryz.prog.funcs[n_p_wire_Reader_Text]? = some Tryz.f73 := Tryz.func73
abbrev n_p_wire_Reader_ID : Nat := 74
theorem F_p_wire_Reader_ID : Tryz.prog.funcs[n_p_wire_Reader_ID]? = some Tryz.f74 := Tryz.func74
abbrev n_p_wire_Reader_Rest : Nat := 75
theorem F_p_wire_Reader_Rest : Tryz.prog.funcs[n_p_wire_Reader_Rest]? = some Tryz.f75 := Tryz.func75
abbrev n_p_wire_Reader_End : Nat := 76
theorem F_p_wire_Reader_End : Tryz.prog.funcs[n_p_wire_Reader_End]? = some Tryz.f76 := Tryz.func76
abbrev n_entrepotkit_OverInts : Nat := 85
theorem F_entrepotkit_OverInts : Tryz.prog.funcs[n_entrepotkit_OverInts]? = some Tryz.f85 := Tryz.func85
abbrev n_entrepotkit_OverIDs : Nat := 86
theorem F_entrepotkit_OverIDs : Tryz.prog.funcs[n_entrepotkit_OverIDs]? = some Tryz.f86 := Tryz.func86
abbrev n_sha_Of : Nat := 87
theorem F_sha_Of : Tryz.prog.funcs[n_sha_Of]? = some Tryz.f87 := Tryz.func87
abbrev n_slices_Clone_sl_int_int : Nat := 88
theorem F_slices_Clone_sl_int_int : Tryz.prog.funcs[n_slices_Clone_sl_int_int]? = some Tryz.f88 := Tryz.func88
abbrev n_slices_Clone_sl_api_ID_api_ID : Nat := 89
theorem F_slices_Clone_sl_api_ID_api_ID : Tryz.prog.funcs[n_slices_Clone_sl_api_ID_api_ID]? = some Tryz.f89 := Tryz.func89
abbrev n_slices_SortStableFunc_sl_event_place_event_place : Nat := 90
theorem F_slices_SortStableFunc_sl_event_place_event_place : Tryz.prog.funcs[n_slices_SortStableFunc_sl_event_place_event_place]? = some Tryz.f90 := Tryz.func90
abbrev n_event_place_compare : Nat := 91
theorem F_event_place_compare : Tryz.prog.funcs[n_event_place_compare]? = some Tryz.f91 := Tryz.func91
abbrev n_p_wire_Writer_put : Nat := 92
theorem F_p_wire_Writer_put : Tryz.prog.funcs[n_p_wire_Writer_put]? = some Tryz.f92 := Tryz.func92
abbrev n_p_wire_Writer_none : Nat := 93
theorem F_p_wire_Writer_none : Tryz.prog.funcs[n_p_wire_Writer_none]? = some Tryz.f93 := Tryz.func93
abbrev n_p_wire_wrong_failed : Nat := 94
theorem F_p_wire_wrong_failed : Tryz.prog.funcs[n_p_wire_wrong_failed]? = some Tryz.f94 := Tryz.func94
abbrev n_slices_Clone_sl_byte_byte : Nat := 95
theorem F_slices_Clone_sl_byte_byte : Tryz.prog.funcs[n_slices_Clone_sl_byte_byte]? = some Tryz.f95 := Tryz.func95
abbrev n_slices_ContainsFunc_sl_int_int : Nat := 99
theorem F_slices_ContainsFunc_sl_int_int : Tryz.prog.funcs[n_slices_ContainsFunc_sl_int_int]? = some Tryz.f99 := Tryz.func99
abbrev n_event_placed_1 : Nat := 100
theorem F_event_placed_1 : Tryz.prog.funcs[n_event_placed_1]? = some Tryz.f100 := Tryz.func100
abbrev n_name_long : Nat := 101
theorem F_name_long : Tryz.prog.funcs[n_name_long]? = some Tryz.f101 := Tryz.func101
abbrev n_name_run : Nat := 102
theorem F_name_run : Tryz.prog.funcs[n_name_run]? = some Tryz.f102 := Tryz.func102
abbrev n_name_repo_part : Nat := 103
theorem F_name_repo_part : Tryz.prog.funcs[n_name_repo_part]? = some Tryz.f103 := Tryz.func103
abbrev n_event_plain : Nat := 104
theorem F_event_plain : Tryz.prog.funcs[n_event_plain]? = some Tryz.f104 := Tryz.func104
abbrev n_event_given : Nat := 105
theorem F_event_given : Tryz.prog.funcs[n_event_given]? = some Tryz.f105 := Tryz.func105
abbrev n_event_tagged : Nat := 106
theorem F_event_tagged : Tryz.prog.funcs[n_event_tagged]? = some Tryz.f106 := Tryz.func106
abbrev n_event_none : Nat := 107
theorem F_event_none : Tryz.prog.funcs[n_event_none]? = some Tryz.f107 := Tryz.func107
abbrev n_slices_Contains_sl_api_ID_api_ID : Nat := 108
theorem F_slices_Contains_sl_api_ID_api_ID : Tryz.prog.funcs[n_slices_Contains_sl_api_ID_api_ID]? = some Tryz.f108 := Tryz.func108
abbrev n_sha_Compare : Nat := 109
theorem F_sha_Compare : Tryz.prog.funcs[n_sha_Compare]? = some Tryz.f109 := Tryz.func109
abbrev n_slices_ContainsFunc_sl_api_ID_api_ID : Nat := 110
theorem F_slices_ContainsFunc_sl_api_ID_api_ID : Tryz.prog.funcs[n_slices_ContainsFunc_sl_api_ID_api_ID]? = some Tryz.f110 := Tryz.func110
abbrev n_event_refs_1 : Nat := 111
theorem F_event_refs_1 : Tryz.prog.funcs[n_event_refs_1]? = some Tryz.f111 := Tryz.func111
abbrev n_sha_Has : Nat := 112
theorem F_sha_Has : Tryz.prog.funcs[n_sha_Has]? = some Tryz.f112 := Tryz.func112
abbrev n_vector_At : Nat := 119
theorem F_vector_At : Tryz.prog.funcs[n_vector_At]? = some Tryz.f119 := Tryz.func119
abbrev n_entrepotref14_At : Nat := 120
theorem F_entrepotref14_At : Tryz.prog.funcs[n_entrepotref14_At]? = some Tryz.f120 := Tryz.func120
abbrev n_vector_Weight : Nat := 121
theorem F_vector_Weight : Tryz.prog.funcs[n_vector_Weight]? = some Tryz.f121 := Tryz.func121
abbrev n_slices_CompareFunc_sl_int_sl_int_int_int : Nat := 122
theorem F_slices_CompareFunc_sl_int_sl_int_int_int : Tryz.prog.funcs[n_slices_CompareFunc_sl_int_sl_int_int_int]? = some Tryz.f122 := Tryz.func122
abbrev n_cmp_Compare_int : Nat := 123
theorem F_cmp_Compare_int : Tryz.prog.funcs[n_cmp_Compare_int]? = some Tryz.f123 := Tryz.func123
abbrev n_entrepotref14_Weight : Nat := 124
theorem F_entrepotref14_Weight : Tryz.prog.funcs[n_entrepotref14_Weight]? = some Tryz.f124 := Tryz.func124
abbrev n_p_wire_Reader_none : Nat := 125
theorem F_p_wire_Reader_none : Tryz.prog.funcs[n_p_wire_Reader_none]? = some Tryz.f125 := Tryz.func125
abbrev n_p_wire_Reader_many : Nat := 126
theorem F_p_wire_Reader_many : Tryz.prog.funcs[n_p_wire_Reader_many]? = some Tryz.f126 := Tryz.func126
abbrev n_p_wire_wrong_fails : Nat := 127
theorem F_p_wire_wrong_fails : Tryz.prog.funcs[n_p_wire_wrong_fails]? = some Tryz.f127 := Tryz.func127
abbrev n_wire_size : Nat := 128
theorem F_wire_size : Tryz.prog.funcs[n_wire_size]? = some Tryz.f128 := Tryz.func128
abbrev n_p_wire_Reader_Bytes : Nat := 129
theorem F_p_wire_Reader_Bytes : Tryz.prog.funcs[n_p_wire_Reader_Bytes]? = some Tryz.f129 := Tryz.func129
abbrev n_p_wire_Reader_take : Nat := 130
theorem F_p_wire_Reader_take : Tryz.prog.funcs[n_p_wire_Reader_take]? = some Tryz.f130 := Tryz.func130
abbrev n_p_wire_Reader_place : Nat := 131
theorem F_p_wire_Reader_place : Tryz.prog.funcs[n_p_wire_Reader_place]? = some Tryz.f131 := Tryz.func131
abbrev n_sha_Cut : Nat := 134
theorem F_sha_Cut : Tryz.prog.funcs[n_sha_Cut]? = some Tryz.f134 := Tryz.func134
abbrev n_sha_Sum : Nat := 135
theorem F_sha_Sum : Tryz.prog.funcs[n_sha_Sum]? = some Tryz.f135 := Tryz.func135
abbrev n_slices_stableCmpFunc_event_place : Nat := 136
theorem F_slices_stableCmpFunc_event_place : Tryz.prog.funcs[n_slices_stableCmpFunc_event_place]? = some Tryz.f136 := Tryz.func136
abbrev n_wire_form : Nat := 137
theorem F_wire_form : Tryz.prog.funcs[n_wire_form]? = some Tryz.f137 := Tryz.func137
abbrev n_slices_IndexFunc_sl_int_int : Nat := 138
theorem F_slices_IndexFunc_sl_int_int : Tryz.prog.funcs[n_slices_IndexFunc_sl_int_int]? = some Tryz.f138 := Tryz.func138
abbrev n_name_repo_word : Nat := 139
theorem F_name_repo_word : Tryz.prog.funcs[n_name_repo_word]? = some Tryz.f139 := Tryz.func139
abbrev n_name_Tag : Nat := 140
theorem F_name_Tag : Tryz.prog.funcs[n_name_Tag]? = some Tryz.f140 := Tryz.func140
abbrev n_slices_Index_sl_api_ID_api_ID : Nat := 141
theorem F_slices_Index_sl_api_ID_api_ID : Tryz.prog.funcs[n_slices_Index_sl_api_ID_api_ID]? = some Tryz.f141 := Tryz.func141
abbrev n_bytes_Compare : Nat := 142
theorem F_bytes_Compare : Tryz.prog.funcs[n_bytes_Compare]? = some Tryz.f142 := Tryz.func142
abbrev n_slices_IndexFunc_sl_api_ID_api_ID : Nat := 143
theorem F_slices_IndexFunc_sl_api_ID_api_ID : Tryz.prog.funcs[n_slices_IndexFunc_sl_api_ID_api_ID]? = some Tryz.f143 := Tryz.func143
abbrev n_vector_fold_int : Nat := 145
theorem F_vector_fold_int : Tryz.prog.funcs[n_vector_fold_int]? = some Tryz.f145 := Tryz.func145
abbrev n_vector_sides : Nat := 146
theorem F_vector_sides : Tryz.prog.funcs[n_vector_sides]? = some Tryz.f146 := Tryz.func146
abbrev n_vector_Weight_1 : Nat := 147
theorem F_vector_Weight_1 : Tryz.prog.funcs[n_vector_Weight_1]? = some Tryz.f147 := Tryz.func147
abbrev n_cmp_isNaN_int : Nat := 148
theorem F_cmp_isNaN_int : Tryz.prog.funcs[n_cmp_isNaN_int]? = some Tryz.f148 := Tryz.func148
abbrev n_sha_New : Nat := 149
theorem F_sha_New : Tryz.prog.funcs[n_sha_New]? = some Tryz.f149 := Tryz.func149
abbrev n_p_sha_Hash_Write : Nat := 150
theorem F_p_sha_Hash_Write : Tryz.prog.funcs[n_p_sha_Hash_Write]? = some Tryz.f150 := Tryz.func150
abbrev n_p_sha_Hash_Sum : Nat := 151
theorem F_p_sha_Hash_Sum : Tryz.prog.funcs[n_p_sha_Hash_Sum]? = some Tryz.f151 := Tryz.func151
abbrev n_slices_insertionSortCmpFunc_event_place : Nat := 152
theorem F_slices_insertionSortCmpFunc_event_place : Tryz.prog.funcs[n_slices_insertionSortCmpFunc_event_place]? = some Tryz.f152 := Tryz.func152
abbrev n_slices_symMergeCmpFunc_event_place : Nat := 153
theorem F_slices_symMergeCmpFunc_event_place : Tryz.prog.funcs[n_slices_symMergeCmpFunc_event_place]? = some Tryz.f153 := Tryz.func153
abbrev n_wire_form_1 : Nat := 154
theorem F_wire_form_1 : Tryz.prog.funcs[n_wire_form_1]? = some Tryz.f154 := Tryz.func154
abbrev n_name_letter_word : Nat := 155
theorem F_name_letter_word : Tryz.prog.funcs[n_name_letter_word]? = some Tryz.f155 := Tryz.func155
abbrev n_name_repo_inside : Nat := 156
theorem F_name_repo_inside : Tryz.prog.funcs[n_name_repo_inside]? = some Tryz.f156 := Tryz.func156
abbrev n_name_Tag_1 : Nat := 157
theorem F_name_Tag_1 : Tryz.prog.funcs[n_name_Tag_1]? = some Tryz.f157 := Tryz.func157
abbrev n_name_letter_tag : Nat := 158
theorem F_name_letter_tag : Tryz.prog.funcs[n_name_letter_tag]? = some Tryz.f158 := Tryz.func158
abbrev n_name_all : Nat := 159
theorem F_name_all : Tryz.prog.funcs[n_name_all]? = some Tryz.f159 := Tryz.func159
abbrev n_internal_bytealg_Compare : Nat := 160
theorem F_internal_bytealg_Compare : Tryz.prog.funcs[n_internal_bytealg_Compare]? = some Tryz.f160 := Tryz.func160
abbrev n_vector_sides_1 : Nat := 161
theorem F_vector_sides_1 : Tryz.prog.funcs[n_vector_sides_1]? = some Tryz.f161 := Tryz.func161
abbrev n_sha_begin : Nat := 162
theorem F_sha_begin : Tryz.prog.funcs[n_sha_begin]? = some Tryz.f162 := Tryz.func162
abbrev n_p_sha_Hash_none : Nat := 163
theorem F_p_sha_Hash_none : Tryz.prog.funcs[n_p_sha_Hash_none]? = some Tryz.f163 := Tryz.func163
abbrev n_p_sha_words_block : Nat := 164
theorem F_p_sha_words_block : Tryz.prog.funcs[n_p_sha_words_block]? = some Tryz.f164 := Tryz.func164
abbrev n_bytes_Clone : Nat := 165
theorem F_bytes_Clone : Tryz.prog.funcs[n_bytes_Clone]? = some Tryz.f165 := Tryz.func165
abbrev n_slices_rotateCmpFunc_event_place : Nat := 166
theorem F_slices_rotateCmpFunc_event_place : Tryz.prog.funcs[n_slices_rotateCmpFunc_event_place]? = some Tryz.f166 := Tryz.func166
abbrev n_name_repo_second : Nat := 167
theorem F_name_repo_second : Tryz.prog.funcs[n_name_repo_second]? = some Tryz.f167 := Tryz.func167
abbrev n_name_repo_dashes : Nat := 168
theorem F_name_repo_dashes : Tryz.prog.funcs[n_name_repo_dashes]? = some Tryz.f168 := Tryz.func168
abbrev n_name_all_1 : Nat := 169
theorem F_name_all_1 : Tryz.prog.funcs[n_name_all_1]? = some Tryz.f169 := Tryz.func169
abbrev n_sha_keys : Nat := 170
theorem F_sha_keys : Tryz.prog.funcs[n_sha_keys]? = some Tryz.f170 := Tryz.func170
abbrev n_sha_spread : Nat := 171
theorem F_sha_spread : Tryz.prog.funcs[n_sha_spread]? = some Tryz.f171 := Tryz.func171
abbrev n_sha_turned : Nat := 172
theorem F_sha_turned : Tryz.prog.funcs[n_sha_turned]? = some Tryz.f172 := Tryz.func172
abbrev n_slices_swapRangeCmpFunc_event_place : Nat := 173
theorem F_slices_swapRangeCmpFunc_event_place : Tryz.prog.funcs[n_slices_swapRangeCmpFunc_event_place]? = some Tryz.f173 := Tryz.func173
abbrev n_math_bits_RotateLeft32 : Nat := 174
theorem F_math_bits_RotateLeft32 : Tryz.prog.funcs[n_math_bits_RotateLeft32]? = some Tryz.f174 := Tryz.func174
abbrev t_int : Nat := 3
abbrev t_bool : Nat := 4
abbrev t_uint8 : Nat := 5
abbrev t_string : Nat := 9
abbrev t_api_Dot : Nat := 23
abbrev t_sl_int : Nat := 24
abbrev t_api_ID : Nat := 26
abbrev t_api_Event : Nat := 29
abbrev t_api_Errno : Nat := 34
abbrev t_api_Fault : Nat := 44
abbrev t_event_what : Nat := 78
abbrev t_event_place : Nat := 105
abbrev t_wire_wrong : Nat := 111
abbrev t_wire_Writer : Nat := 113
abbrev t_p_name_state : Nat := 124
abbrev t_wire_Reader : Nat := 141
abbrev t_name_state : Nat := 156
abbrev t_func_int_int_int_int : Nat := 165
abbrev t_func_name_letter_bool : Nat := 173
abbrev t_sha_words : Nat := 177
abbrev t_sha_Hash : Nat := 180
abbrev t_64_uint32 : Nat := 182
instance : Bodied Tryz.prog 3 := bodied_of Tryz.func3 (by kernel_rfl) rfl -- entrepot/entrepotlaw19.EventChecks
instance : Bodied Tryz.prog 4 := bodied_of Tryz.func4 (by kernel_rfl) rfl -- entrepot/entrepotlaw19.EventDecodes
instance : Bodied Tryz.prog 5 := bodied_of Tryz.func5 (by kernel_rfl) rfl -- entrepot/entrepotlaw19.EventKnown
instance : Bodied Tryz.prog 6 := bodied_of Tryz.func6 (by kernel_rfl) rfl -- entrepot/entrepotlaw19.EventBack
instance : Bodied Tryz.prog 7 := bodied_of Tryz.func7 (by kernel_rfl) rfl -- entrepot/entrepotlaw19.EventOne
instance : Bodied Tryz.prog 8 := bodied_of Tryz.func8 (by kernel_rfl) rfl -- entrepot/entrepotlaw19.EventSorts
instance : Bodied Tryz.prog 9 := bodied_of Tryz.func9 (by kernel_rfl) rfl -- entrepot/entrepotlaw19.EventOrder
instance : Bodied Tryz.prog 10 := bodied_of Tryz.func10 (by kernel_rfl) rfl -- entrepot/entrepotkit.LongEvent
instance : Bodied Tryz.prog 11 := bodied_of Tryz.func11 (by kernel_rfl) rfl -- entrepot/entrepotlaw19.awake
instance : Bodied Tryz.prog 12 := bodied_of Tryz.func12 (by kernel_rfl) rfl -- entrepot/entrepotkit.CopyEvent
instance : Bodied Tryz.prog 13 := bodied_of Tryz.func13 (by kernel_rfl) rfl -- entrepot/event.Encode
instance : Bodied Tryz.prog 14 := bodied_of Tryz.func14 (by kernel_rfl) rfl -- entrepot/entrepotref19.Encode
instance : Bodied Tryz.prog 15 := bodied_of Tryz.func15 (by kernel_rfl) rfl -- entrepot/entrepotkit.SameBytes
instance : Bodied Tryz.prog 16 := bodied_of Tryz.func16 (by kernel_rfl) rfl -- entrepot/event.Check
instance : Bodied Tryz.prog 17 := bodied_of Tryz.func17 (by kernel_rfl) rfl -- entrepot/entrepotref19.Check
instance : Bodied Tryz.prog 18 := bodied_of Tryz.func18 (by kernel_rfl) rfl -- entrepot/event.Needs
instance : Bodied Tryz.prog 19 := bodied_of Tryz.func19 (by kernel_rfl) rfl -- entrepot/entrepotref19.Needs
instance : Bodied Tryz.prog 20 := bodied_of Tryz.func20 (by kernel_rfl) rfl -- entrepot/event.Less
instance : Bodied Tryz.prog 21 := bodied_of Tryz.func21 (by kernel_rfl) rfl -- entrepot/entrepotref19.Less
instance : Bodied Tryz.prog 22 := bodied_of Tryz.func22 (by kernel_rfl) rfl -- entrepot/entrepotkit.OverBytes
instance : Bodied Tryz.prog 23 := bodied_of Tryz.func23 (by kernel_rfl) rfl -- entrepot/entrepotkit.SameEvent
instance : Bodied Tryz.prog 24 := bodied_of Tryz.func24 (by kernel_rfl) rfl -- entrepot/entrepotkit.LentBytes
instance : Bodied Tryz.prog 25 := bodied_of Tryz.func25 (by kernel_rfl) rfl -- entrepot/event.Decode
instance : Bodied Tryz.prog 26 := bodied_of Tryz.func26 (by kernel_rfl) rfl -- entrepot/entrepotref19.Decode
instance : Bodied Tryz.prog 27 := bodied_of Tryz.func27 (by kernel_rfl) rfl -- entrepot/entrepotkit.OverEvents
instance : Bodied Tryz.prog 28 := bodied_of Tryz.func28 (by kernel_rfl) rfl -- entrepot/entrepotkit.KeptBytes
instance : Bodied Tryz.prog 29 := bodied_of Tryz.func29 (by kernel_rfl) rfl -- entrepot/entrepotlaw19.one
instance : Bodied Tryz.prog 30 := bodied_of Tryz.func30 (by kernel_rfl) rfl -- entrepot/entrepotlaw19.at
instance : Bodied Tryz.prog 31 := bodied_of Tryz.func31 (by kernel_rfl) rfl -- entrepot/entrepotkit.Pick
instance : Bodied Tryz.prog 32 := bodied_of Tryz.func32 (by kernel_rfl) rfl -- entrepot/entrepotkit.CopyBytes
instance : Bodied Tryz.prog 33 := bodied_of Tryz.func33 (by kernel_rfl) rfl -- entrepot/entrepotkit.LongEvents
instance : Bodied Tryz.prog 34 := bodied_of Tryz.func34 (by kernel_rfl) rfl -- entrepot/entrepotkit.CopyEvents
instance : Bodied Tryz.prog 35 := bodied_of Tryz.func35 (by kernel_rfl) rfl -- entrepot/event.Sort
instance : Bodied Tryz.prog 36 := bodied_of Tryz.func36 (by kernel_rfl) rfl -- entrepot/entrepotkit.SameEvents
instance : Bodied Tryz.prog 37 := bodied_of Tryz.func37 (by kernel_rfl) rfl -- entrepot/entrepotref19.Sort
instance : Bodied Tryz.prog 38 := bodied_of Tryz.func38 (by kernel_rfl) rfl -- entrepot/entrepotlaw19.closed
instance : Bodied Tryz.prog 39 := bodied_of Tryz.func39 (by kernel_rfl) rfl -- entrepot/entrepotkit.CopyInts
instance : Bodied Tryz.prog 40 := bodied_of Tryz.func40 (by kernel_rfl) rfl -- entrepot/wire.NewWriter
instance : Bodied Tryz.prog 41 := bodied_of Tryz.func41 (by kernel_rfl) rfl -- (*entrepot/wire.Writer).Dot
instance : Bodied Tryz.prog 42 := bodied_of Tryz.func42 (by kernel_rfl) rfl -- (*entrepot/wire.Writer).Vector
instance : Bodied Tryz.prog 43 := bodied_of Tryz.func43 (by kernel_rfl) rfl -- (*entrepot/wire.Writer).Num
instance : Bodied Tryz.prog 44 := bodied_of Tryz.func44 (by kernel_rfl) rfl -- (*entrepot/wire.Writer).Text
instance : Bodied Tryz.prog 45 := bodied_of Tryz.func45 (by kernel_rfl) rfl -- (*entrepot/wire.Writer).ID
instance : Bodied Tryz.prog 46 := bodied_of Tryz.func46 (by kernel_rfl) rfl -- (*entrepot/wire.Writer).Done
instance : Bodied Tryz.prog 47 := bodied_of Tryz.func47 (by kernel_rfl) rfl -- entrepot/entrepotref04.NewWriter
instance : Bodied Tryz.prog 48 := bodied_of Tryz.func48 (by kernel_rfl) rfl -- (*entrepot/entrepotref04.Writer).Dot
instance : Bodied Tryz.prog 49 := bodied_of Tryz.func49 (by kernel_rfl) rfl -- (*entrepot/entrepotref04.Writer).Vector
instance : Bodied Tryz.prog 50 := bodied_of Tryz.func50 (by kernel_rfl) rfl -- (*entrepot/entrepotref04.Writer).Num
instance : Bodied Tryz.prog 51 := bodied_of Tryz.func51 (by kernel_rfl) rfl -- (*entrepot/entrepotref04.Writer).Text
instance : Bodied Tryz.prog 52 := bodied_of Tryz.func52 (by kernel_rfl) rfl -- (*entrepot/entrepotref04.Writer).ID
instance : Bodied Tryz.prog 53 := bodied_of Tryz.func53 (by kernel_rfl) rfl -- (*entrepot/entrepotref04.Writer).Done
instance : Bodied Tryz.prog 54 := bodied_of Tryz.func54 (by kernel_rfl) rfl -- entrepot/event.placed
instance : Bodied Tryz.prog 55 := bodied_of Tryz.func55 (by kernel_rfl) rfl -- entrepot/name.Repo
instance : Bodied Tryz.prog 56 := bodied_of Tryz.func56 (by kernel_rfl) rfl -- entrepot/event.kinds
instance : Bodied Tryz.prog 57 := bodied_of Tryz.func57 (by kernel_rfl) rfl -- entrepot/event.refs
instance : Bodied Tryz.prog 58 := bodied_of Tryz.func58 (by kernel_rfl) rfl -- entrepot/entrepotref19.placed
instance : Bodied Tryz.prog 59 := bodied_of Tryz.func59 (by kernel_rfl) rfl -- entrepot/entrepotref03.Repo
instance : Bodied Tryz.prog 60 := bodied_of Tryz.func60 (by kernel_rfl) rfl -- entrepot/entrepotref03.Tag
instance : Bodied Tryz.prog 61 := bodied_of Tryz.func61 (by kernel_rfl) rfl -- entrepot/entrepotref02.Has
instance : Bodied Tryz.prog 62 := bodied_of Tryz.func62 (by kernel_rfl) rfl -- entrepot/entrepotref19.refs
instance : Bodied Tryz.prog 63 := bodied_of Tryz.func63 (by kernel_rfl) rfl -- entrepot/vector.Has
instance : Bodied Tryz.prog 64 := bodied_of Tryz.func64 (by kernel_rfl) rfl -- entrepot/entrepotref14.Has
instance : Bodied Tryz.prog 65 := bodied_of Tryz.func65 (by kernel_rfl) rfl -- entrepot/vector.Less
instance : Bodied Tryz.prog 66 := bodied_of Tryz.func66 (by kernel_rfl) rfl -- entrepot/entrepotref14.Less
instance : Bodied Tryz.prog 67 := bodied_of Tryz.func67 (by kernel_rfl) rfl -- entrepot/entrepotkit.SameInts
instance : Bodied Tryz.prog 68 := bodied_of Tryz.func68 (by kernel_rfl) rfl -- entrepot/entrepotkit.SameIDs
instance : Bodied Tryz.prog 69 := bodied_of Tryz.func69 (by kernel_rfl) rfl -- entrepot/wire.NewReader
instance : Bodied Tryz.prog 70 := bodied_of Tryz.func70 (by kernel_rfl) rfl -- (*entrepot/wire.Reader).Dot
instance : Bodied Tryz.prog 71 := bodied_of Tryz.func71 (by kernel_rfl) rfl -- (*entrepot/wire.Reader).Vector
instance : Bodied Tryz.prog 72 := bodied_of Tryz.func72 (by kernel_rfl) rfl -- (*entrepot/wire.Reader).Num
instance : Bodied Tryz.prog 73 := bodied_of Tryz.func73 (by kernel_rfl) rfl -- (*entrepot/wire.Reader).Text
instance : Bodied Tryz.prog 74 := bodied_of Tryz.func74 (by kernel_rfl) rfl -- (*entrepot/wire.Reader).ID
instance : Bodied Tryz.prog 75 := bodied_of Tryz.func75 (by kernel_rfl) rfl -- (*entrepot/wire.Reader).Rest
instance : Bodied Tryz.prog 76 := bodied_of Tryz.func76 (by kernel_rfl) rfl -- (*entrepot/wire.Reader).End
instance : Bodied Tryz.prog 77 := bodied_of Tryz.func77 (by kernel_rfl) rfl -- entrepot/entrepotref04.NewReader
instance : Bodied Tryz.prog 78 := bodied_of Tryz.func78 (by kernel_rfl) rfl -- (*entrepot/entrepotref04.Reader).Dot
instance : Bodied Tryz.prog 79 := bodied_of Tryz.func79 (by kernel_rfl) rfl -- (*entrepot/entrepotref04.Reader).Vector
instance : Bodied Tryz.prog 80 := bodied_of Tryz.func80 (by kernel_rfl) rfl -- (*entrepot/entrepotref04.Reader).Num
instance : Bodied Tryz.prog 81 := bodied_of Tryz.func81 (by kernel_rfl) rfl -- (*entrepot/entrepotref04.Reader).Text
instance : Bodied Tryz.prog 82 := bodied_of Tryz.func82 (by kernel_rfl) rfl -- (*entrepot/entrepotref04.Reader).ID
instance : Bodied Tryz.prog 83 := bodied_of Tryz.func83 (by kernel_rfl) rfl -- (*entrepot/entrepotref04.Reader).Rest
instance : Bodied Tryz.prog 84 := bodied_of Tryz.func84 (by kernel_rfl) rfl -- (*entrepot/entrepotref04.Reader).End
instance : Bodied Tryz.prog 85 := bodied_of Tryz.func85 (by kernel_rfl) rfl -- entrepot/entrepotkit.OverInts
instance : Bodied Tryz.prog 86 := bodied_of Tryz.func86 (by kernel_rfl) rfl -- entrepot/entrepotkit.OverIDs
instance : Bodied Tryz.prog 87 := bodied_of Tryz.func87 (by kernel_rfl) rfl -- entrepot/sha.Of
instance : Bodied Tryz.prog 88 := bodied_of Tryz.func88 (by kernel_rfl) rfl -- slices.Clone[[]int,int]
instance : Bodied Tryz.prog 89 := bodied_of Tryz.func89 (by kernel_rfl) rfl -- slices.Clone[[]entrepot/api.ID,entrepot/api.ID]
instance : Bodied Tryz.prog 90 := bodied_of Tryz.func90 (by kernel_rfl) rfl -- slices.SortStableFunc[[]entrepot/event.place,entrepot/event.place]
instance : Bodied Tryz.prog 91 := bodied_of Tryz.func91 (by kernel_rfl) rfl -- (entrepot/event.place).compare
instance : Bodied Tryz.prog 92 := bodied_of Tryz.func92 (by kernel_rfl) rfl -- (*entrepot/wire.Writer).put
instance : Bodied Tryz.prog 93 := bodied_of Tryz.func93 (by kernel_rfl) rfl -- (*entrepot/wire.Writer).none
instance : Bodied Tryz.prog 94 := bodied_of Tryz.func94 (by kernel_rfl) rfl -- (*entrepot/wire.wrong).failed
instance : Bodied Tryz.prog 95 := bodied_of Tryz.func95 (by kernel_rfl) rfl -- slices.Clone[[]byte,byte]
instance : Bodied Tryz.prog 96 := bodied_of Tryz.func96 (by kernel_rfl) rfl -- (*entrepot/entrepotref04.Writer).Put
instance : Bodied Tryz.prog 97 := bodied_of Tryz.func97 (by kernel_rfl) rfl -- entrepot/entrepotref04.Num
instance : Bodied Tryz.prog 98 := bodied_of Tryz.func98 (by kernel_rfl) rfl -- entrepot/entrepotref04.Bytes
instance : Bodied Tryz.prog 99 := bodied_of Tryz.func99 (by kernel_rfl) rfl -- slices.ContainsFunc[[]int,int]
instance : Bodied Tryz.prog 100 := bodied_of Tryz.func100 (by kernel_rfl) rfl -- entrepot/event.placed$1
instance : Bodied Tryz.prog 101 := bodied_of Tryz.func101 (by kernel_rfl) rfl -- entrepot/name.long
instance : Bodied Tryz.prog 102 := bodied_of Tryz.func102 (by kernel_rfl) rfl -- entrepot/name.run
instance : Bodied Tryz.prog 103 := bodied_of Tryz.func103 (by kernel_rfl) rfl -- (entrepot/name.repo).part
instance : Bodied Tryz.prog 104 := bodied_of Tryz.func104 (by kernel_rfl) rfl -- entrepot/event.plain
instance : Bodied Tryz.prog 105 := bodied_of Tryz.func105 (by kernel_rfl) rfl -- entrepot/event.given
instance : Bodied Tryz.prog 106 := bodied_of Tryz.func106 (by kernel_rfl) rfl -- entrepot/event.tagged
instance : Bodied Tryz.prog 107 := bodied_of Tryz.func107 (by kernel_rfl) rfl -- entrepot/event.none
instance : Bodied Tryz.prog 108 := bodied_of Tryz.func108 (by kernel_rfl) rfl -- slices.Contains[[]entrepot/api.ID,entrepot/api.ID]
instance : Bodied Tryz.prog 109 := bodied_of Tryz.func109 (by kernel_rfl) rfl -- entrepot/sha.Compare
instance : Bodied Tryz.prog 110 := bodied_of Tryz.func110 (by kernel_rfl) rfl -- slices.ContainsFunc[[]entrepot/api.ID,entrepot/api.ID]
instance : Bodied Tryz.prog 111 := bodied_of Tryz.func111 (by kernel_rfl) rfl -- entrepot/event.refs$1
instance : Bodied Tryz.prog 112 := bodied_of Tryz.func112 (by kernel_rfl) rfl -- entrepot/sha.Has
instance : Bodied Tryz.prog 113 := bodied_of Tryz.func113 (by kernel_rfl) rfl -- entrepot/entrepotref03.ends
instance : Bodied Tryz.prog 114 := bodied_of Tryz.func114 (by kernel_rfl) rfl -- entrepot/entrepotref03.goes
instance : Bodied Tryz.prog 115 := bodied_of Tryz.func115 (by kernel_rfl) rfl -- entrepot/entrepotref03.low
instance : Bodied Tryz.prog 116 := bodied_of Tryz.func116 (by kernel_rfl) rfl -- entrepot/entrepotref02.Cut
instance : Bodied Tryz.prog 117 := bodied_of Tryz.func117 (by kernel_rfl) rfl -- entrepot/entrepotref19.rise
instance : Bodied Tryz.prog 118 := bodied_of Tryz.func118 (by kernel_rfl) rfl -- entrepot/entrepotref19.has
instance : Bodied Tryz.prog 119 := bodied_of Tryz.func119 (by kernel_rfl) rfl -- entrepot/vector.At
instance : Bodied Tryz.prog 120 := bodied_of Tryz.func120 (by kernel_rfl) rfl -- entrepot/entrepotref14.At
instance : Bodied Tryz.prog 121 := bodied_of Tryz.func121 (by kernel_rfl) rfl -- entrepot/vector.Weight
instance : Bodied Tryz.prog 122 := bodied_of Tryz.func122 (by kernel_rfl) rfl -- slices.CompareFunc[[]int,[]int,int,int]
instance : Bodied Tryz.prog 123 := bodied_of Tryz.func123 (by kernel_rfl) rfl -- cmp.Compare[int]
instance : Bodied Tryz.prog 124 := bodied_of Tryz.func124 (by kernel_rfl) rfl -- entrepot/entrepotref14.Weight
instance : Bodied Tryz.prog 125 := bodied_of Tryz.func125 (by kernel_rfl) rfl -- (*entrepot/wire.Reader).none
instance : Bodied Tryz.prog 126 := bodied_of Tryz.func126 (by kernel_rfl) rfl -- (*entrepot/wire.Reader).many
instance : Bodied Tryz.prog 127 := bodied_of Tryz.func127 (by kernel_rfl) rfl -- (*entrepot/wire.wrong).fails
instance : Bodied Tryz.prog 128 := bodied_of Tryz.func128 (by kernel_rfl) rfl -- entrepot/wire.size
instance : Bodied Tryz.prog 129 := bodied_of Tryz.func129 (by kernel_rfl) rfl -- (*entrepot/wire.Reader).Bytes
instance : Bodied Tryz.prog 130 := bodied_of Tryz.func130 (by kernel_rfl) rfl -- (*entrepot/wire.Reader).take
instance : Bodied Tryz.prog 131 := bodied_of Tryz.func131 (by kernel_rfl) rfl -- (*entrepot/wire.Reader).place
instance : Bodied Tryz.prog 132 := bodied_of Tryz.func132 (by kernel_rfl) rfl -- (*entrepot/entrepotref04.Reader).fail
instance : Bodied Tryz.prog 133 := bodied_of Tryz.func133 (by kernel_rfl) rfl -- (*entrepot/entrepotref04.Reader).Bytes
instance : Bodied Tryz.prog 134 := bodied_of Tryz.func134 (by kernel_rfl) rfl -- entrepot/sha.Cut
instance : Bodied Tryz.prog 135 := bodied_of Tryz.func135 (by kernel_rfl) rfl -- entrepot/sha.Sum
instance : Bodied Tryz.prog 136 := bodied_of Tryz.func136 (by kernel_rfl) rfl -- slices.stableCmpFunc[entrepot/event.place]
instance : Bodied Tryz.prog 137 := bodied_of Tryz.func137 (by kernel_rfl) rfl -- entrepot/wire.form
instance : Bodied Tryz.prog 138 := bodied_of Tryz.func138 (by kernel_rfl) rfl -- slices.IndexFunc[[]int,int]
instance : Bodied Tryz.prog 139 := bodied_of Tryz.func139 (by kernel_rfl) rfl -- (entrepot/name.repo).word
instance : Bodied Tryz.prog 140 := bodied_of Tryz.func140 (by kernel_rfl) rfl -- entrepot/name.Tag
instance : Bodied Tryz.prog 141 := bodied_of Tryz.func141 (by kernel_rfl) rfl -- slices.Index[[]entrepot/api.ID,entrepot/api.ID]
instance : Bodied Tryz.prog 142 := bodied_of Tryz.func142 (by kernel_rfl) rfl -- bytes.Compare
instance : Bodied Tryz.prog 143 := bodied_of Tryz.func143 (by kernel_rfl) rfl -- slices.IndexFunc[[]entrepot/api.ID,entrepot/api.ID]
instance : Bodied Tryz.prog 144 := bodied_of Tryz.func144 (by kernel_rfl) rfl -- entrepot/entrepotref02.Compare
instance : Bodied Tryz.prog 145 := bodied_of Tryz.func145 (by kernel_rfl) rfl -- entrepot/vector.fold[int]
instance : Bodied Tryz.prog 146 := bodied_of Tryz.func146 (by kernel_rfl) rfl -- entrepot/vector.sides
instance : Bodied Tryz.prog 147 := bodied_of Tryz.func147 (by kernel_rfl) rfl -- entrepot/vector.Weight$1
instance : Bodied Tryz.prog 148 := bodied_of Tryz.func148 (by kernel_rfl) rfl -- cmp.isNaN[int]
instance : Bodied Tryz.prog 149 := bodied_of Tryz.func149 (by kernel_rfl) rfl -- entrepot/sha.New
instance : Bodied Tryz.prog 150 := bodied_of Tryz.func150 (by kernel_rfl) rfl -- (*entrepot/sha.Hash).Write
instance : Bodied Tryz.prog 151 := bodied_of Tryz.func151 (by kernel_rfl) rfl -- (*entrepot/sha.Hash).Sum
instance : Bodied Tryz.prog 152 := bodied_of Tryz.func152 (by kernel_rfl) rfl -- slices.insertionSortCmpFunc[entrepot/event.place]
instance : Bodied Tryz.prog 153 := bodied_of Tryz.func153 (by kernel_rfl) rfl -- slices.symMergeCmpFunc[entrepot/event.place]
instance : Bodied Tryz.prog 154 := bodied_of Tryz.func154 (by kernel_rfl) rfl -- entrepot/wire.form$1
instance : Bodied Tryz.prog 155 := bodied_of Tryz.func155 (by kernel_rfl) rfl -- (entrepot/name.letter).word
instance : Bodied Tryz.prog 156 := bodied_of Tryz.func156 (by kernel_rfl) rfl -- (entrepot/name.repo).inside
instance : Bodied Tryz.prog 157 := bodied_of Tryz.func157 (by kernel_rfl) rfl -- entrepot/name.Tag$1
instance : Bodied Tryz.prog 158 := bodied_of Tryz.func158 (by kernel_rfl) rfl -- (entrepot/name.letter).tag
instance : Bodied Tryz.prog 159 := bodied_of Tryz.func159 (by kernel_rfl) rfl -- entrepot/name.all
instance : Bodied Tryz.prog 161 := bodied_of Tryz.func161 (by kernel_rfl) rfl -- entrepot/vector.sides$1
instance : Bodied Tryz.prog 162 := bodied_of Tryz.func162 (by kernel_rfl) rfl -- entrepot/sha.begin
instance : Bodied Tryz.prog 163 := bodied_of Tryz.func163 (by kernel_rfl) rfl -- (*entrepot/sha.Hash).none
instance : Bodied Tryz.prog 164 := bodied_of Tryz.func164 (by kernel_rfl) rfl -- (*entrepot/sha.words).block
instance : Bodied Tryz.prog 165 := bodied_of Tryz.func165 (by kernel_rfl) rfl -- bytes.Clone
instance : Bodied Tryz.prog 166 := bodied_of Tryz.func166 (by kernel_rfl) rfl -- slices.rotateCmpFunc[entrepot/event.place]
instance : Bodied Tryz.prog 167 := bodied_of Tryz.func167 (by kernel_rfl) rfl -- (entrepot/name.repo).second
instance : Bodied Tryz.prog 168 := bodied_of Tryz.func168 (by kernel_rfl) rfl -- (entrepot/name.repo).dashes
instance : Bodied Tryz.prog 169 := bodied_of Tryz.func169 (by kernel_rfl) rfl -- entrepot/name.all$1
instance : Bodied Tryz.prog 170 := bodied_of Tryz.func170 (by kernel_rfl) rfl -- entrepot/sha.keys
instance : Bodied Tryz.prog 171 := bodied_of Tryz.func171 (by kernel_rfl) rfl -- entrepot/sha.spread
instance : Bodied Tryz.prog 172 := bodied_of Tryz.func172 (by kernel_rfl) rfl -- entrepot/sha.turned
instance : Bodied Tryz.prog 173 := bodied_of Tryz.func173 (by kernel_rfl) rfl -- slices.swapRangeCmpFunc[entrepot/event.place]
instance : Bodied Tryz.prog 174 := bodied_of Tryz.func174 (by kernel_rfl) rfl -- math/bits.RotateLeft32
end Go.Proofs.YtaglpaoipdmboaaGreat
/- What the helpers on lists of integers do: two lists are the same; a list is copied; a list is written over. Conditions: the lists may be read. -/
namespace Go.Proofs.YtaglpaoipdmboaaGreat
open Go.Eng Go.RowKit

theorem take_step {α : Type} [DecidableEq α] {xs ys : List α} {k : Nat} (h1 : k < xs.length) (h2 : k < ys.length) (hl : xs.length = ys.length) (ht : xs.take k = ys.take k) :
    decide (xs[k] = ys[k]) = decide (xs.length = ys.length ∧ xs.take (k + 1) = ys.take (k + 1)) := by
  have e1 := List.take_succ_eq_append_getElem h1
  have e2 := List.take_succ_eq_append_getElem h2
  rw [e1, e2, ht]
  simp only [List.append_cancel_left_eq, List.cons.injEq, and_true, hl, true_and]

theorem SameInts_spec {va vb : Value} {xs ys : List Int} {w : World} (ha : IL w va xs) (hb : IL w vb ys) :
    Calls Tryz.prog n_entrepotkit_SameInts #[va, vb] w fun e w' => e = .returned (.bool (decide (xs = ys))) ∧ Ext w w' := by
  obtain ⟨A, c, rfl, hnc, hcm, hz, hcell⟩ := ha.op
  obtain ⟨A', c', rfl, hnc', hcm', hz', hcell'⟩ := hb.op
  refine enter2 F_entrepotkit_SameInts rfl rfl ?_
  repeat (first | refine o_p rfl rfl rfl ?_ | refine on ?_ | refine sr ?_ | refine ss ?_)
  refine cw_block (cw_loop (G := Nat × Bool) (fun g => [(0, .slice A xs.length c), (1, .slice A' ys.length c'), (5, .bool g.2), (6, .int .i64 (g.1 : Int))])
    (fun g W => Ext w W ∧ g.1 ≤ xs.length ∧ g.2 = decide (xs.length = ys.length ∧ xs.take g.1 = ys.take g.1)) (fun g => xs.length - g.1) ?_ ?_)
  · exact ⟨(0, decide ((xs.length : Int) = ys.length)), ⟨rfl, rfl, rfl, rfl, trivial⟩, Fr.refl _ _, Nat.zero_le _, by simp; omega⟩
  rintro ⟨k, b⟩ W ⟨hE, hk, hb0⟩
  dsimp only at hk hb0 ⊢
  repeat (first | refine o_p rfl rfl rfl ?_ | refine on ?_ | refine sr ?_ | refine ss ?_)
  refine o_split 13 rfl (fun h1 => ?_) (fun h1 => ?_)
  · repeat refine o_p rfl rfl rfl ?_
    rw [h1] at hb0
    have hb1 := of_decide_eq_true hb0.symm
    refine on (cw_if rfl (fun h2 => cw_skip (pn_then (cw_seq (cw_block ?_)))) (fun h2 => cw_exit (pn_then_exit (pn_loop_exit (pn_block_exit (pn_then ?_))))))
    · obtain ⟨bk, off, rfl, hbk, hc⟩ := hcell k (by omega)
      obtain ⟨bk', off', rfl, hbk', hc'⟩ := hcell' k (by omega)
      have hck := hc k (by omega)
      have hck' := hc' k (by omega)
      refine cw_draw flo (fun W' => Ext w W') (by decide) (hE.trans (Fr.drew _)) ?_
      repeat refine d_p rfl rfl rfl rfl ?_
      refine d_ix k rfl rfl rfl rfl rfl (by omega) ?_
      refine dw_rd rfl rfl (fun W' hW' => ex_load rfl rfl rfl (hW'.cell hck)) rfl ?_
      repeat refine d_p rfl rfl rfl rfl ?_
      refine d_ix k rfl rfl rfl rfl rfl (by omega) ?_
      refine dw_rd rfl rfl (fun W' hW' => ex_load rfl rfl rfl (hW'.cell hck')) rfl ?_
      repeat refine d_p rfl rfl rfl rfl ?_
      refine dw_nil (pn_block (pn_then (cw_region ?_)))
      refine o_p rfl rfl rfl ?_
      refine o_c rfl rfl rfl (by unfold I64; omega) ?_
      repeat refine o_p rfl rfl rfl ?_
      refine ow_nil (pn_round (k + 1, decide (xs[k] = ys[k])) ?_ ?_ ?_)
      · exact ⟨rfl, rfl, rfl, rfl, trivial⟩
      · exact ⟨hE.trans (Fr.drew _), by simp only; omega, take_step (by omega) (by omega) hb1.1 hb1.2⟩
      · simp only; omega
    · repeat (first | refine o_p rfl rfl rfl ?_ | refine on ?_ | refine sr ?_ | refine ss ?_)
      refine cw_ret (pn_ret rfl rfl ⟨?_, hE⟩)
      obtain rfl : k = xs.length := by omega
      have h3 := hb1.2
      rw [List.take_of_length_le (Nat.le_refl _), List.take_of_length_le (by omega)] at h3
      rw [h1, decide_eq_true h3]
  · repeat refine ow_skip rfl rfl ?_
    repeat refine o_p rfl rfl rfl ?_
    refine on (cw_cond_f rfl (cw_exit (pn_then_exit (pn_loop_exit (pn_block_exit (pn_then ?_))))))
    repeat (first | refine o_p rfl rfl rfl ?_ | refine on ?_ | refine sr ?_ | refine ss ?_)
    refine cw_ret (pn_ret rfl rfl ⟨?_, hE⟩)
    rw [h1] at hb0
    have h3 := of_decide_eq_false hb0.symm
    rw [h1, decide_eq_false (fun e => h3 (by subst e; simp))]

theorem ints_one {xs : List Int} : ∀ u ∈ xs.map (Value.int .i64), u.oneCell' = true := by
  intro u hu
  obtain ⟨x, _, rfl⟩ := List.mem_map.1 hu
  rfl

/-- A copy: new memory. -/
theorem CopyInts_spec {va : Value} {xs : List Int} {w : World} (ha : IL w va xs) (hlen : xs.length ≤ 1048576) :
    Calls Tryz.prog n_entrepotkit_CopyInts #[va] w fun e w' => ∃ v, e = .returned v ∧ Mine w' w.heap.size t_int 1 v xs.length (xs.map (Value.int .i64)) ∧ Ext w w' := by
  refine enter1 F_entrepotkit_CopyInts rfl rfl ?_
  repeat (first | refine o_p rfl rfl rfl ?_ | refine on ?_ | refine sr ?_ | refine ss ?_)
  refine ow_ex rfl (ex_buildSlice (vs := []) (cells := []) rfl rfl rfl rfl (by decide) (fun z hz => by simp at hz; subst hz; rfl)) rfl ?_
  refine o_p rfl rfl rfl ?_
  have own0 : Mine (w.alloc (.cells #[] t_int)) w.heap.size t_int 1 (.slice (some ⟨w.heap.size, 0, none⟩) 0 0) 0 [] := World.ownsRow_made w #[] 0 (Nat.le_refl _) (by decide) (by rfl)
  refine ow_append rfl rfl rfl rfl rfl rfl rfl rfl own0 (ha.ext (Fr.alloc _ _)) ints_one (by omega) (by simp) ?_
  intro v' w' own fr
  refine o_p rfl rfl rfl ?_
  refine on (cw_ret (pn_ret rfl rfl ⟨_, rfl, by simpa using own, ?_⟩))
  exact Fr.trans' (Fr.alloc _ _) fr (by intro j hj h; simp [Value.ownBlock] at h; omega)

end Go.Proofs.YtaglpaoipdmboaaGreat
/- Vectors, part one: what the walks of package vector's inner functions come to: a region's number, the numbers of two vectors side by side, a fold over them. Conditions: the vectors may be read. -/
namespace Go.Proofs.YtaglpaoipdmboaaGreat
open Go.Eng Go.RowKit

/-- The number of the region i + 1. -/
def nn (xs : List Int) (i : Nat) : Int := max (xs.getD i 0) 0
def atL (xs : List Int) (r : Int) : Int := if 1 ≤ r ∧ r ≤ xs.length then nn xs (r - 1).toNat else 0

theorem nn_in {xs : List Int} {i : Nat} (h : i < xs.length) : nn xs i = max xs[i] 0 := by
  unfold nn
  rw [List.getD_eq_getElem?_getD, List.getElem?_eq_getElem h]
  rfl
theorem nn_out {xs : List Int} {i : Nat} (h : xs.length ≤ i) : nn xs i = 0 := by
  unfold nn
  rw [List.getD_eq_getElem?_getD, List.getElem?_eq_none h]
  rfl
theorem atL_succ (xs : List Int) (i : Nat) : atL xs ((i : Int) + 1) = nn xs i := by
  unfold atL
  by_cases h : i < xs.length
  · rw [if_pos (by omega)]
    congr 1
    omega
  · rw [if_neg (by omega), nn_out (by omega)]

theorem At_spec_vector_At {v : Value} {xs : List Int} {r : Int} {w : World} (hv : IL w v xs) :
    Calls Tryz.prog n_vector_At #[v, .int .i64 r] w fun e w' => e = .returned (.int .i64 (atL xs r)) ∧ w = w' := by
  obtain ⟨A, c, rfl, hnc, hcm, hz, hcell⟩ := hv.op
  refine enter2 F_vector_At rfl rfl ?_
  refine sr ?_
  refine o_p rfl rfl rfl ?_
  refine on ?_
  refine cw_seq (sr ?_)
  repeat refine o_p rfl rfl rfl ?_
  refine o_if 7 rfl (fun h1 => ?_) (fun h1 => ?_)
  · repeat refine ow_skip rfl rfl ?_
    repeat refine o_p rfl rfl rfl ?_
    refine on (cw_cond_t rfl (sr ?_))
    repeat refine o_p rfl rfl rfl ?_
    refine on (cw_ret (pn_then_ret (pn_ret rfl rfl ⟨?_, rfl⟩)))
    rw [atL, if_neg (by omega)]
  · repeat refine o_p rfl rfl rfl ?_
    refine on (cw_if rfl (fun h2 => sr ?_) (fun h2 => cw_skip (pn_then (sr ?_))))
    · repeat refine o_p rfl rfl rfl ?_
      refine on (cw_ret (pn_then_ret (pn_ret rfl rfl ⟨?_, rfl⟩)))
      rw [atL, if_neg (by omega)]
    · obtain ⟨b, off, rfl, hb, hc⟩ := hcell 0 (by omega)
      have hlt : (r - 1).toNat < xs.length := by omega
      have hck := hc (r - 1).toNat hlt
      repeat refine o_p rfl rfl rfl ?_
      refine o_c rfl rfl rfl (by unfold I64; omega) ?_
      refine o_ix (r - 1).toNat rfl rfl rfl (by omega) hlt ?_
      refine ow_ex rfl (ex_load rfl rfl rfl hck) rfl ?_
      repeat refine o_p rfl rfl rfl ?_
      refine on (cw_ret (pn_ret rfl rfl ⟨?_, rfl⟩))
      rw [atL, if_pos (by omega), nn_in hlt]

theorem At_spec_entrepotref14_At {v : Value} {xs : List Int} {r : Int} {w : World} (hv : IL w v xs) :
    Calls Tryz.prog n_entrepotref14_At #[v, .int .i64 r] w fun e w' => e = .returned (.int .i64 (atL xs r)) ∧ w = w' := by
  obtain ⟨A, c, rfl, hnc, hcm, hz, hcell⟩ := hv.op
  refine enter2 F_entrepotref14_At rfl rfl ?_
  refine sr ?_
  refine o_p rfl rfl rfl ?_
  refine on ?_
  refine cw_seq (sr ?_)
  repeat refine o_p rfl rfl rfl ?_
  refine o_if 7 rfl (fun h1 => ?_) (fun h1 => ?_)
  · repeat refine ow_skip rfl rfl ?_
    repeat refine o_p rfl rfl rfl ?_
    refine on (cw_cond_t rfl (sr ?_))
    repeat refine o_p rfl rfl rfl ?_
    refine on (cw_ret (pn_then_ret (pn_ret rfl rfl ⟨?_, rfl⟩)))
    rw [atL, if_neg (by omega)]
  · repeat refine o_p rfl rfl rfl ?_
    refine on (cw_if rfl (fun h2 => sr ?_) (fun h2 => cw_skip (pn_then (sr ?_))))
    · repeat refine o_p rfl rfl rfl ?_
      refine on (cw_ret (pn_then_ret (pn_ret rfl rfl ⟨?_, rfl⟩)))
      rw [atL, if_neg (by omega)]
    · obtain ⟨b, off, rfl, hb, hc⟩ := hcell 0 (by omega)
      have hlt : (r - 1).toNat < xs.length := by omega
      have hck := hc (r - 1).toNat hlt
      repeat refine o_p rfl rfl rfl ?_
      refine o_c rfl rfl rfl (by unfold I64; omega) ?_
      refine o_ix (r - 1).toNat rfl rfl rfl (by omega) hlt ?_
      refine ow_ex rfl (ex_load rfl rfl rfl hck) rfl ?_
      repeat refine o_p rfl rfl rfl ?_
      refine on (cw_ret (pn_ret rfl rfl ⟨?_, rfl⟩))
      rw [atL, if_pos (by omega), nn_in hlt]

abbrev pbox (b : Nat) : Value := .pointer (some ⟨b, 0, none⟩)

/-- The numbers of both, side by side: each pair is handed to yield, in turn. -/
theorem sides_1_spec {l b1 b2 : Nat} {va vb : Value} {xs ys : List Int} {We W : World} (J : Nat → World → Prop) (h1 : We.cell? ⟨b1, 0, none⟩ = some va) (h2 : We.cell? ⟨b2, 0, none⟩ = some vb)
    (ha : IL We va xs) (hb : IL We vb ys) (hE : ∀ i W, J i W → Ext We W) (hst : ∀ i W W', J i W → Ext W W' → J i W')
    (hY : ∀ i, i < max xs.length ys.length → ∀ W, J i W → Yld Tryz.prog l #[.int .i64 (nn xs i), .int .i64 (nn ys i)] W fun e W' => e = .returned (.bool true) ∧ J (i + 1) W') (h0 : J 0 W) :
    Calls Tryz.prog n_vector_sides_1 #[.func (.yield l) #[] #[], pbox b1, pbox b2] W fun e W' => (∃ v, e = .returned v) ∧ J (max xs.length ys.length) W' := by
  obtain ⟨A, c, rfl, hnc, hcm, hz, hcell⟩ := ha.op
  obtain ⟨A', c', rfl, hnc', hcm', hz', hcell'⟩ := hb.op
  refine enter3 F_vector_sides_1 rfl rfl ?_
  refine (cw_seq (cw_region ?_))
  refine ow_ex rfl (ex_load rfl rfl rfl ((hE _ _ h0).cell h1)) rfl ?_
  repeat refine o_p rfl rfl rfl ?_
  refine ow_ex rfl (ex_load rfl rfl rfl ((hE _ _ h0).cell h2)) rfl ?_
  repeat refine o_p rfl rfl rfl ?_
  have hmax : max (xs.length : Int) (ys.length : Int) = ((max xs.length ys.length : Nat) : Int) := by omega
  refine (ow_nil (pn_then (cw_block (cw_loop (G := Nat) (fun i => [(0, .func (.yield l) #[] #[]), (1, pbox b1), (2, pbox b2), (9, .int .i64 ((max xs.length ys.length : Nat) : Int)), (10, .int .i64 (i : Int))])
    (fun i W => J i W ∧ i ≤ max xs.length ys.length) (fun i => max xs.length ys.length - i) ?_ ?_))))
  · exact ⟨0, ⟨rfl, rfl, rfl, by rw [← hmax]; rfl, rfl, trivial⟩, h0, by omega⟩
  rintro i W ⟨hJ, hi⟩
  refine (cw_seq (cw_region ?_))
  repeat refine o_p rfl rfl rfl ?_
  refine (ow_nil (pn_then (cw_seq (cw_if rfl (fun h => ?_) (fun h => ?_)))))  -- IF t11
  · refine (cw_skip (pn_then (cw_seq (cw_block (cw_seq (cw_region ?_))))))
    repeat refine o_p rfl rfl rfl ?_
    have hJd := hst _ _ _ hJ (Fr.drew W)
    have hEd := hE _ _ hJd
    refine (ow_nil (pn_then (cw_seq (cw_draw flo (fun W' => Ext We W') (by decide) hEd ?_))))
    repeat refine d_p rfl rfl rfl rfl ?_
    refine dw_rd rfl rfl (fun W' hW' => ex_load rfl rfl rfl (hW'.cell h1)) rfl ?_
    repeat refine d_p rfl rfl rfl rfl ?_
    refine d_c rfl rfl rfl rfl (by unfold I64; omega) ?_
    refine dw_call rfl rfl (ec_call rfl) rfl ((At_spec_vector_At (ha.ext hEd)).mono ?_)
    rintro _ w1 ⟨rfl, rfl⟩; refine ⟨_, rfl, hEd, ?_⟩
    rw [atL_succ]
    refine dw_rd rfl rfl (fun W' hW' => ex_load rfl rfl rfl (hW'.cell h2)) rfl ?_
    repeat refine d_p rfl rfl rfl rfl ?_
    refine d_c rfl rfl rfl rfl (by unfold I64; omega) ?_
    refine dw_call rfl rfl (ec_call rfl) rfl ((At_spec_vector_At (hb.ext hEd)).mono ?_)
    rintro _ w1 ⟨rfl, rfl⟩; refine ⟨_, rfl, hEd, ?_⟩
    rw [atL_succ]
    refine dw_yield rfl rfl rfl rfl ((hY i (by omega) _ hJd).mono ?_)
    rintro _ w1 ⟨rfl, hJ1⟩; refine ⟨_, rfl, hE _ _ hJ1, ?_⟩
    repeat refine d_p rfl rfl rfl rfl ?_
    refine dw_nil (pn_then (cw_cond_f rfl (cw_skip (pn_block (pn_then (cw_region ?_))))))
    refine o_c rfl rfl rfl (by unfold I64; omega) ?_
    repeat refine o_p rfl rfl rfl ?_
    refine (ow_nil (pn_round (i + 1) ?_ ?_ ?_))
    · exact ⟨rfl, rfl, rfl, rfl, rfl, trivial⟩
    · exact ⟨hJ1, by omega⟩
    · show max xs.length ys.length - (i + 1) < max xs.length ys.length - i; omega
  · obtain rfl : i = max xs.length ys.length := by omega
    exact cw_exit (pn_then_exit (pn_loop_exit (pn_block_exit (pn_end0 rfl ⟨⟨_, rfl⟩, hJ⟩))))

/-- A value of the iterator's type. -/
theorem sides_spec {va vb : Value} {w : World} :
    Calls Tryz.prog n_vector_sides #[va, vb] w fun e w' => e = .returned (.func (.func n_vector_sides_1) ⟨[]⟩ ⟨[pbox w.heap.size, pbox (w.heap.size + 1)]⟩) ∧ w' = (w.alloc (.cells va.cells t_sl_int)).alloc (.cells vb.cells t_sl_int) := by
  refine enter2 F_vector_sides rfl rfl ?_
  refine (cw_seq (cw_region ?_))
  refine ow_ex rfl (ex_box rfl) rfl ?_
  refine ow_ex rfl (ex_box rfl) rfl ?_
  repeat (first | refine o_p rfl rfl rfl ?_ | refine on ?_ | refine sr ?_ | refine ss ?_)
  refine cw_ret (pn_ret rfl rfl ⟨?_, rfl⟩)
  simp

theorem fold_int_spec {b1 b2 : Nat} {va vb : Value} {xs ys : List Int} {w : World} (I : Nat → Value → World → Prop) (g : FuncId) (gc : List Value) [Bodied Tryz.prog g] (v0 : Value)
    (h1 : w.cell? ⟨b1, 0, none⟩ = some va) (h2 : w.cell? ⟨b2, 0, none⟩ = some vb) (ha : IL w va xs) (hb : IL w vb ys) (hI0 : I 0 v0 w) (hone : ∀ i v W, I i v W → v.oneCell' = true)
    (hst : ∀ i v W W' S, I i v W → Fr S W W' → (∀ k, S k → w.heap.size ≤ k ∧ k < w.heap.size + 4) → I i v W')
    (hstep : ∀ i v W, i < max xs.length ys.length → I i v W → Ext w W → w.heap.size + 4 ≤ W.heap.size → Calls Tryz.prog g ([v, .int .i64 (nn xs i), .int .i64 (nn ys i)] ++ gc).toArray W fun e W' =>
      ∃ v', e = .returned v' ∧ I (i + 1) v' W' ∧ Fr (fun k => w.heap.size + 4 ≤ k) W W') :
    Calls Tryz.prog n_vector_fold_int #[.func (.func n_vector_sides_1) ⟨[]⟩ ⟨[pbox b1, pbox b2]⟩, v0, .func (.func g) ⟨[]⟩ ⟨gc⟩] w fun e W' => ∃ v, e = .returned v ∧ I (max xs.length ys.length) v W' ∧ Ext w W' := by
  have c0 : v0.cells = #[v0] := by have := hone _ _ _ hI0; cases v0 <;> first | rfl | (simp [Value.oneCell'] at this)
  refine enterM3 F_vector_fold_int rfl rfl ?_
  refine (cw_seq (cw_region ?_))
  refine ow_ex rfl (ex_box rfl) rfl ?_
  refine ow_ex rfl (ex_box rfl) rfl ?_
  rw [c0]
  obtain ⟨w1, hw1⟩ : ∃ w1, (w.alloc (.cells #[v0] t_int)).alloc (.cells (Value.func (.func g) ⟨[]⟩ ⟨gc⟩).cells t_func_int_int_int_int) = w1 := ⟨_, rfl⟩
  have B0 : Blk w1 w.heap.size t_int [v0] := by rw [← hw1]; exact (Blk.new w _ [v0]).ext (Fr.alloc _ _)
  have B1 : Blk w1 (w.heap.size + 1) t_func_int_int_int_int [.func (.func g) ⟨[]⟩ ⟨gc⟩] := by
    rw [← hw1]
    have := Blk.new (w.alloc (.cells #[v0] t_int)) t_func_int_int_int_int [.func (.func g) ⟨[]⟩ ⟨gc⟩]
    rwa [World.size_alloc] at this
  have e1 : Ext w w1 := by rw [← hw1]; exact (Fr.alloc _ _).trans (Fr.alloc _ _)
  have z1 : w1.heap.size = w.heap.size + 2 := by rw [← hw1]; simp
  have I1 : I 0 v0 w1 := hst _ _ _ _ None hI0 e1 (fun k h => h.elim)
  rw [World.size_alloc, hw1]
  clear hw1
  repeat refine o_p rfl rfl rfl ?_
  refine (ow_nil (pn_then (cw_seq (cw_seq (cw_region ?_)))))
  repeat refine o_p rfl rfl rfl ?_
  refine (ow_nil (pn_then (cw_block (cw_rangeFunc rfl ?_))))
  intro r hr1 hr2 hr3 hr4 hr5 hr6 hkn
  obtain ⟨w2, hw2⟩ : ∃ w2, (w1.alloc (.deferred (some []))).alloc (.loop r) = w2 := ⟨_, rfl⟩
  have e2 : Ext w1 w2 := by rw [← hw2]; exact (Fr.alloc _ _).trans (Fr.alloc _ _)
  have D2 : w2.heap[w.heap.size + 2]? = some (.deferred (some [])) := by
    rw [← hw2, ← z1]; exact (Below.heap_alloc _ _ _ (by simp)).trans (World.alloc_heap_new w1 _)
  have L2 : w2.heap[w.heap.size + 3]? = some (.loop r) := by
    rw [← hw2]; have := World.alloc_heap_new (w1.alloc (.deferred (some []))) (.loop r); rwa [World.size_alloc, z1] at this
  have z2 : w2.heap.size = w.heap.size + 4 := by rw [← hw2]; simp [z1]
  rw [hw2]
  rw [z1]
  let J : Nat → World → Prop := fun i W => ∃ v, Blk W w.heap.size t_int [v] ∧ Blk W (w.heap.size + 1) t_func_int_int_int_int [.func (.func g) ⟨[]⟩ ⟨gc⟩] ∧ I i v W ∧ W.heap[w.heap.size + 2]? = some (.deferred (some [])) ∧
    W.heap[w.heap.size + 3]? = some (.loop r) ∧ Ext w W ∧ w.heap.size + 4 ≤ W.heap.size
  have hJ0 : J 0 w2 := ⟨v0, B0.ext e2, B1.ext e2, hst _ _ _ _ None I1 e2 (fun k h => h.elim), D2, L2, e1.trans e2, by omega⟩
  refine (sides_1_spec J h1 h2 ha hb (fun i W ⟨v, _, _, _, _, _, h, _⟩ => h) ?_ ?_ hJ0).mono ?_
  · rintro i W W' ⟨v, hb0, hb1, hI, hD, hL, hE, hz⟩ hW
    exact ⟨v, hb0.ext hW, hb1.ext hW, hst _ _ _ _ None hI hW (fun k h => h.elim), (hW.blk (by omega)).trans hD, (hW.blk (by omega)).trans hL, hE.trans hW, Nat.le_trans hz hW.size⟩
  · rintro i hi W ⟨v, hb0, hb1, hI, hD, hL, hE, hz⟩
    -- A ROUND
    refine yield_of hL (by rw [hr3]; rfl) (by rw [hr3]; decide) hkn ?_
    rw [hr3, hr4, hr5]
    refine (cw_seq (cw_region ?_))
    repeat refine o_p rfl rfl rfl ?_
    refine (ow_nil (pn_then (cw_region ?_)))
    repeat refine o_p rfl rfl rfl ?_
    refine (ow_nil (pn_asg hL hr1 ?_))
    obtain ⟨W1, hW1⟩ : ∃ W1, W.putObj (w.heap.size + 3) (.loop { r with state := .busy }) = W1 := ⟨_, rfl⟩
    have f1 : Fr (· = w.heap.size + 3) W W1 := by rw [← hW1]; exact Fr.putObj _ _ _
    have hL1 : W1.heap[w.heap.size + 3]? = some (.loop { r with state := .busy }) := by rw [← hW1]; exact World.putObj_heap_same (by omega)
    have hb0' := hb0.fr f1 (by omega)
    have hb1' := hb1.fr f1 (by omega)
    have hI' := hst _ _ _ _ _ hI f1 (fun k h => by omega)
    have hD' := (f1.keep (w.heap.size + 2) (by omega) (by omega)).trans hD
    have hE' : Ext w W1 := hE.trans' f1 (fun j hj h => by omega)
    have hz' : w.heap.size + 4 ≤ W1.heap.size := Nat.le_trans hz f1.size
    rw [hW1]
    refine (cw_block (cw_region ?_))
    refine ow_ex rfl (ex_load rfl rfl rfl (hb1'.cell 0)) rfl ?_
    refine ow_ex rfl (ex_load rfl rfl rfl (hb0'.cell 0)) rfl ?_
    repeat refine o_p rfl rfl rfl ?_
    refine ow_call rfl (ec_call rfl) rfl ((hstep i v W1 hi hI' hE' hz').mono ?_)
    rintro _ W2 ⟨v', rfl, hI2, f2⟩; refine ⟨_, rfl, ?_⟩
    have hb0'' := hb0'.fr f2 (by omega)
    have hb1'' := hb1'.fr f2 (by omega)
    have hD'' := (f2.keep (w.heap.size + 2) (by omega) (by omega)).trans hD'
    have hL'' := (f2.keep (w.heap.size + 3) (by omega) (by omega)).trans hL1
    have hE'' : Ext w W2 := hE'.trans' f2 (fun j hj h => by omega)
    have hz'' : w.heap.size + 4 ≤ W2.heap.size := Nat.le_trans hz' f2.size
    refine ow_eu rfl (eu_store rfl rfl rfl rfl (hone _ _ _ hI2) (hb0''.cell 0) (hb0''.frozen 0)) ?_  -- 5: store from
    have f3 := Fr.setCell W2 ⟨w.heap.size, 0, none⟩ v'
    have hL3 := (f3.keep (w.heap.size + 3) (by omega) (by simp)).trans hL''
    have hrr : ({ r with state := .ready, pending := none } : Loop) = r := by cases r; simp_all
    have hL4 : ∀ r', r' = r → ((W2.setCell ⟨w.heap.size, 0, none⟩ v').putObj (w.heap.size + 3) (.loop r')).heap[w.heap.size + 3]? = some (.loop r) := fun r' e => by
      rw [World.putObj_heap_same (by simp; omega), e]
    refine (ow_nil (pn_block (pn_round_go hL3 ⟨rfl, v', ?_⟩)))
    have hL5 := hL4 _ hrr
    generalize hW4 : (W2.setCell ⟨w.heap.size, 0, none⟩ v').putObj (w.heap.size + 3) _ = W4 at hL5
    have f4 : Fr (· = w.heap.size + 3) (W2.setCell ⟨w.heap.size, 0, none⟩ v') W4 := by rw [← hW4]; exact Fr.putObj _ _ _
    show Blk _ _ _ _ ∧ _
    refine ⟨?_, ?_, ?_, ?_, ?_, ?_, ?_⟩
    · exact ((hb0''.set 0 v').fr f4 (by omega))
    · exact (hb1''.fr f3 (by simp)).fr f4 (by omega)
    · exact hst _ _ _ _ _ (hst _ _ _ _ _ hI2 f3 (fun k h => by simp at h; omega)) f4 (fun k h => by omega)
    · exact (f4.keep _ (by simp; omega) (by omega)).trans ((f3.keep _ (by omega) (by simp)).trans hD'')
    · exact hL5
    · exact (hE''.trans' f3 (fun j hj h => by simp at h; omega)).trans' f4 (fun j hj h => by omega)
    · have := f3.size; have := f4.size; omega
  · rintro e W ⟨⟨u, rfl⟩, v, hb0, hb1, hI, hD, hL, hE, hz⟩
    refine ⟨⟨_, rfl⟩, r, hL, by rw [hr1]; decide, ?_⟩
    rw [hr2]
    -- BEHIND
    dsimp only
    generalize hW4 : W.putObj (w.heap.size + 2 + 1) _ = W4
    have f1 : Fr (· = w.heap.size + 3) W W4 := by rw [← hW4]; exact Fr.putObj _ _ _
    refine (pn_block (pn_then (cw_seq (cw_region ?_))))
    refine ow_ex rfl (ex_load rfl rfl rfl ((hb0.fr f1 (by omega)).cell 0)) rfl ?_
    repeat refine o_p rfl rfl rfl ?_
    have hD1 := (f1.keep (w.heap.size + 2) (by omega) (by omega)).trans hD
    refine (ow_nil (pn_then (cw_ret (pn_retM rfl rfl hD1 ⟨v, rfl, ?_, ?_⟩))))
    · exact hst _ _ _ _ _ (hst _ _ _ _ _ hI f1 (fun k h => by omega)) (Fr.putObj _ _ _) (fun k h => by omega)
    · exact (hE.trans' f1 (fun j hj h => by omega)).trans' (Fr.putObj _ _ _) (fun j hj h => by omega)

end Go.Proofs.YtaglpaoipdmboaaGreat
/- Vectors, part two: package vector's and entrepotref14's functions. Conditions: the vectors may be read, and are not too long. -/
namespace Go.Proofs.YtaglpaoipdmboaaGreat
open Go.Eng Go.RowKit

/-! ## The closures -/
def capI : Int := 4611686018427387904
theorem Weight_1_spec (n a y : Int) (w : World) (hn : 0 ≤ n ∧ n ≤ capI) (ha : 0 ≤ a) : Calls Tryz.prog n_vector_Weight_1 #[.int .i64 n, .int .i64 a, .int .i64 y] w fun e w' => e = .returned (.int .i64 (n + min a (capI - n))) ∧ w = w' := by
  unfold capI at *
  refine enter3 F_vector_Weight_1 rfl rfl ?_
  refine (cw_seq (cw_region ?_))
  repeat refine o_p rfl rfl rfl ?_
  refine (ow_nil (pn_then (cw_seq (cw_region ?_))))
  repeat refine o_p rfl rfl rfl ?_
  refine o_c rfl rfl rfl (by unfold I64; omega) ?_
  repeat refine o_p rfl rfl rfl ?_
  refine o_c rfl rfl rfl (by unfold I64; omega) ?_
  repeat refine o_p rfl rfl rfl ?_
  exact (ow_nil (pn_then (cw_ret (pn_ret rfl rfl ⟨rfl, rfl⟩))))

end Go.Proofs.YtaglpaoipdmboaaGreat
/- Vectors, part three: Leq, Same, Weight, Has, Next of both packages. Conditions: the vectors may be read, and are not too long. -/
namespace Go.Proofs.YtaglpaoipdmboaaGreat
open Go.Eng Go.RowKit

theorem nn_nonneg (xs : List Int) (i : Nat) : 0 ≤ nn xs i := by unfold nn; omega
def weightF (xs : List Int) : Nat → Int
  | 0 => 0
  | i + 1 => weightF xs i + min (nn xs i) (capI - weightF xs i)
def weightL (xs : List Int) : Int := weightF xs xs.length
theorem weightF_bound (xs : List Int) (i : Nat) : 0 ≤ weightF xs i ∧ weightF xs i ≤ capI := by
  induction i with
  | zero => simp [weightF, capI]
  | succ i ih => have := nn_nonneg xs i; simp only [weightF]; omega
theorem weightF_cap (xs : List Int) (i k : Nat) (h : weightF xs i = capI) : weightF xs (i + k) = capI := by
  induction k with
  | zero => exact h
  | succ k ih => have := nn_nonneg xs (i + k); rw [← Nat.add_assoc]; simp only [weightF, ih]; omega

theorem Weight_spec {va : Value} {xs : List Int} {w : World} (ha : IL w va xs) : Calls Tryz.prog n_vector_Weight #[va] w fun e w' => e = .returned (.int .i64 (weightL xs)) ∧ Ext w w' := by
  have ca : va.cells = #[va] := by obtain ⟨A, c, rfl, _⟩ := ha.op; rfl
  have hb : IL w (.slice none 0 0) ([] : List Int) := VL.nil _ _
  have cb : (Value.slice none 0 0).cells = #[.slice none 0 0] := rfl
  refine enter1 F_vector_Weight rfl rfl ?_
  (refine sr ?_; refine o_p rfl rfl rfl ?_; refine on ?_; refine sr ?_; refine o_p rfl rfl rfl ?_)
  refine ow_call rfl (ec_call rfl) rfl (sides_spec.mono ?_)
  rintro _ w1 ⟨rfl, rfl⟩; refine ⟨_, rfl, ?_⟩
  rw [ca, cb]
  have B1 : Blk (w.alloc (.cells #[va] t_sl_int)) w.heap.size t_sl_int [va] := Blk.new w _ [va]
  have e1 : Ext w (w.alloc (.cells #[va] t_sl_int)) := Fr.alloc _ _
  have z1 : (w.alloc (.cells #[va] t_sl_int)).heap.size = w.heap.size + 1 := by simp
  generalize w.alloc (.cells #[va] t_sl_int) = w1 at *
  have B2 : Blk (w1.alloc (.cells #[.slice none 0 0] t_sl_int)) w1.heap.size t_sl_int [.slice none 0 0] := Blk.new w1 _ _
  have e2 : Ext w1 (w1.alloc (.cells #[.slice none 0 0] t_sl_int)) := Fr.alloc _ _
  generalize w1.alloc (.cells #[.slice none 0 0] t_sl_int) = w2 at *
  have eE : Ext w w2 := e1.trans e2
  rw [z1] at B2
  refine ow_call rfl (ec_call rfl) rfl ((fold_int_spec (fun i v _ => v = .int .i64 (weightF xs i)) n_vector_Weight_1 [] (.int .i64 0) ((B1.ext e2).cell 0) (B2.cell 0) (ha.ext eE) (hb.ext eE) rfl ?_ ?_ ?_).mono ?_)
  · rintro i v W rfl; rfl
  · rintro i v W W' S rfl _ _; rfl
  · rintro i v W hi rfl hE hz
    refine (Weight_1_spec _ _ _ _ (weightF_bound xs i) (nn_nonneg xs i)).mono ?_
    rintro e W' ⟨rfl, rfl⟩
    exact ⟨_, rfl, rfl, Fr.refl _ _⟩
  · rintro e w3 ⟨v, rfl, rfl, hE⟩
    refine ⟨_, rfl, ?_⟩
    (refine o_p rfl rfl rfl ?_; refine on ?_)
    have hm : max xs.length ([] : List Int).length = xs.length := by simp
    rw [hm]
    exact cw_ret (pn_ret rfl rfl ⟨rfl, eE.trans hE⟩)

/-! ## A dot -/
abbrev dotV (r n : Int) : Value := .agg #[.int .i64 r, .int .i64 n]
def hasL (xs : List Int) (r n : Int) : Bool := decide (1 ≤ r) && decide (1 ≤ n) && decide (n ≤ atL xs r)

theorem Has_spec_vector_Has {va : Value} {xs : List Int} {r n : Int} {w : World} (ha : IL w va xs) : Calls Tryz.prog n_vector_Has #[va, dotV r n] w fun e w' => e = .returned (.bool (hasL xs r n)) ∧ Ext w w' := by
  refine enter2 F_vector_Has rfl rfl ?_
  refine (cw_seq (cw_region ?_))
  refine ow_ex rfl (ex_box rfl) rfl ?_
  have B : Blk (w.alloc (.cells (dotV r n).cells t_api_Dot)) w.heap.size t_api_Dot [.int .i64 r, .int .i64 n] := Blk.new w _ _
  have e1 : Ext w (w.alloc (.cells (dotV r n).cells t_api_Dot)) := Fr.alloc _ _
  generalize w.alloc (.cells (dotV r n).cells t_api_Dot) = w1 at *
  have hR := B.cell 0
  have hN := B.cell 1
  (refine o_p rfl rfl rfl ?_)
  refine (ow_nil (pn_then (cw_seq (cw_draw flo (fun W' => Ext w1 W') (by decide) (Fr.drew _) ?_))))
  (refine d_p rfl rfl rfl rfl ?_)
  refine dw_rd rfl rfl (fun W' hW' => ex_load rfl rfl rfl (hW'.cell hR)) rfl ?_
  ((iterate 2 refine d_p rfl rfl rfl rfl ?_))
  refine d_if 8 rfl (fun h1 => ?_) (fun h1 => ?_)
  · (refine d_p rfl rfl rfl rfl ?_)
    refine dw_rd rfl rfl (fun W' hW' => ex_load rfl rfl rfl (hW'.cell hN)) rfl ?_
    ((iterate 3 refine d_p rfl rfl rfl rfl ?_))
    refine d_if 13 rfl (fun h2 => ?_) (fun h2 => ?_)
    · (refine d_p rfl rfl rfl rfl ?_)
      refine dw_rd rfl rfl (fun W' hW' => ex_load rfl rfl rfl (hW'.cell hN)) rfl ?_
      ((iterate 2 refine d_p rfl rfl rfl rfl ?_))
      refine dw_rd rfl rfl (fun W' hW' => ex_load rfl rfl rfl (hW'.cell hR)) rfl ?_
      refine dw_call rfl rfl (ec_call rfl) rfl ((At_spec_vector_At (ha.ext (e1.trans (Fr.drew _)))).mono ?_)
      rintro _ w2 ⟨rfl, rfl⟩; refine ⟨_, rfl, Fr.drew _, ?_⟩
      ((iterate 3 refine d_p rfl rfl rfl rfl ?_))
      refine (dw_nil (pn_then (cw_ret (pn_ret rfl rfl ⟨?_, e1.trans (Fr.drew _)⟩))))
      simp [hasL, h1, h2]
    · ((iterate 7 refine dw_skip rfl rfl ?_); (iterate 2 refine d_p rfl rfl rfl rfl ?_))
      refine (dw_nil (pn_then (cw_ret (pn_ret rfl rfl ⟨?_, e1.trans (Fr.drew _)⟩))))
      simp [hasL, h2]
  · ((iterate 3 refine dw_skip rfl rfl ?_); (iterate 2 refine d_p rfl rfl rfl rfl ?_); (iterate 7 refine dw_skip rfl rfl ?_); (iterate 2 refine d_p rfl rfl rfl rfl ?_))
    refine (dw_nil (pn_then (cw_ret (pn_ret rfl rfl ⟨?_, e1.trans (Fr.drew _)⟩))))
    simp [hasL, h1]

end Go.Proofs.YtaglpaoipdmboaaGreat
/- Vectors, part four: the document's answers (entrepotref14): Leq, Same, Join, Meet, Has, Next, Weight. Conditions: the vectors may be read, and are not too long. -/
namespace Go.Proofs.YtaglpaoipdmboaaGreat
open Go.Eng Go.RowKit

theorem refWeight_spec {va : Value} {xs : List Int} {w : World} (ha : IL w va xs) (hx : xs.length ≤ 1048576) : Calls Tryz.prog n_entrepotref14_Weight #[va] w fun e w' => e = .returned (.int .i64 (weightL xs)) ∧ Ext w w' := by
  obtain ⟨A, c, rfl, hnc, hcm, hz, hcell⟩ := id ha
  refine enter1 F_entrepotref14_Weight rfl rfl ?_
  (refine sr ?_; refine o_p rfl rfl rfl ?_; refine on ?_; refine sr ?_; refine o_p rfl rfl rfl ?_; refine on ?_; refine ss ?_; refine sr ?_; refine o_p rfl rfl rfl ?_; refine on ?_)
  refine cw_block (cw_loop (G := Nat) (fun i => [(0, .slice A xs.length c), (3, .int .i64 (weightF xs i)), (4, .int .i64 ((i : Int) + 1))]) (fun i W => Ext w W ∧ i ≤ xs.length) (fun i => xs.length - i) ?_ ?_)
  · exact ⟨0, ⟨rfl, rfl, rfl, trivial⟩, Fr.refl _ _, Nat.zero_le _⟩
  rintro i W ⟨hE, hi⟩
  try dsimp only
  have hwb := weightF_bound xs i
  have hnn := nn_nonneg xs i
  unfold capI at hwb
  (refine ss ?_; refine sr ?_; (iterate 4 refine o_p rfl rfl rfl ?_); refine on ?_)
  refine cw_if rfl (fun h => ?_) (fun h => ?_)
  · refine (cw_skip (pn_then (cw_seq (cw_block (cw_seq (cw_region ?_))))))
    ((iterate 2 refine o_p rfl rfl rfl ?_))
    refine ow_call rfl (ec_call rfl) rfl ((At_spec_entrepotref14_At (ha.ext hE)).mono ?_)
    rintro _ w1 ⟨rfl, rfl⟩; refine ⟨_, rfl, ?_⟩
    rw [atL_succ]
    (refine o_p rfl rfl rfl ?_; refine on ?_; refine ss ?_; refine sr ?_; (iterate 2 refine o_p rfl rfl rfl ?_))
    refine o_c rfl rfl rfl (by unfold I64; omega) ?_
    (refine o_p rfl rfl rfl ?_)
    refine on (cw_if rfl (fun h2 => ?_) (fun h2 => ?_))
    · refine (cw_seq (cw_region ?_))
      (refine o_p rfl rfl rfl ?_)
      refine (ow_nil (pn_then (cw_ret (pn_then_ret (pn_block_ret (pn_then_ret (pn_loop_ret (pn_block_ret (pn_then_ret (pn_ret rfl rfl ⟨?_, hE⟩))))))))))
      have h3 : weightF xs (i + 1) = capI := by simp only [weightF]; unfold capI; omega
      have := weightF_cap xs (i + 1) (xs.length - (i + 1)) h3
      rw [show i + 1 + (xs.length - (i + 1)) = xs.length from by omega] at this
      rw [weightL, this]; rfl
    · refine (cw_skip (pn_then (cw_region ?_)))
      ((iterate 2 refine o_p rfl rfl rfl ?_))
      refine o_c rfl rfl rfl (by unfold I64; omega) ?_
      (refine o_p rfl rfl rfl ?_)
      refine (ow_nil (pn_block (pn_then (cw_region ?_))))
      (refine o_p rfl rfl rfl ?_)
      refine o_c rfl rfl rfl (by unfold I64; omega) ?_
      (refine o_p rfl rfl rfl ?_)
      have h3 : weightF xs i + nn xs i = weightF xs (i + 1) := by simp only [weightF]; unfold capI; omega
      rw [h3]
      refine (ow_nil (pn_round (i + 1) ?_ ?_ ?_))
      · exact ⟨rfl, rfl, rfl, trivial⟩
      · exact ⟨hE, by omega⟩
      · show xs.length - (i + 1) < xs.length - i; omega
  · refine (cw_exit (pn_then_exit (pn_loop_exit (pn_block_exit (pn_then (cw_seq (cw_region ?_)))))))
    ((iterate 2 refine o_p rfl rfl rfl ?_))
    refine (ow_nil (pn_then (cw_ret (pn_ret rfl rfl ⟨?_, hE⟩))))
    obtain rfl : i = xs.length := by omega
    rfl

end Go.Proofs.YtaglpaoipdmboaaGreat
/- Vectors, part five: With of both packages, Less of both packages, and what the laws use besides. Conditions: the vectors may be read, and are not too long. -/
namespace Go.Proofs.YtaglpaoipdmboaaGreat
open Go.Eng Go.RowKit

end Go.Proofs.YtaglpaoipdmboaaGreat
/- Vectors, part six: Less of both packages, and what the laws use besides. Conditions: the vectors may be read, and are not too long. -/
namespace Go.Proofs.YtaglpaoipdmboaaGreat
open Go.Eng Go.RowKit

instance : EqT Tryz.prog t_api_Dot := ⟨by kernel_rfl⟩
set_option maxRecDepth 100000 in
theorem eq_dot (a b c d : Int) (w : World) : (Op.equalIn 10000 t_api_Dot (dotV a b) (dotV c d)).run Tryz.prog w = .ok (decide (a = c ∧ b = d)) w := by
  have hS : Tryz.prog.underlying t_api_Dot = some (.struct (Tryz.prog.fieldsOf t_api_Dot)) := by kernel_rfl
  have hp : Tryz.prog.stoodInHeld t_api_Dot = false := by kernel_rfl
  have hf : ∃ f g : Field, (Tryz.prog.fieldsOf t_api_Dot).toList = [f, g] ∧ f.name ≠ "_" ∧ g.name ≠ "_" ∧ f.type = t_int ∧ g.type = t_int ∧ f.offset = 0 ∧ g.offset = 1 :=
    ⟨_, _, rfl, by decide, by decide, rfl, rfl, rfl, rfl⟩
  obtain ⟨f, g, h1, h2, h3, h4, h5, h6, h7⟩ := hf
  have ui : Tryz.prog.underlying t_int = some (.int .i64) := by kernel_rfl
  rw [show (10000 : Nat) = 9998 + 1 + 1 from rfl, run_equalIn_struct w 9999 t_api_Dot _ _ hS hp, h1]
  have p0 : ∀ (x y : Int), (part t_int #[.int .i64 x, .int .i64 y] 0).run Tryz.prog w = .ok (.int .i64 x) w := fun x y => by simp [part, isAgg, run_underlying ui]
  have p1 : ∀ (x y : Int), (part t_int #[.int .i64 x, .int .i64 y] 1).run Tryz.prog w = .ok (.int .i64 y) w := fun x y => by simp [part, isAgg, run_underlying ui]
  have q : ∀ x y : Int, (Op.equalIn 9999 t_int (.int .i64 x) (.int .i64 y)).run Tryz.prog w = .ok (x == y) w := fun x y => run_equalIn_int w 9998 t_int .i64 .i64 x y ui
  simp only [Op.eqFields, h2, h3, h4, h5, h6, h7, ne_eq, not_false_eq_true, if_true, Sem.run_bind, p0, p1, q, Result.andThen_ok]
  by_cases e1 : a = c <;> by_cases e2 : b = d <;> simp [e1, e2, p1, q]

def cmpV (a b : Int) : Int := if a < b then -1 else if b < a then 1 else 0
def cmpVs : List Int → List Int → Int
  | [], [] => 0
  | [], _ :: _ => -1
  | _ :: _, [] => 1
  | x :: xs, y :: ys => if cmpV x y ≠ 0 then cmpV x y else cmpVs xs ys

theorem isNaN_spec (a : Int) (w : World) : Calls Tryz.prog n_cmp_isNaN_int #[.int .i64 a] w fun e w' => e = .returned (.bool false) ∧ w = w' := by
  refine enter1 F_cmp_isNaN_int rfl rfl ?_
  (refine sr ?_; refine o_p rfl rfl rfl ?_; refine on ?_; refine sr ?_; (iterate 4 refine o_p rfl rfl rfl ?_); refine on ?_)
  exact cw_ret (pn_ret rfl rfl ⟨by simp, rfl⟩)

theorem Compare_spec (a b : Int) (w : World) : Calls Tryz.prog n_cmp_Compare_int #[.int .i64 a, .int .i64 b] w fun e w' => e = .returned (.int .i64 (cmpV a b)) ∧ w = w' := by
  refine enter2 F_cmp_Compare_int rfl rfl ?_
  (refine sr ?_; refine o_p rfl rfl rfl ?_; refine on ?_; refine sr ?_; refine o_p rfl rfl rfl ?_)
  refine ow_call rfl (ec_call rfl) rfl ((isNaN_spec a w).mono ?_)
  rintro _ w1 ⟨rfl, rfl⟩; refine ⟨_, rfl, ?_⟩
  (refine o_p rfl rfl rfl ?_; refine on ?_; refine sr ?_; refine o_p rfl rfl rfl ?_)
  refine ow_call rfl (ec_call rfl) rfl ((isNaN_spec b w).mono ?_)
  rintro _ w1 ⟨rfl, rfl⟩; refine ⟨_, rfl, ?_⟩
  (refine o_p rfl rfl rfl ?_; refine on ?_; refine ss ?_; refine sr ?_; refine o_p rfl rfl rfl ?_; refine on ?_)
  refine cw_cond_f rfl (cw_skip (pn_then (ss (sr ?_))))
  (refine o_p rfl rfl rfl ?_; refine on ?_)
  refine cw_cond_f rfl (cw_skip (pn_then (ss (sr ?_))))
  ((iterate 3 refine o_p rfl rfl rfl ?_); refine on ?_)
  refine cw_if rfl (fun h1 => sr ?_) (fun h1 => cw_skip (pn_then (ss (sr ?_))))
  · (refine o_p rfl rfl rfl ?_; refine on ?_)
    exact cw_ret (pn_then_ret (pn_ret rfl rfl ⟨by simp [cmpV, h1], rfl⟩))
  · ((iterate 3 refine o_p rfl rfl rfl ?_); refine on ?_)
    refine cw_if rfl (fun h2 => sr ?_) (fun h2 => cw_skip (pn_then (sr ?_)))
    · (refine o_p rfl rfl rfl ?_; refine on ?_)
      exact cw_ret (pn_then_ret (pn_ret rfl rfl ⟨by simp [cmpV, h1, h2], rfl⟩))
    · (refine o_p rfl rfl rfl ?_; refine on ?_)
      exact cw_ret (pn_ret rfl rfl ⟨by simp [cmpV, h1, h2], rfl⟩)

theorem CompareFunc_spec {va vb : Value} {xs ys : List Int} {w : World} (ha : IL w va xs) (hb : IL w vb ys) (hx : xs.length ≤ 1048576) :
    Calls Tryz.prog n_slices_CompareFunc_sl_int_sl_int_int_int #[va, vb, .func (.func n_cmp_Compare_int) ⟨[]⟩ ⟨[]⟩] w fun e w' => e = .returned (.int .i64 (cmpVs xs ys)) ∧ w = w' := by
  obtain ⟨A, c, rfl, hnc, hcm, hz, hcell⟩ := ha.op
  obtain ⟨A', c', rfl, hnc', hcm', hz', hcell'⟩ := hb.op
  refine enter3 F_slices_CompareFunc_sl_int_sl_int_int_int rfl rfl ?_
  (refine sr ?_; refine o_p rfl rfl rfl ?_; refine on ?_; refine ss ?_; refine sr ?_; (iterate 3 refine o_p rfl rfl rfl ?_); refine on ?_)
  refine cw_block (cw_loop (G := Nat) (fun k => [(0, .slice A xs.length c), (1, .slice A' ys.length c'), (2, .func (.func n_cmp_Compare_int) ⟨[]⟩ ⟨[]⟩), (11, .slice A xs.length c), (12, .int .i64 xs.length), (13, .int .i64 (k : Int))])
    (fun k W => w = W ∧ k ≤ xs.length ∧ k ≤ ys.length ∧ cmpVs xs ys = cmpVs (xs.drop k) (ys.drop k)) (fun k => xs.length - k) ?_ ?_)
  · exact ⟨0, ⟨rfl, rfl, rfl, rfl, rfl, rfl, trivial⟩, rfl, Nat.zero_le _, Nat.zero_le _, by simp⟩
  rintro k W ⟨rfl, hk, hk', hJ⟩
  try dsimp only
  (refine sr ?_; refine o_p rfl rfl rfl ?_; refine on ?_)
  refine cw_seq (cw_if rfl (fun h => ?_) (fun h => ?_))
  · refine (cw_skip (pn_then (cw_seq (cw_block (sr ?_)))))
    obtain ⟨bk, off, rfl, hbk, hc⟩ := hcell k (by omega)
    have hck := hc k (by omega)
    (refine o_p rfl rfl rfl ?_)
    refine o_ix k rfl rfl rfl (by omega) (by omega) ?_
    refine ow_ex rfl (ex_load rfl rfl rfl hck) rfl ?_
    ((iterate 2 refine o_p rfl rfl rfl ?_); refine on ?_; refine ss ?_; refine sr ?_; (iterate 4 refine o_p rfl rfl rfl ?_); refine on ?_)
    refine cw_if rfl (fun h1 => ?_) (fun h1 => ?_)
    · refine sr ?_
      (refine o_p rfl rfl rfl ?_)
      refine (ow_nil (pn_then (cw_ret (pn_then_ret (pn_block_ret (pn_then_ret (pn_loop_ret (pn_block_ret (pn_then_ret (pn_ret rfl rfl ⟨?_, rfl⟩))))))))))
      rw [hJ, List.drop_eq_getElem_cons (by omega), List.drop_eq_nil_of_le (show ys.length ≤ _ by omega)]
      rfl
    · obtain ⟨bk', off', rfl, hbk', hc'⟩ := hcell' k (by omega)
      have hck' := hc' k (by omega)
      refine cw_skip (pn_then (sr ?_))
      ((iterate 2 refine o_p rfl rfl rfl ?_))
      refine o_ix k rfl rfl rfl (by omega) (by omega) ?_
      refine ow_ex rfl (ex_load rfl rfl rfl hck') rfl ?_
      (refine o_p rfl rfl rfl ?_; refine on ?_; refine sr ?_; (iterate 3 refine o_p rfl rfl rfl ?_))
      refine ow_call rfl (ec_call rfl) rfl ((Compare_spec _ _ _).mono ?_)
      rintro _ w1 ⟨rfl, rfl⟩; refine ⟨_, rfl, ?_⟩
      (refine o_p rfl rfl rfl ?_; refine on ?_; refine sr ?_; (iterate 2 refine o_p rfl rfl rfl ?_); refine on ?_)
      have hstep : cmpVs xs ys = if cmpV xs[k] ys[k] ≠ 0 then cmpV xs[k] ys[k] else cmpVs (xs.drop (k + 1)) (ys.drop (k + 1)) := by
        rw [hJ, List.drop_eq_getElem_cons (l := xs) (by omega), List.drop_eq_getElem_cons (l := ys) (by omega)]
        rfl
      refine cw_cond rfl (fun h2 => ?_) (fun h2 => ?_)
      · refine sr ?_
        ((iterate 2 refine o_p rfl rfl rfl ?_))
        refine (ow_nil (pn_then (cw_ret (pn_block_ret (pn_then_ret (pn_loop_ret (pn_block_ret (pn_then_ret (pn_ret rfl rfl ⟨?_, rfl⟩)))))))))
        rw [hstep, if_pos (by simpa using h2)]
      · refine (cw_skip (pn_block (pn_then (cw_region ?_))))
        refine o_c rfl rfl rfl (by unfold I64; omega) ?_
        (refine o_p rfl rfl rfl ?_)
        refine (ow_nil (pn_round (k + 1) ?_ ?_ ?_))
        · exact ⟨rfl, rfl, rfl, rfl, rfl, rfl, trivial⟩
        · exact ⟨rfl, by omega, by omega, by rw [hstep, if_neg (by simpa using h2)]⟩
        · show xs.length - (k + 1) < xs.length - k; omega
  · refine (cw_exit (pn_then_exit (pn_loop_exit (pn_block_exit (pn_then (ss (sr ?_)))))))
    obtain rfl : k = xs.length := by omega
    rw [List.drop_length] at hJ
    ((iterate 5 refine o_p rfl rfl rfl ?_); refine on ?_)
    refine cw_if rfl (fun h1 => ?_) (fun h1 => ?_)
    · refine sr ?_
      (refine o_p rfl rfl rfl ?_)
      refine (ow_nil (pn_then (cw_ret (pn_then_ret (pn_ret rfl rfl ⟨?_, rfl⟩)))))
      rw [hJ, List.drop_eq_getElem_cons (l := ys) (by omega)]
      rfl
    · refine cw_skip (pn_then (sr ?_))
      (refine o_p rfl rfl rfl ?_)
      refine (ow_nil (pn_then (cw_ret (pn_ret rfl rfl ⟨?_, rfl⟩))))
      rw [hJ, List.drop_eq_nil_of_le (show ys.length ≤ _ by omega)]
      rfl

def lessL (ra na : Int) (xs : List Int) (rb nb : Int) (ys : List Int) : Bool :=
  decide (weightL xs < weightL ys ∨ (weightL xs = weightL ys ∧ (ra < rb ∨ (ra = rb ∧ na < nb))))
theorem less_cmp {ra na rb nb : Int} {xs ys : List Int} (h : ¬ (ra = rb ∧ na = nb)) : decide (cmpVs [weightL xs, ra, na] [weightL ys, rb, nb] < 0) = lessL ra na xs rb nb ys := by
  unfold lessL
  rw [decide_eq_decide]
  simp only [cmpVs, cmpV]
  split <;> (try split) <;> (try split) <;> omega

theorem refLess_spec {va vb : Value} {xs ys : List Int} {ra na rb nb : Int} {w : World} (ha : IL w va xs) (hb : IL w vb ys) (hx : xs.length ≤ 1048576) (hy : ys.length ≤ 1048576) :
    Calls Tryz.prog n_entrepotref14_Less #[dotV ra na, va, dotV rb nb, vb] w fun e w' => e = .returned (.bool (lessL ra na xs rb nb ys)) ∧ Ext w w' := by
  refine enter4 F_entrepotref14_Less rfl rfl ?_
  refine (cw_seq (cw_region ?_))
  refine ow_ex rfl (ex_box rfl) rfl ?_
  have B : Blk (w.alloc (.cells (dotV ra na).cells t_api_Dot)) w.heap.size t_api_Dot [.int .i64 ra, .int .i64 na] := Blk.new w _ _
  have e1 : Ext w (w.alloc (.cells (dotV ra na).cells t_api_Dot)) := Fr.alloc _ _
  generalize w.alloc (.cells (dotV ra na).cells t_api_Dot) = w1 at *
  refine ow_ex rfl (ex_box rfl) rfl ?_
  have B' : Blk (w1.alloc (.cells (dotV rb nb).cells t_api_Dot)) w1.heap.size t_api_Dot [.int .i64 rb, .int .i64 nb] := Blk.new w1 _ _
  have e2 : Ext w1 (w1.alloc (.cells (dotV rb nb).cells t_api_Dot)) := Fr.alloc _ _
  generalize w1.alloc (.cells (dotV rb nb).cells t_api_Dot) = w2 at *
  (refine o_p rfl rfl rfl ?_; refine on ?_; refine sr ?_; refine o_p rfl rfl rfl ?_)
  refine ow_call rfl (ec_call rfl) rfl ((refWeight_spec (ha.ext (e1.trans e2)) hx).mono ?_)
  rintro _ w3 ⟨rfl, e3⟩; refine ⟨_, rfl, ?_⟩
  (refine o_p rfl rfl rfl ?_)
  refine ow_call rfl (ec_call rfl) rfl ((refWeight_spec (hb.ext ((e1.trans e2).trans e3)) hy).mono ?_)
  rintro _ w4 ⟨rfl, e4⟩; refine ⟨_, rfl, ?_⟩
  have e34 := e3.trans e4
  have C := (B.ext e2).ext e34
  have C' := B'.ext e34
  have eE := (e1.trans e2).trans e34
  ((iterate 2 refine o_p rfl rfl rfl ?_))
  refine (ow_nil (pn_then (cw_seq (cw_block (cw_seq (cw_region ?_))))))
  ((iterate 4 refine o_p rfl rfl rfl ?_))
  refine (ow_nil (pn_then (cw_cond rfl (fun h1 => ?_) (fun h1 => ?_))))
  · refine sr ?_
    ((iterate 4 refine o_p rfl rfl rfl ?_))
    refine (ow_nil (pn_then (cw_ret (pn_block_ret (pn_then_ret (pn_ret rfl rfl ⟨?_, eE⟩))))))
    have h1 : ¬ weightL xs = weightL ys := by simpa using h1
    simp [lessL, h1]
  · have h1 : weightL xs = weightL ys := by simpa using h1
    refine sr ?_
    (refine o_p rfl rfl rfl ?_)
    refine ow_ex rfl (ex_load rfl rfl rfl (C.cell 0)) rfl ?_
    (refine o_p rfl rfl rfl ?_)
    refine ow_ex rfl (ex_load rfl rfl rfl (C'.cell 0)) rfl ?_
    ((iterate 2 refine o_p rfl rfl rfl ?_))
    refine (ow_nil (pn_then (cw_cond rfl (fun h2 => ?_) (fun h2 => ?_))))
    · refine sr ?_
      (refine o_p rfl rfl rfl ?_)
      refine ow_ex rfl (ex_load rfl rfl rfl (C.cell 0)) rfl ?_
      (refine o_p rfl rfl rfl ?_)
      refine ow_ex rfl (ex_load rfl rfl rfl (C'.cell 0)) rfl ?_
      ((iterate 2 refine o_p rfl rfl rfl ?_))
      refine (ow_nil (pn_then (cw_ret (pn_block_ret (pn_then_ret (pn_ret rfl rfl ⟨?_, eE⟩))))))
      have h2 : ¬ ra = rb := by simpa using h2
      simp [lessL, h1, h2]
    · refine (cw_skip (pn_block (pn_then (cw_seq (cw_region ?_)))))
      (refine o_p rfl rfl rfl ?_)
      refine ow_ex rfl (ex_load rfl rfl rfl (C.cell 1)) rfl ?_
      (refine o_p rfl rfl rfl ?_)
      refine ow_ex rfl (ex_load rfl rfl rfl (C'.cell 1)) rfl ?_
      ((iterate 2 refine o_p rfl rfl rfl ?_))
      refine (ow_nil (pn_then (cw_ret (pn_ret rfl rfl ⟨?_, eE⟩))))
      have h2 : ra = rb := by simpa using h2
      simp [lessL, h1, h2]

theorem fill3 (a b c : Value) (ha : a.cells.toList = [a]) (hb : b.cells.toList = [b]) (hc : c.cells.toList = [c]) (z : List Value) (hz : z.length = 3 * 1) : fillL (fun k => some (k * 1, 1)) z [(0, a), (1, b), (2, c)] = some [a, b, c] := by
  match z, hz with
  | [x, y, u], _ =>
    have e : ∀ v : Value, v.cells.toList = [v] → v.cells.size = 1 := fun v h => by rw [← Array.length_toList, h]; rfl
    simp [fillL, spl, ha, hb, hc, e a ha, e b hb, e c hc]

theorem Less_spec {va vb : Value} {xs ys : List Int} {ra na rb nb : Int} {w : World} (ha : IL w va xs) (hb : IL w vb ys) :
    Calls Tryz.prog n_vector_Less #[dotV ra na, va, dotV rb nb, vb] w fun e w' => e = .returned (.bool (lessL ra na xs rb nb ys)) ∧ Ext w w' := by
  refine enter4 F_vector_Less rfl rfl ?_
  refine (cw_seq (cw_region ?_))
  refine ow_ex rfl (ex_box rfl) rfl ?_
  have B : Blk (w.alloc (.cells (dotV ra na).cells t_api_Dot)) w.heap.size t_api_Dot [.int .i64 ra, .int .i64 na] := Blk.new w _ _
  have e1 : Ext w (w.alloc (.cells (dotV ra na).cells t_api_Dot)) := Fr.alloc _ _
  generalize w.alloc (.cells (dotV ra na).cells t_api_Dot) = w1 at *
  refine ow_ex rfl (ex_box rfl) rfl ?_
  have B' : Blk (w1.alloc (.cells (dotV rb nb).cells t_api_Dot)) w1.heap.size t_api_Dot [.int .i64 rb, .int .i64 nb] := Blk.new w1 _ _
  have e2 : Ext w1 (w1.alloc (.cells (dotV rb nb).cells t_api_Dot)) := Fr.alloc _ _
  generalize w1.alloc (.cells (dotV rb nb).cells t_api_Dot) = w2 at *
  have B := B.ext e2
  have e2 := e1.trans e2
  (refine o_p rfl rfl rfl ?_)
  refine (ow_nil (pn_then (cw_seq (cw_draw flo (fun W' => Ext w2 W') (by decide) (Fr.drew _) ?_))))
  (refine d_p rfl rfl rfl rfl ?_)
  refine dw_call rfl rfl (ec_call rfl) rfl ((Weight_spec (ha.ext (e2.trans (Fr.drew _)))).mono ?_)
  rintro _ w3 ⟨rfl, e3⟩; refine ⟨_, rfl, (Fr.drew _).trans e3, ?_⟩
  (refine d_p rfl rfl rfl rfl ?_)
  refine dw_rd rfl rfl (fun W' hW' => ex_load rfl rfl rfl (hW'.cell (B.cell 0))) rfl ?_
  (refine d_p rfl rfl rfl rfl ?_)
  refine dw_rd rfl rfl (fun W' hW' => ex_load rfl rfl rfl (hW'.cell (B.cell 1))) rfl ?_
  refine dw_ex rfl rfl (ex_buildSlice (vs := [(0, .int .i64 (weightL xs)), (1, .int .i64 ra), (2, .int .i64 na)]) (cells := [.int .i64 (weightL xs), .int .i64 ra, .int .i64 na]) rfl rfl rfl rfl (by decide) (fill3 _ _ _ rfl rfl rfl)) (((Fr.drew _).trans e3).trans (Fr.alloc _ _)) rfl ?_
  have D := Blk.new w3 t_int [.int .i64 (weightL xs), .int .i64 ra, .int .i64 na]
  have e4 : Ext w2 (w3.alloc (.cells [.int .i64 (weightL xs), .int .i64 ra, .int .i64 na].toArray t_int)) := ((Fr.drew _).trans e3).trans (Fr.alloc _ _)
  generalize hw4 : w3.alloc (.cells [.int .i64 (weightL xs), .int .i64 ra, .int .i64 na].toArray t_int) = w4 at *
  (refine d_p rfl rfl rfl rfl ?_)
  refine (dw_nil (pn_then (cw_seq (cw_draw flo (fun W' => Ext w4 W') (by decide) (Fr.drew _) ?_))))
  (refine d_p rfl rfl rfl rfl ?_)
  refine dw_call rfl rfl (ec_call rfl) rfl ((Weight_spec (hb.ext ((e2.trans e4).trans (Fr.drew _)))).mono ?_)
  rintro _ w5 ⟨rfl, e5⟩; refine ⟨_, rfl, (Fr.drew _).trans e5, ?_⟩
  (refine d_p rfl rfl rfl rfl ?_)
  refine dw_rd rfl rfl (fun W' hW' => ex_load rfl rfl rfl (hW'.cell (e4.cell (B'.cell 0)))) rfl ?_
  (refine d_p rfl rfl rfl rfl ?_)
  refine dw_rd rfl rfl (fun W' hW' => ex_load rfl rfl rfl (hW'.cell (e4.cell (B'.cell 1)))) rfl ?_
  refine dw_ex rfl rfl (ex_buildSlice (vs := [(0, .int .i64 (weightL ys)), (1, .int .i64 rb), (2, .int .i64 nb)]) (cells := [.int .i64 (weightL ys), .int .i64 rb, .int .i64 nb]) rfl rfl rfl rfl (by decide) (fill3 _ _ _ rfl rfl rfl)) (((Fr.drew _).trans e5).trans (Fr.alloc _ _)) rfl ?_
  have D' := Blk.new w5 t_int [.int .i64 (weightL ys), .int .i64 rb, .int .i64 nb]
  have e6 : Ext w4 (w5.alloc (.cells [.int .i64 (weightL ys), .int .i64 rb, .int .i64 nb].toArray t_int)) := ((Fr.drew _).trans e5).trans (Fr.alloc _ _)
  generalize hw6 : w5.alloc (.cells [.int .i64 (weightL ys), .int .i64 rb, .int .i64 nb].toArray t_int) = w6 at *
  (refine d_p rfl rfl rfl rfl ?_)
  have eE := (e2.trans e4).trans e6
  have C := (B.ext e4).ext e6
  have C' := (B'.ext e4).ext e6
  have x1 : IL w6 (.slice (some ⟨w3.heap.size, 0, none⟩) 3 3) [weightL xs, ra, na] := (D.ext e6).sl (n := 3) (sz := 1) rfl (by decide)
  have x2 : IL w6 (.slice (some ⟨w5.heap.size, 0, none⟩) 3 3) [weightL ys, rb, nb] := D'.sl (n := 3) (sz := 1) rfl (by decide)
  refine (dw_nil (pn_then (cw_seq (cw_region ?_))))
  refine ow_ex rfl (ex_loadN (cs := [.int .i64 ra, .int .i64 na]) rfl rfl rfl rfl (fun j _ => by rw [Nat.zero_add]; exact C.cell j)) rfl ?_
  refine ow_ex rfl (ex_loadN (cs := [.int .i64 rb, .int .i64 nb]) rfl rfl rfl rfl (fun j _ => by rw [Nat.zero_add]; exact C'.cell j)) rfl ?_
  refine ow_pu rfl (pu_neA rfl rfl (eq_dot ra na rb nb)) rfl ?_
  (refine o_p rfl rfl rfl ?_)
  refine o_split 28 rfl (fun h1 => ?_) (fun h1 => ?_)
  · have h1 : ¬ (ra = rb ∧ na = nb) := by simpa only [Bool.not_eq_true', decide_eq_false_iff_not] using h1
    ((iterate 2 refine o_p rfl rfl rfl ?_))
    refine ow_call rfl (ec_call rfl) rfl ((CompareFunc_spec x1 x2 (by simp)).mono ?_)
    rintro _ w7 ⟨rfl, rfl⟩; refine ⟨_, rfl, ?_⟩
    ((iterate 3 refine o_p rfl rfl rfl ?_))
    rw [less_cmp h1]
    refine o_split 34 rfl (fun h2 => ?_) (fun h2 => ?_)
    · ((iterate 10 refine ow_skip rfl rfl ?_); (iterate 2 refine o_p rfl rfl rfl ?_))
      refine (ow_nil (pn_then (cw_ret (pn_ret rfl rfl ⟨?_, eE⟩))))
      rw [h2]
    · refine ow_ex rfl (ex_loadN (cs := [.int .i64 ra, .int .i64 na]) rfl rfl rfl rfl (fun j _ => by rw [Nat.zero_add]; exact C.cell j)) rfl ?_
      refine ow_ex rfl (ex_loadN (cs := [.int .i64 rb, .int .i64 nb]) rfl rfl rfl rfl (fun j _ => by rw [Nat.zero_add]; exact C'.cell j)) rfl ?_
      refine ow_pu rfl (pu_eqA rfl rfl (eq_dot ra na rb nb)) rfl ?_
      (refine o_p rfl rfl rfl ?_)
      rw [decide_eq_false h1]
      ((iterate 5 refine ow_skip rfl rfl ?_); (iterate 3 refine o_p rfl rfl rfl ?_))
      refine (ow_nil (pn_then (cw_ret (pn_ret rfl rfl ⟨?_, eE⟩))))
      rw [h2]
  · have h1 : ra = rb ∧ na = nb := by simpa using h1
    ((iterate 4 refine ow_skip rfl rfl ?_); (iterate 2 refine o_p rfl rfl rfl ?_))
    refine ow_ex rfl (ex_loadN (cs := [.int .i64 ra, .int .i64 na]) rfl rfl rfl rfl (fun j _ => by rw [Nat.zero_add]; exact C.cell j)) rfl ?_
    refine ow_ex rfl (ex_loadN (cs := [.int .i64 rb, .int .i64 nb]) rfl rfl rfl rfl (fun j _ => by rw [Nat.zero_add]; exact C'.cell j)) rfl ?_
    refine ow_pu rfl (pu_eqA rfl rfl (eq_dot ra na rb nb)) rfl ?_
    (refine o_p rfl rfl rfl ?_)
    rw [decide_eq_true h1]
    (refine o_p rfl rfl rfl ?_)
    refine ow_call rfl (ec_call rfl) rfl ((Weight_spec (ha.ext eE)).mono ?_)
    rintro _ w7 ⟨rfl, e7⟩; refine ⟨_, rfl, ?_⟩
    (refine o_p rfl rfl rfl ?_)
    refine ow_call rfl (ec_call rfl) rfl ((Weight_spec (hb.ext (eE.trans e7))).mono ?_)
    rintro _ w8 ⟨rfl, e8⟩; refine ⟨_, rfl, ?_⟩
    ((iterate 4 refine o_p rfl rfl rfl ?_))
    refine (ow_nil (pn_then (cw_ret (pn_ret rfl rfl ⟨?_, (eE.trans e7).trans e8⟩))))
    simp [lessL, h1]

end Go.Proofs.YtaglpaoipdmboaaGreat
/- Digests, part one: words of 32 bits; how a block's 64 words are spread. Conditions: the bytes may be read. -/
namespace Go.Proofs.YtaglpaoipdmboaaGreat
open Go.Eng Go.RowKit

/-! ## Words -/
def or32 (a b : Int) : Int := bitv .or .u32 a b
def xor32 (a b : Int) : Int := bitv .xor .u32 a b
def and32 (a b : Int) : Int := bitv .and .u32 a b
def add32 (a b : Int) : Int := IntKind.u32.wrap (a + b)
def shl32 (a : Int) (n : Nat) : Int := IntKind.u32.wrap (a * 2 ^ n)
def shr32 (a : Int) (n : Nat) : Int := a.fdiv (2 ^ n)
def rotr (a : Int) (n : Nat) : Int := or32 (shl32 a (32 - n)) (shr32 a n)
theorem rot_amount : ∀ n : Fin 32, 1 ≤ n.val → bitv .and .u64 (IntKind.u64.wrap (IntKind.i64.wrap (0 - (n.val : Int)))) 31 = ((32 - n.val : Nat) : Int) := by decide +kernel
theorem rot_back : ∀ n : Fin 32, 1 ≤ n.val → IntKind.u64.wrap (32 - ((32 - n.val : Nat) : Int)) = (n.val : Int) := by decide +kernel

theorem RotateLeft32_spec (x : Int) (n : Nat) (h1 : 1 ≤ n) (h2 : n < 32) (w : World) :
    Calls Tryz.prog n_math_bits_RotateLeft32 #[.int .u32 x, .int .i64 (IntKind.i64.wrap (0 - (n : Int)))] w fun e w' => e = .returned (.int .u32 (rotr x n)) ∧ w = w' := by
  have ha := rot_amount ⟨n, h2⟩ h1
  have hb := rot_back ⟨n, h2⟩ h1
  dsimp only at ha hb
  refine enter2 F_math_bits_RotateLeft32 rfl rfl ?_
  (refine sr ?_; refine o_p rfl rfl rfl ?_; refine on ?_; refine sr ?_; (iterate 4 refine o_p rfl rfl rfl ?_); refine on ?_; refine sr ?_; (iterate 2 refine o_p rfl rfl rfl ?_))
  rw [ha]
  skip
  refine o_c rfl rfl rfl (by omega) ?_
  ((iterate 3 refine o_p rfl rfl rfl ?_))
  rw [hb]
  refine o_c rfl rfl rfl (by omega) ?_
  ((iterate 2 refine o_p rfl rfl rfl ?_); refine on ?_)
  refine cw_ret (pn_ret rfl rfl ⟨?_, rfl⟩)
  have e1 : min ((32 - n : Nat) : Int).toNat 32 = 32 - n := by omega
  have e2 : min (n : Int).toNat 32 = n := by omega
  simp only [rotr, or32, shl32, shr32, IntKind.bits, e1, e2]

theorem turned_spec (x : Int) (n : Nat) (h1 : 1 ≤ n) (h2 : n < 32) (w : World) :
    Calls Tryz.prog n_sha_turned #[.int .u32 x, .int .i64 (n : Int)] w fun e w' => e = .returned (.int .u32 (rotr x n)) ∧ w = w' := by
  refine enter2 F_sha_turned rfl rfl ?_
  (refine sr ?_; refine o_p rfl rfl rfl ?_; refine on ?_; refine sr ?_; (iterate 3 refine o_p rfl rfl rfl ?_))
  refine ow_call rfl (ec_call rfl) rfl ((RotateLeft32_spec x n h1 h2 w).mono ?_)
  rintro _ _ ⟨rfl, rfl⟩; refine ⟨_, rfl, ?_⟩
  (refine o_p rfl rfl rfl ?_; refine on ?_)
  exact cw_ret (pn_ret rfl rfl ⟨rfl, rfl⟩)

def byteL (b : List Int) (i : Nat) : Int := b.getD i 0
def packW (b : List Int) (i : Nat) : Int :=
  or32 (or32 (or32 (shl32 (IntKind.u32.wrap (byteL b (4 * i))) 24) (shl32 (IntKind.u32.wrap (byteL b (4 * i + 1))) 16)) (shl32 (IntKind.u32.wrap (byteL b (4 * i + 2))) 8)) (IntKind.u32.wrap (byteL b (4 * i + 3)))
def sig0 (x : Int) : Int := xor32 (xor32 (rotr x 7) (rotr x 18)) (shr32 x 3)
def sig1 (x : Int) : Int := xor32 (xor32 (rotr x 17) (rotr x 19)) (shr32 x 10)
def wNext (b W : List Int) (i : Nat) : Int :=
  if i < 16 then packW b i else add32 (add32 (add32 (W.getD (i - 16) 0) (sig0 (W.getD (i - 15) 0))) (W.getD (i - 7) 0)) (sig1 (W.getD (i - 2) 0))
def schedL (b : List Int) : Nat → List Int
  | 0 => []
  | i + 1 => schedL b i ++ [wNext b (schedL b i) i]
theorem sched_len (b : List Int) (i : Nat) : (schedL b i).length = i := by
  induction i with
  | zero => rfl
  | succ i ih => simp [schedL, ih]
def u32s (l : List Int) : List Value := l.map (Value.int .u32)
def wCells (b : List Int) (i : Nat) : List Value := u32s (schedL b i) ++ List.replicate (64 - i) (.int .u32 0)
theorem wCells_len (b : List Int) (i : Nat) (h : i ≤ 64) : (wCells b i).length = 64 := by simp [wCells, u32s, sched_len]; omega
theorem wCells_get (b : List Int) (i j : Nat) (h : j < i) : (wCells b i)[j]? = some (.int .u32 ((schedL b i).getD j 0)) := by
  have hl := sched_len b i
  rw [wCells, List.getElem?_append_left (by simp [u32s, hl]; omega)]
  simp only [u32s, List.getElem?_map, List.getD_eq_getElem?_getD]
  rw [List.getElem?_eq_getElem (by omega)]
  rfl
theorem wCells_set (b : List Int) (i : Nat) (h : i < 64) : (wCells b i).set i (.int .u32 (wNext b (schedL b i) i)) = wCells b (i + 1) := by
  have hl := sched_len b i
  unfold wCells
  rw [List.set_append_right _ _ (by simp [u32s, hl])]
  have e : 64 - i = (64 - (i + 1)) + 1 := by omega
  rw [e, List.replicate_succ]
  simp [u32s, schedL, hl]

theorem spread_spec {vb : Value} {b : List Int} {w : World} (hb : VL (Value.int .u8) w vb b) (hl : 64 ≤ b.length) :
    Calls Tryz.prog n_sha_spread #[vb] w fun e w' => e = .returned (.agg (u32s (schedL b 64)).toArray) ∧ Ext w w' := by
  obtain ⟨A, c, rfl, hnc, hcm, hz, hcell⟩ := hb.op
  refine enter1 F_sha_spread rfl rfl ?_
  refine (cw_seq (cw_region ?_))
  refine ow_new rfl rfl rfl rfl ?_
  intro w1 B1 e1 z1
  change Blk w1 w.heap.size t_64_uint32 (wCells b 0) at B1
  (refine on ?_; refine ss ?_; refine sr ?_; refine o_p rfl rfl rfl ?_; refine on ?_)
  refine cw_block (cw_loop (G := Nat) (fun i => [(0, .slice A b.length c), (2, .pointer (some ⟨w.heap.size, 0, none⟩)), (6, .int .i64 (i : Int))]) (fun i W => Ext w W ∧ Blk W w.heap.size t_64_uint32 (wCells b i) ∧ i ≤ 64) (fun i => 64 - i) ?_ ?_)
  · exact ⟨0, ⟨rfl, rfl, rfl, trivial⟩, e1, B1, by omega⟩
  rintro i W ⟨hE, B, hi⟩
  try dsimp only
  (refine sr ?_; refine o_p rfl rfl rfl ?_; refine on ?_)
  refine (cw_seq (cw_if rfl (fun h => ?_) (fun h => ?_)))
  · obtain ⟨bk, off, rfl, hbk, hc⟩ := hcell 0 (by omega)
    have hE' : Ext w W.drew := hE.trans (Fr.drew _)
    have hlen := wCells_len b i (by omega)
    refine (cw_skip (pn_then (cw_seq (cw_block (cw_seq (cw_region ?_))))))
    ((iterate 2 refine o_p rfl rfl rfl ?_); refine on ?_; refine ss ?_; refine sr ?_; (iterate 2 refine o_p rfl rfl rfl ?_); refine on ?_)
    have h0 : ∀ j : Nat, 0 + j = j := fun j => Nat.zero_add j
    have hex : ∃ u, (wCells b i)[i]? = some u := ⟨_, List.getElem?_eq_getElem (by omega)⟩
    obtain ⟨u, hu⟩ := hex
    have hst : ∀ W', Blk W' w.heap.size t_64_uint32 (wCells b i) → W'.cell? ⟨w.heap.size, 0 + i, none⟩ = some u ∧ W'.frozen? ⟨w.heap.size, 0 + i, none⟩ = false := by
      intro W' h; rw [h0]; exact ⟨(h.cell i).trans hu, h.frozen i⟩
    refine cw_if rfl (fun h2 => ?_) (fun h2 => ?_)
    · have Bd := B.ext (Fr.drew W)
      have hbyte : ∀ j, j < 4 → W.drew.cell? ⟨bk, off + (4 * i + j), none⟩ = some (.int .u8 (byteL b (4 * i + j))) := by
        intro j hj
        have := hE'.cell (hc (4 * i + j) (by omega))
        rw [this, byteL, List.getD_eq_getElem?_getD, List.getElem?_eq_getElem (by omega)]
        rfl
      refine (cw_seq (cw_draw flo (fun W' => ∀ j, j < 4 → W'.cell? ⟨bk, off + (4 * i + j), none⟩ = some (.int .u8 (byteL b (4 * i + j)))) (by decide +kernel) hbyte ?_))
      ((iterate 3 refine d_p rfl rfl rfl rfl ?_); refine d_c rfl rfl rfl rfl (by (unfold I64; omega)) ?_)
      refine d_ix (4 * i + 0) rfl rfl rfl rfl (by omega) (by omega) ?_
      refine dw_rd rfl rfl (fun W' hW' => ex_load rfl rfl rfl (hW' 0 (by omega))) rfl ?_
      (refine d_p rfl rfl rfl rfl ?_; refine d_c rfl rfl rfl rfl (by (show (0 : Int) ≤ _; omega)) ?_; (iterate 2 refine d_p rfl rfl rfl rfl ?_); (iterate 2 refine d_c rfl rfl rfl rfl (by (unfold I64; omega)) ?_))
      refine d_ix (4 * i + 1) rfl rfl rfl rfl (by omega) (by omega) ?_
      refine dw_rd rfl rfl (fun W' hW' => ex_load rfl rfl rfl (hW' 1 (by omega))) rfl ?_
      (refine d_p rfl rfl rfl rfl ?_; refine d_c rfl rfl rfl rfl (by (show (0 : Int) ≤ _; omega)) ?_; (iterate 3 refine d_p rfl rfl rfl rfl ?_); (iterate 2 refine d_c rfl rfl rfl rfl (by (unfold I64; omega)) ?_))
      refine d_ix (4 * i + 2) rfl rfl rfl rfl (by omega) (by omega) ?_
      refine dw_rd rfl rfl (fun W' hW' => ex_load rfl rfl rfl (hW' 2 (by omega))) rfl ?_
      (refine d_p rfl rfl rfl rfl ?_; refine d_c rfl rfl rfl rfl (by (show (0 : Int) ≤ _; omega)) ?_; (iterate 3 refine d_p rfl rfl rfl rfl ?_); (iterate 2 refine d_c rfl rfl rfl rfl (by (unfold I64; omega)) ?_))
      refine d_ix (4 * i + 3) rfl rfl rfl rfl (by omega) (by omega) ?_
      refine dw_rd rfl rfl (fun W' hW' => ex_load rfl rfl rfl (hW' 3 (by omega))) rfl ?_
      ((iterate 2 refine d_p rfl rfl rfl rfl ?_))
      refine d_ix (i) rfl rfl rfl rfl (by omega) (by omega) ?_
      refine dw_eu rfl rfl (eu_store rfl rfl rfl rfl rfl (hst _ Bd).1 (hst _ Bd).2) ?_ ?_
      · intro j hj
        have hne := hE.size
        have hbl := hbk
        exact (Fr.cell' (Fr.setCell _ _ _) (hbyte j hj) (by simp; omega))
      refine (dw_nil (pn_then (cw_exit (pn_then_exit (pn_block_exit (pn_then (cw_region ?_)))))))
      refine o_c rfl rfl rfl (by unfold I64; omega) ?_
      (refine o_p rfl rfl rfl ?_)
      have hn : wNext b (schedL b i) i = packW b i := if_pos (by omega)
      have Bs := Bd.set i (.int .u32 (wNext b (schedL b i) i))
      rw [wCells_set b i (by omega), hn] at Bs
      have hzz : 0 + mulz i 1 = i := by rw [mulz_eq]; omega
      refine (ow_nil (pn_round (i + 1) ?_ ?_ ?_))
      · exact ⟨rfl, rfl, rfl, trivial⟩
      · refine ⟨hE'.trans' (Fr.setCell _ _ _) (fun j hj h => by simp at h; omega), ?_, by omega⟩
        rw [hzz]
        exact Bs
      · show 64 - (i + 1) < 64 - i; omega
    · have h2' : 16 ≤ i := by omega
      have Bd := B.ext (Fr.drew W)
      have hS : ∀ j, j < i → W.drew.cell? ⟨w.heap.size, 0 + j, none⟩ = some (.int .u32 ((schedL b i).getD j 0)) := fun j hj => by
        rw [h0]; exact (Bd.cell j).trans (wCells_get b i j hj)
      have hS2 : ∀ j, j < i → W.drew.drew.cell? ⟨w.heap.size, 0 + j, none⟩ = some (.int .u32 ((schedL b i).getD j 0)) := fun j hj => Ext.cell (Fr.drew _) (hS j hj)
      have hS3 : ∀ j, j < i → W.drew.drew.drew.cell? ⟨w.heap.size, 0 + j, none⟩ = some (.int .u32 ((schedL b i).getD j 0)) := fun j hj => Ext.cell (Fr.drew _) (hS2 j hj)
      refine (cw_skip (pn_then (cw_seq (cw_draw flo (fun W' => ∀ j, j < i → W'.cell? ⟨w.heap.size, 0 + j, none⟩ = some (.int .u32 ((schedL b i).getD j 0))) (by decide +kernel) hS ?_))))
      (refine d_p rfl rfl rfl rfl ?_; refine d_c rfl rfl rfl rfl (by (unfold I64; omega)) ?_)
      refine d_ix (i - 15) rfl rfl rfl rfl (by omega) (by omega) ?_
      refine dw_rd rfl rfl (fun W' hW' => ex_load rfl rfl rfl (hW' (i - 15) (by omega))) rfl ?_
      refine dw_call rfl rfl (ec_call rfl) rfl ((turned_spec _ 7 (by decide) (by decide) _).mono ?_)
      rintro _ _ ⟨rfl, rfl⟩; refine ⟨_, rfl, hS, ?_⟩
      (refine d_p rfl rfl rfl rfl ?_; refine d_c rfl rfl rfl rfl (by (unfold I64; omega)) ?_)
      refine d_ix (i - 15) rfl rfl rfl rfl (by omega) (by omega) ?_
      refine dw_rd rfl rfl (fun W' hW' => ex_load rfl rfl rfl (hW' (i - 15) (by omega))) rfl ?_
      refine dw_call rfl rfl (ec_call rfl) rfl ((turned_spec _ 18 (by decide) (by decide) _).mono ?_)
      rintro _ _ ⟨rfl, rfl⟩; refine ⟨_, rfl, hS, ?_⟩
      ((iterate 2 refine d_p rfl rfl rfl rfl ?_); refine d_c rfl rfl rfl rfl (by (unfold I64; omega)) ?_)
      refine d_ix (i - 15) rfl rfl rfl rfl (by omega) (by omega) ?_
      refine dw_rd rfl rfl (fun W' hW' => ex_load rfl rfl rfl (hW' (i - 15) (by omega))) rfl ?_
      (refine d_c rfl rfl rfl rfl (by (show (0 : Int) ≤ _; omega)) ?_; (iterate 2 refine d_p rfl rfl rfl rfl ?_))
      refine (dw_nil (pn_then (cw_seq (cw_draw flo (fun W' => ∀ j, j < i → W'.cell? ⟨w.heap.size, 0 + j, none⟩ = some (.int .u32 ((schedL b i).getD j 0))) (by decide +kernel) hS2 ?_))))
      (refine d_p rfl rfl rfl rfl ?_; refine d_c rfl rfl rfl rfl (by (unfold I64; omega)) ?_)
      refine d_ix (i - 2) rfl rfl rfl rfl (by omega) (by omega) ?_
      refine dw_rd rfl rfl (fun W' hW' => ex_load rfl rfl rfl (hW' (i - 2) (by omega))) rfl ?_
      refine dw_call rfl rfl (ec_call rfl) rfl ((turned_spec _ 17 (by decide) (by decide) _).mono ?_)
      rintro _ _ ⟨rfl, rfl⟩; refine ⟨_, rfl, hS2, ?_⟩
      (refine d_p rfl rfl rfl rfl ?_; refine d_c rfl rfl rfl rfl (by (unfold I64; omega)) ?_)
      refine d_ix (i - 2) rfl rfl rfl rfl (by omega) (by omega) ?_
      refine dw_rd rfl rfl (fun W' hW' => ex_load rfl rfl rfl (hW' (i - 2) (by omega))) rfl ?_
      refine dw_call rfl rfl (ec_call rfl) rfl ((turned_spec _ 19 (by decide) (by decide) _).mono ?_)
      rintro _ _ ⟨rfl, rfl⟩; refine ⟨_, rfl, hS2, ?_⟩
      ((iterate 2 refine d_p rfl rfl rfl rfl ?_); refine d_c rfl rfl rfl rfl (by (unfold I64; omega)) ?_)
      refine d_ix (i - 2) rfl rfl rfl rfl (by omega) (by omega) ?_
      refine dw_rd rfl rfl (fun W' hW' => ex_load rfl rfl rfl (hW' (i - 2) (by omega))) rfl ?_
      (refine d_c rfl rfl rfl rfl (by (show (0 : Int) ≤ _; omega)) ?_; (iterate 2 refine d_p rfl rfl rfl rfl ?_))
      refine (dw_nil (pn_then (cw_draw flo (fun W' => ∀ j, j < i → W'.cell? ⟨w.heap.size, 0 + j, none⟩ = some (.int .u32 ((schedL b i).getD j 0))) (by decide +kernel) hS3 ?_)))
      ((iterate 2 refine d_p rfl rfl rfl rfl ?_); refine d_c rfl rfl rfl rfl (by (unfold I64; omega)) ?_)
      refine d_ix (i - 16) rfl rfl rfl rfl (by omega) (by omega) ?_
      refine dw_rd rfl rfl (fun W' hW' => ex_load rfl rfl rfl (hW' (i - 16) (by omega))) rfl ?_
      ((iterate 3 refine d_p rfl rfl rfl rfl ?_); refine d_c rfl rfl rfl rfl (by (unfold I64; omega)) ?_)
      refine d_ix (i - 7) rfl rfl rfl rfl (by omega) (by omega) ?_
      refine dw_rd rfl rfl (fun W' hW' => ex_load rfl rfl rfl (hW' (i - 7) (by omega))) rfl ?_
      ((iterate 3 refine d_p rfl rfl rfl rfl ?_))
      refine d_ix (i) rfl rfl rfl rfl (by omega) (by omega) ?_
      have B3 := (Bd.ext (Fr.drew _)).ext (Fr.drew W.drew.drew)
      have hE3 : Ext w W.drew.drew.drew := (hE'.trans (Fr.drew _)).trans (Fr.drew _)
      refine dw_eu rfl rfl (eu_store rfl rfl rfl rfl rfl (hst _ B3).1 (hst _ B3).2) ?_ ?_
      · intro j hj
        have hne : (⟨w.heap.size, 0 + j, none⟩ : Addr) ≠ ⟨w.heap.size, 0 + mulz i 1, none⟩ := by rw [mulz_eq]; simp <;> omega
        rw [World.cell?_setCell_other _ _ _ _ hne.symm]
        exact hS3 j hj
      have hn : wNext b (schedL b i) i = add32 (add32 (add32 ((schedL b i).getD (i - 16) 0) (sig0 ((schedL b i).getD (i - 15) 0))) ((schedL b i).getD (i - 7) 0)) (sig1 ((schedL b i).getD (i - 2) 0)) := if_neg (by omega)
      have Bs := B3.set i (.int .u32 (wNext b (schedL b i) i))
      rw [wCells_set b i (by omega), hn] at Bs
      have hzz : 0 + mulz i 1 = i := by rw [mulz_eq]; omega
      refine (dw_nil (pn_block (pn_then (cw_region ?_))))
      refine o_c rfl rfl rfl (by unfold I64; omega) ?_
      (refine o_p rfl rfl rfl ?_)
      refine (ow_nil (pn_round (i + 1) ?_ ?_ ?_))
      · exact ⟨rfl, rfl, rfl, trivial⟩
      · refine ⟨hE3.trans' (Fr.setCell _ _ _) (fun j hj h => by simp at h; omega), ?_, by omega⟩
        rw [hzz]
        exact Bs
      · show 64 - (i + 1) < 64 - i; omega
  · refine (cw_exit (pn_then_exit (pn_loop_exit (pn_block_exit (pn_then (cw_seq (cw_region ?_)))))))
    obtain rfl : i = 64 := by omega
    have hlen := wCells_len b 64 (by omega)
    have hW : wCells b 64 = u32s (schedL b 64) := by simp [wCells]
    rw [hW] at B hlen
    generalize schedL b 64 = X at *
    refine ow_ex rfl (ex_loadN (cs := u32s X) rfl rfl rfl hlen (fun j _ => by rw [Nat.zero_add]; exact B.cell j)) rfl ?_
    refine ow_eu rfl (eu_storeB (vs := u32s X) rfl rfl rfl rfl (by rw [hlen]; rfl) (by intro u hu; obtain ⟨x, _, rfl⟩ := List.mem_map.1 hu; rfl) B (Nat.ble_eq_true_of_le (by omega))) ?_
    have Bf := B.setRow (ds := spl (u32s X) 0 (u32s X))
    have hspl : spl (u32s X) 0 (u32s X) = u32s X := by simp [spl]
    rw [hspl] at Bf
    rw [hspl]
    refine (ow_nil (pn_then (cw_ret (pn_retC rfl rfl rfl rfl (by rw [hlen]; rfl) Bf ⟨rfl, ?_⟩))))
    exact hE.trans' (Fr.setRow _ _ _) (fun j hj h => by omega)
end Go.Proofs.YtaglpaoipdmboaaGreat
/- Digests, part two: a block is taken in. Conditions: the bytes may be read. -/
namespace Go.Proofs.YtaglpaoipdmboaaGreat
open Go.Eng Go.RowKit

def keyL : List Int := [
  0x428a2f98, 0x71374491, 0xb5c0fbcf, 0xe9b5dba5, 0x3956c25b, 0x59f111f1, 0x923f82a4, 0xab1c5ed5,
  0xd807aa98, 0x12835b01, 0x243185be, 0x550c7dc3, 0x72be5d74, 0x80deb1fe, 0x9bdc06a7, 0xc19bf174,
  0xe49b69c1, 0xefbe4786, 0x0fc19dc6, 0x240ca1cc, 0x2de92c6f, 0x4a7484aa, 0x5cb0a9dc, 0x76f988da,
  0x983e5152, 0xa831c66d, 0xb00327c8, 0xbf597fc7, 0xc6e00bf3, 0xd5a79147, 0x06ca6351, 0x14292967,
  0x27b70a85, 0x2e1b2138, 0x4d2c6dfc, 0x53380d13, 0x650a7354, 0x766a0abb, 0x81c2c92e, 0x92722c85,
  0xa2bfe8a1, 0xa81a664b, 0xc24b8b70, 0xc76c51a3, 0xd192e819, 0xd6990624, 0xf40e3585, 0x106aa070,
  0x19a4c116, 0x1e376c08, 0x2748774c, 0x34b0bcb5, 0x391c0cb3, 0x4ed8aa4a, 0x5b9cca4f, 0x682e6ff3,
  0x748f82ee, 0x78a5636f, 0x84c87814, 0x8cc70208, 0x90befffa, 0xa4506ceb, 0xbef9a3f7, 0xc67178f2]
def beginL : List Int := [0x6a09e667, 0xbb67ae85, 0x3c6ef372, 0xa54ff53a, 0x510e527f, 0x9b05688c, 0x1f83d9ab, 0x5be0cd19]

theorem u32s_one (l : List Int) : ∀ u ∈ u32s l, u.oneCell' = true := by intro u hu; obtain ⟨x, _, rfl⟩ := List.mem_map.1 hu; rfl
theorem u32s_len (l : List Int) : (u32s l).length = l.length := by simp [u32s]
theorem u32s_get (l : List Int) (i : Nat) (h : i < l.length) : (u32s l)[i]? = some (.int .u32 (l.getD i 0)) := by
  simp only [u32s, List.getElem?_map, List.getD_eq_getElem?_getD]
  rw [List.getElem?_eq_getElem h]; rfl
set_option maxRecDepth 20000 in
theorem keys_spec (w : World) : Calls Tryz.prog n_sha_keys #[] w fun e w' => e = .returned (.agg (u32s keyL).toArray) ∧ Ext w w' := by
  refine enter0 F_sha_keys rfl rfl ?_
  refine (cw_seq (cw_region ?_))
  refine ow_new rfl rfl rfl rfl ?_
  intro w1 B1 e1 z1
  change Blk w1 w.heap.size t_64_uint32 (u32s (List.replicate 64 0)) at B1
  refine on (sr ?_)
  refine ow_pu (v := .agg ⟨u32s keyL⟩) rfl (pevb_sound (by kernel_rfl)) rfl ?_
  refine ow_eu rfl (eu_storeW (vs := u32s keyL) rfl rfl rfl rfl rfl (u32s_one _) B1 rfl) ?_
  exact (ow_nil (pn_then (cw_ret (pn_retC rfl rfl rfl rfl rfl (B1.setRow (ds := u32s keyL)) ⟨rfl, e1.trans' (Fr.setRow _ _ _) (fun j hj h => by omega)⟩))))
theorem begin_spec (w : World) : Calls Tryz.prog n_sha_begin #[] w fun e w' => e = .returned (.agg (u32s beginL).toArray) ∧ Ext w w' := by
  refine enter0 F_sha_begin rfl rfl ?_
  refine (cw_seq (cw_region ?_))
  refine ow_new rfl rfl rfl rfl ?_
  intro w1 B1 e1 z1
  change Blk w1 w.heap.size t_sha_words (u32s (List.replicate 8 0)) at B1
  refine on (sr ?_)
  refine ow_pu (v := .agg ⟨u32s beginL⟩) rfl (pevb_sound (by kernel_rfl)) rfl ?_
  refine ow_eu rfl (eu_storeW (vs := u32s beginL) rfl rfl rfl rfl rfl (u32s_one _) B1 rfl) ?_
  exact (ow_nil (pn_then (cw_ret (pn_retC rfl rfl rfl rfl rfl (B1.setRow (ds := u32s beginL)) ⟨rfl, e1.trans' (Fr.setRow _ _ _) (fun j hj h => by omega)⟩))))

/-! ## Rounds -/
structure W8 where
  a : Int
  b : Int
  c : Int
  d : Int
  e : Int
  f : Int
  g : Int
  h : Int
def W8.l (s : W8) : List Int := [s.a, s.b, s.c, s.d, s.e, s.f, s.g, s.h]
def rndX (s : W8) (k x : Int) : Int := add32 (add32 (add32 (add32 s.h (xor32 (xor32 (rotr s.e 6) (rotr s.e 11)) (rotr s.e 25))) (xor32 (and32 s.e s.f) (and32 (cpl .u32 s.e) s.g))) k) x
def rndY (s : W8) : Int := add32 (xor32 (xor32 (rotr s.a 2) (rotr s.a 13)) (rotr s.a 22)) (xor32 (xor32 (and32 s.a s.b) (and32 s.a s.c)) (and32 s.b s.c))
def rnd (s : W8) (k x : Int) : W8 := ⟨add32 (rndX s k x) (rndY s), s.a, s.b, s.c, add32 s.d (rndX s k x), s.e, s.f, s.g⟩
def rnds (s : W8) (K X : List Int) : Nat → W8
  | 0 => s
  | n + 1 => rnd (rnds s K X n) (K.getD n 0) (X.getD n 0)
def upd (A C : List Int) (i : Nat) : List Int := (List.range 8).map fun j => if j < i then add32 (A.getD j 0) (C.getD j 0) else A.getD j 0
theorem upd_len (A C : List Int) (i : Nat) : (upd A C i).length = 8 := by simp [upd]
theorem upd_get (A C : List Int) (i j : Nat) (h : j < 8) : (upd A C i).getD j 0 = if j < i then add32 (A.getD j 0) (C.getD j 0) else A.getD j 0 := by
  rw [List.getD_eq_getElem?_getD, List.getElem?_eq_getElem (by rw [upd_len]; exact h)]; simp [upd]
theorem upd_set (A C : List Int) (i : Nat) (h : i < 8) : (upd A C i).set i (add32 (A.getD i 0) (C.getD i 0)) = upd A C (i + 1) := by
  apply List.ext_getElem
  · simp [upd_len]
  · intro j h1 h2
    rw [List.getElem_set]
    simp only [upd, List.getElem_map, List.getElem_range]
    split
    · rename_i e; subst e; rw [if_pos (by omega)]
    · rename_i e
      by_cases hj : j < i
      · rw [if_pos hj, if_pos (by omega)]
      · rw [if_neg hj, if_neg (by omega)]
theorem upd_zero (A C : List Int) (h : A.length = 8) : upd A C 0 = A := by
  apply List.ext_getElem
  · rw [upd_len, h]
  · intro j h1 h2
    simp [upd, List.getElem?_eq_getElem h2]
def toW (l : List Int) : W8 := ⟨l.getD 0 0, l.getD 1 0, l.getD 2 0, l.getD 3 0, l.getD 4 0, l.getD 5 0, l.getD 6 0, l.getD 7 0⟩
theorem toW_l (l : List Int) (h : l.length = 8) : (toW l).l = l := by
  match l, h with
  | [_, _, _, _, _, _, _, _], _ => rfl
/-- A block is taken in. -/
def blockM (A b : List Int) : List Int := upd A (rnds (toW A) keyL (schedL b 64) 64).l 8
theorem blockM_len (A b : List Int) : (blockM A b).length = 8 := upd_len _ _ _
end Go.Proofs.YtaglpaoipdmboaaGreat
/- Digests, part three: the walk of the block. Conditions: the bytes may be read; the words lie at the head of a block. -/
namespace Go.Proofs.YtaglpaoipdmboaaGreat
open Go.Eng Go.RowKit

theorem dw_sub {P : Program} {fl : Oper → Bool} {ro : Option Nat} {N : Nat} {S : World → Prop} {l : List Oper} {k : Nat} {rest : List Oper} {Q : Exit → Act → World → Prop} {E E' : List (Nat × Value)} {ds : List Deferred} {w : World} (hs : Sub E' E)
    (h : DW P fl ro N S l k rest Q E' ds w) : DW P fl ro N S l k rest Q E ds w := fun a hk hd hS hl => h a (hk.sub hs) hd hS hl
def headOf : Option Code → Code
  | some (.seq r _) => r
  | _ => .skip
set_option maxRecDepth 20000 in
/-- The first region (its order is drawn, and calls and new memory stand unordered in it). -/
theorem block_head {vb : Value} {A b : List Int} {rest : List Value} {ga ta : Nat} {w : World} {Q' : Exit → Act → World → Prop} (hb : VL (Value.int .u8) w vb b) (hl : 64 ≤ b.length) (hA : A.length = 8) (BA : Blk w ga ta (u32s A ++ rest))
    (H : ∀ w8 gc gk gx, Ext w w8 → w.heap.size ≤ gc → w.heap.size ≤ gk → w.heap.size ≤ gx → gc ≠ gk → gc ≠ gx → gk ≠ gx → Blk w8 gc t_sha_words (u32s A) → Blk w8 gk t_64_uint32 (u32s keyL) → Blk w8 gx t_64_uint32 (u32s (schedL b 64)) →
      PN Tryz.f164.ntmps Q' .normal [(0, .pointer (some ⟨ga, 0, none⟩)), (4, .pointer (some ⟨gc, 0, none⟩)), (5, .pointer (some ⟨gk, 0, none⟩)), (6, .pointer (some ⟨gx, 0, none⟩))] [] w8) :
    CW Tryz.prog none Tryz.f164.ntmps (headOf Tryz.f164.body) Q' [(0, .pointer (some ⟨ga, 0, none⟩)), (1, vb)] [] w := by
  have hA8 : (u32s A).length = 8 := by rw [u32s_len, hA]
  let own : Nat → Value → Option Nat := fun i v => if 6 ≤ i then (match v with | .pointer (some a) => some a.block | _ => none) else none
  let φ : Nat → (Nat → Value) → World → Prop := fun i vs w => match i with
    | 0 => vs 0 = .pointer (some ⟨ga, 0, none⟩)
    | 1 => vs 1 = .pointer (some ⟨ga, 0, none⟩)
    | 2 => vs 2 = .agg (u32s A).toArray
    | 3 => vs 3 = .agg (u32s keyL).toArray
    | 4 => vs 4 = vb
    | 5 => vs 5 = .agg (u32s (schedL b 64)).toArray
    | 6 => ∃ g, vs 6 = .pointer (some ⟨g, 0, none⟩) ∧ Blk w g t_sha_words (u32s (List.replicate 8 0))
    | 7 => ∃ g, vs 7 = .pointer (some ⟨g, 0, none⟩) ∧ Blk w g t_64_uint32 (u32s (List.replicate 64 0))
    | 8 => ∃ g, vs 8 = .pointer (some ⟨g, 0, none⟩) ∧ Blk w g t_64_uint32 (u32s (List.replicate 64 0))
    | _ => True
  refine cw_ext (fl := flo) 9 (fun _ => True) [(0, .pointer (some ⟨ga, 0, none⟩)), (1, vb)] ⟨rfl, rfl, trivial⟩ rfl (by kernel_rfl) φ own ?_ ?_ ?_ ?_
  · intro j vs w1 w2 h hE
    match j, h with
    | 0, h | 1, h | 2, h | 3, h | 4, h | 5, h => exact h
    | 6, ⟨g, h1, h2⟩ => exact ⟨g, h1, h2.ext hE⟩
    | 7, ⟨g, h1, h2⟩ => exact ⟨g, h1, h2.ext hE⟩
    | 8, ⟨g, h1, h2⟩ => exact ⟨g, h1, h2.ext hE⟩
    | _ + 9, _ => trivial
  · intro j vs vs' w1 h hv
    have := hv j (.inl rfl)
    match j, h with
    | 0, h | 1, h | 2, h | 3, h | 4, h | 5, h => exact this.symm.trans h
    | 6, ⟨g, h1, h2⟩ => exact ⟨g, this.symm.trans h1, h2⟩
    | 7, ⟨g, h1, h2⟩ => exact ⟨g, this.symm.trans h1, h2⟩
    | 8, ⟨g, h1, h2⟩ => exact ⟨g, this.symm.trans h1, h2⟩
    | _ + 9, _ => trivial
  · intro i o hi ho vs a w' hE hk hφ
    match i, hi, ho, hk, hφ with
    | 0, _, ho, hk, hφ =>
      obtain rfl := Option.some.inj ho
      exact eff_ex hk (pev_sound (tt := lookT tts) (by kernel_rfl) w') ⟨Fr.refl _ _, rfl, fun g h => by simp [own] at h⟩
    | 1, _, ho, hk, hφ =>
      obtain rfl := Option.some.inj ho
      have h0 : vs 0 = .pointer (some ⟨ga, 0, none⟩) := hφ 0 (by decide +kernel)
      have hk := hk.sub (E' := [(11, .pointer (some ⟨ga, 0, none⟩))]) ⟨by rw [← h0]; kernel_rfl, trivial⟩
      exact eff_ex hk (pev_sound (tt := lookT tts) (by kernel_rfl) w') ⟨Fr.refl _ _, rfl, fun g h => by simp [own] at h⟩
    | 2, _, ho, hk, hφ =>
      obtain rfl := Option.some.inj ho
      have h0 : vs 1 = .pointer (some ⟨ga, 0, none⟩) := hφ 1 (by decide +kernel)
      have hk := hk.sub (E' := [(12, .pointer (some ⟨ga, 0, none⟩))]) ⟨by rw [← h0]; kernel_rfl, trivial⟩
      exact eff_ex hk (ex_loadN (tt := lookT tts) (cs := u32s A) rfl rfl rfl hA8 (fun j hj => by rw [Nat.zero_add, (BA.ext hE).cell j, List.getElem?_append_left hj])) ⟨Fr.refl _ _, rfl, fun g h => by simp [own] at h⟩
    | 3, _, ho, hk, hφ =>
      obtain rfl := Option.some.inj ho
      have hk := hk.sub (E' := []) trivial
      refine eff_call hk (ec_call rfl) ((keys_spec w').mono ?_)
      rintro e w'' ⟨rfl, he⟩
      exact ⟨_, rfl, he, rfl, fun g h => by simp [own] at h⟩
    | 4, _, ho, hk, hφ =>
      obtain rfl := Option.some.inj ho
      have hk := hk.sub (E' := [(1, vb)]) ⟨by kernel_rfl, trivial⟩
      exact eff_ex hk (pev_sound (tt := lookT tts) (by kernel_rfl) w') ⟨Fr.refl _ _, rfl, fun g h => by simp [own] at h⟩
    | 5, _, ho, hk, hφ =>
      obtain rfl := Option.some.inj ho
      have h0 : vs 4 = vb := hφ 4 (by decide +kernel)
      have hk := hk.sub (E' := [(15, vb)]) ⟨by rw [← h0]; kernel_rfl, trivial⟩
      refine eff_call hk (ec_call rfl) ((spread_spec (hb.ext hE) hl).mono ?_)
      rintro e w'' ⟨rfl, he⟩
      exact ⟨_, rfl, he, rfl, fun g h => by simp [own] at h⟩
    | 6, _, ho, hk, hφ =>
      obtain rfl := Option.some.inj ho
      exact eff_ex hk (ex_alloc (tt := lookT tts) rfl) ⟨Fr.alloc _ _, ⟨_, rfl, Blk.new w' t_sha_words (u32s (List.replicate 8 0))⟩, fun g h => by simp [own] at h; subst h; simp⟩
    | 7, _, ho, hk, hφ =>
      obtain rfl := Option.some.inj ho
      exact eff_ex hk (ex_alloc (tt := lookT tts) rfl) ⟨Fr.alloc _ _, ⟨_, rfl, Blk.new w' t_64_uint32 (u32s (List.replicate 64 0))⟩, fun g h => by simp [own] at h; subst h; simp⟩
    | 8, _, ho, hk, hφ =>
      obtain rfl := Option.some.inj ho
      exact eff_ex hk (ex_alloc (tt := lookT tts) rfl) ⟨Fr.alloc _ _, ⟨_, rfl, Blk.new w' t_64_uint32 (u32s (List.replicate 64 0))⟩, fun g h => by simp [own] at h; subst h; simp⟩
    | _ + 9, h, _, _, _ => omega
  · intro vs w5 hE hφ hlow hap
    have v2 : vs 2 = .agg (u32s A).toArray := hφ 2 (by decide)
    have v3 : vs 3 = .agg (u32s keyL).toArray := hφ 3 (by decide)
    have v5 : vs 5 = .agg (u32s (schedL b 64)).toArray := hφ 5 (by decide)
    obtain ⟨gc, v6, B6⟩ : ∃ g, vs 6 = .pointer (some ⟨g, 0, none⟩) ∧ Blk w5 g t_sha_words (u32s (List.replicate 8 0)) := hφ 6 (by decide)
    obtain ⟨gk, v7, B7⟩ : ∃ g, vs 7 = .pointer (some ⟨g, 0, none⟩) ∧ Blk w5 g t_64_uint32 (u32s (List.replicate 64 0)) := hφ 7 (by decide)
    obtain ⟨gx, v8, B8⟩ : ∃ g, vs 8 = .pointer (some ⟨g, 0, none⟩) ∧ Blk w5 g t_64_uint32 (u32s (List.replicate 64 0)) := hφ 8 (by decide)
    have o6 : own 6 (vs 6) = some gc := by rw [v6]; rfl
    have o7 : own 7 (vs 7) = some gk := by rw [v7]; rfl
    have o8 : own 8 (vs 8) = some gx := by rw [v8]; rfl
    have l6 := hlow 6 (by decide) gc o6
    have l7 := hlow 7 (by decide) gk o7
    have l8 := hlow 8 (by decide) gx o8
    have n67 : gc ≠ gk := fun e => hap 6 7 (by decide) (by decide) (by decide) gc o6 (by rw [o7, e])
    have n68 : gc ≠ gx := fun e => hap 6 8 (by decide) (by decide) (by decide) gc o6 (by rw [o8, e])
    have n78 : gk ≠ gx := fun e => hap 7 8 (by decide) (by decide) (by decide) gk o7 (by rw [o8, e])
    refine ⟨trivial, ?_⟩
    have hX : (schedL b 64).length = 64 := sched_len b 64
    have hK : keyL.length = 64 := rfl
    generalize schedL b 64 = X at *
    generalize keyL = K at *
    refine dw_sub (E' := [(0, .pointer (some ⟨ga, 0, none⟩)), (4, .pointer (some ⟨gc, 0, none⟩)), (5, .pointer (some ⟨gk, 0, none⟩)), (6, .pointer (some ⟨gx, 0, none⟩)), (13, .agg (u32s A).toArray), (14, .agg (u32s K).toArray), (16, .agg (u32s X).toArray)])
      ⟨by kernel_rfl, by rw [← v6]; kernel_rfl, by rw [← v7]; kernel_rfl, by rw [← v8]; kernel_rfl, by rw [← v2]; kernel_rfl, by rw [← v3]; kernel_rfl, by rw [← v5]; kernel_rfl, trivial⟩ ?_
    refine dw_storeW (vs := u32s A) rfl rfl rfl rfl rfl rfl rfl (by rw [hA8]; rfl) (u32s_one _) B6 (by rw [hA8]; rfl) ?_
    intro w6 C6 f6 z6
    refine ⟨trivial, ?_⟩
    refine dw_storeW (vs := u32s K) rfl rfl rfl rfl rfl rfl rfl (by rw [u32s_len, hK]; rfl) (u32s_one _) (B7.fr f6 (by omega)) (by rw [u32s_len, hK]; rfl) ?_
    intro w7 C7 f7 z7
    refine ⟨trivial, ?_⟩
    refine dw_storeW (vs := u32s X) rfl rfl rfl rfl rfl rfl rfl (by rw [u32s_len, hX]; rfl) (u32s_one _) ((B8.fr f6 (by omega)).fr f7 (by omega)) (by rw [u32s_len, hX]; rfl) ?_
    intro w8 C8 f8 z8
    refine ⟨trivial, dw_nil (pn_sub (E' := [(0, .pointer (some ⟨ga, 0, none⟩)), (4, .pointer (some ⟨gc, 0, none⟩)), (5, .pointer (some ⟨gk, 0, none⟩)), (6, .pointer (some ⟨gx, 0, none⟩))]) ⟨rfl, rfl, rfl, rfl, trivial⟩ (H w8 gc gk gx ?_ l6.1 l7.1 l8.1 n67 n68 n78 ((C6.fr f7 (by omega)).fr f8 (by omega)) (C7.fr f8 (by omega)) C8))⟩
    exact ((hE.trans' f6 (fun j hj h => by omega)).trans' f7 (fun j hj h => by omega)).trans' f8 (fun j hj h => by omega)

theorem block_spec {vb : Value} {A b : List Int} {rest : List Value} {ga ta : Nat} {w : World} (hb : VL (Value.int .u8) w vb b) (hl : 64 ≤ b.length) (hA : A.length = 8) (BA : Blk w ga ta (u32s A ++ rest)) :
    Calls Tryz.prog n_p_sha_words_block #[.pointer (some ⟨ga, 0, none⟩), vb] w fun e w' => (∃ v, e = .returned v) ∧ Blk w' ga ta (u32s (blockM A b) ++ rest) ∧ Fr (· = ga) w w' := by
  have hM : blockM A b = upd A (rnds (toW A) keyL (schedL b 64) 64).l 8 := rfl
  have hX : (schedL b 64).length = 64 := sched_len b 64
  have hK : keyL.length = 64 := rfl
  rw [hM]
  refine enter2 F_p_sha_words_block rfl rfl ?_
  refine cw_seq (block_head hb hl hA BA ?_)
  intro w8 gc gk gx e08 g1 g2 g3 n1 n2 n3 BC BK BX
  generalize schedL b 64 = X at *
  generalize keyL = K at *
  have hga : ga < w.heap.size := BA.lt
  replace BC : Blk w8 gc t_sha_words (u32s (rnds (toW A) K X 0).l) := by
    rwa [show (rnds (toW A) K X 0).l = A from toW_l A hA]
  refine pn_then ?_
  (refine ss ?_; refine sr ?_; refine o_p rfl rfl rfl ?_; refine on ?_)
  refine cw_block (cw_loop (G := Nat) (fun i => [(0, .pointer (some ⟨ga, 0, none⟩)), (4, .pointer (some ⟨gc, 0, none⟩)), (5, .pointer (some ⟨gk, 0, none⟩)), (6, .pointer (some ⟨gx, 0, none⟩)), (17, .int .i64 (i : Int))])
    (fun i W => Ext w W ∧ Blk W gc t_sha_words (u32s (rnds (toW A) K X i).l) ∧ Blk W gk t_64_uint32 (u32s K) ∧ Blk W gx t_64_uint32 (u32s X) ∧ i ≤ 64) (fun i => 64 - i) ?_ ?_)
  · exact ⟨0, ⟨rfl, rfl, rfl, rfl, rfl, trivial⟩, e08, BC, BK, BX, by omega⟩
  rintro i W ⟨hE, BC, BK, BX, hi⟩
  try dsimp only
  (refine sr ?_; refine o_p rfl rfl rfl ?_; refine on ?_)
  refine cw_seq (cw_if rfl (fun h => ?_) (fun h => ?_))
  · have hnx : rnds (toW A) K X (i + 1) = rnd (rnds (toW A) K X i) (K.getD i 0) (X.getD i 0) := rfl
    generalize hs : rnds (toW A) K X i = s at *
    generalize hki : K.getD i 0 = ki at *
    generalize hxi : X.getD i 0 = xi at *
    have ck : ∀ W', Ext W W' → W'.cell? ⟨gk, 0 + i, none⟩ = some (.int .u32 ki) := fun W' hW' => by
      rw [Nat.zero_add, ← hki]; exact Ext.cell hW' ((BK.cell i).trans (u32s_get K i (by omega)))
    have cx : ∀ W', Ext W W' → W'.cell? ⟨gx, 0 + i, none⟩ = some (.int .u32 xi) := fun W' hW' => by
      rw [Nat.zero_add, ← hxi]; exact Ext.cell hW' ((BX.cell i).trans (u32s_get X i (by omega)))
    have cc : ∀ W', Ext W W' → ∀ j, W'.cell? ⟨gc, j, none⟩ = (u32s s.l)[j]? := fun W' hW' j => (BC.ext hW').cell j
    refine (cw_skip (pn_then (cw_seq (cw_block (cw_seq (cw_region ?_))))))
    ((iterate 2 refine o_p rfl rfl rfl ?_))
    have d1 : Ext W W.drew := Fr.drew _
    refine (ow_nil (pn_then (cw_seq (cw_draw flo (fun W' => Ext W W') (by decide +kernel) d1 ?_))))
    refine d_ix (7) rfl rfl rfl rfl (by omega) (by omega) ?_
    refine dw_rd rfl rfl (fun W' hW' => ex_load rfl rfl rfl (cc W' hW' 7)) rfl ?_
    refine d_ix (4) rfl rfl rfl rfl (by omega) (by omega) ?_
    refine dw_rd rfl rfl (fun W' hW' => ex_load rfl rfl rfl (cc W' hW' 4)) rfl ?_
    refine dw_call rfl rfl (ec_call rfl) rfl ((turned_spec _ 6 (by decide) (by decide) _).mono ?_)
    rintro _ _ ⟨rfl, rfl⟩; refine ⟨_, rfl, d1, ?_⟩
    refine d_ix (4) rfl rfl rfl rfl (by omega) (by omega) ?_
    refine dw_rd rfl rfl (fun W' hW' => ex_load rfl rfl rfl (cc W' hW' 4)) rfl ?_
    refine dw_call rfl rfl (ec_call rfl) rfl ((turned_spec _ 11 (by decide) (by decide) _).mono ?_)
    rintro _ _ ⟨rfl, rfl⟩; refine ⟨_, rfl, d1, ?_⟩
    (refine d_p rfl rfl rfl rfl ?_)
    refine d_ix (4) rfl rfl rfl rfl (by omega) (by omega) ?_
    refine dw_rd rfl rfl (fun W' hW' => ex_load rfl rfl rfl (cc W' hW' 4)) rfl ?_
    refine dw_call rfl rfl (ec_call rfl) rfl ((turned_spec _ 25 (by decide) (by decide) _).mono ?_)
    rintro _ _ ⟨rfl, rfl⟩; refine ⟨_, rfl, d1, ?_⟩
    ((iterate 2 refine d_p rfl rfl rfl rfl ?_))
    refine d_ix (4) rfl rfl rfl rfl (by omega) (by omega) ?_
    refine dw_rd rfl rfl (fun W' hW' => ex_load rfl rfl rfl (cc W' hW' 4)) rfl ?_
    refine d_ix (5) rfl rfl rfl rfl (by omega) (by omega) ?_
    refine dw_rd rfl rfl (fun W' hW' => ex_load rfl rfl rfl (cc W' hW' 5)) rfl ?_
    (refine d_p rfl rfl rfl rfl ?_)
    refine d_ix (4) rfl rfl rfl rfl (by omega) (by omega) ?_
    refine dw_rd rfl rfl (fun W' hW' => ex_load rfl rfl rfl (cc W' hW' 4)) rfl ?_
    (refine d_p rfl rfl rfl rfl ?_)
    refine d_ix (6) rfl rfl rfl rfl (by omega) (by omega) ?_
    refine dw_rd rfl rfl (fun W' hW' => ex_load rfl rfl rfl (cc W' hW' 6)) rfl ?_
    ((iterate 4 refine d_p rfl rfl rfl rfl ?_))
    refine d_ix (i) rfl rfl rfl rfl (by omega) (by omega) ?_
    refine dw_rd rfl rfl (fun W' hW' => ex_load rfl rfl rfl (ck W' hW')) rfl ?_
    ((iterate 2 refine d_p rfl rfl rfl rfl ?_))
    refine d_ix (i) rfl rfl rfl rfl (by omega) (by omega) ?_
    refine dw_rd rfl rfl (fun W' hW' => ex_load rfl rfl rfl (cx W' hW')) rfl ?_
    ((iterate 2 refine d_p rfl rfl rfl rfl ?_))
    have d2 : Ext W W.drew.drew := d1.trans (Fr.drew _)
    refine (dw_nil (pn_then (cw_seq (cw_draw flo (fun W' => Ext W W') (by decide +kernel) d2 ?_))))
    refine d_ix (0) rfl rfl rfl rfl (by omega) (by omega) ?_
    refine dw_rd rfl rfl (fun W' hW' => ex_load rfl rfl rfl (cc W' hW' 0)) rfl ?_
    refine dw_call rfl rfl (ec_call rfl) rfl ((turned_spec _ 2 (by decide) (by decide) _).mono ?_)
    rintro _ _ ⟨rfl, rfl⟩; refine ⟨_, rfl, d2, ?_⟩
    refine d_ix (0) rfl rfl rfl rfl (by omega) (by omega) ?_
    refine dw_rd rfl rfl (fun W' hW' => ex_load rfl rfl rfl (cc W' hW' 0)) rfl ?_
    refine dw_call rfl rfl (ec_call rfl) rfl ((turned_spec _ 13 (by decide) (by decide) _).mono ?_)
    rintro _ _ ⟨rfl, rfl⟩; refine ⟨_, rfl, d2, ?_⟩
    (refine d_p rfl rfl rfl rfl ?_)
    refine d_ix (0) rfl rfl rfl rfl (by omega) (by omega) ?_
    refine dw_rd rfl rfl (fun W' hW' => ex_load rfl rfl rfl (cc W' hW' 0)) rfl ?_
    refine dw_call rfl rfl (ec_call rfl) rfl ((turned_spec _ 22 (by decide) (by decide) _).mono ?_)
    rintro _ _ ⟨rfl, rfl⟩; refine ⟨_, rfl, d2, ?_⟩
    (refine d_p rfl rfl rfl rfl ?_)
    refine d_ix (0) rfl rfl rfl rfl (by omega) (by omega) ?_
    refine dw_rd rfl rfl (fun W' hW' => ex_load rfl rfl rfl (cc W' hW' 0)) rfl ?_
    refine d_ix (1) rfl rfl rfl rfl (by omega) (by omega) ?_
    refine dw_rd rfl rfl (fun W' hW' => ex_load rfl rfl rfl (cc W' hW' 1)) rfl ?_
    (refine d_p rfl rfl rfl rfl ?_)
    refine d_ix (0) rfl rfl rfl rfl (by omega) (by omega) ?_
    refine dw_rd rfl rfl (fun W' hW' => ex_load rfl rfl rfl (cc W' hW' 0)) rfl ?_
    refine d_ix (2) rfl rfl rfl rfl (by omega) (by omega) ?_
    refine dw_rd rfl rfl (fun W' hW' => ex_load rfl rfl rfl (cc W' hW' 2)) rfl ?_
    ((iterate 2 refine d_p rfl rfl rfl rfl ?_))
    refine d_ix (1) rfl rfl rfl rfl (by omega) (by omega) ?_
    refine dw_rd rfl rfl (fun W' hW' => ex_load rfl rfl rfl (cc W' hW' 1)) rfl ?_
    refine d_ix (2) rfl rfl rfl rfl (by omega) (by omega) ?_
    refine dw_rd rfl rfl (fun W' hW' => ex_load rfl rfl rfl (cc W' hW' 2)) rfl ?_
    ((iterate 4 refine d_p rfl rfl rfl rfl ?_))
    refine (dw_nil (pn_then (cw_region ?_)))
    ((iterate 3 refine o_p rfl rfl rfl ?_))
    refine o_ix (0) rfl rfl rfl (by omega) (by omega) ?_
    refine ow_ex rfl (ex_load rfl rfl rfl (cc _ d2 0)) rfl ?_
    refine o_ix (1) rfl rfl rfl (by omega) (by omega) ?_
    refine ow_ex rfl (ex_load rfl rfl rfl (cc _ d2 1)) rfl ?_
    refine o_ix (2) rfl rfl rfl (by omega) (by omega) ?_
    refine ow_ex rfl (ex_load rfl rfl rfl (cc _ d2 2)) rfl ?_
    refine o_ix (3) rfl rfl rfl (by omega) (by omega) ?_
    refine ow_ex rfl (ex_load rfl rfl rfl (cc _ d2 3)) rfl ?_
    ((iterate 2 refine o_p rfl rfl rfl ?_))
    refine o_ix (4) rfl rfl rfl (by omega) (by omega) ?_
    refine ow_ex rfl (ex_load rfl rfl rfl (cc _ d2 4)) rfl ?_
    refine o_ix (5) rfl rfl rfl (by omega) (by omega) ?_
    refine ow_ex rfl (ex_load rfl rfl rfl (cc _ d2 5)) rfl ?_
    refine o_ix (6) rfl rfl rfl (by omega) (by omega) ?_
    refine ow_ex rfl (ex_load rfl rfl rfl (cc _ d2 6)) rfl ?_
    refine o_b rfl rfl rfl ?_
    refine ow_storeW (vs := u32s (rnd s ki xi).l) rfl rfl rfl rfl rfl rfl rfl (u32s_one _) (BC.ext d2) rfl ?_
    intro W9 B9 f9 z9
    refine (ow_nil (pn_block (pn_then (cw_region ?_))))
    refine o_c rfl rfl rfl (by unfold I64; omega) ?_
    (refine o_p rfl rfl rfl ?_)
    have hsz := d2.size
    refine (ow_nil (pn_round (i + 1) ?_ ?_ ?_))
    · exact ⟨rfl, rfl, rfl, rfl, rfl, trivial⟩
    · refine ⟨(hE.trans d2).trans' f9 (fun j hj h => by omega), ?_, (BK.ext d2).fr f9 (by omega), (BX.ext d2).fr f9 (by omega), by omega⟩
      rw [hnx]; exact B9
    · show 64 - (i + 1) < 64 - i; omega
  · obtain rfl : i = 64 := by omega
    generalize hC : (rnds (toW A) K X 64).l = C at *
    have hC8 : C.length = 8 := by rw [← hC]; rfl
    refine (cw_exit (pn_then_exit (pn_loop_exit (pn_block_exit (pn_then (cw_seq (cw_region ?_)))))))
    (refine o_p rfl rfl rfl ?_; refine on ?_)
    refine cw_block (cw_loop (G := Nat) (fun i => [(0, .pointer (some ⟨ga, 0, none⟩)), (4, .pointer (some ⟨gc, 0, none⟩)), (105, .int .i64 (i : Int))])
      (fun i W => Fr (· = ga) w W ∧ Blk W ga ta (u32s (upd A C i) ++ rest) ∧ Blk W gc t_sha_words (u32s C) ∧ i ≤ 8) (fun i => 8 - i) ?_ ?_)
    · exact ⟨0, ⟨rfl, rfl, rfl, trivial⟩, Ext.fr hE, by rw [upd_zero A C hA]; exact BA.ext hE, BC, by omega⟩
    rintro i W ⟨hE, BA, BC, hi⟩
    try dsimp only
    (refine sr ?_; refine o_p rfl rfl rfl ?_; refine on ?_)
    refine cw_seq (cw_if rfl (fun h => ?_) (fun h => ?_))
    · have d1 : Ext W W.drew := Fr.drew _
      have hu8 : (u32s (upd A C i)).length = 8 := by rw [u32s_len, upd_len]
      have ca : W.drew.cell? ⟨ga, 0 + i, none⟩ = some (.int .u32 (A.getD i 0)) := by
        rw [Nat.zero_add, (BA.ext d1).cell i, List.getElem?_append_left (by omega), u32s_get _ _ (by rw [upd_len]; omega), upd_get _ _ _ _ (by omega), if_neg (by omega)]
      have cc : W.drew.cell? ⟨gc, 0 + i, none⟩ = some (.int .u32 (C.getD i 0)) := by
        rw [Nat.zero_add, (BC.ext d1).cell i, u32s_get _ _ (by omega)]
      have cf : W.drew.frozen? ⟨ga, 0 + i, none⟩ = false := (BA.ext d1).frozen _
      refine (cw_skip (pn_then (cw_seq (cw_block (cw_seq (cw_region ?_))))))
      ((iterate 2 refine o_p rfl rfl rfl ?_))
      have hgag : ga ≠ gc := by omega
      refine (ow_nil (pn_then (cw_draw2 flo 11 (fun W' => (W'.cell? ⟨gc, 0 + i, none⟩ = some (.int .u32 (C.getD i 0))) ∧ (W'.cell? ⟨ga, 0 + i, none⟩ = some (.int .u32 (A.getD i 0)))) (fun _ => True) rfl (by decide +kernel) ⟨cc, ca⟩ ?_)))
      ((iterate 3 refine d_p rfl rfl rfl rfl ?_))
      refine d_ix (i) rfl rfl rfl rfl (by omega) (by omega) ?_
      refine dw_rd rfl rfl (fun W' hW' => ex_load rfl rfl rfl (hW'.2)) rfl ?_
      (refine d_p rfl rfl rfl rfl ?_)
      refine d_ix (i) rfl rfl rfl rfl (by omega) (by omega) ?_
      refine dw_rd rfl rfl (fun W' hW' => ex_load rfl rfl rfl (hW'.1)) rfl ?_
      ((iterate 2 refine d_p rfl rfl rfl rfl ?_))
      refine d_ix (i) rfl rfl rfl rfl (by omega) (by omega) ?_
      refine dw_nil (pn_draw2 rfl trivial ?_)
      refine dw_eu rfl rfl (eu_store rfl rfl rfl rfl rfl ca cf) trivial ?_
      refine (dw_nil (pn_block (pn_then (cw_region ?_))))
      refine o_c rfl rfl rfl (by unfold I64; omega) ?_
      (refine o_p rfl rfl rfl ?_)
      have Bs := (BA.ext d1).set i (.int .u32 (add32 (A.getD i 0) (C.getD i 0)))
      rw [List.set_append_left _ _ (by omega)] at Bs
      have hset : (u32s (upd A C i)).set i (.int .u32 (add32 (A.getD i 0) (C.getD i 0))) = u32s (upd A C (i + 1)) := by
        rw [← upd_set A C i (by omega)]; simp [u32s, List.map_set]
      rw [hset] at Bs
      have hzz : 0 + mulz i 1 = i := by rw [mulz_eq]; omega
      refine (ow_nil (pn_round (i + 1) ?_ ?_ ?_))
      · exact ⟨rfl, rfl, rfl, trivial⟩
      · refine ⟨(hE.trans (Ext.fr d1)).trans (Fr.setCell W.drew ⟨ga, _, none⟩ _), ?_, (BC.ext d1).fr (Fr.setCell _ _ _) (by simp; omega), by omega⟩
        rw [hzz]; exact Bs
      · show 8 - (i + 1) < 8 - i; omega
    · refine (cw_exit (pn_then_exit (pn_loop_exit (pn_block_exit (pn_end0 rfl ⟨⟨_, rfl⟩, ?_, hE⟩)))))
      obtain rfl : i = 8 := by omega
      exact BA
end Go.Proofs.YtaglpaoipdmboaaGreat
/- Digests, part four: what a hash is; is it none; how long it is. Conditions: the hash is nil, or lies whole in a block of its own. -/
namespace Go.Proofs.YtaglpaoipdmboaaGreat
open Go.Eng Go.RowKit

/-- A hash's cells. -/
def hashC (a : List Int) (r : Value) (n : Int) (m : Bool) : List Value := u32s a ++ [r, .int .i64 n, .bool m]
theorem hashC_8 (a : List Int) (r : Value) (n : Int) (m : Bool) (h : a.length = 8) : (hashC a r n m)[8]? = some r ∧ (hashC a r n m)[9]? = some (.int .i64 n) ∧ (hashC a r n m)[10]? = some (.bool m) := by
  match a, h with
  | [_, _, _, _, _, _, _, _], _ => exact ⟨rfl, rfl, rfl⟩

theorem none_spec {g t : Nat} {a : List Int} {r : Value} {n : Int} {m : Bool} {w : World} (hB : Blk w g t (hashC a r n m)) (ha : a.length = 8) :
    Calls Tryz.prog n_p_sha_Hash_none #[.pointer (some ⟨g, 0, none⟩)] w fun e w' => e = .returned (.bool (!m)) ∧ w = w' := by
  have h10 := (hB.cell 10).trans (hashC_8 a r n m ha).2.2
  refine enter1 F_p_sha_Hash_none rfl rfl ?_
  (refine sr ?_; refine o_p rfl rfl rfl ?_; refine on ?_; refine sr ?_; refine o_p rfl rfl rfl ?_)
  refine o_n rfl rfl rfl ?_
  ((iterate 4 refine o_p rfl rfl rfl ?_))
  refine ow_ex rfl (ex_load rfl rfl rfl (h10)) rfl ?_
  ((iterate 3 refine o_p rfl rfl rfl ?_))
  exact (ow_nil (pn_then (cw_ret (pn_ret rfl rfl ⟨rfl, rfl⟩))))

theorem New_spec (w : World) : Calls Tryz.prog n_sha_New #[] w fun e w' => ∃ g, e = .returned (.pointer (some ⟨g, 0, none⟩)) ∧ w.heap.size ≤ g ∧ Blk w' g t_sha_Hash (hashC beginL (.slice none 0 0) 0 true) ∧ Ext w w' := by
  refine enter0 F_sha_New rfl rfl ?_
  (refine sr ?_; refine o_p rfl rfl rfl ?_; refine on ?_; refine sr ?_)
  refine ow_call rfl (ec_call rfl) rfl ((begin_spec w).mono ?_)
  rintro _ w1 ⟨rfl, e1⟩; refine ⟨_, rfl, ?_⟩
  refine ow_pu (v := .agg ⟨hashC beginL (.slice none 0 0) 0 true⟩) rfl (pevb_sound (by kernel_rfl)) rfl ?_
  refine ow_box rfl rfl rfl rfl ?_
  intro w2 B2 e2 z2
  (refine o_p rfl rfl rfl ?_)
  exact (ow_nil (pn_then (cw_ret (pn_ret rfl rfl ⟨_, rfl, e1.size, B2, e1.trans e2⟩))))
end Go.Proofs.YtaglpaoipdmboaaGreat
/- Digests, part five: bytes are written into a hash. Conditions: the hash lies whole in a block of its own; the bytes may be read, and lie elsewhere; not too many. -/
namespace Go.Proofs.YtaglpaoipdmboaaGreat
open Go.Eng Go.RowKit

abbrev u8s (l : List Int) : List Value := l.map (Value.int .u8)
theorem u8s_one (l : List Int) : ∀ u ∈ u8s l, u.oneCell' = true := by intro u hu; obtain ⟨x, _, rfl⟩ := List.mem_map.1 hu; rfl
/-- Whole blocks are taken in, from the head. -/
def absorb : Nat → List Int → List Int → List Int × List Int
  | 0, a, l => (a, l)
  | k + 1, a, l => if 64 ≤ l.length then absorb k (blockM a (l.take 64)) (l.drop 64) else (a, l)
theorem absorb_end (k : Nat) (a l : List Int) (h : l.length < 64) : absorb k a l = (a, l) := by
  cases k with
  | zero => rfl
  | succ k => rw [absorb, if_neg (by omega)]
end Go.Proofs.YtaglpaoipdmboaaGreat
/- Digests, part six: copies of bytes. Conditions: the bytes may be read, and are not too many. -/
namespace Go.Proofs.YtaglpaoipdmboaaGreat
open Go.Eng Go.RowKit

abbrev MB (w : World) (base : Nat) (v : Value) (l : List Int) : Prop := Mine w base t_uint8 1 v l.length (u8s l)
theorem Mine.made0 (w : World) : MB (w.alloc (.cells #[] t_uint8)) w.heap.size (.slice (some ⟨w.heap.size, 0, none⟩) 0 0) [] := World.ownsRow_made w #[] 0 (Nat.le_refl _) (by decide) (by rfl)

theorem CopyBytes_spec {va : Value} {xs : List Int} {w : World} (ha : VL (Value.int .u8) w va xs) (hlen : xs.length ≤ 1048576) :
    Calls Tryz.prog n_entrepotkit_CopyBytes #[va] w fun e w' => ∃ v, e = .returned v ∧ MB w' w.heap.size v xs ∧ Ext w w' := by
  refine enter1 F_entrepotkit_CopyBytes rfl rfl ?_
  repeat (first | refine o_p rfl rfl rfl ?_ | refine on ?_ | refine sr ?_ | refine ss ?_)
  refine ow_ex rfl (ex_buildSlice (vs := []) (cells := []) rfl rfl rfl rfl (by decide) (fun z hz => by simp at hz; subst hz; rfl)) rfl ?_
  repeat refine o_p rfl rfl rfl ?_
  refine ow_append rfl rfl rfl rfl rfl rfl rfl rfl (Mine.made0 w) (ha.ext (Fr.alloc _ _)) (u8s_one _) (by simp; omega) (by simp) ?_
  intro v' w' own fr
  repeat refine o_p rfl rfl rfl ?_
  refine on (cw_ret (pn_ret rfl rfl ⟨_, rfl, by simpa [MB, u8s] using own, ?_⟩))
  exact Fr.trans' (Fr.alloc _ _) fr (by intro j hj h; simp [Value.ownBlock] at h; omega)

theorem Clone_spec {va : Value} {xs : List Int} {w : World} (ha : VL (Value.int .u8) w va xs) (hlen : xs.length ≤ 1048576) :
    Calls Tryz.prog n_bytes_Clone #[va] w fun e w' => ∃ v, e = .returned v ∧ MB w' w.heap.size v xs ∧ Ext w w' := by
  obtain ⟨A, c, rfl, hnc, hcm, hz, hcell⟩ := ha.op
  refine enter1 F_bytes_Clone rfl rfl ?_
  (refine sr ?_; refine o_p rfl rfl rfl ?_; refine on ?_; refine ss ?_; refine sr ?_; refine o_p rfl rfl rfl ?_)
  refine o_n rfl rfl rfl ?_
  cases A with
  | none =>
    have h0 : xs = [] := List.eq_nil_of_length_eq_zero (by have := hz rfl; omega)
    subst h0
    refine on (cw_cond_t rfl (sr ?_))
    (refine o_p rfl rfl rfl ?_)
    exact (ow_nil (pn_then (cw_ret (pn_then_ret (pn_ret rfl rfl ⟨_, rfl, Mine.nil _ _ _ _, Fr.refl _ _⟩)))))
  | some a =>
    refine on (cw_cond_f rfl (cw_skip (pn_then (sr ?_))))
    refine ow_ex rfl (ex_buildSlice (vs := []) (cells := []) rfl rfl rfl rfl (by decide) (fun z hz => by simp at hz; subst hz; rfl)) rfl ?_
    (refine o_p rfl rfl rfl ?_)
    refine ow_append rfl rfl rfl rfl rfl rfl rfl rfl (Mine.made0 w) (ha.ext (Fr.alloc _ _)) (u8s_one _) (by simp; omega) (by simp) ?_
    intro v' w' own fr
    (refine o_p rfl rfl rfl ?_)
    refine on (cw_ret (pn_ret rfl rfl ⟨_, rfl, by simpa [MB, u8s] using own, ?_⟩))
    exact Fr.trans' (Fr.alloc _ _) fr (by intro j hj h; simp [Value.ownBlock] at h; omega)
end Go.Proofs.YtaglpaoipdmboaaGreat
/- Digests, part eight: what is written, piece by piece; the digest of what was written. Conditions: the bytes may be read, and are not too many. -/
namespace Go.Proofs.YtaglpaoipdmboaaGreat
open Go.Eng Go.RowKit

theorem hC8 {a : List Int} {r : Value} {n : Int} {m : Bool} (h : a.length = 8) : nth (hashC a r n m) 8 = some r := by
  match a, h with
  | [_, _, _, _, _, _, _, _], _ => rfl
theorem hC9 {a : List Int} {r : Value} {n : Int} {m : Bool} (h : a.length = 8) : nth (hashC a r n m) 9 = some (.int .i64 n) := by
  match a, h with
  | [_, _, _, _, _, _, _, _], _ => rfl
theorem hS8 {a : List Int} {r r' : Value} {n : Int} {m : Bool} (h : a.length = 8) : stO (hashC a r n m) 8 r' = some (hashC a r' n m) := by
  match a, h with
  | [_, _, _, _, _, _, _, _], _ => rfl
theorem hS9 {a : List Int} {r : Value} {n n' : Int} {m : Bool} (h : a.length = 8) : stO (hashC a r n m) 9 (.int .i64 n') = some (hashC a r n' m) := by
  match a, h with
  | [_, _, _, _, _, _, _, _], _ => rfl
/-- A row of bytes of its own. -/
abbrev rB (v : Value) (l : List Int) : SP := row t_uint8 1 v l.length (u8s l)
theorem rB_app (v : Value) (l m : List Int) : row t_uint8 1 v (l.length + m.length) (u8s l ++ u8s m) = rB v (l ++ m) := by simp [rB, u8s]
/-- A block of words is taken in. -/
theorem block_S {b : World} {F : List SP} {vb : Value} {A l : List Int} {rest : List Value} {ga ta : Nat} (hb : ∀ w, Sat b (pt ga ta (u32s A ++ rest) :: F) w → VL (Value.int .u8) w vb l) (hl : 64 ≤ l.length) (hA : A.length = 8) :
    SC Tryz.prog n_p_sha_words_block [.pointer (some ⟨ga, 0, none⟩), vb] b (pt ga ta (u32s A ++ rest) :: F) (fun _ F' => F' = pt ga ta (u32s (blockM A l) ++ rest) :: F) :=
  fun w H => (block_spec (hb w H) hl hA (H.blk (k := 0) rfl)).mono fun _ _ ⟨⟨v, hv⟩, B, f⟩ => ⟨v, _, hv, rfl, H.write (k := 0) rfl f B rfl⟩

theorem block_S0 {b : World} {F : List SP} {vb : Value} {A l : List Int} {ga ta : Nat} (hb : ∀ w, Sat b (pt ga ta (u32s A) :: F) w → VL (Value.int .u8) w vb l) (hl : 64 ≤ l.length) (hA : A.length = 8) :
    SC Tryz.prog n_p_sha_words_block [.pointer (some ⟨ga, 0, none⟩), vb] b (pt ga ta (u32s A) :: F) (fun _ F' => F' = pt ga ta (u32s (blockM A l)) :: F) := by
  have := block_S (b := b) (F := F) (vb := vb) (A := A) (l := l) (rest := []) (ga := ga) (ta := ta) (by rw [List.append_nil]; exact hb) hl hA
  rwa [List.append_nil, List.append_nil] at this

theorem Write_S {b : World} {F : List SP} {g : Nat} {a rs xs : List Int} {r vb : Value} {n : Int} (ha : a.length = 8) (hn : 0 ≤ n ∧ n ≤ 1048576) (hlen : rs.length + xs.length ≤ 1048576) (hb : ∀ w, Sat b F w → VL (Value.int .u8) w vb xs) :
    SC Tryz.prog n_p_sha_Hash_Write [.pointer (some ⟨g, 0, none⟩), vb] b (pt g t_sha_Hash (hashC a r n true) :: rB r rs :: F) (fun v F' => v = .int .i64 0 ∧
      ∃ r', F' = pt g t_sha_Hash (hashC (absorb (rs.length + xs.length) a (rs ++ xs)).1 r' (n + xs.length) true) :: rB r' (absorb (rs.length + xs.length) a (rs ++ xs)).2 :: F) := by
  refine enterS F_p_sha_Hash_Write rfl rfl rfl ?_
  refine sw_fact (fun w H => (hb w (H.ent (ent_keep 2 [] rfl rfl))).form) ?_
  rintro ⟨A, c, rfl, h1, h2, h3, h4⟩
  (refine sw_seq ?_; refine sw_region ?_; refine so_1 rfl ?_; refine so_nil ?_; refine sn_then ?_; (iterate 2 refine sw_seq ?_); refine sw_region ?_; refine so_1 rfl ?_)
  refine so_callE rfl rfl rfl (SC.ofEq fun w H => none_spec (H.blk (k := 0) rfl) ha) ?_
  (refine so_nil ?_; refine sn_then ?_; refine sw_cond_f rfl ?_; refine sw_skip ?_; refine sn_then ?_; refine sw_seq ?_; refine sw_region ?_; (iterate 3 refine so_1 rfl ?_))
  refine so_ld 0 rfl rfl rfl rfl rfl rfl (hC9 ha) rfl ?_
  ((iterate 2 refine so_1 rfl ?_); refine so_2 rfl (by (unfold I64; omega)) ?_; (iterate 2 refine so_1 rfl ?_))
  refine so_st 0 rfl rfl rfl rfl rfl rfl rfl rfl (hS9 ha) rfl ?_
  (refine so_nil ?_; refine sn_then ?_; refine sw_seq ?_; refine sw_region ?_; (iterate 4 refine so_1 rfl ?_))
  refine so_ld 0 rfl rfl rfl rfl rfl rfl (hC8 ha) rfl ?_
  (refine so_1 rfl ?_)
  refine so_append 1 rfl rfl rfl rfl rfl rfl rfl rfl rfl (fun w H => hb w (H.ent (ent_keep 2 [] rfl rfl))) (u8s_one _) (by omega) (fun _ => rfl) fun r' => ?_
  rw [rB_app]
  ((iterate 2 refine so_1 rfl ?_))
  refine so_fact (fun w H => (H.oat (k := 1) rfl).one) fun h1 => ?_
  refine so_st 0 rfl rfl rfl rfl rfl rfl h1 rfl (hS8 ha) rfl ?_
  (refine so_nil ?_; refine sn_then ?_; refine sw_seq ?_; refine sw_block ?_)
  refine sw_loop (S := List Int × List Int × Value) (fun s => [(0, .pointer (some ⟨g, 0, none⟩))]) (fun s => pt g t_sha_Hash (hashC s.1 s.2.2 (n + xs.length) true) :: rB s.2.2 s.2.1 :: F)
    (fun s => s.1.length = 8 ∧ s.2.1.length ≤ 1048576 ∧ ∃ k, s.2.1.length ≤ k ∧ absorb k s.1 s.2.1 = absorb (rs.length + xs.length) a (rs ++ xs)) (fun s => s.2.1.length) (a, rs ++ xs, r') ⟨rfl, trivial⟩ (Ent.refl _)
    ⟨ha, by simp; omega, rs.length + xs.length, by simp, rfl⟩ ?_
  rintro ⟨a', l, r2⟩ ⟨ha', hl, k, hk, hab⟩
  dsimp only at ha' hl hk hab ⊢
  refine sw_fact (fun w H => (H.oat (k := 1) rfl).form) ?_
  rintro ⟨A2, c2, rfl, hc1, hc2, hc3⟩
  ((iterate 2 refine sw_seq ?_); refine sw_region ?_; (iterate 3 refine so_1 rfl ?_))
  refine so_ld 0 rfl rfl rfl rfl rfl rfl (hC8 ha') rfl ?_
  ((iterate 2 refine so_1 rfl ?_); refine so_nil ?_; refine sn_then ?_)
  refine sw_if rfl (fun h => ?_) (fun h => ?_)
  · have hl64 : 64 ≤ l.length := by omega
    obtain ⟨g2, off2, rfl⟩ := hc3 (by omega)
    have htk : (u8s l).take (64 * 1) = u8s (l.take 64) := by simp [u8s, List.map_take]
    have hdk : (u8s l).drop (64 * 1) = u8s (l.drop 64) := by simp [u8s, List.map_drop]
    have ht64 : (l.take 64).length = 64 := by simp; omega
    (refine sw_skip ?_; refine sn_then ?_; refine sw_block ?_; refine sw_seq ?_)
    refine sw_draw2 flo 8 (pt g t_sha_Hash (hashC a' (.slice (some ⟨g2, off2, none⟩) l.length c2) (n + xs.length) true) :: F) [] rfl (by decide +kernel) (ent_keep 2 [0] rfl rfl) ?_
    ((iterate 6 refine sd_1 rfl (.inl rfl) ?_))
    refine sd_ld 0 rfl rfl rfl rfl rfl rfl (hC8 ha') rfl rfl ?_
    (refine sd_2 rfl rfl (by omega) ?_)
    refine sd_nil (sn_draw2 rfl (ent_nil _) ?_)
    refine sd_call rfl rfl rfl rfl (block_S (A := a') (l := l.take 64) (rest := [.slice (some ⟨g2, off2, none⟩) l.length c2, .int .i64 (n + xs.length), .bool true]) (fun w H => ?_) (by omega) ha') ?_
    · have := (Oat.take (H.oat (k := 1) rfl) (k := 64) hl64).sl
      rw [htk] at this
      unfold VL; rw [ht64]; exact this
    rintro _ _ rfl
    refine ⟨ent_nil _, sd_nil ?_⟩
    have hb8 := blockM_len a' (l.take 64)
    obtain ⟨a2, ha2⟩ : ∃ a2, a2 = blockM a' (l.take 64) := ⟨_, rfl⟩
    rw [← ha2] at hb8 ⊢
    (refine sn_then ?_; refine sw_region ?_; (iterate 4 refine so_1 rfl ?_))
    refine so_ld 0 rfl rfl rfl rfl rfl rfl (hC8 hb8) rfl ?_
    (refine so_2 rfl (by omega) ?_; (iterate 2 refine so_1 rfl ?_))
    refine so_ent (ent_row_drop (j := 64) hl64 1 rfl rfl rfl) ?_
    rw [hdk]
    refine so_st 0 rfl rfl rfl rfl rfl rfl rfl rfl (hS8 hb8) rfl ?_
    (refine so_nil ?_; refine sn_block ?_)
    refine sn_round (a2, l.drop 64, .slice (if c2 = 64 then some ⟨g2, off2, none⟩ else (some ⟨g2, off2, none⟩ : Option Addr).map (·.add (64 * 1))) (l.length - 64) (c2 - 64)) ⟨rfl, trivial⟩ ?_ ?_ ?_
    · exact ent_set 1 rfl (fun h hA => by have e : (l.drop 64).length = l.length - 64 := by simp
                                          dsimp only [rB]; rw [e]; exact hA) rfl
    · refine ⟨hb8, by simp; omega, ?_⟩
      cases k with
      | zero => omega
      | succ k =>
        refine ⟨k, by simp; omega, ?_⟩
        rw [← hab]
        show _ = absorb (k + 1) a' l
        rw [absorb, if_pos hl64, ha2]
    · show (l.drop 64).length < l.length
      simp; omega
  · (refine sw_exit ?_; refine sn_then_exit ?_; refine sn_loop_exit ?_; refine sn_block_exit ?_; refine sn_then ?_; refine sw_seq ?_; refine sw_region ?_; refine so_1 rfl ?_; refine so_nil ?_; refine sn_then ?_; refine sw_ret ?_)
    have he := absorb_end k a' l (by omega)
    rw [hab] at he
    refine sn_ret rfl (.tmp rfl .nil) (Ent.refl _) ?_
    refine ⟨rfl, .slice A2 l.length c2, ?_⟩
    rw [he]
end Go.Proofs.YtaglpaoipdmboaaGreat
/- Digests, part nine: New, and the digest of what was written. Conditions: not too many bytes. -/
namespace Go.Proofs.YtaglpaoipdmboaaGreat
open Go.Eng Go.RowKit

theorem New_S {b : World} {F : List SP} : SC Tryz.prog n_sha_New [] b F (fun v F' => ∃ g, v = .pointer (some ⟨g, 0, none⟩) ∧ F' = pt g t_sha_Hash (hashC beginL (.slice none 0 0) 0 true) :: rB (.slice none 0 0) [] :: F) :=
  fun w H => (New_spec w).mono fun _ w' ⟨g, h1, h2, B, x⟩ => ⟨_, _, h1, ⟨g, rfl, rfl⟩, (H.newOat (Fr.refl _ _) (Oat.nil w w.heap.size t_uint8 1)).alloc x B h2⟩

theorem ent_rB {F G : List SP} {v : Value} {n : Nat} {cs : List Value} {l : List Int} (k : Nat) (hk : nth F k = some (row t_uint8 1 v n cs)) (hl : n = l.length) (hc : cs = u8s l) (hG : setF F k (rB v l) = some G) : Ent F G := by
  subst hl; subst hc; exact ent_set k hk (fun _ h => h) hG
theorem vlB {b : World} {F : List SP} {v : Value} {l : List Int} {k : Nat} (hk : nth F k = some (rB v l)) : ∀ w, Sat b F w → VL (Value.int .u8) w v l := fun w H => (H.oat hk).sl
theorem vl1 {b : World} {F : List SP} {g t : Nat} {l : List Int} {n k : Nat} (hn : n = l.length) (hm : n ≤ 67108864) (hk : nth F k = some (pt g t (u8s l))) : ∀ w, Sat b F w → VL (Value.int .u8) w (.slice (some ⟨g, 0, none⟩) n n) l := fun w H => by
  subst hn
  exact (H.blk hk).sl (by simp) hm

theorem u8s_len (l : List Int) : (u8s l).length = l.length := by simp [u8s]
def zeroN (l : List Int) : Nat := (120 - (l.length + 1) % 64) % 64
def lenB (n : Int) (i : Nat) : Int := IntKind.u8.wrap ((IntKind.u64.wrap (IntKind.u64.wrap n * 8)).fdiv (2 ^ (56 - 8 * i)))
def lenL (n : Int) (i : Nat) : List Int := (List.range i).map (lenB n)
def endM (l : List Int) (n : Int) : List Int := l ++ [128] ++ List.replicate (zeroN l) 0 ++ lenL n 8
def idB (a : List Int) (i : Nat) : Int := IntKind.u8.wrap ((a.getD (i / 4) 0).fdiv (2 ^ (24 - 8 * (i % 4))))
def idM (a : List Int) : List Int := (List.range 32).map (idB a)
def idP (a : List Int) (i : Nat) : List Int := (List.range i).map (idB a) ++ List.replicate (32 - i) 0
theorem idP_len (a : List Int) (i : Nat) (h : i ≤ 32) : (idP a i).length = 32 := by simp [idP]; omega
theorem idP_set (a : List Int) (i : Nat) (h : i < 32) : (u8s (idP a i)).set i (.int .u8 (idB a i)) = u8s (idP a (i + 1)) := by
  have e : 32 - i = (32 - (i + 1)) + 1 := by omega
  simp only [u8s, ← List.map_set, idP]
  rw [List.set_append_right _ _ (by simp), e, List.replicate_succ, List.range_succ]
  simp
theorem idP_end (a : List Int) : idP a 32 = idM a := by simp [idP, idM]
theorem endM_len (l : List Int) (n : Int) : (endM l n).length % 64 = 0 ∧ (endM l n).length ≤ l.length + 80 := by
  simp only [endM, lenL, zeroN, List.length_append, List.length_replicate, List.length_map, List.length_range, List.length_cons, List.length_nil]
  omega
def sumA (a l : List Int) (n : Int) : List Int := (absorb (endM l n).length a (endM l n)).1
abbrev idV (l : List Int) : Value := .agg ⟨u8s l⟩
theorem tmod64 (k : Nat) : Int.tmod (k : Int) 64 = ((k % 64 : Nat) : Int) := by
  rw [Int.tmod_eq_emod_of_nonneg (by omega)]; omega
theorem hCw {a : List Int} {r : Value} {n : Int} {m : Bool} (h : a.length = 8) : segO (hashC a r n m) 0 8 = some (u32s a) := by
  match a, h with
  | [_, _, _, _, _, _, _, _], _ => rfl
theorem u32nth {a : List Int} {j : Nat} (h : j < a.length) : nth (u32s a) j = some (.int .u32 (a.getD j 0)) := by rw [nth_eq]; exact u32s_get a j h
theorem stO_ok {cs r : List Value} {o : Nat} {v : Value} (h : o < cs.length) (hr : cs.set o v = r) : stO cs o v = some r := by
  subst hr
  induction cs generalizing o with
  | nil => simp at h
  | cons c cs ih =>
    cases o with
    | zero => rfl
    | succ o => simp only [stO, ih (by simpa using h)]; rfl
theorem segO_all {cs : List Value} {n : Nat} (h : n = cs.length) : segO cs 0 n = some cs := by
  subst h
  induction cs with
  | nil => rfl
  | cons c cs ih => simp only [List.length_cons, segO, ih]

end Go.Proofs.YtaglpaoipdmboaaGreat
/- Digests, part ten: the digest of what was written: the walk. Conditions: not too many bytes. -/
namespace Go.Proofs.YtaglpaoipdmboaaGreat
open Go.Eng Go.RowKit

theorem hSum_S {b : World} {F : List SP} {g : Nat} {a rs : List Int} {r : Value} {n : Int} (ha : a.length = 8) (hlen : rs.length ≤ 1000000) :
    SC Tryz.prog n_p_sha_Hash_Sum [.pointer (some ⟨g, 0, none⟩)] b (pt g t_sha_Hash (hashC a r n true) :: rB r rs :: F) (fun v F' => v = .tuple ⟨[idV (idM (sumA a rs n)), .int .i64 0]⟩ ∧ F' = pt g t_sha_Hash (hashC a r n true) :: rB r rs :: F) := by
  have ha8 : (u32s a).length = 8 := by rw [u32s_len, ha]
  refine enterS F_p_sha_Hash_Sum rfl rfl rfl ?_
  (refine sw_seq ?_; refine sw_region ?_)
  refine so_new rfl rfl rfl rfl rfl fun gi => ?_
  (refine so_1 rfl ?_; refine so_nil ?_; refine sn_then ?_; (iterate 2 refine sw_seq ?_); refine sw_region ?_; refine so_1 rfl ?_)
  refine so_callE rfl rfl rfl (SC.ofEq fun w H => none_spec (H.blk (k := 1) rfl) ha) ?_
  (refine so_nil ?_; refine sn_then ?_; refine sw_cond_f rfl ?_; refine sw_skip ?_; refine sn_then ?_; refine sw_seq ?_; refine sw_region ?_; (iterate 3 refine so_1 rfl ?_))
  refine so_ldA 1 rfl rfl rfl rfl rfl rfl (hCw ha) rfl ?_
  refine so_new rfl rfl rfl rfl rfl fun ga => ?_
  refine so_stW 0 rfl rfl rfl rfl rfl rfl rfl (by rw [ha8]; rfl) (u32s_one _) (by rw [ha8]; rfl) ?_
  (refine so_nil ?_; refine sn_then ?_; refine sw_seq ?_; refine sw_region ?_; (iterate 3 refine so_1 rfl ?_))
  refine so_ld 2 rfl rfl rfl rfl rfl rfl (hC8 ha) rfl ?_
  refine so_call rfl rfl rfl (SC.ofMade fun w H => Clone_spec (vlB (k := 3) rfl w H) (by omega)) ?_
  rintro v4 _ rfl
  refine so_lit [.int .u8 128] rfl rfl rfl rfl rfl rfl rfl rfl rfl fun gl => ?_
  refine so_append 1 rfl rfl rfl rfl rfl rfl rfl rfl rfl (vl1 (l := [128]) (k := 0) rfl (by decide) rfl) (u8s_one [128]) (by simp; omega) (fun _ => rfl) fun v5 => ?_
  refine so_ent ((ent_rB (l := rs ++ [128]) 1 rfl (by simp) (by simp) rfl).trans (ent_keep 6 [1, 2, 3, 4, 5] rfl rfl)) ?_
  (refine so_1 rfl ?_; refine so_nil ?_; refine sn_then ?_; refine sw_seq ?_; refine sw_block ?_)
  -- zeros
  refine sw_loop (S := Nat × Value) (fun s => [(0, .pointer (some ⟨g, 0, none⟩)), (2, .pointer (some ⟨gi, 0, none⟩)), (4, .pointer (some ⟨ga, 0, none⟩)), (5, s.2)])
    (fun s => rB s.2 (rs ++ [128] ++ List.replicate s.1 0) :: pt ga t_sha_words (u32s a) :: pt gi t_api_ID (u8s (List.replicate 32 0)) :: pt g t_sha_Hash (hashC a r n true) :: rB r rs :: F)
    (fun s => s.1 ≤ zeroN rs) (fun s => zeroN rs - s.1) (0, v5) ⟨rfl, rfl, rfl, rfl, trivial⟩ (ent_rB 0 rfl (by simp) (by simp) rfl) (Nat.zero_le _) ?_
  rintro ⟨k, v⟩ hk
  dsimp only at hk ⊢
  have hL : (rs ++ [128] ++ List.replicate k 0).length = rs.length + 1 + k := by simp; omega
  have hz : zeroN rs = (120 - (rs.length + 1) % 64) % 64 := rfl
  refine sw_fact (fun w H => (H.oat (k := 0) rfl).form) ?_
  rintro ⟨A7, c7, rfl, _, _, _⟩
  ((iterate 2 refine sw_seq ?_); refine sw_region ?_; (iterate 2 refine so_1 rfl ?_); refine so_2 rfl (by omega) ?_; refine so_1 rfl ?_; refine so_nil ?_; refine sn_then ?_)
  refine sw_ifn rfl (fun h => ?_) (fun h => ?_) <;> rw [tmod64] at h
  · (refine sw_skip ?_; refine sn_then ?_; refine sw_block ?_; refine sw_region ?_; refine so_1 rfl ?_)
    refine so_lit [.int .u8 0] rfl rfl rfl rfl rfl rfl rfl rfl rfl fun gl => ?_
    refine so_append 1 rfl rfl rfl rfl rfl rfl rfl rfl rfl (vl1 (l := [0]) (k := 0) rfl (by decide) rfl) (u8s_one [0]) (by simp; omega) (fun _ => rfl) fun v8 => ?_
    refine so_ent ((ent_rB (l := rs ++ [128] ++ List.replicate (k + 1) 0) 1 rfl (by simp; omega) (by rw [List.replicate_succ']; simp) rfl).trans (ent_keep 6 [1, 2, 3, 4, 5] rfl rfl)) ?_
    (refine so_1 rfl ?_; refine so_nil ?_; refine sn_block ?_)
    refine sn_round (k + 1, v8) ⟨rfl, rfl, rfl, rfl, trivial⟩ (Ent.refl _) ?_ ?_
    · show k + 1 ≤ zeroN rs
      omega
    · show zeroN rs - (k + 1) < zeroN rs - k
      omega
  have h' : (rs ++ [128] ++ List.replicate k 0).length % 64 = 56 := by omega
  rw [hL] at h'
  obtain rfl : k = zeroN rs := by omega
  (refine sw_exit ?_; refine sn_then_exit ?_; refine sn_loop_exit ?_; refine sn_block_exit ?_; refine sn_then ?_; (iterate 2 refine sw_seq ?_); refine sw_region ?_; refine so_1 rfl ?_; refine so_nil ?_; refine sn_then ?_; refine sw_block ?_)
  -- the length
  generalize hP : rs ++ [128] ++ List.replicate (zeroN rs) 0 = p at *
  have hend : endM rs n = p ++ lenL n 8 := by rw [endM, hP]
  have hpl : p.length ≤ 1000100 := by omega
  refine sw_loop (S := Nat × Value) (fun s => [(0, .pointer (some ⟨g, 0, none⟩)), (2, .pointer (some ⟨gi, 0, none⟩)), (4, .pointer (some ⟨ga, 0, none⟩)), (5, s.2), (29, .int .i64 (s.1 : Int))])
    (fun s => rB s.2 (p ++ lenL n s.1) :: pt ga t_sha_words (u32s a) :: pt gi t_api_ID (u8s (List.replicate 32 0)) :: pt g t_sha_Hash (hashC a r n true) :: rB r rs :: F)
    (fun s => s.1 ≤ 8) (fun s => 8 - s.1) (0, .slice A7 p.length c7) ⟨rfl, rfl, rfl, rfl, rfl, trivial⟩ (ent_rB 0 rfl (by simp [lenL]) (by simp [lenL]) rfl) (Nat.zero_le _) ?_
  rintro ⟨k, v⟩ hk
  dsimp only at hk ⊢
  have hLL : ∀ j, (lenL n j).length = j := fun j => by simp [lenL]
  (refine sw_seq ?_; refine sw_region ?_; refine so_1 rfl ?_; refine so_nil ?_; refine sn_then ?_; refine sw_seq ?_)
  refine sw_if rfl (fun h => ?_) (fun h => ?_)
  · (refine sw_skip ?_; refine sn_then ?_; refine sw_seq ?_; refine sw_block ?_; refine sw_seq ?_; refine sw_region ?_; (iterate 2 refine so_1 rfl ?_); refine so_nil ?_; refine sn_then ?_; refine sw_region ?_; (iterate 4 refine so_1 rfl ?_))
    refine so_ld 3 rfl rfl rfl rfl rfl rfl (hC9 ha) rfl ?_
    ((iterate 3 refine so_1 rfl ?_); (iterate 2 refine so_2 rfl (by (unfold I64; omega)) ?_); refine so_2 rfl (by omega) ?_; refine so_1 rfl ?_)
    have e : min (56 - 8 * (k : Int)).toNat IntKind.u64.bits = 56 - 8 * k := by
      show min _ 64 = _
      omega
    refine so_know 43 (.int .u8 (lenB n k)) rfl (by rw [lenB, e]) ?_
    refine so_lit [.int .u8 (lenB n k)] rfl rfl rfl rfl rfl rfl rfl rfl rfl fun gl => ?_
    refine so_append 1 rfl rfl rfl rfl rfl rfl rfl rfl rfl (vl1 (l := [lenB n k]) (k := 0) rfl (by decide) rfl) (u8s_one [lenB n k]) (by simp [hLL]; omega) (fun _ => rfl) fun v8 => ?_
    refine so_ent ((ent_rB (l := p ++ lenL n (k + 1)) 1 rfl (by simp [hLL]; omega) (by simp [lenL, List.range_succ]) rfl).trans (ent_keep 6 [1, 2, 3, 4, 5] rfl rfl)) ?_
    (refine so_1 rfl ?_; refine so_nil ?_; refine sn_block ?_; refine sn_then ?_; refine sw_region ?_; refine so_2 rfl (by (unfold I64; omega)) ?_; refine so_1 rfl ?_; refine so_nil ?_)
    refine sn_round (k + 1, v8) ⟨rfl, rfl, rfl, rfl, rfl, trivial⟩ (Ent.refl _) ?_ ?_
    · show k + 1 ≤ 8
      omega
    · show 8 - (k + 1) < 8 - k
      omega
  obtain rfl : k = 8 := by omega
  (refine sw_exit ?_; refine sn_then_exit ?_; refine sn_loop_exit ?_; refine sn_block_exit ?_; refine sn_then ?_; refine sw_seq ?_; refine sw_block ?_)
  rw [← hend]
  have hEL := endM_len rs n
  generalize hE : endM rs n = l0 at *
  -- taken in
  refine sw_loop (S := List Int × List Int × Value) (fun s => [(0, .pointer (some ⟨g, 0, none⟩)), (2, .pointer (some ⟨gi, 0, none⟩)), (4, .pointer (some ⟨ga, 0, none⟩)), (5, s.2.2)])
    (fun s => rB s.2.2 s.2.1 :: pt ga t_sha_words (u32s s.1) :: pt gi t_api_ID (u8s (List.replicate 32 0)) :: pt g t_sha_Hash (hashC a r n true) :: rB r rs :: F)
    (fun s => s.1.length = 8 ∧ s.2.1.length % 64 = 0 ∧ s.2.1.length ≤ 1000100 ∧ ∃ k, s.2.1.length ≤ k ∧ absorb k s.1 s.2.1 = absorb l0.length a l0) (fun s => s.2.1.length) (a, l0, v) ⟨rfl, rfl, rfl, rfl, trivial⟩ (Ent.refl _)
    ⟨ha, hEL.1, by dsimp only; omega, l0.length, Nat.le_refl _, rfl⟩ ?_
  rintro ⟨a', l, r2⟩ ⟨ha', hl64, hl, k, hk, hab⟩
  dsimp only at ha' hl hk hab hl64 ⊢
  refine sw_fact (fun w H => (H.oat (k := 0) rfl).form) ?_
  rintro ⟨A2, c2, rfl, hc1, hc2, hc3⟩
  ((iterate 2 refine sw_seq ?_); refine sw_region ?_; (iterate 3 refine so_1 rfl ?_); refine so_nil ?_; refine sn_then ?_)
  refine sw_if rfl (fun h => ?_) (fun h => ?_)
  · have h64 : 64 ≤ l.length := by omega
    obtain ⟨g2, off2, rfl⟩ := hc3 (by omega)
    have htk : (u8s l).take (64 * 1) = u8s (l.take 64) := by simp [u8s, List.map_take]
    have hdk : (u8s l).drop (64 * 1) = u8s (l.drop 64) := by simp [u8s, List.map_drop]
    have ht64 : (l.take 64).length = 64 := by simp; omega
    (refine sw_skip ?_; refine sn_then ?_; refine sw_seq ?_; refine sw_block ?_; refine sw_region ?_; refine so_1 rfl ?_; refine so_2 rfl (by omega) ?_)
    refine so_ent (ent_keep 3 [1, 0, 2] rfl rfl) ?_
    refine so_call rfl rfl rfl (block_S0 (A := a') (l := l.take 64) (fun w H => ?_) (by omega) ha') ?_
    · have := (Oat.take (H.oat (k := 1) rfl) (k := 64) h64).sl
      rw [htk] at this
      unfold VL; rw [ht64]; exact this
    rintro _ _ rfl
    have hb8 := blockM_len a' (l.take 64)
    (refine so_nil ?_; refine sn_block ?_; refine sn_then ?_; refine sw_region ?_; refine so_1 rfl ?_; refine so_2 rfl (by omega) ?_; refine so_1 rfl ?_; refine so_nil ?_)
    refine sn_ent (ent_row_drop (j := 64) h64 1 rfl rfl rfl) ?_
    rw [hdk]
    refine sn_round (blockM a' (l.take 64), l.drop 64, .slice (if c2 = 64 then some ⟨g2, off2, none⟩ else (some ⟨g2, off2, none⟩ : Option Addr).map (·.add (64 * 1))) (l.length - 64) (c2 - 64)) ⟨rfl, rfl, rfl, rfl, trivial⟩ ?_ ?_ ?_
    · exact (ent_rB (l := l.drop 64) 1 rfl (by simp) rfl rfl).trans (ent_keep 3 [1, 0, 2] rfl rfl)
    · refine ⟨hb8, by simp; omega, by simp; omega, ?_⟩
      cases k with
      | zero => omega
      | succ k =>
        refine ⟨k, by simp; omega, ?_⟩
        rw [← hab]
        show _ = absorb (k + 1) a' l
        rw [absorb, if_pos h64]
    · show (l.drop 64).length < l.length
      simp; omega
  have hl0 : l.length < 64 := by omega
  have he := absorb_end k a' l hl0
  rw [hab] at he
  have hsum : sumA a rs n = a' := by rw [sumA, hE, he]
  rw [hsum]
  (refine sw_exit ?_; refine sn_then_exit ?_; refine sn_loop_exit ?_; refine sn_block_exit ?_; refine sn_then ?_; (iterate 2 refine sw_seq ?_); refine sw_region ?_; refine so_1 rfl ?_; refine so_nil ?_; refine sn_then ?_; refine sw_block ?_)
  -- the digest
  refine sw_loop (S := Nat) (fun s => [(0, .pointer (some ⟨g, 0, none⟩)), (2, .pointer (some ⟨gi, 0, none⟩)), (4, .pointer (some ⟨ga, 0, none⟩)), (55, .int .i64 (s : Int))])
    (fun s => pt ga t_sha_words (u32s a') :: pt gi t_api_ID (u8s (idP a' s)) :: pt g t_sha_Hash (hashC a r n true) :: rB r rs :: F)
    (fun s => s ≤ 32) (fun s => 32 - s) 0 ⟨rfl, rfl, rfl, rfl, trivial⟩ (ent_keep 3 [1, 2] rfl rfl) (Nat.zero_le _) ?_
  intro i hi
  have hpl := idP_len a' i hi
  (refine sw_seq ?_; refine sw_region ?_; refine so_1 rfl ?_; refine so_nil ?_; refine sn_then ?_; refine sw_seq ?_)
  refine sw_if rfl (fun h => ?_) (fun h => ?_)
  · (refine sw_skip ?_; refine sn_then ?_; refine sw_seq ?_; refine sw_block ?_; refine sw_seq ?_; refine sw_region ?_; (iterate 2 refine so_1 rfl ?_); refine so_nil ?_; refine sn_then ?_; refine sw_region ?_; (iterate 2 refine so_1 rfl ?_); refine so_2 rfl (by omega) ?_)
    have htd : IntKind.i64.wrap ((i : Int).tdiv 4) = ((i / 4 : Nat) : Int) := by
      rw [Int.tdiv_eq_ediv_of_nonneg (by omega), I64.wrap (by unfold I64; omega)]; omega
    have htm : (i : Int).tmod 4 = ((i % 4 : Nat) : Int) := by
      rw [Int.tmod_eq_emod_of_nonneg (by omega)]; omega
    refine so_ix (i / 4) rfl rfl rfl htd (by omega) ?_
    refine so_ld 0 rfl rfl rfl rfl rfl rfl (by rw [mulz_eq]; simpa using u32nth (a := a') (j := i / 4) (by omega)) rfl ?_
    (refine so_1 rfl ?_; refine so_2 rfl (by omega) ?_; (iterate 2 refine so_2 rfl (by (unfold I64; omega)) ?_); refine so_2 rfl (by omega) ?_; refine so_1 rfl ?_; refine so_2 rfl (by omega) ?_)
    have e : min (24 - 8 * ((i % 4 : Nat) : Int)).toNat IntKind.u32.bits = 24 - 8 * (i % 4) := by
      show min _ 32 = _
      omega
    refine so_know 68 (.int .u8 (idB a' i)) rfl (by simp only [htm, e, idB, List.getD_eq_getElem?_getD]) ?_
    skip
    refine so_st 1 rfl rfl rfl rfl rfl rfl rfl rfl (stO_ok (r := u8s (idP a' (i + 1))) (by rw [mulz_eq]; simp [hpl]; omega) (by rw [mulz_eq]; simpa using idP_set a' i (by omega))) rfl ?_
    (refine so_nil ?_; refine sn_block ?_; refine sn_then ?_; refine sw_region ?_; refine so_2 rfl (by (unfold I64; omega)) ?_; refine so_1 rfl ?_; refine so_nil ?_)
    refine sn_round (i + 1) ⟨rfl, rfl, rfl, rfl, trivial⟩ (Ent.refl _) ?_ ?_
    · show i + 1 ≤ 32
      omega
    · show 32 - (i + 1) < 32 - i
      omega
  obtain rfl : i = 32 := by omega
  rw [idP_end] at *
  generalize idM a' = dg at *
  (refine sw_exit ?_; refine sn_then_exit ?_; refine sn_loop_exit ?_; refine sn_block_exit ?_; refine sn_then ?_; refine sw_seq ?_; refine sw_region ?_)
  have hseg : segO (u8s dg) 0 32 = some (u8s dg) := segO_all (by simp [hpl])
  refine so_ldA 1 rfl rfl rfl rfl rfl rfl hseg rfl ?_
  refine so_stW 1 rfl rfl rfl rfl rfl rfl rfl (by rw [u8s_len, hpl]; rfl) (u8s_one _) rfl ?_
  (refine so_1 rfl ?_; refine so_nil ?_; refine sn_then ?_; refine sw_ret ?_)
  refine sn_ret rfl (.whole 1 rfl rfl rfl rfl (by rw [u8s_len, hpl]; rfl) (.tmp rfl .nil)) (ent_keep 2 [] rfl rfl) ?_
  exact ⟨rfl, rfl⟩
end Go.Proofs.YtaglpaoipdmboaaGreat
/- Digests, part eleven: Sum, Cut, Of, Has, Compare. Conditions: not too many bytes. -/
namespace Go.Proofs.YtaglpaoipdmboaaGreat
open Go.Eng Go.RowKit

instance : EqT Tryz.prog t_api_ID := ⟨by kernel_rfl⟩
instance : ArrI Tryz.prog t_api_ID 32 .u8 := by
  obtain ⟨j, hj, hs, _⟩ := TT.info (P := Tryz.prog) t_uint8 _ rfl
  exact ⟨⟨t_uint8, j, by kernel_rfl, by kernel_rfl, hj, hs⟩⟩

/-- The digest of bytes. -/
def sumM (xs : List Int) : List Int := idM (sumA (absorb xs.length beginL xs).1 (absorb xs.length beginL xs).2 xs.length)
theorem sumM_len (xs : List Int) : (sumM xs).length = 32 := by simp [sumM, idM]
theorem absorb_len (k : Nat) (a l : List Int) (ha : a.length = 8) : (absorb k a l).1.length = 8 ∧ (absorb k a l).2.length ≤ l.length := by
  induction k generalizing a l with
  | zero => exact ⟨ha, Nat.le_refl _⟩
  | succ k ih =>
    rw [absorb]
    split
    · have := ih (blockM a (l.take 64)) (l.drop 64) (blockM_len _ _)
      refine ⟨this.1, Nat.le_trans this.2 (by simp)⟩
    · exact ⟨ha, Nat.le_refl _⟩

theorem segID {l : List Int} (h : l.length = 32) : segO (u8s l) 0 32 = some (u8s l) := segO_all (by simp [h])
theorem Sum_S {b : World} {F : List SP} {vb : Value} {xs : List Int} (hlen : xs.length ≤ 1000000) (hb : ∀ w, Sat b F w → VL (Value.int .u8) w vb xs) :
    SC Tryz.prog n_sha_Sum [vb] b F (fun v F' => v = idV (sumM xs) ∧ F' = F) := by
  have hsl := sumM_len xs
  have hd : sumM xs = idM (sumA (absorb xs.length beginL xs).1 (absorb xs.length beginL xs).2 xs.length) := rfl
  have hal := absorb_len xs.length beginL xs rfl
  refine enterS F_sha_Sum rfl rfl rfl ?_
  (refine sw_seq ?_; refine sw_region ?_)
  refine so_new rfl rfl rfl rfl rfl fun gi => ?_
  (refine so_nil ?_; refine sn_then ?_; refine sw_seq ?_; refine sw_region ?_)
  refine so_call rfl rfl rfl (New_S) ?_
  rintro _ _ ⟨g, rfl, rfl⟩
  (refine so_1 rfl ?_; refine so_nil ?_; refine sn_then ?_; refine sw_seq ?_; refine sw_region ?_; (iterate 2 refine so_1 rfl ?_))
  refine so_call rfl rfl rfl (Write_S (F := pt gi t_api_ID (u8s (List.replicate 32 0)) :: F) (a := beginL) (rs := []) (n := 0) (xs := xs) rfl (by omega) (by simp; omega) (up hb (ent_keep 1 [] rfl rfl))) ?_
  rintro _ _ ⟨rfl, r', rfl⟩
  (refine so_nil ?_; refine sn_then ?_; refine sw_seq ?_; refine sw_region ?_; refine so_1 rfl ?_)
  have e0 : ([] : List Int).length + xs.length = xs.length := by simp
  have e1 : (0 : Int) + xs.length = xs.length := by simp
  simp only [e0, e1, List.nil_append] at *
  refine so_call rfl rfl rfl (hSum_S hal.1 (by omega)) ?_
  rintro _ _ ⟨rfl, rfl⟩
  rw [← hd]
  generalize sumM xs = d at *
  ((iterate 3 refine so_1 rfl ?_))
  refine so_new rfl rfl rfl rfl rfl fun g4 => ?_
  skip
  refine so_stW 0 rfl rfl rfl rfl rfl rfl rfl (by rw [u8s_len, hsl]; rfl) (u8s_one _) (by simp [hsl]) ?_
  (refine so_1 rfl ?_; refine so_nil ?_; refine sn_then ?_; refine sw_seq ?_; refine sw_region ?_)
  refine so_ldA 0 rfl rfl rfl rfl rfl rfl (segID hsl) rfl ?_
  refine so_stW 3 rfl rfl rfl rfl rfl rfl rfl (by rw [u8s_len, hsl]; rfl) (u8s_one _) (by simp [hsl]) ?_
  (refine so_nil ?_; refine sn_then ?_; refine sw_ret ?_)
  refine sn_ret rfl (.whole 3 rfl rfl rfl rfl (by rw [u8s_len, hsl]; rfl) .nil) (ent_keep 4 [] rfl rfl) ?_
  exact ⟨rfl, rfl⟩

/-- Cut to a width. -/
def cutM (l : List Int) (n : Nat) : List Int := l.take n ++ List.replicate (32 - n) 0
theorem cutM_len (l : List Int) (n : Nat) (h : l.length = 32) (hn : n ≤ 32) : (cutM l n).length = 32 := by simp [cutM, h]; omega
def cutR (l : List Int) (w : Int) : List Int := if w < 1 ∨ 32 < w then List.replicate 32 0 else cutM l w.toNat
def cutE (w : Int) : Int := if w < 1 ∨ 32 < w then 3 else 0
theorem cutR_len (l : List Int) (w : Int) (h : l.length = 32) : (cutR l w).length = 32 := by
  unfold cutR; split
  · simp
  · exact cutM_len l _ h (by omega)
theorem Cut_S {b : World} {F : List SP} {l : List Int} {w : Int} (hl : l.length = 32) :
    SC Tryz.prog n_sha_Cut [idV l, .int .i64 w] b F (fun v F' => v = .tuple ⟨[idV (cutR l w), .int .i64 (cutE w)]⟩ ∧ F' = F) := by
  refine enterS F_sha_Cut rfl rfl rfl ?_
  (refine sw_seq ?_; refine sw_region ?_)
  refine so_box rfl rfl rfl rfl rfl fun g2 => ?_
  refine so_new rfl rfl rfl rfl rfl fun g4 => ?_
  (refine so_1 rfl ?_; refine so_nil ?_; refine sn_then ?_; (iterate 2 refine sw_seq ?_); refine sw_region ?_; (iterate 3 refine so_1 rfl ?_))
  refine so_if 8 rfl (fun h => ?_) (fun h => ?_)
  · ((iterate 3 refine so_1 rfl ?_); refine so_nil ?_; refine sn_then ?_; refine sw_cond_t rfl ?_; refine sw_seq ?_; refine sw_region ?_; refine so_1 rfl ?_; refine so_s1 0 rfl rfl rfl rfl ?_; refine so_1 rfl ?_; refine so_nil ?_; refine sn_then ?_; refine sw_ret ?_; refine sn_then_ret ?_)
    refine sn_ret rfl (.agg 0 rfl rfl rfl rfl rfl (.tmp rfl .nil)) (ent_keep 2 [] rfl rfl) ?_
    exact ⟨by rw [cutR, cutE, if_pos (.inl h), if_pos (.inl h)]; rfl, rfl⟩
  ((iterate 3 refine so_1 rfl ?_); refine so_nil ?_; refine sn_then ?_)
  refine sw_if rfl (fun h' => ?_) (fun h' => ?_)
  · (refine sw_seq ?_; refine sw_region ?_; refine so_1 rfl ?_; refine so_s1 0 rfl rfl rfl rfl ?_; refine so_1 rfl ?_; refine so_nil ?_; refine sn_then ?_; refine sw_ret ?_; refine sn_then_ret ?_)
    refine sn_ret rfl (.agg 0 rfl rfl rfl rfl rfl (.tmp rfl .nil)) (ent_keep 2 [] rfl rfl) ?_
    exact ⟨by rw [cutR, cutE, if_pos (.inr h'), if_pos (.inr h')]; rfl, rfl⟩
  (refine sw_skip ?_; refine sn_then ?_; refine sw_seq ?_; refine sw_region ?_; refine so_1 rfl ?_; refine so_2 rfl (by omega) ?_)
  have hw : (32 - w.toNat : Nat) ≤ 32 := by omega
  have hcut : spl (u8s l) (if 32 = w.toNat then 0 else 0 + w.toNat * 1) (List.replicate (((32 : Nat) : Int).toNat - w.toNat) (.int .u8 0)) = u8s (cutM l w.toNat) := by
    by_cases h32 : 32 = w.toNat
    · rw [if_pos h32, ← h32]; simp [spl, cutM, u8s, hl]; rw [List.take_of_length_le (by simp [hl])]
    · rw [if_neg h32]
      have e1 : 0 + w.toNat * 1 = w.toNat := by omega
      have e2 : ((32 : Nat) : Int).toNat - w.toNat = 32 - w.toNat := by omega
      have e3 : w.toNat + (32 - w.toNat) = 32 := by omega
      rw [e1, e2]
      simp [spl, cutM, u8s, e3, hl]
  refine so_clear 1 rfl rfl rfl rfl rfl rfl rfl rfl (by simp [hl]; split <;> omega) ?_
  rw [hcut]
  have hcl := cutM_len l w.toNat hl (by omega)
  have hR : cutR l w = cutM l w.toNat := by rw [cutR, if_neg (by omega)]
  have hE : cutE w = 0 := by rw [cutE, if_neg (by omega)]
  rw [hR, hE]
  generalize cutM l w.toNat = d at *
  (refine so_nil ?_; refine sn_then ?_; refine sw_seq ?_; refine sw_region ?_)
  refine so_ldA 1 rfl rfl rfl rfl rfl rfl (segID hcl) rfl ?_
  refine so_stW 0 rfl rfl rfl rfl rfl rfl rfl (by rw [u8s_len, hcl]; rfl) (u8s_one _) (by simp [hcl]) ?_
  (refine so_1 rfl ?_; refine so_nil ?_; refine sn_then ?_; refine sw_ret ?_)
  refine sn_ret rfl (.whole 0 rfl rfl rfl rfl (by rw [u8s_len, hcl]; rfl) (.tmp rfl .nil)) (ent_keep 2 [] rfl rfl) ?_
  exact ⟨rfl, rfl⟩

theorem Of_S {b : World} {F : List SP} {vb : Value} {xs : List Int} {w : Int} (hlen : xs.length ≤ 1000000) (hb : ∀ w, Sat b F w → VL (Value.int .u8) w vb xs) :
    SC Tryz.prog n_sha_Of [vb, .int .i64 w] b F (fun v F' => v = .tuple ⟨[idV (cutR (sumM xs) w), .int .i64 (cutE w)]⟩ ∧ F' = F) := by
  have hcl := cutR_len (sumM xs) w (sumM_len xs)
  refine enterS F_sha_Of rfl rfl rfl ?_
  (refine sw_seq ?_; refine sw_region ?_)
  refine so_new rfl rfl rfl rfl rfl fun g4 => ?_
  (refine so_1 rfl ?_; refine so_nil ?_; refine sn_then ?_; refine sw_seq ?_; refine sw_region ?_; refine so_1 rfl ?_)
  refine so_callE rfl rfl rfl (Sum_S hlen (up hb (ent_keep 1 [] rfl rfl))) ?_
  (refine so_1 rfl ?_)
  refine so_callE rfl rfl rfl (Cut_S (sumM_len xs)) ?_
  generalize cutR (sumM xs) w = d at *
  ((iterate 2 refine so_1 rfl ?_))
  refine so_stW 0 rfl rfl rfl rfl rfl rfl rfl (by rw [u8s_len, hcl]; rfl) (u8s_one _) (by simp [hcl]) ?_
  (refine so_1 rfl ?_; refine so_nil ?_; refine sn_then ?_; refine sw_ret ?_)
  refine sn_ret rfl (.whole 0 rfl rfl rfl rfl (by rw [u8s_len, hcl]; rfl) (.tmp rfl .nil)) (ent_keep 1 [] rfl rfl) ?_
  exact ⟨rfl, rfl⟩

/-- Has a digest a width? -/
def hasM (l : List Int) (w : Int) : Bool := decide (cutE w = 0) && decide (cutR l w = l)
theorem Has_S {b : World} {F : List SP} {l : List Int} {w : Int} (hl : l.length = 32) :
    SC Tryz.prog n_sha_Has [idV l, .int .i64 w] b F (fun v F' => v = .bool (hasM l w) ∧ F' = F) := by
  have hcl := cutR_len l w hl
  refine enterS F_sha_Has rfl rfl rfl ?_
  repeat (first | refine sw_seq ?_ | refine sw_region ?_ | refine sw_block ?_ | refine so_nil ?_ | refine sn_then ?_ | refine sw_skip ?_ | refine sw_exit ?_ | refine sw_ret ?_ | refine sn_then_ret ?_ | refine sn_then_exit ?_ | refine sn_block ?_ | refine sn_block_ret ?_ | refine sn_block_exit ?_ | refine sn_block_other rfl ?_ | refine sn_loop_ret ?_ | refine sn_loop_exit ?_ | refine sw_cond_t rfl ?_ | refine sw_cond_f rfl ?_ | refine so_1 rfl ?_ | refine so_2 rfl (by first | with_reducible exact True.intro | omega | (unfold I64; omega) | (show (0 : Int) ≤ _; omega) | (show _ ≠ _; omega) | (simp; done) | (simp; omega) | (simp only [List.length_append, List.length_map, List.length_cons, List.length_nil, List.length_replicate, List.length_take, List.length_drop] at *; omega)) ?_ | refine so_l 0 rfl rfl rfl ?_ | refine so_l 1 rfl rfl rfl ?_ | refine so_l 2 rfl rfl rfl ?_ | refine so_l 3 rfl rfl rfl ?_ | refine so_l 4 rfl rfl rfl ?_ | refine so_l 5 rfl rfl rfl ?_ | refine so_l 6 rfl rfl rfl ?_ | refine so_l 7 rfl rfl rfl ?_ | refine so_s1 0 rfl rfl rfl rfl ?_ | refine so_s1 1 rfl rfl rfl rfl ?_ | refine so_s1 2 rfl rfl rfl rfl ?_ | refine so_s1 3 rfl rfl rfl rfl ?_ | refine so_s1 4 rfl rfl rfl rfl ?_ | refine so_s1 5 rfl rfl rfl rfl ?_ | refine so_s1 6 rfl rfl rfl rfl ?_ | refine so_s1 7 rfl rfl rfl rfl ?_ | refine so_l 8 rfl rfl rfl ?_ | refine so_l 9 rfl rfl rfl ?_ | refine so_l 10 rfl rfl rfl ?_ | refine so_l 11 rfl rfl rfl ?_ | refine so_l 12 rfl rfl rfl ?_ | refine so_l 13 rfl rfl rfl ?_ | refine so_l 14 rfl rfl rfl ?_ | refine so_l 15 rfl rfl rfl ?_ | refine so_l 16 rfl rfl rfl ?_ | refine so_l 17 rfl rfl rfl ?_)
  refine so_box rfl rfl rfl rfl rfl fun g2 => ?_
  repeat (first | refine sw_seq ?_ | refine sw_region ?_ | refine sw_block ?_ | refine so_nil ?_ | refine sn_then ?_ | refine sw_skip ?_ | refine sw_exit ?_ | refine sw_ret ?_ | refine sn_then_ret ?_ | refine sn_then_exit ?_ | refine sn_block ?_ | refine sn_block_ret ?_ | refine sn_block_exit ?_ | refine sn_block_other rfl ?_ | refine sn_loop_ret ?_ | refine sn_loop_exit ?_ | refine sw_cond_t rfl ?_ | refine sw_cond_f rfl ?_ | refine so_1 rfl ?_ | refine so_2 rfl (by first | with_reducible exact True.intro | omega | (unfold I64; omega) | (show (0 : Int) ≤ _; omega) | (show _ ≠ _; omega) | (simp; done) | (simp; omega) | (simp only [List.length_append, List.length_map, List.length_cons, List.length_nil, List.length_replicate, List.length_take, List.length_drop] at *; omega)) ?_ | refine so_l 0 rfl rfl rfl ?_ | refine so_l 1 rfl rfl rfl ?_ | refine so_l 2 rfl rfl rfl ?_ | refine so_l 3 rfl rfl rfl ?_ | refine so_l 4 rfl rfl rfl ?_ | refine so_l 5 rfl rfl rfl ?_ | refine so_l 6 rfl rfl rfl ?_ | refine so_l 7 rfl rfl rfl ?_ | refine so_s1 0 rfl rfl rfl rfl ?_ | refine so_s1 1 rfl rfl rfl rfl ?_ | refine so_s1 2 rfl rfl rfl rfl ?_ | refine so_s1 3 rfl rfl rfl rfl ?_ | refine so_s1 4 rfl rfl rfl rfl ?_ | refine so_s1 5 rfl rfl rfl rfl ?_ | refine so_s1 6 rfl rfl rfl rfl ?_ | refine so_s1 7 rfl rfl rfl rfl ?_ | refine so_l 8 rfl rfl rfl ?_ | refine so_l 9 rfl rfl rfl ?_ | refine so_l 10 rfl rfl rfl ?_ | refine so_l 11 rfl rfl rfl ?_ | refine so_l 12 rfl rfl rfl ?_ | refine so_l 13 rfl rfl rfl ?_ | refine so_l 14 rfl rfl rfl ?_ | refine so_l 15 rfl rfl rfl ?_ | refine so_l 16 rfl rfl rfl ?_ | refine so_l 17 rfl rfl rfl ?_)
  refine so_ldA 0 rfl rfl rfl rfl rfl rfl (segID hl) rfl ?_
  repeat (first | refine sw_seq ?_ | refine sw_region ?_ | refine sw_block ?_ | refine so_nil ?_ | refine sn_then ?_ | refine sw_skip ?_ | refine sw_exit ?_ | refine sw_ret ?_ | refine sn_then_ret ?_ | refine sn_then_exit ?_ | refine sn_block ?_ | refine sn_block_ret ?_ | refine sn_block_exit ?_ | refine sn_block_other rfl ?_ | refine sn_loop_ret ?_ | refine sn_loop_exit ?_ | refine sw_cond_t rfl ?_ | refine sw_cond_f rfl ?_ | refine so_1 rfl ?_ | refine so_2 rfl (by first | with_reducible exact True.intro | omega | (unfold I64; omega) | (show (0 : Int) ≤ _; omega) | (show _ ≠ _; omega) | (simp; done) | (simp; omega) | (simp only [List.length_append, List.length_map, List.length_cons, List.length_nil, List.length_replicate, List.length_take, List.length_drop] at *; omega)) ?_ | refine so_l 0 rfl rfl rfl ?_ | refine so_l 1 rfl rfl rfl ?_ | refine so_l 2 rfl rfl rfl ?_ | refine so_l 3 rfl rfl rfl ?_ | refine so_l 4 rfl rfl rfl ?_ | refine so_l 5 rfl rfl rfl ?_ | refine so_l 6 rfl rfl rfl ?_ | refine so_l 7 rfl rfl rfl ?_ | refine so_s1 0 rfl rfl rfl rfl ?_ | refine so_s1 1 rfl rfl rfl rfl ?_ | refine so_s1 2 rfl rfl rfl rfl ?_ | refine so_s1 3 rfl rfl rfl rfl ?_ | refine so_s1 4 rfl rfl rfl rfl ?_ | refine so_s1 5 rfl rfl rfl rfl ?_ | refine so_s1 6 rfl rfl rfl rfl ?_ | refine so_s1 7 rfl rfl rfl rfl ?_ | refine so_l 8 rfl rfl rfl ?_ | refine so_l 9 rfl rfl rfl ?_ | refine so_l 10 rfl rfl rfl ?_ | refine so_l 11 rfl rfl rfl ?_ | refine so_l 12 rfl rfl rfl ?_ | refine so_l 13 rfl rfl rfl ?_ | refine so_l 14 rfl rfl rfl ?_ | refine so_l 15 rfl rfl rfl ?_ | refine so_l 16 rfl rfl rfl ?_ | refine so_l 17 rfl rfl rfl ?_)
  refine so_callE rfl rfl rfl (Cut_S hl) ?_
  unfold hasM
  generalize cutR l w = d at *
  repeat (first | refine sw_seq ?_ | refine sw_region ?_ | refine sw_block ?_ | refine so_nil ?_ | refine sn_then ?_ | refine sw_skip ?_ | refine sw_exit ?_ | refine sw_ret ?_ | refine sn_then_ret ?_ | refine sn_then_exit ?_ | refine sn_block ?_ | refine sn_block_ret ?_ | refine sn_block_exit ?_ | refine sn_block_other rfl ?_ | refine sn_loop_ret ?_ | refine sn_loop_exit ?_ | refine sw_cond_t rfl ?_ | refine sw_cond_f rfl ?_ | refine so_1 rfl ?_ | refine so_2 rfl (by first | with_reducible exact True.intro | omega | (unfold I64; omega) | (show (0 : Int) ≤ _; omega) | (show _ ≠ _; omega) | (simp; done) | (simp; omega) | (simp only [List.length_append, List.length_map, List.length_cons, List.length_nil, List.length_replicate, List.length_take, List.length_drop] at *; omega)) ?_ | refine so_l 0 rfl rfl rfl ?_ | refine so_l 1 rfl rfl rfl ?_ | refine so_l 2 rfl rfl rfl ?_ | refine so_l 3 rfl rfl rfl ?_ | refine so_l 4 rfl rfl rfl ?_ | refine so_l 5 rfl rfl rfl ?_ | refine so_l 6 rfl rfl rfl ?_ | refine so_l 7 rfl rfl rfl ?_ | refine so_s1 0 rfl rfl rfl rfl ?_ | refine so_s1 1 rfl rfl rfl rfl ?_ | refine so_s1 2 rfl rfl rfl rfl ?_ | refine so_s1 3 rfl rfl rfl rfl ?_ | refine so_s1 4 rfl rfl rfl rfl ?_ | refine so_s1 5 rfl rfl rfl rfl ?_ | refine so_s1 6 rfl rfl rfl rfl ?_ | refine so_s1 7 rfl rfl rfl rfl ?_ | refine so_l 8 rfl rfl rfl ?_ | refine so_l 9 rfl rfl rfl ?_ | refine so_l 10 rfl rfl rfl ?_ | refine so_l 11 rfl rfl rfl ?_ | refine so_l 12 rfl rfl rfl ?_ | refine so_l 13 rfl rfl rfl ?_ | refine so_l 14 rfl rfl rfl ?_ | refine so_l 15 rfl rfl rfl ?_ | refine so_l 16 rfl rfl rfl ?_ | refine so_l 17 rfl rfl rfl ?_)
  refine so_new rfl rfl rfl rfl rfl fun g5 => ?_
  refine so_stW 0 rfl rfl rfl rfl rfl rfl rfl (by rw [u8s_len, hcl]; rfl) (u8s_one _) (by simp [hcl]) ?_
  repeat (first | refine sw_seq ?_ | refine sw_region ?_ | refine sw_block ?_ | refine so_nil ?_ | refine sn_then ?_ | refine sw_skip ?_ | refine sw_exit ?_ | refine sw_ret ?_ | refine sn_then_ret ?_ | refine sn_then_exit ?_ | refine sn_block ?_ | refine sn_block_ret ?_ | refine sn_block_exit ?_ | refine sn_block_other rfl ?_ | refine sn_loop_ret ?_ | refine sn_loop_exit ?_ | refine sw_cond_t rfl ?_ | refine sw_cond_f rfl ?_ | refine so_1 rfl ?_ | refine so_2 rfl (by first | with_reducible exact True.intro | omega | (unfold I64; omega) | (show (0 : Int) ≤ _; omega) | (show _ ≠ _; omega) | (simp; done) | (simp; omega) | (simp only [List.length_append, List.length_map, List.length_cons, List.length_nil, List.length_replicate, List.length_take, List.length_drop] at *; omega)) ?_ | refine so_l 0 rfl rfl rfl ?_ | refine so_l 1 rfl rfl rfl ?_ | refine so_l 2 rfl rfl rfl ?_ | refine so_l 3 rfl rfl rfl ?_ | refine so_l 4 rfl rfl rfl ?_ | refine so_l 5 rfl rfl rfl ?_ | refine so_l 6 rfl rfl rfl ?_ | refine so_l 7 rfl rfl rfl ?_ | refine so_s1 0 rfl rfl rfl rfl ?_ | refine so_s1 1 rfl rfl rfl rfl ?_ | refine so_s1 2 rfl rfl rfl rfl ?_ | refine so_s1 3 rfl rfl rfl rfl ?_ | refine so_s1 4 rfl rfl rfl rfl ?_ | refine so_s1 5 rfl rfl rfl rfl ?_ | refine so_s1 6 rfl rfl rfl rfl ?_ | refine so_s1 7 rfl rfl rfl rfl ?_ | refine so_l 8 rfl rfl rfl ?_ | refine so_l 9 rfl rfl rfl ?_ | refine so_l 10 rfl rfl rfl ?_ | refine so_l 11 rfl rfl rfl ?_ | refine so_l 12 rfl rfl rfl ?_ | refine so_l 13 rfl rfl rfl ?_ | refine so_l 14 rfl rfl rfl ?_ | refine so_l 15 rfl rfl rfl ?_ | refine so_l 16 rfl rfl rfl ?_ | refine so_l 17 rfl rfl rfl ?_)
  refine so_if 15 rfl (fun h => ?_) (fun h => ?_)
  · repeat (first | refine sw_seq ?_ | refine sw_region ?_ | refine sw_block ?_ | refine so_nil ?_ | refine sn_then ?_ | refine sw_skip ?_ | refine sw_exit ?_ | refine sw_ret ?_ | refine sn_then_ret ?_ | refine sn_then_exit ?_ | refine sn_block ?_ | refine sn_block_ret ?_ | refine sn_block_exit ?_ | refine sn_block_other rfl ?_ | refine sn_loop_ret ?_ | refine sn_loop_exit ?_ | refine sw_cond_t rfl ?_ | refine sw_cond_f rfl ?_ | refine so_1 rfl ?_ | refine so_2 rfl (by first | with_reducible exact True.intro | omega | (unfold I64; omega) | (show (0 : Int) ≤ _; omega) | (show _ ≠ _; omega) | (simp; done) | (simp; omega) | (simp only [List.length_append, List.length_map, List.length_cons, List.length_nil, List.length_replicate, List.length_take, List.length_drop] at *; omega)) ?_ | refine so_l 0 rfl rfl rfl ?_ | refine so_l 1 rfl rfl rfl ?_ | refine so_l 2 rfl rfl rfl ?_ | refine so_l 3 rfl rfl rfl ?_ | refine so_l 4 rfl rfl rfl ?_ | refine so_l 5 rfl rfl rfl ?_ | refine so_l 6 rfl rfl rfl ?_ | refine so_l 7 rfl rfl rfl ?_ | refine so_s1 0 rfl rfl rfl rfl ?_ | refine so_s1 1 rfl rfl rfl rfl ?_ | refine so_s1 2 rfl rfl rfl rfl ?_ | refine so_s1 3 rfl rfl rfl rfl ?_ | refine so_s1 4 rfl rfl rfl rfl ?_ | refine so_s1 5 rfl rfl rfl rfl ?_ | refine so_s1 6 rfl rfl rfl rfl ?_ | refine so_s1 7 rfl rfl rfl rfl ?_ | refine so_l 8 rfl rfl rfl ?_ | refine so_l 9 rfl rfl rfl ?_ | refine so_l 10 rfl rfl rfl ?_ | refine so_l 11 rfl rfl rfl ?_ | refine so_l 12 rfl rfl rfl ?_ | refine so_l 13 rfl rfl rfl ?_ | refine so_l 14 rfl rfl rfl ?_ | refine so_l 15 rfl rfl rfl ?_ | refine so_l 16 rfl rfl rfl ?_ | refine so_l 17 rfl rfl rfl ?_)
    refine so_ldA 0 rfl rfl rfl rfl rfl rfl (segID hcl) rfl ?_
    refine so_ldA 1 rfl rfl rfl rfl rfl rfl (segID hl) rfl ?_
    refine so_pu rfl (pu_eqI (as00 := d) (bs := l) rfl rfl hcl hl) rfl ?_
    repeat (first | refine sw_seq ?_ | refine sw_region ?_ | refine sw_block ?_ | refine so_nil ?_ | refine sn_then ?_ | refine sw_skip ?_ | refine sw_exit ?_ | refine sw_ret ?_ | refine sn_then_ret ?_ | refine sn_then_exit ?_ | refine sn_block ?_ | refine sn_block_ret ?_ | refine sn_block_exit ?_ | refine sn_block_other rfl ?_ | refine sn_loop_ret ?_ | refine sn_loop_exit ?_ | refine sw_cond_t rfl ?_ | refine sw_cond_f rfl ?_ | refine so_1 rfl ?_ | refine so_2 rfl (by first | with_reducible exact True.intro | omega | (unfold I64; omega) | (show (0 : Int) ≤ _; omega) | (show _ ≠ _; omega) | (simp; done) | (simp; omega) | (simp only [List.length_append, List.length_map, List.length_cons, List.length_nil, List.length_replicate, List.length_take, List.length_drop] at *; omega)) ?_ | refine so_l 0 rfl rfl rfl ?_ | refine so_l 1 rfl rfl rfl ?_ | refine so_l 2 rfl rfl rfl ?_ | refine so_l 3 rfl rfl rfl ?_ | refine so_l 4 rfl rfl rfl ?_ | refine so_l 5 rfl rfl rfl ?_ | refine so_l 6 rfl rfl rfl ?_ | refine so_l 7 rfl rfl rfl ?_ | refine so_s1 0 rfl rfl rfl rfl ?_ | refine so_s1 1 rfl rfl rfl rfl ?_ | refine so_s1 2 rfl rfl rfl rfl ?_ | refine so_s1 3 rfl rfl rfl rfl ?_ | refine so_s1 4 rfl rfl rfl rfl ?_ | refine so_s1 5 rfl rfl rfl rfl ?_ | refine so_s1 6 rfl rfl rfl rfl ?_ | refine so_s1 7 rfl rfl rfl rfl ?_ | refine so_l 8 rfl rfl rfl ?_ | refine so_l 9 rfl rfl rfl ?_ | refine so_l 10 rfl rfl rfl ?_ | refine so_l 11 rfl rfl rfl ?_ | refine so_l 12 rfl rfl rfl ?_ | refine so_l 13 rfl rfl rfl ?_ | refine so_l 14 rfl rfl rfl ?_ | refine so_l 15 rfl rfl rfl ?_ | refine so_l 16 rfl rfl rfl ?_ | refine so_l 17 rfl rfl rfl ?_)
    refine sn_ret rfl (.tmp rfl .nil) (ent_keep 2 [] rfl rfl) ?_
    exact ⟨by simp [h, tupl], rfl⟩
  · repeat (first | refine sw_seq ?_ | refine sw_region ?_ | refine sw_block ?_ | refine so_nil ?_ | refine sn_then ?_ | refine sw_skip ?_ | refine sw_exit ?_ | refine sw_ret ?_ | refine sn_then_ret ?_ | refine sn_then_exit ?_ | refine sn_block ?_ | refine sn_block_ret ?_ | refine sn_block_exit ?_ | refine sn_block_other rfl ?_ | refine sn_loop_ret ?_ | refine sn_loop_exit ?_ | refine sw_cond_t rfl ?_ | refine sw_cond_f rfl ?_ | refine so_1 rfl ?_ | refine so_2 rfl (by first | with_reducible exact True.intro | omega | (unfold I64; omega) | (show (0 : Int) ≤ _; omega) | (show _ ≠ _; omega) | (simp; done) | (simp; omega) | (simp only [List.length_append, List.length_map, List.length_cons, List.length_nil, List.length_replicate, List.length_take, List.length_drop] at *; omega)) ?_ | refine so_l 0 rfl rfl rfl ?_ | refine so_l 1 rfl rfl rfl ?_ | refine so_l 2 rfl rfl rfl ?_ | refine so_l 3 rfl rfl rfl ?_ | refine so_l 4 rfl rfl rfl ?_ | refine so_l 5 rfl rfl rfl ?_ | refine so_l 6 rfl rfl rfl ?_ | refine so_l 7 rfl rfl rfl ?_ | refine so_s1 0 rfl rfl rfl rfl ?_ | refine so_s1 1 rfl rfl rfl rfl ?_ | refine so_s1 2 rfl rfl rfl rfl ?_ | refine so_s1 3 rfl rfl rfl rfl ?_ | refine so_s1 4 rfl rfl rfl rfl ?_ | refine so_s1 5 rfl rfl rfl rfl ?_ | refine so_s1 6 rfl rfl rfl rfl ?_ | refine so_s1 7 rfl rfl rfl rfl ?_ | refine so_l 8 rfl rfl rfl ?_ | refine so_l 9 rfl rfl rfl ?_ | refine so_l 10 rfl rfl rfl ?_ | refine so_l 11 rfl rfl rfl ?_ | refine so_l 12 rfl rfl rfl ?_ | refine so_l 13 rfl rfl rfl ?_ | refine so_l 14 rfl rfl rfl ?_ | refine so_l 15 rfl rfl rfl ?_ | refine so_l 16 rfl rfl rfl ?_ | refine so_l 17 rfl rfl rfl ?_)
    refine sn_ret rfl (.tmp rfl .nil) (ent_keep 2 [] rfl rfl) ?_
    exact ⟨by simp [h, tupl], rfl⟩
end Go.Proofs.YtaglpaoipdmboaaGreat
/- Digests, part twelve: texts, and which digest is less. Conditions: cells are bytes. -/
namespace Go.Proofs.YtaglpaoipdmboaaGreat
open Go.Eng Go.RowKit

/-- A digit. -/
def hx (n : Int) : Int := if n < 10 then 48 + n else 87 + n
end Go.Proofs.YtaglpaoipdmboaaGreat
/- Digests, part thirteen: what a text is; which digest is less. Conditions: cells are bytes. -/
namespace Go.Proofs.YtaglpaoipdmboaaGreat
open Go.Eng Go.RowKit

abbrev u8l (xs : List Int) : List UInt8 := xs.map fun n => UInt8.ofNat n.toNat
theorem bCompare_S {b : World} {F : List SP} {va vb : Value} {xs ys : List Int} (ha : ∀ w, Sat b F w → VL (Value.int .u8) w va xs) (hb : ∀ w, Sat b F w → VL (Value.int .u8) w vb ys) :
    SC Tryz.prog n_bytes_Compare [va, vb] b F (fun v F' => v = .int .i64 (Lib.compareBytes (u8l xs) (u8l ys)) ∧ F' = F) := by
  refine enterS F_bytes_Compare rfl rfl rfl ?_
  (refine sw_seq ?_; refine sw_region ?_; refine so_1 rfl ?_; refine so_nil ?_; refine sn_then ?_; refine sw_seq ?_; refine sw_region ?_; (iterate 2 refine so_1 rfl ?_))
  refine so_extern rfl rfl rfl (fun w H => run_cmp F_internal_bytealg_Compare (by kernel_rfl) (by kernel_rfl) (by kernel_rfl) (by kernel_rfl) (ha w H) (hb w H)) ?_
  (refine so_1 rfl ?_; refine so_nil ?_; refine sn_then ?_; refine sw_ret ?_)
  refine sn_ret rfl (.tmp rfl .nil) (Ent.refl _) ?_
  exact ⟨rfl, rfl⟩

/-- A digit's number, below 0 if it is none. -/
def dig (c : Int) : Int := if 48 ≤ c ∧ c ≤ 57 then c - 48 else if 97 ≤ c ∧ c ≤ 102 then c - 87 else -1
/-- What a text is. -/
def readB (s : List Int) (i : Nat) : Int := 16 * dig (s.getD (2 * i) 0) + dig (s.getD (2 * i + 1) 0)
def okD (s : List Int) (i : Nat) : Prop := 0 ≤ dig (s.getD (2 * i) 0) ∧ 0 ≤ dig (s.getD (2 * i + 1) 0)
instance (s : List Int) (i : Nat) : Decidable (okD s i) := inferInstanceAs (Decidable (_ ∧ _))
def okR (s : List Int) : Prop := s.length = 64 ∧ ∀ i, i < 32 → okD s i
instance (s : List Int) : Decidable (okR s) := inferInstanceAs (Decidable (_ ∧ _))
def readI (s : List Int) : List Int := if okR s then (List.range 32).map (readB s) else List.replicate 32 0
def cmpM (x y : List Int) : Int := Lib.compareBytes (u8l x) (u8l y)
theorem Compare_S {b : World} {F : List SP} {x y : List Int} (hx : x.length = 32) (hy : y.length = 32) : SC Tryz.prog n_sha_Compare [idV x, idV y] b F (fun v F' => v = .int .i64 (cmpM x y) ∧ F' = F) := by
  refine enterS F_sha_Compare rfl rfl rfl ?_
  (refine sw_seq ?_; refine sw_region ?_)
  refine so_box rfl rfl rfl rfl rfl fun g2 => ?_
  refine so_box rfl rfl rfl rfl rfl fun g3 => ?_
  (refine so_1 rfl ?_; refine so_nil ?_; refine sn_then ?_; refine sw_seq ?_)
  refine sw_draw flo [] (by decide +kernel) (ent_nil _) ?_
  ((iterate 2 refine sd_2 rfl rfl (by omega) ?_))
  refine sd_know 5 (.slice (some ⟨g2, 0, none⟩) 32 32) rfl rfl ?_
  refine sd_know 6 (.slice (some ⟨g3, 0, none⟩) 32 32) rfl rfl ?_
  refine sd_callE rfl rfl rfl rfl (bCompare_S (vl1 (l := x) (k := 1) hx.symm (by decide) rfl) (vl1 (l := y) (k := 0) hy.symm (by decide) rfl)) (ent_nil _) ?_
  (refine sd_1 rfl (.inl rfl) ?_)
  refine sd_nil ?_
  (refine sn_then ?_; refine sw_ret ?_)
  refine sn_ret rfl (.tmp rfl .nil) (ent_keep 2 [] rfl rfl) ?_
  exact ⟨rfl, rfl⟩
end Go.Proofs.YtaglpaoipdmboaaGreat
/- Digests, part fourteen: the document's answers: Cut, digits, which one is less. Conditions: cells are bytes. -/
namespace Go.Proofs.YtaglpaoipdmboaaGreat
open Go.Eng Go.RowKit

end Go.Proofs.YtaglpaoipdmboaaGreat
/- Digests, part fifteen: the document's answers: texts. Conditions: cells are bytes. -/
namespace Go.Proofs.YtaglpaoipdmboaaGreat
open Go.Eng Go.RowKit

end Go.Proofs.YtaglpaoipdmboaaGreat
/- Digests, part sixteen: the document's block. Conditions: the bytes may be read. -/
namespace Go.Proofs.YtaglpaoipdmboaaGreat
open Go.Eng Go.RowKit

end Go.Proofs.YtaglpaoipdmboaaGreat
/- Digests, part seventeen: the document's digest. Conditions: not too many bytes, which may be read. -/
namespace Go.Proofs.YtaglpaoipdmboaaGreat
open Go.Eng Go.RowKit

theorem sd_stW {P : Program} {tt : Nat → Option TI} [TT P tt] {ro : Option Nat} {N : Nat} {fl : Oper → Bool} {l rest : List Oper} {kk : Nat} {Q : Exit → Act → World → Prop} {E : List (Nat × Value)} {ds : List Deferred} {b : World} {F0 F G : List SP}
    {op : Op} {ty : TypeId} {pos : String} {aft : Array Edge} {g : Option (Nat × Bool)} {t g' t0 : Nat} {x y : Operand} {i : TI} {cs vs : List Value} (k : Nat) (hg : wants l E g = some true) (hf : fl ⟨none, op, ty, pos, aft, g⟩ = false) (hop : op = .store t x y) (ht : tt t = some i) (hx : ev E x = some (.pointer (some ⟨g', 0, none⟩))) (hy : ev E y = some (.agg ⟨vs⟩)) (hF : nth F k = some (pt g' t0 cs)) (hG : setF F k (pt g' t0 vs) = some G)
    (hs : vs.length = i.size) (hv : ∀ u ∈ vs, u.oneCell' = true) (hc : vs.length = cs.length) (he : Ent G F0) (h : SD P fl ro N F0 l (kk + 1) rest Q E ds b G) : SD P fl ro N F0 l kk (⟨none, op, ty, pos, aft, g⟩ :: rest) Q E ds b F := by
  subst hop
  refine sd_wr hg hf (fun w H => ?_) he h
  have B := H.blk hF
  exact ⟨_, eu_storeW (vs := vs) ht hx hy rfl (by rw [hs]; exact Nat.beq_refl _) hv B hc, H.write hF (Fr.setRow _ _ _) B.setRow hG⟩
end Go.Proofs.YtaglpaoipdmboaaGreat
/- Digests, part eighteen: the chapter's examples; lent bytes, written-over bytes, a number picked. Conditions: not too many bytes. -/
namespace Go.Proofs.YtaglpaoipdmboaaGreat
open Go.Eng Go.RowKit

def abcS : ByteArray := ⟨#[98, 97, 55, 56, 49, 54, 98, 102, 56, 102, 48, 49, 99, 102, 101, 97, 52, 49, 52, 49, 52, 48, 100, 101, 53, 100, 97, 101, 50, 50, 50, 51, 98, 48, 48, 51, 54, 49, 97, 51, 57, 54, 49, 55, 55, 97, 57, 99, 98, 52, 49, 48, 102, 102, 54, 49, 102, 50, 48, 48, 49, 53, 97, 100]⟩
theorem rdA : readI (strI abcS) = sumM [97, 98, 99] := by decide +kernel
theorem tmod_neg' {x n : Int} (hx : x < 0) : x.tmod n = -((-x) % n) := by
  have h1 : (-x).tmod n = (-x) % n := Int.tmod_eq_emod_of_nonneg (by omega)
  rw [← h1, Int.neg_tmod, Int.neg_neg]
theorem tmod_bd {x n : Int} (hn : 0 < n) : -n < x.tmod n ∧ x.tmod n < n := by
  by_cases hx : x < 0
  · have := Int.emod_nonneg (-x) (by omega : n ≠ 0)
    have := Int.emod_lt_of_pos (-x) hn
    rw [tmod_neg' hx]; omega
  · have := Int.emod_nonneg x (by omega : n ≠ 0)
    have := Int.emod_lt_of_pos x hn
    rw [Int.tmod_eq_emod_of_nonneg (by omega)]; omega
theorem emod_of {x n q s : Int} (h : x = n * q + s) (h0 : 0 ≤ s) (h1 : s < n) : x % n = s := by
  rw [h, Int.add_comm, Int.add_mul_emod_self_left, Int.emod_eq_of_lt h0 h1]
theorem pick_lt {x n : Int} (hn : 0 < n) (h : x.tmod n < 0) : x.tmod n + n = x % n := by
  have hx : x < 0 := by
    apply Classical.byContradiction
    intro hx
    have := Int.emod_nonneg x (by omega : n ≠ 0)
    rw [Int.tmod_eq_emod_of_nonneg (by omega)] at h; omega
  rw [tmod_neg' hx] at h ⊢
  have h1 := Int.emod_lt_of_pos (-x) hn
  have h2 := Int.emod_add_mul_ediv (-x) n
  refine (emod_of (q := -((-x) / n) - 1) ?_ (by omega) (by omega)).symm
  rw [Int.mul_sub, Int.mul_neg]; omega
theorem pick_ge {x n : Int} (hn : 0 < n) (h : ¬ x.tmod n < 0) : x.tmod n = x % n := by
  by_cases hx : x < 0
  · rw [tmod_neg' hx] at h ⊢
    have h1 := Int.emod_nonneg (-x) (by omega : n ≠ 0)
    have h2 := Int.emod_add_mul_ediv (-x) n
    have h3 : (-x) % n = 0 := by omega
    refine (emod_of (q := -((-x) / n)) ?_ (by omega) (by omega)).symm
    rw [Int.mul_neg]; omega
  · exact Int.tmod_eq_emod_of_nonneg (by omega)
theorem Pick_S {b : World} {F : List SP} {x n : Int} (hn : I64 n) : SC Tryz.prog n_entrepotkit_Pick [.int .i64 x, .int .i64 n] b F (fun v F' => v = .int .i64 (if n ≤ 0 then 0 else x % n) ∧ F' = F) := by
  unfold I64 at hn
  refine enterS F_entrepotkit_Pick rfl rfl rfl ?_
  (refine sw_seq ?_; refine sw_region ?_; refine so_1 rfl ?_; refine so_nil ?_; refine sn_then ?_; (iterate 2 refine sw_seq ?_); refine sw_region ?_; (iterate 2 refine so_1 rfl ?_); refine so_nil ?_; refine sn_then ?_)
  refine sw_if rfl (fun h => ?_) (fun h => ?_)
  · (refine sw_seq ?_; refine sw_region ?_; refine so_1 rfl ?_; refine so_nil ?_; refine sn_then ?_; refine sw_ret ?_; refine sn_then_ret ?_)
    refine sn_ret rfl (.tmp rfl .nil) (Ent.refl _) ?_
    exact ⟨by rw [if_pos h]; rfl, rfl⟩
  (refine sw_skip ?_; refine sn_then ?_; refine sw_seq ?_; refine sw_region ?_; (iterate 2 refine so_1 rfl ?_); refine so_2 rfl (by omega) ?_; refine so_1 rfl ?_; refine so_nil ?_; refine sn_then ?_; (iterate 2 refine sw_seq ?_); refine sw_region ?_; (iterate 2 refine so_1 rfl ?_); refine so_nil ?_; refine sn_then ?_)
  refine sw_if rfl (fun h2 => ?_) (fun h2 => ?_)
  · (refine sw_region ?_; (iterate 2 refine so_1 rfl ?_))
    have hb := tmod_bd (x := x) (n := n) (by omega)
    have e := pick_lt (x := x) (n := n) (by omega) h2
    (refine so_2 rfl (by (unfold I64; omega)) ?_; refine so_1 rfl ?_; refine so_nil ?_; refine sn_then ?_; refine sw_seq ?_; refine sw_region ?_; (iterate 2 refine so_1 rfl ?_); refine so_nil ?_; refine sn_then ?_; refine sw_ret ?_)
    refine sn_ret rfl (.tmp rfl .nil) (Ent.refl _) ?_
    exact ⟨by rw [if_neg h, ← e]; rfl, rfl⟩
  (refine sw_skip ?_; refine sn_then ?_; refine sw_seq ?_; refine sw_region ?_; (iterate 2 refine so_1 rfl ?_); refine so_nil ?_; refine sn_then ?_; refine sw_ret ?_)
  refine sn_ret rfl (.tmp rfl .nil) (Ent.refl _) ?_
  exact ⟨by rw [if_neg h, ← pick_ge (by omega) h2]; rfl, rfl⟩

end Go.Proofs.YtaglpaoipdmboaaGreat
/- Digests, part twenty-four: what a row's arguments are to the walks. Conditions: none. -/
namespace Go.Proofs.YtaglpaoipdmboaaGreat
open Go.Eng Go.RowKit
end Go.Proofs.YtaglpaoipdmboaaGreat
/- Blobs, part one: how a store lies in memory; whether nobody made it; how it stands. Conditions: none. -/
namespace Go.Proofs.YtaglpaoipdmboaaGreat
open Go.Eng Go.RowKit Go.WideMaps

def idOk (a : List Int) : Prop := a.length = 32 ∧ ∀ x ∈ a, (Lit.int .u8 x).wf = true
/-- A blob that is kept, and where. -/
structure Kp where
  id : List Int
  b : List Int
  g : Nat
  v : Value
section
variable {b : World} {F : List SP} {gs gm : Nat} {w r u : Int} {l : List Kp}
end
end Go.Proofs.YtaglpaoipdmboaaGreat
/- Blobs, part two: Width, Room, Used, New, and what tells a blob. Conditions: not too many bytes. -/
namespace Go.Proofs.YtaglpaoipdmboaaGreat
open Go.Eng Go.RowKit Go.WideMaps

section
variable {b : World} {F : List SP} {gs gm : Nat} {w r u : Int} {l : List Kp}
end
end Go.Proofs.YtaglpaoipdmboaaGreat
/- Blobs, part three: Size and Drop. Conditions: not too many bytes. -/
namespace Go.Proofs.YtaglpaoipdmboaaGreat
open Go.Eng Go.RowKit Go.WideMaps

section
variable {b : World} {F : List SP} {gs gm : Nat} {w r u : Int} {l : List Kp}
end
end Go.Proofs.YtaglpaoipdmboaaGreat
/- Blobs, part four: what Put asks. Conditions: not too many bytes. -/
namespace Go.Proofs.YtaglpaoipdmboaaGreat
open Go.Eng Go.RowKit Go.WideMaps

section
variable {b : World} {F : List SP}
variable {A : SP} {g9 g8 g5 g4 g3 gs gm : Nat} {is : Bool} {old vb : Value} {id xs : List Int} {w r u : Int} {l : List Kp}
end
end Go.Proofs.YtaglpaoipdmboaaGreat
/- Blobs, part five: Put. Conditions: not too many bytes. -/
namespace Go.Proofs.YtaglpaoipdmboaaGreat
open Go.Eng Go.RowKit Go.WideMaps

section
variable {b : World} {F : List SP} {gs gm : Nat} {w r u : Int} {l : List Kp} {vb : Value} {id xs : List Int}
end
end Go.Proofs.YtaglpaoipdmboaaGreat
/- Blobs, part six: Put, where something is kept. Conditions: not too many bytes. -/
namespace Go.Proofs.YtaglpaoipdmboaaGreat
open Go.Eng Go.RowKit Go.WideMaps

section
variable {b : World} {F : List SP} {gs gm : Nat} {w r u : Int} {l : List Kp} {vb : Value} {id xs : List Int}
end
end Go.Proofs.YtaglpaoipdmboaaGreat
/- Blobs, part seven: the heap's methods. Conditions: not too many. -/
namespace Go.Proofs.YtaglpaoipdmboaaGreat
open Go.Eng Go.RowKit Go.WideMaps

def idsC : List (List Int) → List Value
  | [] => []
  | a :: l => u8s a ++ idsC l
def len32 (l : List (List Int)) : Prop := ∀ a ∈ l, a.length = 32
theorem idsC_len {l : List (List Int)} (h : len32 l) : (idsC l).length = l.length * 32 := by
  induction l with
  | nil => rfl
  | cons a l ih => simp only [idsC, List.length_append, u8s_len, h a (by simp), ih (fun x hx => h x (by simp [hx])), List.length_cons]; omega
section
variable {b : World} {F : List SP} {A : Option Addr} {c : Nat} {l : List (List Int)}
theorem idsC_set {l : List (List Int)} (h : len32 l) {i : Nat} {x : List Int} (hx : x.length = 32) (hi : i < l.length) : spl (idsC l) (i * 32) (u8s x) = idsC (l.set i x) := by
  induction l generalizing i with
  | nil => simp at hi
  | cons a l ih =>
    have ha := h a (by simp)
    have hl : len32 l := fun x hx => h x (by simp [hx])
    cases i with
    | zero =>
      simp only [idsC, spl, Nat.zero_mul, List.take_zero, List.nil_append, Nat.zero_add, List.set_cons_zero]
      congr 1
      rw [u8s_len, hx, show 32 = (u8s a).length by rw [u8s_len, ha]]
      exact List.drop_left
    | succ i =>
      have := ih hl (i := i) (by simpa using hi)
      simp only [spl] at this
      simp only [idsC, List.set_cons_succ, ← this, spl]
      rw [show (i + 1) * 32 = (u8s a).length + i * 32 by rw [u8s_len, ha]; omega, List.take_append, List.take_of_length_le (by omega), List.drop_append, List.drop_of_length_le (l := u8s a) (by omega)]
      rw [show (u8s a).length + i * 32 - (u8s a).length = i * 32 by omega, show (u8s a).length + i * 32 + (u8s x).length - (u8s a).length = i * 32 + (u8s x).length by omega]
      simp
theorem len32_set {l : List (List Int)} (h : len32 l) {x : List Int} (hx : x.length = 32) (i : Nat) : len32 (l.set i x) := fun a ha => by
  rcases List.mem_or_eq_of_mem_set ha with h' | rfl
  · exact h a h'
  · exact hx
abbrev rN (A : Option Addr) (c n : Nat) (l : List (List Int)) : SP := row t_api_ID 32 (.slice A n c) n (idsC l)
end
end Go.Proofs.YtaglpaoipdmboaaGreat
/- Blobs, part eight: the heap's Push and Pop. Conditions: not too many. -/
namespace Go.Proofs.YtaglpaoipdmboaaGreat
open Go.Eng Go.RowKit Go.WideMaps

section
variable {b : World} {F : List SP} {A : Option Addr} {c n gh : Nat} {l : List (List Int)} {x : List Int}
end
end Go.Proofs.YtaglpaoipdmboaaGreat
/- Blobs, part nine: the heap: up. Conditions: not too many. -/
namespace Go.Proofs.YtaglpaoipdmboaaGreat
open Go.Eng Go.RowKit Go.WideMaps

end Go.Proofs.YtaglpaoipdmboaaGreat
/- Blobs, part ten: the heap: up. Conditions: not too many. -/
namespace Go.Proofs.YtaglpaoipdmboaaGreat
open Go.Eng Go.RowKit Go.WideMaps

section
variable {b : World} {F : List SP} {A : Option Addr} {c n gh : Nat} {l : List (List Int)}
end
end Go.Proofs.YtaglpaoipdmboaaGreat
