/- The types and the functions of this seat's program, as the engine asks for them: laid by a program (seatgen.py) out of the translation. Conditions: none. -/
import Derived.Test.YtmeiadgpglpelaaGreatChecked
import Derived.Test.YtmeiadgpglpelaaGreatK2
import Derived.KernelRfl
namespace Go.Proofs.YtmeiadgpglpelaaGreat
open Go.Eng
def ti1 : TI := ⟨.func #[] #[] false, 1, 8, .nilFunc, []⟩
theorem g1 : good Tryz.prog (1, ti1) := good_d rfl (by kernel_rfl) (by kernel_rfl)
def ti2 : TI := ⟨.int .i64, 1, 8, .int .i64 0, []⟩
theorem g2 : good Tryz.prog (2, ti2) := good_d rfl (by kernel_rfl) (by kernel_rfl)
def ti3 : TI := ⟨.int .i64, 1, 8, .int .i64 0, []⟩
theorem g3 : good Tryz.prog (3, ti3) := good_d rfl (by kernel_rfl) (by kernel_rfl)
def ti4 : TI := ⟨.bool, 1, 1, .bool false, []⟩
theorem g4 : good Tryz.prog (4, ti4) := good_d rfl (by kernel_rfl) (by kernel_rfl)
def ti5 : TI := ⟨.int .u8, 1, 1, .int .u8 0, []⟩
theorem g5 : good Tryz.prog (5, ti5) := good_d rfl (by kernel_rfl) (by kernel_rfl)
def ti6 : TI := ⟨.int .u8, 1, 1, .int .u8 0, []⟩
theorem g6 : good Tryz.prog (6, ti6) := good_d rfl (by kernel_rfl) (by kernel_rfl)
def ti7 : TI := ⟨.struct #[], 4, 24, .agg ⟨[.int .i64 0, .int .i64 0, .bool false, .int .u8 0]⟩, [(2, 0), (3, 1), (4, 2), (6, 3)]⟩
theorem g7 : good Tryz.prog (7, ti7) := good_s rfl (by kernel_rfl) (by kernel_rfl)
def ti8 : TI := ⟨.struct #[], 4, 24, .agg ⟨[.int .i64 0, .int .i64 0, .bool false, .int .u8 0]⟩, [(2, 0), (3, 1), (4, 2), (6, 3)]⟩
theorem g8 : good Tryz.prog (8, ti8) := good_s rfl (by kernel_rfl) (by kernel_rfl)
def ti9 : TI := ⟨.string, 1, 16, .string ⟨⟨[]⟩⟩, []⟩
theorem g9 : good Tryz.prog (9, ti9) := good_d rfl (by kernel_rfl) (by kernel_rfl)
def ti10 : TI := ⟨.string, 1, 16, .string ⟨⟨[]⟩⟩, []⟩
theorem g10 : good Tryz.prog (10, ti10) := good_d rfl (by kernel_rfl) (by kernel_rfl)
def ti11 : TI := ⟨.string, 1, 16, .string ⟨⟨[]⟩⟩, []⟩
theorem g11 : good Tryz.prog (11, ti11) := good_d rfl (by kernel_rfl) (by kernel_rfl)
def ti12 : TI := ⟨.int .u64, 1, 8, .int .u64 0, []⟩
theorem g12 : good Tryz.prog (12, ti12) := good_d rfl (by kernel_rfl) (by kernel_rfl)
def ti13 : TI := ⟨.struct #[], 2, 24, .agg ⟨[.string ⟨⟨[]⟩⟩, .int .u64 0]⟩, [(9, 0), (12, 1)]⟩
theorem g13 : good Tryz.prog (13, ti13) := good_s rfl (by kernel_rfl) (by kernel_rfl)
def ti14 : TI := ⟨.struct #[], 2, 24, .agg ⟨[.string ⟨⟨[]⟩⟩, .int .u64 0]⟩, [(9, 0), (12, 1)]⟩
theorem g14 : good Tryz.prog (14, ti14) := good_s rfl (by kernel_rfl) (by kernel_rfl)
def ti15 : TI := ⟨.pointer 210, 1, 8, .pointer none, []⟩
theorem g15 : good Tryz.prog (15, ti15) := good_d rfl (by kernel_rfl) (by kernel_rfl)
def ti16 : TI := ⟨.pointer 213, 1, 8, .pointer none, []⟩
theorem g16 : good Tryz.prog (16, ti16) := good_d rfl (by kernel_rfl) (by kernel_rfl)
def ti17 : TI := ⟨.pointer 221, 1, 8, .pointer none, []⟩
theorem g17 : good Tryz.prog (17, ti17) := good_d rfl (by kernel_rfl) (by kernel_rfl)
def ti18 : TI := ⟨.struct #[], 1, 8, .agg ⟨[.pointer none]⟩, [(17, 0)]⟩
theorem g18 : good Tryz.prog (18, ti18) := good_s rfl (by kernel_rfl) (by kernel_rfl)
def ti19 : TI := ⟨.struct #[], 1, 8, .agg ⟨[.pointer none]⟩, [(17, 0)]⟩
theorem g19 : good Tryz.prog (19, ti19) := good_s rfl (by kernel_rfl) (by kernel_rfl)
def ti21 : TI := ⟨.int .i32, 1, 4, .int .i32 0, []⟩
theorem g21 : good Tryz.prog (21, ti21) := good_d rfl (by kernel_rfl) (by kernel_rfl)
def ti22 : TI := ⟨.slice 3, 1, 24, .slice none 0 0, []⟩
theorem g22 : good Tryz.prog (22, ti22) := good_d rfl (by kernel_rfl) (by kernel_rfl)
def ti23 : TI := ⟨.slice 52, 1, 24, .slice none 0 0, []⟩
theorem g23 : good Tryz.prog (23, ti23) := good_d rfl (by kernel_rfl) (by kernel_rfl)
def ti24 : TI := ⟨.struct #[], 2, 16, .agg ⟨[.int .i64 0, .int .i64 0]⟩, [(3, 0), (3, 1)]⟩
theorem g24 : good Tryz.prog (24, ti24) := good_s rfl (by kernel_rfl) (by kernel_rfl)
def ti25 : TI := ⟨.struct #[], 2, 16, .agg ⟨[.int .i64 0, .int .i64 0]⟩, [(3, 0), (3, 1)]⟩
theorem g25 : good Tryz.prog (25, ti25) := good_s rfl (by kernel_rfl) (by kernel_rfl)
def ti26 : TI := ⟨.array 32 5, 32, 32, .agg ⟨[.int .u8 0, .int .u8 0, .int .u8 0, .int .u8 0, .int .u8 0, .int .u8 0, .int .u8 0, .int .u8 0, .int .u8 0, .int .u8 0, .int .u8 0, .int .u8 0, .int .u8 0, .int .u8 0, .int .u8 0, .int .u8 0, .int .u8 0, .int .u8 0, .int .u8 0, .int .u8 0, .int .u8 0, .int .u8 0, .int .u8 0, .int .u8 0, .int .u8 0, .int .u8 0, .int .u8 0, .int .u8 0, .int .u8 0, .int .u8 0, .int .u8 0, .int .u8 0]⟩, []⟩
theorem g26 : good Tryz.prog (26, ti26) := good_d rfl (by kernel_rfl) (by kernel_rfl)
def ti27 : TI := ⟨.array 32 5, 32, 32, .agg ⟨[.int .u8 0, .int .u8 0, .int .u8 0, .int .u8 0, .int .u8 0, .int .u8 0, .int .u8 0, .int .u8 0, .int .u8 0, .int .u8 0, .int .u8 0, .int .u8 0, .int .u8 0, .int .u8 0, .int .u8 0, .int .u8 0, .int .u8 0, .int .u8 0, .int .u8 0, .int .u8 0, .int .u8 0, .int .u8 0, .int .u8 0, .int .u8 0, .int .u8 0, .int .u8 0, .int .u8 0, .int .u8 0, .int .u8 0, .int .u8 0, .int .u8 0, .int .u8 0]⟩, []⟩
theorem g27 : good Tryz.prog (27, ti27) := good_d rfl (by kernel_rfl) (by kernel_rfl)
def ti28 : TI := ⟨.slice 5, 1, 24, .slice none 0 0, []⟩
theorem g28 : good Tryz.prog (28, ti28) := good_d rfl (by kernel_rfl) (by kernel_rfl)
def ti29 : TI := ⟨.struct #[], 40, 144, .agg ⟨[.int .i64 0, .int .i64 0, .int .i64 0, .slice none 0 0, .slice none 0 0, .int .i64 0, .int .i64 0, .int .u8 0, .int .u8 0, .int .u8 0, .int .u8 0, .int .u8 0, .int .u8 0, .int .u8 0, .int .u8 0, .int .u8 0, .int .u8 0, .int .u8 0, .int .u8 0, .int .u8 0, .int .u8 0, .int .u8 0, .int .u8 0, .int .u8 0, .int .u8 0, .int .u8 0, .int .u8 0, .int .u8 0, .int .u8 0, .int .u8 0, .int .u8 0, .int .u8 0, .int .u8 0, .int .u8 0, .int .u8 0, .int .u8 0, .int .u8 0, .int .u8 0, .int .u8 0, .slice none 0 0]⟩, [(3, 0), (3, 1), (3, 2), (22, 3), (23, 4), (25, 5), (27, 7), (28, 39)]⟩
theorem g29 : good Tryz.prog (29, ti29) := good_s rfl (by kernel_rfl) (by kernel_rfl)
def ti30 : TI := ⟨.struct #[], 40, 144, .agg ⟨[.int .i64 0, .int .i64 0, .int .i64 0, .slice none 0 0, .slice none 0 0, .int .i64 0, .int .i64 0, .int .u8 0, .int .u8 0, .int .u8 0, .int .u8 0, .int .u8 0, .int .u8 0, .int .u8 0, .int .u8 0, .int .u8 0, .int .u8 0, .int .u8 0, .int .u8 0, .int .u8 0, .int .u8 0, .int .u8 0, .int .u8 0, .int .u8 0, .int .u8 0, .int .u8 0, .int .u8 0, .int .u8 0, .int .u8 0, .int .u8 0, .int .u8 0, .int .u8 0, .int .u8 0, .int .u8 0, .int .u8 0, .int .u8 0, .int .u8 0, .int .u8 0, .int .u8 0, .slice none 0 0]⟩, [(3, 0), (3, 1), (3, 2), (22, 3), (23, 4), (25, 5), (27, 7), (28, 39)]⟩
theorem g30 : good Tryz.prog (30, ti30) := good_s rfl (by kernel_rfl) (by kernel_rfl)
def ti31 : TI := ⟨.func #[30] #[4] false, 1, 8, .nilFunc, []⟩
theorem g31 : good Tryz.prog (31, ti31) := good_d rfl (by kernel_rfl) (by kernel_rfl)
def ti32 : TI := ⟨.func #[] #[4] false, 1, 8, .nilFunc, []⟩
theorem g32 : good Tryz.prog (32, ti32) := good_d rfl (by kernel_rfl) (by kernel_rfl)
def ti33 : TI := ⟨.func #[30] #[30] false, 1, 8, .nilFunc, []⟩
theorem g33 : good Tryz.prog (33, ti33) := good_d rfl (by kernel_rfl) (by kernel_rfl)
def ti34 : TI := ⟨.int .i64, 1, 8, .int .i64 0, []⟩
theorem g34 : good Tryz.prog (34, ti34) := good_d rfl (by kernel_rfl) (by kernel_rfl)
def ti36 : TI := ⟨.func #[30] #[28, 34] false, 1, 8, .nilFunc, []⟩
theorem g36 : good Tryz.prog (36, ti36) := good_d rfl (by kernel_rfl) (by kernel_rfl)
def ti37 : TI := ⟨.func #[28, 28] #[4] false, 1, 8, .nilFunc, []⟩
theorem g37 : good Tryz.prog (37, ti37) := good_d rfl (by kernel_rfl) (by kernel_rfl)
def ti38 : TI := ⟨.func #[30, 3, 3] #[34] false, 1, 8, .nilFunc, []⟩
theorem g38 : good Tryz.prog (38, ti38) := good_d rfl (by kernel_rfl) (by kernel_rfl)
def ti39 : TI := ⟨.func #[28] #[] false, 1, 8, .nilFunc, []⟩
theorem g39 : good Tryz.prog (39, ti39) := good_d rfl (by kernel_rfl) (by kernel_rfl)
def ti40 : TI := ⟨.func #[30, 30] #[4] false, 1, 8, .nilFunc, []⟩
theorem g40 : good Tryz.prog (40, ti40) := good_d rfl (by kernel_rfl) (by kernel_rfl)
def ti41 : TI := ⟨.func #[30, 3, 3] #[4] false, 1, 8, .nilFunc, []⟩
theorem g41 : good Tryz.prog (41, ti41) := good_d rfl (by kernel_rfl) (by kernel_rfl)
def ti42 : TI := ⟨.func #[28] #[28] false, 1, 8, .nilFunc, []⟩
theorem g42 : good Tryz.prog (42, ti42) := good_d rfl (by kernel_rfl) (by kernel_rfl)
def ti43 : TI := ⟨.struct #[], 2, 16, .agg ⟨[.int .i64 0, .int .i64 0]⟩, [(34, 0), (3, 1)]⟩
theorem g43 : good Tryz.prog (43, ti43) := good_s rfl (by kernel_rfl) (by kernel_rfl)
def ti44 : TI := ⟨.struct #[], 2, 16, .agg ⟨[.int .i64 0, .int .i64 0]⟩, [(34, 0), (3, 1)]⟩
theorem g44 : good Tryz.prog (44, ti44) := good_s rfl (by kernel_rfl) (by kernel_rfl)
def ti46 : TI := ⟨.func #[28] #[30, 44] false, 1, 8, .nilFunc, []⟩
theorem g46 : good Tryz.prog (46, ti46) := good_d rfl (by kernel_rfl) (by kernel_rfl)
def ti47 : TI := ⟨.func #[48] #[] false, 1, 8, .nilFunc, []⟩
theorem g47 : good Tryz.prog (47, ti47) := good_d rfl (by kernel_rfl) (by kernel_rfl)
def ti48 : TI := ⟨.slice 30, 1, 24, .slice none 0 0, []⟩
theorem g48 : good Tryz.prog (48, ti48) := good_d rfl (by kernel_rfl) (by kernel_rfl)
def ti49 : TI := ⟨.func #[28] #[4] false, 1, 8, .nilFunc, []⟩
theorem g49 : good Tryz.prog (49, ti49) := good_d rfl (by kernel_rfl) (by kernel_rfl)
def ti50 : TI := ⟨.slice 27, 1, 24, .slice none 0 0, []⟩
theorem g50 : good Tryz.prog (50, ti50) := good_d rfl (by kernel_rfl) (by kernel_rfl)
def ti51 : TI := ⟨.struct #[], 39, 136, .agg ⟨[.int .i64 0, .int .i64 0, .slice none 0 0, .int .i64 0, .string ⟨⟨[]⟩⟩, .string ⟨⟨[]⟩⟩, .int .u8 0, .int .u8 0, .int .u8 0, .int .u8 0, .int .u8 0, .int .u8 0, .int .u8 0, .int .u8 0, .int .u8 0, .int .u8 0, .int .u8 0, .int .u8 0, .int .u8 0, .int .u8 0, .int .u8 0, .int .u8 0, .int .u8 0, .int .u8 0, .int .u8 0, .int .u8 0, .int .u8 0, .int .u8 0, .int .u8 0, .int .u8 0, .int .u8 0, .int .u8 0, .int .u8 0, .int .u8 0, .int .u8 0, .int .u8 0, .int .u8 0, .int .u8 0, .slice none 0 0]⟩, [(25, 0), (22, 2), (3, 3), (9, 4), (9, 5), (27, 6), (50, 38)]⟩
theorem g51 : good Tryz.prog (51, ti51) := good_s rfl (by kernel_rfl) (by kernel_rfl)
def ti52 : TI := ⟨.struct #[], 39, 136, .agg ⟨[.int .i64 0, .int .i64 0, .slice none 0 0, .int .i64 0, .string ⟨⟨[]⟩⟩, .string ⟨⟨[]⟩⟩, .int .u8 0, .int .u8 0, .int .u8 0, .int .u8 0, .int .u8 0, .int .u8 0, .int .u8 0, .int .u8 0, .int .u8 0, .int .u8 0, .int .u8 0, .int .u8 0, .int .u8 0, .int .u8 0, .int .u8 0, .int .u8 0, .int .u8 0, .int .u8 0, .int .u8 0, .int .u8 0, .int .u8 0, .int .u8 0, .int .u8 0, .int .u8 0, .int .u8 0, .int .u8 0, .int .u8 0, .int .u8 0, .int .u8 0, .int .u8 0, .int .u8 0, .int .u8 0, .slice none 0 0]⟩, [(25, 0), (22, 2), (3, 3), (9, 4), (9, 5), (27, 6), (50, 38)]⟩
theorem g52 : good Tryz.prog (52, ti52) := good_s rfl (by kernel_rfl) (by kernel_rfl)
def ti53 : TI := ⟨.func #[52] #[4] false, 1, 8, .nilFunc, []⟩
theorem g53 : good Tryz.prog (53, ti53) := good_d rfl (by kernel_rfl) (by kernel_rfl)
def ti54 : TI := ⟨.func #[52] #[52] false, 1, 8, .nilFunc, []⟩
theorem g54 : good Tryz.prog (54, ti54) := good_d rfl (by kernel_rfl) (by kernel_rfl)
def ti55 : TI := ⟨.func #[22] #[22] false, 1, 8, .nilFunc, []⟩
theorem g55 : good Tryz.prog (55, ti55) := good_d rfl (by kernel_rfl) (by kernel_rfl)
def ti56 : TI := ⟨.func #[52, 3, 22] #[30] false, 1, 8, .nilFunc, []⟩
theorem g56 : good Tryz.prog (56, ti56) := good_d rfl (by kernel_rfl) (by kernel_rfl)
def ti57 : TI := ⟨.func #[30, 28, 22] #[30] false, 1, 8, .nilFunc, []⟩
theorem g57 : good Tryz.prog (57, ti57) := good_d rfl (by kernel_rfl) (by kernel_rfl)
def ti58 : TI := ⟨.func #[52, 52] #[4] false, 1, 8, .nilFunc, []⟩
theorem g58 : good Tryz.prog (58, ti58) := good_d rfl (by kernel_rfl) (by kernel_rfl)
def ti59 : TI := ⟨.func #[22, 22] #[4] false, 1, 8, .nilFunc, []⟩
theorem g59 : good Tryz.prog (59, ti59) := good_d rfl (by kernel_rfl) (by kernel_rfl)
def ti60 : TI := ⟨.func #[52, 30, 3, 22, 28] #[4] false, 1, 8, .nilFunc, []⟩
theorem g60 : good Tryz.prog (60, ti60) := good_d rfl (by kernel_rfl) (by kernel_rfl)
def ti61 : TI := ⟨.func #[] #[52] false, 1, 8, .nilFunc, []⟩
theorem g61 : good Tryz.prog (61, ti61) := good_d rfl (by kernel_rfl) (by kernel_rfl)
def ti62 : TI := ⟨.func #[] #[30] false, 1, 8, .nilFunc, []⟩
theorem g62 : good Tryz.prog (62, ti62) := good_d rfl (by kernel_rfl) (by kernel_rfl)
def ti63 : TI := ⟨.func #[30, 34] #[4] false, 1, 8, .nilFunc, []⟩
theorem g63 : good Tryz.prog (63, ti63) := good_d rfl (by kernel_rfl) (by kernel_rfl)
def ti64 : TI := ⟨.func #[3, 3] #[3] false, 1, 8, .nilFunc, []⟩
theorem g64 : good Tryz.prog (64, ti64) := good_d rfl (by kernel_rfl) (by kernel_rfl)
def ti65 : TI := ⟨.func #[30, 3, 3, 3] #[4] false, 1, 8, .nilFunc, []⟩
theorem g65 : good Tryz.prog (65, ti65) := good_d rfl (by kernel_rfl) (by kernel_rfl)
def ti66 : TI := ⟨.func #[28, 3, 5] #[4] false, 1, 8, .nilFunc, []⟩
theorem g66 : good Tryz.prog (66, ti66) := good_d rfl (by kernel_rfl) (by kernel_rfl)
def ti68 : TI := ⟨.func #[28, 3] #[27, 34] false, 1, 8, .nilFunc, []⟩
theorem g68 : good Tryz.prog (68, ti68) := good_d rfl (by kernel_rfl) (by kernel_rfl)
def ti69 : TI := ⟨.func #[52, 3, 3] #[34] false, 1, 8, .nilFunc, []⟩
theorem g69 : good Tryz.prog (69, ti69) := good_d rfl (by kernel_rfl) (by kernel_rfl)
def ti70 : TI := ⟨.func #[30, 3, 3, 3, 28] #[4] false, 1, 8, .nilFunc, []⟩
theorem g70 : good Tryz.prog (70, ti70) := good_d rfl (by kernel_rfl) (by kernel_rfl)
def ti71 : TI := ⟨.func #[23, 3] #[4] false, 1, 8, .nilFunc, []⟩
theorem g71 : good Tryz.prog (71, ti71) := good_d rfl (by kernel_rfl) (by kernel_rfl)
def ti72 : TI := ⟨.func #[23] #[23] false, 1, 8, .nilFunc, []⟩
theorem g72 : good Tryz.prog (72, ti72) := good_d rfl (by kernel_rfl) (by kernel_rfl)
def ti73 : TI := ⟨.slice 28, 1, 24, .slice none 0 0, []⟩
theorem g73 : good Tryz.prog (73, ti73) := good_d rfl (by kernel_rfl) (by kernel_rfl)
def ti74 : TI := ⟨.func #[52] #[28, 34] false, 1, 8, .nilFunc, []⟩
theorem g74 : good Tryz.prog (74, ti74) := good_d rfl (by kernel_rfl) (by kernel_rfl)
def ti75 : TI := ⟨.pointer 136, 1, 8, .pointer none, []⟩
theorem g75 : good Tryz.prog (75, ti75) := good_d rfl (by kernel_rfl) (by kernel_rfl)
def ti77 : TI := ⟨.func #[3] #[75, 34] false, 1, 8, .nilFunc, []⟩
theorem g77 : good Tryz.prog (77, ti77) := good_d rfl (by kernel_rfl) (by kernel_rfl)
def ti78 : TI := ⟨.func #[3] #[34] false, 1, 8, .nilFunc, []⟩
theorem g78 : good Tryz.prog (78, ti78) := good_d rfl (by kernel_rfl) (by kernel_rfl)
def ti79 : TI := ⟨.func #[22] #[34] false, 1, 8, .nilFunc, []⟩
theorem g79 : good Tryz.prog (79, ti79) := good_d rfl (by kernel_rfl) (by kernel_rfl)
def ti80 : TI := ⟨.func #[28] #[34] false, 1, 8, .nilFunc, []⟩
theorem g80 : good Tryz.prog (80, ti80) := good_d rfl (by kernel_rfl) (by kernel_rfl)
def ti81 : TI := ⟨.func #[25] #[34] false, 1, 8, .nilFunc, []⟩
theorem g81 : good Tryz.prog (81, ti81) := good_d rfl (by kernel_rfl) (by kernel_rfl)
def ti82 : TI := ⟨.func #[27] #[34] false, 1, 8, .nilFunc, []⟩
theorem g82 : good Tryz.prog (82, ti82) := good_d rfl (by kernel_rfl) (by kernel_rfl)
def ti83 : TI := ⟨.func #[] #[28, 34] false, 1, 8, .nilFunc, []⟩
theorem g83 : good Tryz.prog (83, ti83) := good_d rfl (by kernel_rfl) (by kernel_rfl)
def ti84 : TI := ⟨.pointer 139, 1, 8, .pointer none, []⟩
theorem g84 : good Tryz.prog (84, ti84) := good_d rfl (by kernel_rfl) (by kernel_rfl)
def ti86 : TI := ⟨.func #[3] #[84, 34] false, 1, 8, .nilFunc, []⟩
theorem g86 : good Tryz.prog (86, ti86) := good_d rfl (by kernel_rfl) (by kernel_rfl)
def ti87 : TI := ⟨.func #[28, 22] #[34] true, 1, 8, .nilFunc, []⟩
theorem g87 : good Tryz.prog (87, ti87) := good_d rfl (by kernel_rfl) (by kernel_rfl)
def ti88 : TI := ⟨.struct #[], 42, 160, .agg ⟨[.int .i64 0, .int .i64 0, .int .i64 0, .slice none 0 0, .slice none 0 0, .int .i64 0, .int .i64 0, .int .u8 0, .int .u8 0, .int .u8 0, .int .u8 0, .int .u8 0, .int .u8 0, .int .u8 0, .int .u8 0, .int .u8 0, .int .u8 0, .int .u8 0, .int .u8 0, .int .u8 0, .int .u8 0, .int .u8 0, .int .u8 0, .int .u8 0, .int .u8 0, .int .u8 0, .int .u8 0, .int .u8 0, .int .u8 0, .int .u8 0, .int .u8 0, .int .u8 0, .int .u8 0, .int .u8 0, .int .u8 0, .int .u8 0, .int .u8 0, .int .u8 0, .int .u8 0, .slice none 0 0, .int .i64 0, .int .i64 0]⟩, [(30, 0), (3, 40), (3, 41)]⟩
theorem g88 : good Tryz.prog (88, ti88) := good_s rfl (by kernel_rfl) (by kernel_rfl)
def ti89 : TI := ⟨.struct #[], 42, 160, .agg ⟨[.int .i64 0, .int .i64 0, .int .i64 0, .slice none 0 0, .slice none 0 0, .int .i64 0, .int .i64 0, .int .u8 0, .int .u8 0, .int .u8 0, .int .u8 0, .int .u8 0, .int .u8 0, .int .u8 0, .int .u8 0, .int .u8 0, .int .u8 0, .int .u8 0, .int .u8 0, .int .u8 0, .int .u8 0, .int .u8 0, .int .u8 0, .int .u8 0, .int .u8 0, .int .u8 0, .int .u8 0, .int .u8 0, .int .u8 0, .int .u8 0, .int .u8 0, .int .u8 0, .int .u8 0, .int .u8 0, .int .u8 0, .int .u8 0, .int .u8 0, .int .u8 0, .int .u8 0, .slice none 0 0, .int .i64 0, .int .i64 0]⟩, [(30, 0), (3, 40), (3, 41)]⟩
theorem g89 : good Tryz.prog (89, ti89) := good_s rfl (by kernel_rfl) (by kernel_rfl)
def ti90 : TI := ⟨.func #[] #[34] false, 1, 8, .nilFunc, []⟩
theorem g90 : good Tryz.prog (90, ti90) := good_d rfl (by kernel_rfl) (by kernel_rfl)
def ti92 : TI := ⟨.map 3 90, 1, 8, .map none, []⟩
theorem g92 : good Tryz.prog (92, ti92) := good_d rfl (by kernel_rfl) (by kernel_rfl)
def ti93 : TI := ⟨.func #[] #[92] false, 1, 8, .nilFunc, []⟩
theorem g93 : good Tryz.prog (93, ti93) := good_d rfl (by kernel_rfl) (by kernel_rfl)
def ti94 : TI := ⟨.func #[30, 3] #[4] false, 1, 8, .nilFunc, []⟩
theorem g94 : good Tryz.prog (94, ti94) := good_d rfl (by kernel_rfl) (by kernel_rfl)
def ti95 : TI := ⟨.func #[27, 3] #[4] false, 1, 8, .nilFunc, []⟩
theorem g95 : good Tryz.prog (95, ti95) := good_d rfl (by kernel_rfl) (by kernel_rfl)
def ti96 : TI := ⟨.func #[23, 23] #[4] false, 1, 8, .nilFunc, []⟩
theorem g96 : good Tryz.prog (96, ti96) := good_d rfl (by kernel_rfl) (by kernel_rfl)
def ti97 : TI := ⟨.pointer 143, 1, 8, .pointer none, []⟩
theorem g97 : good Tryz.prog (97, ti97) := good_d rfl (by kernel_rfl) (by kernel_rfl)
def ti98 : TI := ⟨.func #[28] #[97] false, 1, 8, .nilFunc, []⟩
theorem g98 : good Tryz.prog (98, ti98) := good_d rfl (by kernel_rfl) (by kernel_rfl)
def ti99 : TI := ⟨.func #[] #[3] false, 1, 8, .nilFunc, []⟩
theorem g99 : good Tryz.prog (99, ti99) := good_d rfl (by kernel_rfl) (by kernel_rfl)
def ti100 : TI := ⟨.func #[] #[44] false, 1, 8, .nilFunc, []⟩
theorem g100 : good Tryz.prog (100, ti100) := good_d rfl (by kernel_rfl) (by kernel_rfl)
def ti101 : TI := ⟨.func #[3] #[22] false, 1, 8, .nilFunc, []⟩
theorem g101 : good Tryz.prog (101, ti101) := good_d rfl (by kernel_rfl) (by kernel_rfl)
def ti102 : TI := ⟨.func #[3] #[28] false, 1, 8, .nilFunc, []⟩
theorem g102 : good Tryz.prog (102, ti102) := good_d rfl (by kernel_rfl) (by kernel_rfl)
def ti104 : TI := ⟨.func #[28] #[52, 44] false, 1, 8, .nilFunc, []⟩
theorem g104 : good Tryz.prog (104, ti104) := good_d rfl (by kernel_rfl) (by kernel_rfl)
def ti105 : TI := ⟨.func #[] #[25] false, 1, 8, .nilFunc, []⟩
theorem g105 : good Tryz.prog (105, ti105) := good_d rfl (by kernel_rfl) (by kernel_rfl)
def ti106 : TI := ⟨.func #[] #[27] false, 1, 8, .nilFunc, []⟩
theorem g106 : good Tryz.prog (106, ti106) := good_d rfl (by kernel_rfl) (by kernel_rfl)
def ti107 : TI := ⟨.pointer 151, 1, 8, .pointer none, []⟩
theorem g107 : good Tryz.prog (107, ti107) := good_d rfl (by kernel_rfl) (by kernel_rfl)
def ti108 : TI := ⟨.func #[28] #[107] false, 1, 8, .nilFunc, []⟩
theorem g108 : good Tryz.prog (108, ti108) := good_d rfl (by kernel_rfl) (by kernel_rfl)
def ti109 : TI := ⟨.func #[107] #[4] false, 1, 8, .nilFunc, []⟩
theorem g109 : good Tryz.prog (109, ti109) := good_d rfl (by kernel_rfl) (by kernel_rfl)
def ti110 : TI := ⟨.func #[22] #[] false, 1, 8, .nilFunc, []⟩
theorem g110 : good Tryz.prog (110, ti110) := good_d rfl (by kernel_rfl) (by kernel_rfl)
def ti111 : TI := ⟨.func #[23] #[] false, 1, 8, .nilFunc, []⟩
theorem g111 : good Tryz.prog (111, ti111) := good_d rfl (by kernel_rfl) (by kernel_rfl)
def ti112 : TI := ⟨.func #[3, 3, 3, 22, 153] #[30] true, 1, 8, .nilFunc, []⟩
theorem g112 : good Tryz.prog (112, ti112) := good_d rfl (by kernel_rfl) (by kernel_rfl)
def ti113 : TI := ⟨.func #[154] #[] false, 1, 8, .nilFunc, []⟩
theorem g113 : good Tryz.prog (113, ti113) := good_d rfl (by kernel_rfl) (by kernel_rfl)
def ti114 : TI := ⟨.func #[154] #[] false, 1, 8, .nilFunc, []⟩
theorem g114 : good Tryz.prog (114, ti114) := good_d rfl (by kernel_rfl) (by kernel_rfl)
def ti115 : TI := ⟨.func #[52] #[114] false, 1, 8, .nilFunc, []⟩
theorem g115 : good Tryz.prog (115, ti115) := good_d rfl (by kernel_rfl) (by kernel_rfl)
def ti116 : TI := ⟨.func #[25, 27] #[114] false, 1, 8, .nilFunc, []⟩
theorem g116 : good Tryz.prog (116, ti116) := good_d rfl (by kernel_rfl) (by kernel_rfl)
def ti117 : TI := ⟨.func #[28] #[114] false, 1, 8, .nilFunc, []⟩
theorem g117 : good Tryz.prog (117, ti117) := good_d rfl (by kernel_rfl) (by kernel_rfl)
def ti118 : TI := ⟨.func #[50, 50] #[4] false, 1, 8, .nilFunc, []⟩
theorem g118 : good Tryz.prog (118, ti118) := good_d rfl (by kernel_rfl) (by kernel_rfl)
def ti119 : TI := ⟨.func #[28] #[27] false, 1, 8, .nilFunc, []⟩
theorem g119 : good Tryz.prog (119, ti119) := good_d rfl (by kernel_rfl) (by kernel_rfl)
def ti120 : TI := ⟨.func #[27, 3] #[27, 34] false, 1, 8, .nilFunc, []⟩
theorem g120 : good Tryz.prog (120, ti120) := good_d rfl (by kernel_rfl) (by kernel_rfl)
def ti121 : TI := ⟨.func #[52, 3] #[4] false, 1, 8, .nilFunc, []⟩
theorem g121 : good Tryz.prog (121, ti121) := good_d rfl (by kernel_rfl) (by kernel_rfl)
def ti122 : TI := ⟨.func #[9] #[44] false, 1, 8, .nilFunc, []⟩
theorem g122 : good Tryz.prog (122, ti122) := good_d rfl (by kernel_rfl) (by kernel_rfl)
def ti123 : TI := ⟨.func #[9] #[34] false, 1, 8, .nilFunc, []⟩
theorem g123 : good Tryz.prog (123, ti123) := good_d rfl (by kernel_rfl) (by kernel_rfl)
def ti124 : TI := ⟨.func #[27, 3] #[34] false, 1, 8, .nilFunc, []⟩
theorem g124 : good Tryz.prog (124, ti124) := good_d rfl (by kernel_rfl) (by kernel_rfl)
def ti125 : TI := ⟨.struct #[], 3, 24, .agg ⟨[.nilFunc, .nilFunc, .bool false]⟩, [(123, 0), (124, 1), (4, 2)]⟩
theorem g125 : good Tryz.prog (125, ti125) := good_s rfl (by kernel_rfl) (by kernel_rfl)
def ti126 : TI := ⟨.struct #[], 3, 24, .agg ⟨[.nilFunc, .nilFunc, .bool false]⟩, [(123, 0), (124, 1), (4, 2)]⟩
theorem g126 : good Tryz.prog (126, ti126) := good_s rfl (by kernel_rfl) (by kernel_rfl)
def ti127 : TI := ⟨.array 4 126, 12, 96, .agg ⟨[.nilFunc, .nilFunc, .bool false, .nilFunc, .nilFunc, .bool false, .nilFunc, .nilFunc, .bool false, .nilFunc, .nilFunc, .bool false]⟩, []⟩
theorem g127 : good Tryz.prog (127, ti127) := good_d rfl (by kernel_rfl) (by kernel_rfl)
def ti128 : TI := ⟨.func #[] #[127] false, 1, 8, .nilFunc, []⟩
theorem g128 : good Tryz.prog (128, ti128) := good_d rfl (by kernel_rfl) (by kernel_rfl)
def ti129 : TI := ⟨.func #[52, 4, 3] #[34] false, 1, 8, .nilFunc, []⟩
theorem g129 : good Tryz.prog (129, ti129) := good_d rfl (by kernel_rfl) (by kernel_rfl)
def ti130 : TI := ⟨.array 3 34, 3, 24, .agg ⟨[.int .i64 0, .int .i64 0, .int .i64 0]⟩, []⟩
theorem g130 : good Tryz.prog (130, ti130) := good_d rfl (by kernel_rfl) (by kernel_rfl)
def ti131 : TI := ⟨.func #[25, 22, 25, 22] #[4] false, 1, 8, .nilFunc, []⟩
theorem g131 : good Tryz.prog (131, ti131) := good_d rfl (by kernel_rfl) (by kernel_rfl)
def ti132 : TI := ⟨.pointer 134, 1, 8, .pointer none, []⟩
theorem g132 : good Tryz.prog (132, ti132) := good_d rfl (by kernel_rfl) (by kernel_rfl)
def ti133 : TI := ⟨.struct #[], 2, 16, .agg ⟨[.int .i64 0, .int .i64 0]⟩, [(44, 0)]⟩
theorem g133 : good Tryz.prog (133, ti133) := good_s rfl (by kernel_rfl) (by kernel_rfl)
def ti134 : TI := ⟨.struct #[], 2, 16, .agg ⟨[.int .i64 0, .int .i64 0]⟩, [(44, 0)]⟩
theorem g134 : good Tryz.prog (134, ti134) := good_s rfl (by kernel_rfl) (by kernel_rfl)
def ti135 : TI := ⟨.struct #[], 3, 40, .agg ⟨[.pointer none, .int .i64 0, .slice none 0 0]⟩, [(132, 0), (3, 1), (28, 2)]⟩
theorem g135 : good Tryz.prog (135, ti135) := good_s rfl (by kernel_rfl) (by kernel_rfl)
def ti136 : TI := ⟨.struct #[], 3, 40, .agg ⟨[.pointer none, .int .i64 0, .slice none 0 0]⟩, [(132, 0), (3, 1), (28, 2)]⟩
theorem g136 : good Tryz.prog (136, ti136) := good_s rfl (by kernel_rfl) (by kernel_rfl)
def ti137 : TI := ⟨.func #[20] #[34] false, 1, 8, .nilFunc, []⟩
theorem g137 : good Tryz.prog (137, ti137) := good_d rfl (by kernel_rfl) (by kernel_rfl)
def ti138 : TI := ⟨.struct #[], 3, 40, .agg ⟨[.int .i64 0, .slice none 0 0, .int .i64 0]⟩, [(3, 0), (28, 1), (34, 2)]⟩
theorem g138 : good Tryz.prog (138, ti138) := good_s rfl (by kernel_rfl) (by kernel_rfl)
def ti139 : TI := ⟨.struct #[], 3, 40, .agg ⟨[.int .i64 0, .slice none 0 0, .int .i64 0]⟩, [(3, 0), (28, 1), (34, 2)]⟩
theorem g139 : good Tryz.prog (139, ti139) := good_s rfl (by kernel_rfl) (by kernel_rfl)
def ti140 : TI := ⟨.func #[3] #[4] false, 1, 8, .nilFunc, []⟩
theorem g140 : good Tryz.prog (140, ti140) := good_d rfl (by kernel_rfl) (by kernel_rfl)
def ti141 : TI := ⟨.func #[22, 140] #[4] false, 1, 8, .nilFunc, []⟩
theorem g141 : good Tryz.prog (141, ti141) := good_d rfl (by kernel_rfl) (by kernel_rfl)
def ti142 : TI := ⟨.struct #[], 3, 40, .agg ⟨[.pointer none, .slice none 0 0, .int .i64 0]⟩, [(132, 0), (28, 1), (3, 2)]⟩
theorem g142 : good Tryz.prog (142, ti142) := good_s rfl (by kernel_rfl) (by kernel_rfl)
def ti143 : TI := ⟨.struct #[], 3, 40, .agg ⟨[.pointer none, .slice none 0 0, .int .i64 0]⟩, [(132, 0), (28, 1), (3, 2)]⟩
theorem g143 : good Tryz.prog (143, ti143) := good_s rfl (by kernel_rfl) (by kernel_rfl)
def ti144 : TI := ⟨.func #[34, 3] #[] false, 1, 8, .nilFunc, []⟩
theorem g144 : good Tryz.prog (144, ti144) := good_d rfl (by kernel_rfl) (by kernel_rfl)
def ti145 : TI := ⟨.int .u64, 1, 8, .int .u64 0, []⟩
theorem g145 : good Tryz.prog (145, ti145) := good_d rfl (by kernel_rfl) (by kernel_rfl)
def ti146 : TI := ⟨.int .u64, 1, 8, .int .u64 0, []⟩
theorem g146 : good Tryz.prog (146, ti146) := good_d rfl (by kernel_rfl) (by kernel_rfl)
def ti147 : TI := ⟨.func #[3] #[3] false, 1, 8, .nilFunc, []⟩
theorem g147 : good Tryz.prog (147, ti147) := good_d rfl (by kernel_rfl) (by kernel_rfl)
def ti148 : TI := ⟨.func #[3, 3] #[28] false, 1, 8, .nilFunc, []⟩
theorem g148 : good Tryz.prog (148, ti148) := good_d rfl (by kernel_rfl) (by kernel_rfl)
def ti149 : TI := ⟨.func #[3] #[9] false, 1, 8, .nilFunc, []⟩
theorem g149 : good Tryz.prog (149, ti149) := good_d rfl (by kernel_rfl) (by kernel_rfl)
def ti150 : TI := ⟨.struct #[], 4, 48, .agg ⟨[.slice none 0 0, .int .i64 0, .int .i64 0, .int .i64 0]⟩, [(28, 0), (3, 1), (44, 2)]⟩
theorem g150 : good Tryz.prog (150, ti150) := good_s rfl (by kernel_rfl) (by kernel_rfl)
def ti151 : TI := ⟨.struct #[], 4, 48, .agg ⟨[.slice none 0 0, .int .i64 0, .int .i64 0, .int .i64 0]⟩, [(28, 0), (3, 1), (44, 2)]⟩
theorem g151 : good Tryz.prog (151, ti151) := good_s rfl (by kernel_rfl) (by kernel_rfl)
def ti152 : TI := ⟨.func #[50] #[] false, 1, 8, .nilFunc, []⟩
theorem g152 : good Tryz.prog (152, ti152) := good_d rfl (by kernel_rfl) (by kernel_rfl)
def ti153 : TI := ⟨.slice 114, 1, 24, .slice none 0 0, []⟩
theorem g153 : good Tryz.prog (153, ti153) := good_d rfl (by kernel_rfl) (by kernel_rfl)
def ti154 : TI := ⟨.pointer 30, 1, 8, .pointer none, []⟩
theorem g154 : good Tryz.prog (154, ti154) := good_d rfl (by kernel_rfl) (by kernel_rfl)
def ti155 : TI := ⟨.func #[50] #[50] false, 1, 8, .nilFunc, []⟩
theorem g155 : good Tryz.prog (155, ti155) := good_d rfl (by kernel_rfl) (by kernel_rfl)
def ti156 : TI := ⟨.pointer 182, 1, 8, .pointer none, []⟩
theorem g156 : good Tryz.prog (156, ti156) := good_d rfl (by kernel_rfl) (by kernel_rfl)
def ti157 : TI := ⟨.func #[] #[156] false, 1, 8, .nilFunc, []⟩
theorem g157 : good Tryz.prog (157, ti157) := good_d rfl (by kernel_rfl) (by kernel_rfl)
def ti158 : TI := ⟨.func #[] #[27, 34] false, 1, 8, .nilFunc, []⟩
theorem g158 : good Tryz.prog (158, ti158) := good_d rfl (by kernel_rfl) (by kernel_rfl)
def ti160 : TI := ⟨.func #[9, 3] #[44, 4] false, 1, 8, .nilFunc, []⟩
theorem g160 : good Tryz.prog (160, ti160) := good_d rfl (by kernel_rfl) (by kernel_rfl)
def ti161 : TI := ⟨.func #[9, 162, 34] #[44] false, 1, 8, .nilFunc, []⟩
theorem g161 : good Tryz.prog (161, ti161) := good_d rfl (by kernel_rfl) (by kernel_rfl)
def ti162 : TI := ⟨.pointer 185, 1, 8, .pointer none, []⟩
theorem g162 : good Tryz.prog (162, ti162) := good_d rfl (by kernel_rfl) (by kernel_rfl)
def ti163 : TI := ⟨.struct #[], 1, 8, .agg ⟨[.int .i64 0]⟩, [(3, 0)]⟩
theorem g163 : good Tryz.prog (163, ti163) := good_s rfl (by kernel_rfl) (by kernel_rfl)
def ti164 : TI := ⟨.struct #[], 1, 8, .agg ⟨[.int .i64 0]⟩, [(3, 0)]⟩
theorem g164 : good Tryz.prog (164, ti164) := good_s rfl (by kernel_rfl) (by kernel_rfl)
def ti165 : TI := ⟨.func #[] #[162] false, 1, 8, .nilFunc, []⟩
theorem g165 : good Tryz.prog (165, ti165) := good_d rfl (by kernel_rfl) (by kernel_rfl)
def ti166 : TI := ⟨.func #[50, 27] #[4] false, 1, 8, .nilFunc, []⟩
theorem g166 : good Tryz.prog (166, ti166) := good_d rfl (by kernel_rfl) (by kernel_rfl)
def ti167 : TI := ⟨.func #[27, 27] #[3] false, 1, 8, .nilFunc, []⟩
theorem g167 : good Tryz.prog (167, ti167) := good_d rfl (by kernel_rfl) (by kernel_rfl)
def ti168 : TI := ⟨.func #[50, 169] #[4] false, 1, 8, .nilFunc, []⟩
theorem g168 : good Tryz.prog (168, ti168) := good_d rfl (by kernel_rfl) (by kernel_rfl)
def ti169 : TI := ⟨.func #[27] #[4] false, 1, 8, .nilFunc, []⟩
theorem g169 : good Tryz.prog (169, ti169) := good_d rfl (by kernel_rfl) (by kernel_rfl)
def ti170 : TI := ⟨.func #[22] #[3] false, 1, 8, .nilFunc, []⟩
theorem g170 : good Tryz.prog (170, ti170) := good_d rfl (by kernel_rfl) (by kernel_rfl)
def ti171 : TI := ⟨.func #[22, 22, 64] #[3] false, 1, 8, .nilFunc, []⟩
theorem g171 : good Tryz.prog (171, ti171) := good_d rfl (by kernel_rfl) (by kernel_rfl)
def ti173 : TI := ⟨.func #[28, 20] #[28, 4] false, 1, 8, .nilFunc, []⟩
theorem g173 : good Tryz.prog (173, ti173) := good_d rfl (by kernel_rfl) (by kernel_rfl)
def ti174 : TI := ⟨.func #[22, 140] #[3] false, 1, 8, .nilFunc, []⟩
theorem g174 : good Tryz.prog (174, ti174) := good_d rfl (by kernel_rfl) (by kernel_rfl)
def ti175 : TI := ⟨.func #[52, 3] #[34] false, 1, 8, .nilFunc, []⟩
theorem g175 : good Tryz.prog (175, ti175) := good_d rfl (by kernel_rfl) (by kernel_rfl)
def ti176 : TI := ⟨.int .u32, 1, 4, .int .u32 0, []⟩
theorem g176 : good Tryz.prog (176, ti176) := good_d rfl (by kernel_rfl) (by kernel_rfl)
def ti177 : TI := ⟨.array 8 176, 8, 32, .agg ⟨[.int .u32 0, .int .u32 0, .int .u32 0, .int .u32 0, .int .u32 0, .int .u32 0, .int .u32 0, .int .u32 0]⟩, []⟩
theorem g177 : good Tryz.prog (177, ti177) := good_d rfl (by kernel_rfl) (by kernel_rfl)
def ti178 : TI := ⟨.func #[177, 28] #[177] false, 1, 8, .nilFunc, []⟩
theorem g178 : good Tryz.prog (178, ti178) := good_d rfl (by kernel_rfl) (by kernel_rfl)
def ti179 : TI := ⟨.array 8 176, 8, 32, .agg ⟨[.int .u32 0, .int .u32 0, .int .u32 0, .int .u32 0, .int .u32 0, .int .u32 0, .int .u32 0, .int .u32 0]⟩, []⟩
theorem g179 : good Tryz.prog (179, ti179) := good_d rfl (by kernel_rfl) (by kernel_rfl)
def ti180 : TI := ⟨.func #[] #[179] false, 1, 8, .nilFunc, []⟩
theorem g180 : good Tryz.prog (180, ti180) := good_d rfl (by kernel_rfl) (by kernel_rfl)
def ti181 : TI := ⟨.struct #[], 11, 72, .agg ⟨[.int .u32 0, .int .u32 0, .int .u32 0, .int .u32 0, .int .u32 0, .int .u32 0, .int .u32 0, .int .u32 0, .slice none 0 0, .int .i64 0, .bool false]⟩, [(179, 0), (28, 8), (3, 9), (4, 10)]⟩
theorem g181 : good Tryz.prog (181, ti181) := good_s rfl (by kernel_rfl) (by kernel_rfl)
def ti182 : TI := ⟨.struct #[], 11, 72, .agg ⟨[.int .u32 0, .int .u32 0, .int .u32 0, .int .u32 0, .int .u32 0, .int .u32 0, .int .u32 0, .int .u32 0, .slice none 0 0, .int .i64 0, .bool false]⟩, [(179, 0), (28, 8), (3, 9), (4, 10)]⟩
theorem g182 : good Tryz.prog (182, ti182) := good_s rfl (by kernel_rfl) (by kernel_rfl)
def ti183 : TI := ⟨.func #[186] #[162] false, 1, 8, .nilFunc, []⟩
theorem g183 : good Tryz.prog (183, ti183) := good_d rfl (by kernel_rfl) (by kernel_rfl)
def ti184 : TI := ⟨.struct #[], 2, 16, .agg ⟨[.nilFunc, .bool false]⟩, [(183, 0), (4, 1)]⟩
theorem g184 : good Tryz.prog (184, ti184) := good_s rfl (by kernel_rfl) (by kernel_rfl)
def ti185 : TI := ⟨.struct #[], 2, 16, .agg ⟨[.nilFunc, .bool false]⟩, [(183, 0), (4, 1)]⟩
theorem g185 : good Tryz.prog (185, ti185) := good_s rfl (by kernel_rfl) (by kernel_rfl)
def ti186 : TI := ⟨.int .i32, 1, 4, .int .i32 0, []⟩
theorem g186 : good Tryz.prog (186, ti186) := good_d rfl (by kernel_rfl) (by kernel_rfl)
def ti187 : TI := ⟨.func #[50, 27] #[3] false, 1, 8, .nilFunc, []⟩
theorem g187 : good Tryz.prog (187, ti187) := good_d rfl (by kernel_rfl) (by kernel_rfl)
def ti188 : TI := ⟨.func #[28, 28] #[3] false, 1, 8, .nilFunc, []⟩
theorem g188 : good Tryz.prog (188, ti188) := good_d rfl (by kernel_rfl) (by kernel_rfl)
def ti189 : TI := ⟨.func #[50, 169] #[3] false, 1, 8, .nilFunc, []⟩
theorem g189 : good Tryz.prog (189, ti189) := good_d rfl (by kernel_rfl) (by kernel_rfl)
def ti190 : TI := ⟨.func #[192, 3, 194] #[3] false, 1, 8, .nilFunc, []⟩
theorem g190 : good Tryz.prog (190, ti190) := good_d rfl (by kernel_rfl) (by kernel_rfl)
def ti191 : TI := ⟨.func #[206] #[] false, 1, 8, .nilFunc, []⟩
theorem g191 : good Tryz.prog (191, ti191) := good_d rfl (by kernel_rfl) (by kernel_rfl)
def ti192 : TI := ⟨.func #[206] #[] false, 1, 8, .nilFunc, []⟩
theorem g192 : good Tryz.prog (192, ti192) := good_d rfl (by kernel_rfl) (by kernel_rfl)
def ti193 : TI := ⟨.func #[22, 22] #[192] false, 1, 8, .nilFunc, []⟩
theorem g193 : good Tryz.prog (193, ti193) := good_d rfl (by kernel_rfl) (by kernel_rfl)
def ti194 : TI := ⟨.func #[3, 3, 3] #[3] false, 1, 8, .nilFunc, []⟩
theorem g194 : good Tryz.prog (194, ti194) := good_d rfl (by kernel_rfl) (by kernel_rfl)
def ti195 : TI := ⟨.func #[34, 3] #[44] false, 1, 8, .nilFunc, []⟩
theorem g195 : good Tryz.prog (195, ti195) := good_d rfl (by kernel_rfl) (by kernel_rfl)
def ti196 : TI := ⟨.func #[9, 21] #[4] false, 1, 8, .nilFunc, []⟩
theorem g196 : good Tryz.prog (196, ti196) := good_d rfl (by kernel_rfl) (by kernel_rfl)
def ti197 : TI := ⟨.func #[21] #[4] false, 1, 8, .nilFunc, []⟩
theorem g197 : good Tryz.prog (197, ti197) := good_d rfl (by kernel_rfl) (by kernel_rfl)
def ti198 : TI := ⟨.func #[50] #[4] false, 1, 8, .nilFunc, []⟩
theorem g198 : good Tryz.prog (198, ti198) := good_d rfl (by kernel_rfl) (by kernel_rfl)
def ti199 : TI := ⟨.array 64 176, 64, 256, .agg ⟨[.int .u32 0, .int .u32 0, .int .u32 0, .int .u32 0, .int .u32 0, .int .u32 0, .int .u32 0, .int .u32 0, .int .u32 0, .int .u32 0, .int .u32 0, .int .u32 0, .int .u32 0, .int .u32 0, .int .u32 0, .int .u32 0, .int .u32 0, .int .u32 0, .int .u32 0, .int .u32 0, .int .u32 0, .int .u32 0, .int .u32 0, .int .u32 0, .int .u32 0, .int .u32 0, .int .u32 0, .int .u32 0, .int .u32 0, .int .u32 0, .int .u32 0, .int .u32 0, .int .u32 0, .int .u32 0, .int .u32 0, .int .u32 0, .int .u32 0, .int .u32 0, .int .u32 0, .int .u32 0, .int .u32 0, .int .u32 0, .int .u32 0, .int .u32 0, .int .u32 0, .int .u32 0, .int .u32 0, .int .u32 0, .int .u32 0, .int .u32 0, .int .u32 0, .int .u32 0, .int .u32 0, .int .u32 0, .int .u32 0, .int .u32 0, .int .u32 0, .int .u32 0, .int .u32 0, .int .u32 0, .int .u32 0, .int .u32 0, .int .u32 0, .int .u32 0]⟩, []⟩
theorem g199 : good Tryz.prog (199, ti199) := good_d rfl (by kernel_rfl) (by kernel_rfl)
def ti200 : TI := ⟨.func #[176, 3] #[176] false, 1, 8, .nilFunc, []⟩
theorem g200 : good Tryz.prog (200, ti200) := good_d rfl (by kernel_rfl) (by kernel_rfl)
def ti201 : TI := ⟨.func #[] #[199] false, 1, 8, .nilFunc, []⟩
theorem g201 : good Tryz.prog (201, ti201) := good_d rfl (by kernel_rfl) (by kernel_rfl)
def ti202 : TI := ⟨.pointer 179, 1, 8, .pointer none, []⟩
theorem g202 : good Tryz.prog (202, ti202) := good_d rfl (by kernel_rfl) (by kernel_rfl)
def ti203 : TI := ⟨.func #[28] #[199] false, 1, 8, .nilFunc, []⟩
theorem g203 : good Tryz.prog (203, ti203) := good_d rfl (by kernel_rfl) (by kernel_rfl)
def ti204 : TI := ⟨.func #[205] #[162] false, 1, 8, .nilFunc, []⟩
theorem g204 : good Tryz.prog (204, ti204) := good_d rfl (by kernel_rfl) (by kernel_rfl)
def ti205 : TI := ⟨.func #[186] #[4] false, 1, 8, .nilFunc, []⟩
theorem g205 : good Tryz.prog (205, ti205) := good_d rfl (by kernel_rfl) (by kernel_rfl)
def ti206 : TI := ⟨.func #[3, 3] #[4] false, 1, 8, .nilFunc, []⟩
theorem g206 : good Tryz.prog (206, ti206) := good_d rfl (by kernel_rfl) (by kernel_rfl)
def ti207 : TI := ⟨.func #[22, 3] #[3] false, 1, 8, .nilFunc, []⟩
theorem g207 : good Tryz.prog (207, ti207) := good_d rfl (by kernel_rfl) (by kernel_rfl)
def ti208 : TI := ⟨.func #[] #[9] false, 1, 8, .nilFunc, []⟩
theorem g208 : good Tryz.prog (208, ti208) := good_d rfl (by kernel_rfl) (by kernel_rfl)
def ti209 : TI := ⟨.struct #[], 4, 40, .agg ⟨[.pointer none, .pointer none, .pointer none, .string ⟨⟨[]⟩⟩]⟩, [(17, 0), (17, 1), (17, 2), (9, 3)]⟩
theorem g209 : good Tryz.prog (209, ti209) := good_s rfl (by kernel_rfl) (by kernel_rfl)
def ti210 : TI := ⟨.struct #[], 4, 40, .agg ⟨[.pointer none, .pointer none, .pointer none, .string ⟨⟨[]⟩⟩]⟩, [(17, 0), (17, 1), (17, 2), (9, 3)]⟩
theorem g210 : good Tryz.prog (210, ti210) := good_s rfl (by kernel_rfl) (by kernel_rfl)
def ti211 : TI := ⟨.array 0 16, 0, 0, .agg ⟨[]⟩, []⟩
theorem g211 : good Tryz.prog (211, ti211) := good_d rfl (by kernel_rfl) (by kernel_rfl)
def ti212 : TI := ⟨.struct #[], 0, 0, .agg ⟨[]⟩, [(211, 0)]⟩
theorem g212 : good Tryz.prog (212, ti212) := good_s rfl (by kernel_rfl) (by kernel_rfl)
def ti213 : TI := ⟨.struct #[], 0, 0, .agg ⟨[]⟩, [(211, 0)]⟩
theorem g213 : good Tryz.prog (213, ti213) := good_s rfl (by kernel_rfl) (by kernel_rfl)
def ti214 : TI := ⟨.int .u8, 1, 1, .int .u8 0, []⟩
theorem g214 : good Tryz.prog (214, ti214) := good_d rfl (by kernel_rfl) (by kernel_rfl)
def ti215 : TI := ⟨.int .u8, 1, 1, .int .u8 0, []⟩
theorem g215 : good Tryz.prog (215, ti215) := good_d rfl (by kernel_rfl) (by kernel_rfl)
def ti216 : TI := ⟨.func #[223, 223] #[4] false, 1, 8, .nilFunc, []⟩
theorem g216 : good Tryz.prog (216, ti216) := good_d rfl (by kernel_rfl) (by kernel_rfl)
def ti217 : TI := ⟨.pointer 5, 1, 8, .pointer none, []⟩
theorem g217 : good Tryz.prog (217, ti217) := good_d rfl (by kernel_rfl) (by kernel_rfl)
def ti218 : TI := ⟨.int .i32, 1, 4, .int .i32 0, []⟩
theorem g218 : good Tryz.prog (218, ti218) := good_d rfl (by kernel_rfl) (by kernel_rfl)
def ti219 : TI := ⟨.int .i32, 1, 4, .int .i32 0, []⟩
theorem g219 : good Tryz.prog (219, ti219) := good_d rfl (by kernel_rfl) (by kernel_rfl)
def ti220 : TI := ⟨.struct #[], 11, 48, .agg ⟨[.int .u64 0, .int .u64 0, .int .u32 0, .int .u8 0, .int .u8 0, .int .u8 0, .int .u8 0, .nilFunc, .pointer none, .int .i32 0, .int .i32 0]⟩, [(12, 0), (12, 1), (176, 2), (214, 3), (5, 4), (5, 5), (215, 6), (216, 7), (217, 8), (218, 9), (219, 10)]⟩
theorem g220 : good Tryz.prog (220, ti220) := good_s rfl (by kernel_rfl) (by kernel_rfl)
def ti221 : TI := ⟨.struct #[], 11, 48, .agg ⟨[.int .u64 0, .int .u64 0, .int .u32 0, .int .u8 0, .int .u8 0, .int .u8 0, .int .u8 0, .nilFunc, .pointer none, .int .i32 0, .int .i32 0]⟩, [(12, 0), (12, 1), (176, 2), (214, 3), (5, 4), (5, 5), (215, 6), (216, 7), (217, 8), (218, 9), (219, 10)]⟩
theorem g221 : good Tryz.prog (221, ti221) := good_s rfl (by kernel_rfl) (by kernel_rfl)
def ti222 : TI := ⟨.func #[4] #[34] false, 1, 8, .nilFunc, []⟩
theorem g222 : good Tryz.prog (222, ti222) := good_d rfl (by kernel_rfl) (by kernel_rfl)
def tts : List (Nat × TI) := [(1, ti1), (2, ti2), (3, ti3), (4, ti4), (5, ti5), (6, ti6), (7, ti7), (8, ti8), (9, ti9), (10, ti10), (11, ti11), (12, ti12), (13, ti13), (14, ti14), (15, ti15), (16, ti16), (17, ti17), (18, ti18), (19, ti19), (21, ti21), (22, ti22), (23, ti23), (24, ti24), (25, ti25), (26, ti26), (27, ti27), (28, ti28), (29, ti29), (30, ti30), (31, ti31), (32, ti32), (33, ti33), (34, ti34), (36, ti36), (37, ti37), (38, ti38), (39, ti39), (40, ti40), (41, ti41), (42, ti42), (43, ti43), (44, ti44), (46, ti46), (47, ti47), (48, ti48), (49, ti49), (50, ti50), (51, ti51), (52, ti52), (53, ti53), (54, ti54), (55, ti55), (56, ti56), (57, ti57), (58, ti58), (59, ti59), (60, ti60), (61, ti61), (62, ti62), (63, ti63), (64, ti64), (65, ti65), (66, ti66), (68, ti68), (69, ti69), (70, ti70), (71, ti71), (72, ti72), (73, ti73), (74, ti74), (75, ti75), (77, ti77), (78, ti78), (79, ti79), (80, ti80), (81, ti81), (82, ti82), (83, ti83), (84, ti84), (86, ti86), (87, ti87), (88, ti88), (89, ti89), (90, ti90), (92, ti92), (93, ti93), (94, ti94), (95, ti95), (96, ti96), (97, ti97), (98, ti98), (99, ti99), (100, ti100), (101, ti101), (102, ti102), (104, ti104), (105, ti105), (106, ti106), (107, ti107), (108, ti108), (109, ti109), (110, ti110), (111, ti111), (112, ti112), (113, ti113), (114, ti114), (115, ti115), (116, ti116), (117, ti117), (118, ti118), (119, ti119), (120, ti120), (121, ti121), (122, ti122), (123, ti123), (124, ti124), (125, ti125), (126, ti126), (127, ti127), (128, ti128), (129, ti129), (130, ti130), (131, ti131), (132, ti132), (133, ti133), (134, ti134), (135, ti135), (136, ti136), (137, ti137), (138, ti138), (139, ti139), (140, ti140), (141, ti141), (142, ti142), (143, ti143), (144, ti144), (145, ti145), (146, ti146), (147, ti147), (148, ti148), (149, ti149), (150, ti150), (151, ti151), (152, ti152), (153, ti153), (154, ti154), (155, ti155), (156, ti156), (157, ti157), (158, ti158), (160, ti160), (161, ti161), (162, ti162), (163, ti163), (164, ti164), (165, ti165), (166, ti166), (167, ti167), (168, ti168), (169, ti169), (170, ti170), (171, ti171), (173, ti173), (174, ti174), (175, ti175), (176, ti176), (177, ti177), (178, ti178), (179, ti179), (180, ti180), (181, ti181), (182, ti182), (183, ti183), (184, ti184), (185, ti185), (186, ti186), (187, ti187), (188, ti188), (189, ti189), (190, ti190), (191, ti191), (192, ti192), (193, ti193), (194, ti194), (195, ti195), (196, ti196), (197, ti197), (198, ti198), (199, ti199), (200, ti200), (201, ti201), (202, ti202), (203, ti203), (204, ti204), (205, ti205), (206, ti206), (207, ti207), (208, ti208), (209, ti209), (210, ti210), (211, ti211), (212, ti212), (213, ti213), (214, ti214), (215, ti215), (216, ti216), (217, ti217), (218, ti218), (219, ti219), (220, ti220), (221, ti221), (222, ti222)]
theorem good_cons {x : Nat × TI} {l : List (Nat × TI)} (h : good Tryz.prog x) (hl : ∀ p ∈ l, good Tryz.prog p) : ∀ p ∈ x :: l, good Tryz.prog p := fun p hp => (List.mem_cons.1 hp).elim (fun e => e ▸ h) (hl p)
theorem tts_good : ∀ p ∈ tts, good Tryz.prog p := by
  refine good_cons g1 (good_cons g2 (good_cons g3 (good_cons g4 (good_cons g5 (good_cons g6 (good_cons g7 (good_cons g8 (good_cons g9 (good_cons g10 (good_cons g11 (good_cons g12 (good_cons g13 (good_cons g14 (good_cons g15 (good_cons g16 (?_))))))))))))))))
  refine good_cons g17 (good_cons g18 (good_cons g19 (good_cons g21 (good_cons g22 (good_cons g23 (good_cons g24 (good_cons g25 (good_cons g26 (good_cons g27 (good_cons g28 (good_cons g29 (good_cons g30 (good_cons g31 (good_cons g32 (good_cons g33 (?_))))))))))))))))
  refine good_cons g34 (good_cons g36 (good_cons g37 (good_cons g38 (good_cons g39 (good_cons g40 (good_cons g41 (good_cons g42 (good_cons g43 (good_cons g44 (good_cons g46 (good_cons g47 (good_cons g48 (good_cons g49 (good_cons g50 (good_cons g51 (?_))))))))))))))))
  refine good_cons g52 (good_cons g53 (good_cons g54 (good_cons g55 (good_cons g56 (good_cons g57 (good_cons g58 (good_cons g59 (good_cons g60 (good_cons g61 (good_cons g62 (good_cons g63 (good_cons g64 (good_cons g65 (good_cons g66 (good_cons g68 (?_))))))))))))))))
  refine good_cons g69 (good_cons g70 (good_cons g71 (good_cons g72 (good_cons g73 (good_cons g74 (good_cons g75 (good_cons g77 (good_cons g78 (good_cons g79 (good_cons g80 (good_cons g81 (good_cons g82 (good_cons g83 (good_cons g84 (good_cons g86 (?_))))))))))))))))
  refine good_cons g87 (good_cons g88 (good_cons g89 (good_cons g90 (good_cons g92 (good_cons g93 (good_cons g94 (good_cons g95 (good_cons g96 (good_cons g97 (good_cons g98 (good_cons g99 (good_cons g100 (good_cons g101 (good_cons g102 (good_cons g104 (?_))))))))))))))))
  refine good_cons g105 (good_cons g106 (good_cons g107 (good_cons g108 (good_cons g109 (good_cons g110 (good_cons g111 (good_cons g112 (good_cons g113 (good_cons g114 (good_cons g115 (good_cons g116 (good_cons g117 (good_cons g118 (good_cons g119 (good_cons g120 (?_))))))))))))))))
  refine good_cons g121 (good_cons g122 (good_cons g123 (good_cons g124 (good_cons g125 (good_cons g126 (good_cons g127 (good_cons g128 (good_cons g129 (good_cons g130 (good_cons g131 (good_cons g132 (good_cons g133 (good_cons g134 (good_cons g135 (good_cons g136 (?_))))))))))))))))
  refine good_cons g137 (good_cons g138 (good_cons g139 (good_cons g140 (good_cons g141 (good_cons g142 (good_cons g143 (good_cons g144 (good_cons g145 (good_cons g146 (good_cons g147 (good_cons g148 (good_cons g149 (good_cons g150 (good_cons g151 (good_cons g152 (?_))))))))))))))))
  refine good_cons g153 (good_cons g154 (good_cons g155 (good_cons g156 (good_cons g157 (good_cons g158 (good_cons g160 (good_cons g161 (good_cons g162 (good_cons g163 (good_cons g164 (good_cons g165 (good_cons g166 (good_cons g167 (good_cons g168 (good_cons g169 (?_))))))))))))))))
  refine good_cons g170 (good_cons g171 (good_cons g173 (good_cons g174 (good_cons g175 (good_cons g176 (good_cons g177 (good_cons g178 (good_cons g179 (good_cons g180 (good_cons g181 (good_cons g182 (good_cons g183 (good_cons g184 (good_cons g185 (good_cons g186 (?_))))))))))))))))
  refine good_cons g187 (good_cons g188 (good_cons g189 (good_cons g190 (good_cons g191 (good_cons g192 (good_cons g193 (good_cons g194 (good_cons g195 (good_cons g196 (good_cons g197 (good_cons g198 (good_cons g199 (good_cons g200 (good_cons g201 (good_cons g202 (?_))))))))))))))))
  refine good_cons g203 (good_cons g204 (good_cons g205 (good_cons g206 (good_cons g207 (good_cons g208 (good_cons g209 (good_cons g210 (good_cons g211 (good_cons g212 (good_cons g213 (good_cons g214 (good_cons g215 (good_cons g216 (good_cons g217 (good_cons g218 (?_))))))))))))))))
  refine good_cons g219 (good_cons g220 (good_cons g221 (good_cons g222 (?_))))
  exact fun p hp => by cases hp
set_option maxRecDepth 100000 in
theorem tts_sane : ∀ p ∈ tts, p.2.flds ≠ [(0, 99999)] := by decide
instance : TT Tryz.prog (lookT tts) := TT.of_list tts_good tts_sane
instance : Mixed Tryz.prog := ⟨by kernel_rfl⟩
abbrev n_entrepotlaw25_LetterMakes : Nat := 5
theorem F_entrepotlaw25_LetterMakes : Tryz.prog.funcs[n_entrepotlaw25_LetterMakes]? = some Tryz.f5 := Tryz.func5
abbrev n_entrepotlaw25_LetterKnown : Nat := 6
theorem F_entrepotlaw25_LetterKnown : Tryz.prog.funcs[n_entrepotlaw25_LetterKnown]? = some Tryz.f6 := Tryz.func6
abbrev n_entrepotlaw25_LetterBack : Nat := 7
theorem F_entrepotlaw25_LetterBack : Tryz.prog.funcs[n_entrepotlaw25_LetterBack]? = some Tryz.f7 := Tryz.func7
abbrev n_entrepotlaw25_LetterFits : Nat := 9
theorem F_entrepotlaw25_LetterFits : Tryz.prog.funcs[n_entrepotlaw25_LetterFits]? = some Tryz.f9 := Tryz.func9
abbrev n_entrepotkit_LongLetter : Nat := 10
theorem F_entrepotkit_LongLetter : Tryz.prog.funcs[n_entrepotkit_LongLetter]? = some Tryz.f10 := Tryz.func10
abbrev n_entrepotlaw25_awake : Nat := 11
theorem F_entrepotlaw25_awake : Tryz.prog.funcs[n_entrepotlaw25_awake]? = some Tryz.f11 := Tryz.func11
abbrev n_letter_Encode : Nat := 13
theorem F_letter_Encode : Tryz.prog.funcs[n_letter_Encode]? = some Tryz.f13 := Tryz.func13
abbrev n_entrepotkit_SameBytes : Nat := 15
theorem F_entrepotkit_SameBytes : Tryz.prog.funcs[n_entrepotkit_SameBytes]? = some Tryz.f15 := Tryz.func15
abbrev n_letter_Check : Nat := 16
theorem F_letter_Check : Tryz.prog.funcs[n_letter_Check]? = some Tryz.f16 := Tryz.func16
abbrev n_entrepotkit_OverBytes : Nat := 18
theorem F_entrepotkit_OverBytes : Tryz.prog.funcs[n_entrepotkit_OverBytes]? = some Tryz.f18 := Tryz.func18
abbrev n_entrepotkit_SameLetter : Nat := 19
theorem F_entrepotkit_SameLetter : Tryz.prog.funcs[n_entrepotkit_SameLetter]? = some Tryz.f19 := Tryz.func19
abbrev n_entrepotkit_LentBytes : Nat := 20
theorem F_entrepotkit_LentBytes : Tryz.prog.funcs[n_entrepotkit_LentBytes]? = some Tryz.f20 := Tryz.func20
abbrev n_letter_Decode : Nat := 21
theorem F_letter_Decode : Tryz.prog.funcs[n_letter_Decode]? = some Tryz.f21 := Tryz.func21
abbrev n_entrepotkit_OverLetters : Nat := 23
theorem F_entrepotkit_OverLetters : Tryz.prog.funcs[n_entrepotkit_OverLetters]? = some Tryz.f23 := Tryz.func23
abbrev n_entrepotkit_KeptBytes : Nat := 24
theorem F_entrepotkit_KeptBytes : Tryz.prog.funcs[n_entrepotkit_KeptBytes]? = some Tryz.f24 := Tryz.func24
abbrev n_entrepotkit_LongEvent : Nat := 25
theorem F_entrepotkit_LongEvent : Tryz.prog.funcs[n_entrepotkit_LongEvent]? = some Tryz.f25 := Tryz.func25
abbrev n_entrepotkit_CopyEvent : Nat := 26
theorem F_entrepotkit_CopyEvent : Tryz.prog.funcs[n_entrepotkit_CopyEvent]? = some Tryz.f26 := Tryz.func26
abbrev n_entrepotkit_CopyInts : Nat := 27
theorem F_entrepotkit_CopyInts : Tryz.prog.funcs[n_entrepotkit_CopyInts]? = some Tryz.f27 := Tryz.func27
abbrev n_letter_Note : Nat := 28
theorem F_letter_Note : Tryz.prog.funcs[n_letter_Note]? = some Tryz.f28 := Tryz.func28
abbrev n_letter_Ship : Nat := 29
theorem F_letter_Ship : Tryz.prog.funcs[n_letter_Ship]? = some Tryz.f29 := Tryz.func29
abbrev n_entrepotref25_Note : Nat := 30
theorem F_entrepotref25_Note : Tryz.prog.funcs[n_entrepotref25_Note]? = some Tryz.f30 := Tryz.func30
abbrev n_entrepotref25_Ship : Nat := 31
theorem F_entrepotref25_Ship : Tryz.prog.funcs[n_entrepotref25_Ship]? = some Tryz.f31 := Tryz.func31
abbrev n_entrepotkit_SameEvent : Nat := 32
theorem F_entrepotkit_SameEvent : Tryz.prog.funcs[n_entrepotkit_SameEvent]? = some Tryz.f32 := Tryz.func32
abbrev n_entrepotkit_SameInts : Nat := 33
theorem F_entrepotkit_SameInts : Tryz.prog.funcs[n_entrepotkit_SameInts]? = some Tryz.f33 := Tryz.func33
abbrev n_entrepotlaw25_one : Nat := 34
theorem F_entrepotlaw25_one : Tryz.prog.funcs[n_entrepotlaw25_one]? = some Tryz.f34 := Tryz.func34
abbrev n_entrepotlaw25_need : Nat := 35
theorem F_entrepotlaw25_need : Tryz.prog.funcs[n_entrepotlaw25_need]? = some Tryz.f35 := Tryz.func35
abbrev n_entrepotlaw25_checks : Nat := 36
theorem F_entrepotlaw25_checks : Tryz.prog.funcs[n_entrepotlaw25_checks]? = some Tryz.f36 := Tryz.func36
abbrev n_entrepotkit_Pick : Nat := 37
theorem F_entrepotkit_Pick : Tryz.prog.funcs[n_entrepotkit_Pick]? = some Tryz.f37 := Tryz.func37
abbrev n_entrepotkit_CopyBytes : Nat := 38
theorem F_entrepotkit_CopyBytes : Tryz.prog.funcs[n_entrepotkit_CopyBytes]? = some Tryz.f38 := Tryz.func38
abbrev n_sha_Of : Nat := 39
theorem F_sha_Of : Tryz.prog.funcs[n_sha_Of]? = some Tryz.f39 := Tryz.func39
abbrev n_event_Check : Nat := 40
theorem F_event_Check : Tryz.prog.funcs[n_event_Check]? = some Tryz.f40 := Tryz.func40
abbrev n_event_Less : Nat := 41
theorem F_event_Less : Tryz.prog.funcs[n_event_Less]? = some Tryz.f41 := Tryz.func41
abbrev n_entrepotkit_LongEvents : Nat := 42
theorem F_entrepotkit_LongEvents : Tryz.prog.funcs[n_entrepotkit_LongEvents]? = some Tryz.f42 := Tryz.func42
abbrev n_event_Encode : Nat := 44
theorem F_event_Encode : Tryz.prog.funcs[n_event_Encode]? = some Tryz.f44 := Tryz.func44
abbrev n_wire_NewWriter : Nat := 45
theorem F_wire_NewWriter : Tryz.prog.funcs[n_wire_NewWriter]? = some Tryz.f45 := Tryz.func45
abbrev n_p_wire_Writer_Num : Nat := 46
theorem F_p_wire_Writer_Num : Tryz.prog.funcs[n_p_wire_Writer_Num]? = some Tryz.f46 := Tryz.func46
abbrev n_p_wire_Writer_Vector : Nat := 47
theorem F_p_wire_Writer_Vector : Tryz.prog.funcs[n_p_wire_Writer_Vector]? = some Tryz.f47 := Tryz.func47
abbrev n_p_wire_Writer_Bytes : Nat := 48
theorem F_p_wire_Writer_Bytes : Tryz.prog.funcs[n_p_wire_Writer_Bytes]? = some Tryz.f48 := Tryz.func48
abbrev n_p_wire_Writer_Dot : Nat := 49
theorem F_p_wire_Writer_Dot : Tryz.prog.funcs[n_p_wire_Writer_Dot]? = some Tryz.f49 := Tryz.func49
abbrev n_p_wire_Writer_ID : Nat := 50
theorem F_p_wire_Writer_ID : Tryz.prog.funcs[n_p_wire_Writer_ID]? = some Tryz.f50 := Tryz.func50
abbrev n_p_wire_Writer_Done : Nat := 51
theorem F_p_wire_Writer_Done : Tryz.prog.funcs[n_p_wire_Writer_Done]? = some Tryz.f51 := Tryz.func51
abbrev n_letter_looker_headed : Nat := 61
theorem F_letter_looker_headed : Tryz.prog.funcs[n_letter_looker_headed]? = some Tryz.f61 := Tryz.func61
abbrev n_letter_looker_ways : Nat := 62
theorem F_letter_looker_ways : Tryz.prog.funcs[n_letter_looker_ways]? = some Tryz.f62 := Tryz.func62
abbrev n_entrepotkit_SameEvents : Nat := 68
theorem F_entrepotkit_SameEvents : Tryz.prog.funcs[n_entrepotkit_SameEvents]? = some Tryz.f68 := Tryz.func68
abbrev n_wire_NewReader : Nat := 69
theorem F_wire_NewReader : Tryz.prog.funcs[n_wire_NewReader]? = some Tryz.f69 := Tryz.func69
abbrev n_letter_Decode_1 : Nat := 70
theorem F_letter_Decode_1 : Tryz.prog.funcs[n_letter_Decode_1]? = some Tryz.f70 := Tryz.func70
abbrev n_p_wire_Reader_Rest : Nat := 71
theorem F_p_wire_Reader_Rest : Tryz.prog.funcs[n_p_wire_Reader_Rest]? = some Tryz.f71 := Tryz.func71
abbrev n_p_wire_Reader_End : Nat := 72
theorem F_p_wire_Reader_End : Tryz.prog.funcs[n_p_wire_Reader_End]? = some Tryz.f72 := Tryz.func72
abbrev n_p_wire_Reader_Num : Nat := 73
theorem F_p_wire_Reader_Num : Tryz.prog.funcs[n_p_wire_Reader_Num]? = some Tryz.f73 := Tryz.func73
abbrev n_p_wire_Reader_Vector : Nat := 74
theorem F_p_wire_Reader_Vector : Tryz.prog.funcs[n_p_wire_Reader_Vector]? = some Tryz.f74 := Tryz.func74
abbrev n_p_wire_Reader_Bytes : Nat := 75
theorem F_p_wire_Reader_Bytes : Tryz.prog.funcs[n_p_wire_Reader_Bytes]? = some Tryz.f75 := Tryz.func75
abbrev n_event_Decode : Nat := 76
theorem F_event_Decode : Tryz.prog.funcs[n_event_Decode]? = some Tryz.f76 := Tryz.func76
abbrev n_p_wire_Reader_Dot : Nat := 77
theorem F_p_wire_Reader_Dot : Tryz.prog.funcs[n_p_wire_Reader_Dot]? = some Tryz.f77 := Tryz.func77
abbrev n_p_wire_Reader_ID : Nat := 78
theorem F_p_wire_Reader_ID : Tryz.prog.funcs[n_p_wire_Reader_ID]? = some Tryz.f78 := Tryz.func78
abbrev n_entrepotkit_OverInts : Nat := 89
theorem F_entrepotkit_OverInts : Tryz.prog.funcs[n_entrepotkit_OverInts]? = some Tryz.f89 := Tryz.func89
abbrev n_entrepotkit_OverEvents : Nat := 90
theorem F_entrepotkit_OverEvents : Tryz.prog.funcs[n_entrepotkit_OverEvents]? = some Tryz.f90 := Tryz.func90
abbrev n_letter_made : Nat := 91
theorem F_letter_made : Tryz.prog.funcs[n_letter_made]? = some Tryz.f91 := Tryz.func91
abbrev n_letter_of : Nat := 92
theorem F_letter_of : Tryz.prog.funcs[n_letter_of]? = some Tryz.f92 := Tryz.func92
abbrev n_letter_about : Nat := 93
theorem F_letter_about : Tryz.prog.funcs[n_letter_about]? = some Tryz.f93 := Tryz.func93
abbrev n_letter_with : Nat := 94
theorem F_letter_with : Tryz.prog.funcs[n_letter_with]? = some Tryz.f94 := Tryz.func94
abbrev n_entrepotkit_SameIDs : Nat := 95
theorem F_entrepotkit_SameIDs : Tryz.prog.funcs[n_entrepotkit_SameIDs]? = some Tryz.f95 := Tryz.func95
abbrev n_sha_Sum : Nat := 96
theorem F_sha_Sum : Tryz.prog.funcs[n_sha_Sum]? = some Tryz.f96 := Tryz.func96
abbrev n_sha_Cut : Nat := 97
theorem F_sha_Cut : Tryz.prog.funcs[n_sha_Cut]? = some Tryz.f97 := Tryz.func97
abbrev n_event_placed : Nat := 98
theorem F_event_placed : Tryz.prog.funcs[n_event_placed]? = some Tryz.f98 := Tryz.func98
abbrev n_name_Repo : Nat := 99
theorem F_name_Repo : Tryz.prog.funcs[n_name_Repo]? = some Tryz.f99 := Tryz.func99
abbrev n_event_kinds : Nat := 100
theorem F_event_kinds : Tryz.prog.funcs[n_event_kinds]? = some Tryz.f100 := Tryz.func100
abbrev n_event_refs : Nat := 101
theorem F_event_refs : Tryz.prog.funcs[n_event_refs]? = some Tryz.f101 := Tryz.func101
abbrev n_vector_Less : Nat := 102
theorem F_vector_Less : Tryz.prog.funcs[n_vector_Less]? = some Tryz.f102 := Tryz.func102
abbrev n_p_wire_Writer_Text : Nat := 103
theorem F_p_wire_Writer_Text : Tryz.prog.funcs[n_p_wire_Writer_Text]? = some Tryz.f103 := Tryz.func103
abbrev n_p_wire_Writer_put : Nat := 104
theorem F_p_wire_Writer_put : Tryz.prog.funcs[n_p_wire_Writer_put]? = some Tryz.f104 := Tryz.func104
abbrev n_p_wire_Writer_none : Nat := 105
theorem F_p_wire_Writer_none : Tryz.prog.funcs[n_p_wire_Writer_none]? = some Tryz.f105 := Tryz.func105
abbrev n_p_wire_wrong_failed : Nat := 106
theorem F_p_wire_wrong_failed : Tryz.prog.funcs[n_p_wire_wrong_failed]? = some Tryz.f106 := Tryz.func106
abbrev n_slices_Clone_sl_byte_byte : Nat := 107
theorem F_slices_Clone_sl_byte_byte : Tryz.prog.funcs[n_slices_Clone_sl_byte_byte]? = some Tryz.f107 := Tryz.func107
abbrev n_letter_looker_region : Nat := 110
theorem F_letter_looker_region : Tryz.prog.funcs[n_letter_looker_region]? = some Tryz.f110 := Tryz.func110
abbrev n_slices_ContainsFunc_sl_int_int : Nat := 111
theorem F_slices_ContainsFunc_sl_int_int : Tryz.prog.funcs[n_slices_ContainsFunc_sl_int_int]? = some Tryz.f111 := Tryz.func111
abbrev n_letter_looker_headed_1 : Nat := 112
theorem F_letter_looker_headed_1 : Tryz.prog.funcs[n_letter_looker_headed_1]? = some Tryz.f112 := Tryz.func112
abbrev n_letter_looker_note : Nat := 113
theorem F_letter_looker_note : Tryz.prog.funcs[n_letter_looker_note]? = some Tryz.f113 := Tryz.func113
abbrev n_letter_looker_ask : Nat := 114
theorem F_letter_looker_ask : Tryz.prog.funcs[n_letter_looker_ask]? = some Tryz.f114 := Tryz.func114
abbrev n_letter_looker_give : Nat := 115
theorem F_letter_looker_give : Tryz.prog.funcs[n_letter_looker_give]? = some Tryz.f115 := Tryz.func115
abbrev n_letter_looker_need : Nat := 116
theorem F_letter_looker_need : Tryz.prog.funcs[n_letter_looker_need]? = some Tryz.f116 := Tryz.func116
abbrev n_letter_looker_ship : Nat := 117
theorem F_letter_looker_ship : Tryz.prog.funcs[n_letter_looker_ship]? = some Tryz.f117 := Tryz.func117
abbrev n_p_wire_Reader_none : Nat := 122
theorem F_p_wire_Reader_none : Tryz.prog.funcs[n_p_wire_Reader_none]? = some Tryz.f122 := Tryz.func122
abbrev n_p_wire_wrong_fails : Nat := 123
theorem F_p_wire_wrong_fails : Tryz.prog.funcs[n_p_wire_wrong_fails]? = some Tryz.f123 := Tryz.func123
abbrev n_wire_size : Nat := 124
theorem F_wire_size : Tryz.prog.funcs[n_wire_size]? = some Tryz.f124 := Tryz.func124
abbrev n_p_wire_Reader_many : Nat := 125
theorem F_p_wire_Reader_many : Tryz.prog.funcs[n_p_wire_Reader_many]? = some Tryz.f125 := Tryz.func125
abbrev n_p_wire_Reader_place : Nat := 126
theorem F_p_wire_Reader_place : Tryz.prog.funcs[n_p_wire_Reader_place]? = some Tryz.f126 := Tryz.func126
abbrev n_p_wire_Reader_take : Nat := 127
theorem F_p_wire_Reader_take : Tryz.prog.funcs[n_p_wire_Reader_take]? = some Tryz.f127 := Tryz.func127
abbrev n_p_wire_Reader_Text : Nat := 128
theorem F_p_wire_Reader_Text : Tryz.prog.funcs[n_p_wire_Reader_Text]? = some Tryz.f128 := Tryz.func128
abbrev n_entrepotkit_OverIDs : Nat := 131
theorem F_entrepotkit_OverIDs : Tryz.prog.funcs[n_entrepotkit_OverIDs]? = some Tryz.f131 := Tryz.func131
abbrev n_slices_Clone_sl_int_int : Nat := 132
theorem F_slices_Clone_sl_int_int : Tryz.prog.funcs[n_slices_Clone_sl_int_int]? = some Tryz.f132 := Tryz.func132
abbrev n_letter_of_1 : Nat := 133
theorem F_letter_of_1 : Tryz.prog.funcs[n_letter_of_1]? = some Tryz.f133 := Tryz.func133
abbrev n_slices_Clone_sl_api_ID_api_ID : Nat := 134
theorem F_slices_Clone_sl_api_ID_api_ID : Tryz.prog.funcs[n_slices_Clone_sl_api_ID_api_ID]? = some Tryz.f134 := Tryz.func134
abbrev n_letter_about_1 : Nat := 135
theorem F_letter_about_1 : Tryz.prog.funcs[n_letter_about_1]? = some Tryz.f135 := Tryz.func135
abbrev n_letter_with_1 : Nat := 136
theorem F_letter_with_1 : Tryz.prog.funcs[n_letter_with_1]? = some Tryz.f136 := Tryz.func136
abbrev n_sha_New : Nat := 137
theorem F_sha_New : Tryz.prog.funcs[n_sha_New]? = some Tryz.f137 := Tryz.func137
abbrev n_p_sha_Hash_Write : Nat := 138
theorem F_p_sha_Hash_Write : Tryz.prog.funcs[n_p_sha_Hash_Write]? = some Tryz.f138 := Tryz.func138
abbrev n_p_sha_Hash_Sum : Nat := 139
theorem F_p_sha_Hash_Sum : Tryz.prog.funcs[n_p_sha_Hash_Sum]? = some Tryz.f139 := Tryz.func139
abbrev n_event_placed_1 : Nat := 140
theorem F_event_placed_1 : Tryz.prog.funcs[n_event_placed_1]? = some Tryz.f140 := Tryz.func140
abbrev n_name_long : Nat := 141
theorem F_name_long : Tryz.prog.funcs[n_name_long]? = some Tryz.f141 := Tryz.func141
abbrev n_name_run : Nat := 142
theorem F_name_run : Tryz.prog.funcs[n_name_run]? = some Tryz.f142 := Tryz.func142
abbrev n_name_repo_part : Nat := 143
theorem F_name_repo_part : Tryz.prog.funcs[n_name_repo_part]? = some Tryz.f143 := Tryz.func143
abbrev n_event_plain : Nat := 144
theorem F_event_plain : Tryz.prog.funcs[n_event_plain]? = some Tryz.f144 := Tryz.func144
abbrev n_event_given : Nat := 145
theorem F_event_given : Tryz.prog.funcs[n_event_given]? = some Tryz.f145 := Tryz.func145
abbrev n_event_tagged : Nat := 146
theorem F_event_tagged : Tryz.prog.funcs[n_event_tagged]? = some Tryz.f146 := Tryz.func146
abbrev n_event_none : Nat := 147
theorem F_event_none : Tryz.prog.funcs[n_event_none]? = some Tryz.f147 := Tryz.func147
abbrev n_slices_Contains_sl_api_ID_api_ID : Nat := 148
theorem F_slices_Contains_sl_api_ID_api_ID : Tryz.prog.funcs[n_slices_Contains_sl_api_ID_api_ID]? = some Tryz.f148 := Tryz.func148
abbrev n_sha_Compare : Nat := 149
theorem F_sha_Compare : Tryz.prog.funcs[n_sha_Compare]? = some Tryz.f149 := Tryz.func149
abbrev n_slices_ContainsFunc_sl_api_ID_api_ID : Nat := 150
theorem F_slices_ContainsFunc_sl_api_ID_api_ID : Tryz.prog.funcs[n_slices_ContainsFunc_sl_api_ID_api_ID]? = some Tryz.f150 := Tryz.func150
abbrev n_event_refs_1 : Nat := 151
theorem F_event_refs_1 : Tryz.prog.funcs[n_event_refs_1]? = some Tryz.f151 := Tryz.func151
abbrev n_sha_Has : Nat := 152
theorem F_sha_Has : Tryz.prog.funcs[n_sha_Has]? = some Tryz.f152 := Tryz.func152
abbrev n_vector_Weight : Nat := 153
theorem F_vector_Weight : Tryz.prog.funcs[n_vector_Weight]? = some Tryz.f153 := Tryz.func153
abbrev n_slices_CompareFunc_sl_int_sl_int_int_int : Nat := 154
theorem F_slices_CompareFunc_sl_int_sl_int_int_int : Tryz.prog.funcs[n_slices_CompareFunc_sl_int_sl_int_int_int]? = some Tryz.f154 := Tryz.func154
abbrev n_cmp_Compare_int : Nat := 155
theorem F_cmp_Compare_int : Tryz.prog.funcs[n_cmp_Compare_int]? = some Tryz.f155 := Tryz.func155
abbrev n_wire_form : Nat := 156
theorem F_wire_form : Tryz.prog.funcs[n_wire_form]? = some Tryz.f156 := Tryz.func156
abbrev n_slices_IndexFunc_sl_int_int : Nat := 157
theorem F_slices_IndexFunc_sl_int_int : Tryz.prog.funcs[n_slices_IndexFunc_sl_int_int]? = some Tryz.f157 := Tryz.func157
abbrev n_letter_looker_bare : Nat := 158
theorem F_letter_looker_bare : Tryz.prog.funcs[n_letter_looker_bare]? = some Tryz.f158 := Tryz.func158
abbrev n_letter_looker_dotted : Nat := 159
theorem F_letter_looker_dotted : Tryz.prog.funcs[n_letter_looker_dotted]? = some Tryz.f159 := Tryz.func159
abbrev n_sha_begin : Nat := 166
theorem F_sha_begin : Tryz.prog.funcs[n_sha_begin]? = some Tryz.f166 := Tryz.func166
abbrev n_p_sha_Hash_none : Nat := 167
theorem F_p_sha_Hash_none : Tryz.prog.funcs[n_p_sha_Hash_none]? = some Tryz.f167 := Tryz.func167
abbrev n_p_sha_words_block : Nat := 168
theorem F_p_sha_words_block : Tryz.prog.funcs[n_p_sha_words_block]? = some Tryz.f168 := Tryz.func168
abbrev n_bytes_Clone : Nat := 169
theorem F_bytes_Clone : Tryz.prog.funcs[n_bytes_Clone]? = some Tryz.f169 := Tryz.func169
abbrev n_name_repo_word : Nat := 170
theorem F_name_repo_word : Tryz.prog.funcs[n_name_repo_word]? = some Tryz.f170 := Tryz.func170
abbrev n_name_Tag : Nat := 171
theorem F_name_Tag : Tryz.prog.funcs[n_name_Tag]? = some Tryz.f171 := Tryz.func171
abbrev n_slices_Index_sl_api_ID_api_ID : Nat := 172
theorem F_slices_Index_sl_api_ID_api_ID : Tryz.prog.funcs[n_slices_Index_sl_api_ID_api_ID]? = some Tryz.f172 := Tryz.func172
abbrev n_bytes_Compare : Nat := 173
theorem F_bytes_Compare : Tryz.prog.funcs[n_bytes_Compare]? = some Tryz.f173 := Tryz.func173
abbrev n_slices_IndexFunc_sl_api_ID_api_ID : Nat := 174
theorem F_slices_IndexFunc_sl_api_ID_api_ID : Tryz.prog.funcs[n_slices_IndexFunc_sl_api_ID_api_ID]? = some Tryz.f174 := Tryz.func174
abbrev n_vector_fold_int : Nat := 175
theorem F_vector_fold_int : Tryz.prog.funcs[n_vector_fold_int]? = some Tryz.f175 := Tryz.func175
abbrev n_vector_sides : Nat := 176
theorem F_vector_sides : Tryz.prog.funcs[n_vector_sides]? = some Tryz.f176 := Tryz.func176
abbrev n_vector_Weight_1 : Nat := 177
theorem F_vector_Weight_1 : Tryz.prog.funcs[n_vector_Weight_1]? = some Tryz.f177 := Tryz.func177
abbrev n_cmp_isNaN_int : Nat := 178
theorem F_cmp_isNaN_int : Tryz.prog.funcs[n_cmp_isNaN_int]? = some Tryz.f178 := Tryz.func178
abbrev n_wire_form_1 : Nat := 179
theorem F_wire_form_1 : Tryz.prog.funcs[n_wire_form_1]? = some Tryz.f179 := Tryz.func179
abbrev n_sha_keys : Nat := 188
theorem F_sha_keys : Tryz.prog.funcs[n_sha_keys]? = some Tryz.f188 := Tryz.func188
abbrev n_sha_spread : Nat := 189
theorem F_sha_spread : Tryz.prog.funcs[n_sha_spread]? = some Tryz.f189 := Tryz.func189
abbrev n_sha_turned : Nat := 190
theorem F_sha_turned : Tryz.prog.funcs[n_sha_turned]? = some Tryz.f190 := Tryz.func190
abbrev n_name_letter_word : Nat := 191
theorem F_name_letter_word : Tryz.prog.funcs[n_name_letter_word]? = some Tryz.f191 := Tryz.func191
abbrev n_name_repo_inside : Nat := 192
theorem F_name_repo_inside : Tryz.prog.funcs[n_name_repo_inside]? = some Tryz.f192 := Tryz.func192
abbrev n_name_Tag_1 : Nat := 193
theorem F_name_Tag_1 : Tryz.prog.funcs[n_name_Tag_1]? = some Tryz.f193 := Tryz.func193
abbrev n_name_letter_tag : Nat := 194
theorem F_name_letter_tag : Tryz.prog.funcs[n_name_letter_tag]? = some Tryz.f194 := Tryz.func194
abbrev n_name_all : Nat := 195
theorem F_name_all : Tryz.prog.funcs[n_name_all]? = some Tryz.f195 := Tryz.func195
abbrev n_internal_bytealg_Compare : Nat := 196
theorem F_internal_bytealg_Compare : Tryz.prog.funcs[n_internal_bytealg_Compare]? = some Tryz.f196 := Tryz.func196
abbrev n_vector_sides_1 : Nat := 197
theorem F_vector_sides_1 : Tryz.prog.funcs[n_vector_sides_1]? = some Tryz.f197 := Tryz.func197
abbrev n_vector_At : Nat := 198
theorem F_vector_At : Tryz.prog.funcs[n_vector_At]? = some Tryz.f198 := Tryz.func198
abbrev n_math_bits_RotateLeft32 : Nat := 201
theorem F_math_bits_RotateLeft32 : Tryz.prog.funcs[n_math_bits_RotateLeft32]? = some Tryz.f201 := Tryz.func201
abbrev n_name_repo_second : Nat := 202
theorem F_name_repo_second : Tryz.prog.funcs[n_name_repo_second]? = some Tryz.f202 := Tryz.func202
abbrev n_name_repo_dashes : Nat := 203
theorem F_name_repo_dashes : Tryz.prog.funcs[n_name_repo_dashes]? = some Tryz.f203 := Tryz.func203
abbrev n_name_all_1 : Nat := 204
theorem F_name_all_1 : Tryz.prog.funcs[n_name_all_1]? = some Tryz.f204 := Tryz.func204
abbrev t_int : Nat := 3
abbrev t_bool : Nat := 4
abbrev t_uint8 : Nat := 5
abbrev t_string : Nat := 9
abbrev t_sl_int : Nat := 22
abbrev t_api_Dot : Nat := 25
abbrev t_api_ID : Nat := 27
abbrev t_sl_uint8 : Nat := 28
abbrev t_api_Letter : Nat := 30
abbrev t_api_Errno : Nat := 34
abbrev t_api_Fault : Nat := 44
abbrev t_api_Event : Nat := 52
abbrev t_letter_looker : Nat := 89
abbrev t_p_wire_Reader : Nat := 97
abbrev t_letter_option : Nat := 114
abbrev t_event_what : Nat := 126
abbrev t_wire_wrong : Nat := 134
abbrev t_wire_Writer : Nat := 136
abbrev t_wire_Reader : Nat := 143
abbrev t_p_name_state : Nat := 162
abbrev t_sha_words : Nat := 179
abbrev t_sha_Hash : Nat := 182
abbrev t_name_state : Nat := 185
abbrev t_func_int_int_int_int : Nat := 194
abbrev t_64_uint32 : Nat := 199
abbrev t_func_name_letter_bool : Nat := 205
instance : Bodied Tryz.prog 6 := bodied_of Tryz.func6 (by kernel_rfl) rfl
instance : Bodied Tryz.prog 10 := bodied_of Tryz.func10 (by kernel_rfl) rfl
instance : Bodied Tryz.prog 11 := bodied_of Tryz.func11 (by kernel_rfl) rfl
instance : Bodied Tryz.prog 13 := bodied_of Tryz.func13 (by kernel_rfl) rfl
instance : Bodied Tryz.prog 15 := bodied_of Tryz.func15 (by kernel_rfl) rfl
instance : Bodied Tryz.prog 16 := bodied_of Tryz.func16 (by kernel_rfl) rfl
instance : Bodied Tryz.prog 18 := bodied_of Tryz.func18 (by kernel_rfl) rfl
instance : Bodied Tryz.prog 19 := bodied_of Tryz.func19 (by kernel_rfl) rfl
instance : Bodied Tryz.prog 20 := bodied_of Tryz.func20 (by kernel_rfl) rfl
instance : Bodied Tryz.prog 21 := bodied_of Tryz.func21 (by kernel_rfl) rfl
instance : Bodied Tryz.prog 23 := bodied_of Tryz.func23 (by kernel_rfl) rfl
instance : Bodied Tryz.prog 24 := bodied_of Tryz.func24 (by kernel_rfl) rfl
instance : Bodied Tryz.prog 25 := bodied_of Tryz.func25 (by kernel_rfl) rfl
instance : Bodied Tryz.prog 26 := bodied_of Tryz.func26 (by kernel_rfl) rfl
instance : Bodied Tryz.prog 27 := bodied_of Tryz.func27 (by kernel_rfl) rfl
instance : Bodied Tryz.prog 28 := bodied_of Tryz.func28 (by kernel_rfl) rfl
instance : Bodied Tryz.prog 29 := bodied_of Tryz.func29 (by kernel_rfl) rfl
instance : Bodied Tryz.prog 30 := bodied_of Tryz.func30 (by kernel_rfl) rfl
instance : Bodied Tryz.prog 31 := bodied_of Tryz.func31 (by kernel_rfl) rfl
instance : Bodied Tryz.prog 32 := bodied_of Tryz.func32 (by kernel_rfl) rfl
instance : Bodied Tryz.prog 33 := bodied_of Tryz.func33 (by kernel_rfl) rfl
instance : Bodied Tryz.prog 34 := bodied_of Tryz.func34 (by kernel_rfl) rfl
instance : Bodied Tryz.prog 35 := bodied_of Tryz.func35 (by kernel_rfl) rfl
instance : Bodied Tryz.prog 36 := bodied_of Tryz.func36 (by kernel_rfl) rfl
instance : Bodied Tryz.prog 37 := bodied_of Tryz.func37 (by kernel_rfl) rfl
instance : Bodied Tryz.prog 38 := bodied_of Tryz.func38 (by kernel_rfl) rfl
instance : Bodied Tryz.prog 39 := bodied_of Tryz.func39 (by kernel_rfl) rfl
instance : Bodied Tryz.prog 40 := bodied_of Tryz.func40 (by kernel_rfl) rfl
instance : Bodied Tryz.prog 41 := bodied_of Tryz.func41 (by kernel_rfl) rfl
instance : Bodied Tryz.prog 42 := bodied_of Tryz.func42 (by kernel_rfl) rfl
instance : Bodied Tryz.prog 44 := bodied_of Tryz.func44 (by kernel_rfl) rfl
instance : Bodied Tryz.prog 45 := bodied_of Tryz.func45 (by kernel_rfl) rfl
instance : Bodied Tryz.prog 46 := bodied_of Tryz.func46 (by kernel_rfl) rfl
instance : Bodied Tryz.prog 47 := bodied_of Tryz.func47 (by kernel_rfl) rfl
instance : Bodied Tryz.prog 48 := bodied_of Tryz.func48 (by kernel_rfl) rfl
instance : Bodied Tryz.prog 49 := bodied_of Tryz.func49 (by kernel_rfl) rfl
instance : Bodied Tryz.prog 50 := bodied_of Tryz.func50 (by kernel_rfl) rfl
instance : Bodied Tryz.prog 51 := bodied_of Tryz.func51 (by kernel_rfl) rfl
instance : Bodied Tryz.prog 61 := bodied_of Tryz.func61 (by kernel_rfl) rfl
instance : Bodied Tryz.prog 62 := bodied_of Tryz.func62 (by kernel_rfl) rfl
instance : Bodied Tryz.prog 68 := bodied_of Tryz.func68 (by kernel_rfl) rfl
instance : Bodied Tryz.prog 69 := bodied_of Tryz.func69 (by kernel_rfl) rfl
instance : Bodied Tryz.prog 70 := bodied_of Tryz.func70 (by kernel_rfl) rfl
instance : Bodied Tryz.prog 71 := bodied_of Tryz.func71 (by kernel_rfl) rfl
instance : Bodied Tryz.prog 72 := bodied_of Tryz.func72 (by kernel_rfl) rfl
instance : Bodied Tryz.prog 73 := bodied_of Tryz.func73 (by kernel_rfl) rfl
instance : Bodied Tryz.prog 74 := bodied_of Tryz.func74 (by kernel_rfl) rfl
instance : Bodied Tryz.prog 75 := bodied_of Tryz.func75 (by kernel_rfl) rfl
instance : Bodied Tryz.prog 76 := bodied_of Tryz.func76 (by kernel_rfl) rfl
instance : Bodied Tryz.prog 77 := bodied_of Tryz.func77 (by kernel_rfl) rfl
instance : Bodied Tryz.prog 78 := bodied_of Tryz.func78 (by kernel_rfl) rfl
instance : Bodied Tryz.prog 89 := bodied_of Tryz.func89 (by kernel_rfl) rfl
instance : Bodied Tryz.prog 90 := bodied_of Tryz.func90 (by kernel_rfl) rfl
instance : Bodied Tryz.prog 91 := bodied_of Tryz.func91 (by kernel_rfl) rfl
instance : Bodied Tryz.prog 92 := bodied_of Tryz.func92 (by kernel_rfl) rfl
instance : Bodied Tryz.prog 93 := bodied_of Tryz.func93 (by kernel_rfl) rfl
instance : Bodied Tryz.prog 94 := bodied_of Tryz.func94 (by kernel_rfl) rfl
instance : Bodied Tryz.prog 95 := bodied_of Tryz.func95 (by kernel_rfl) rfl
instance : Bodied Tryz.prog 96 := bodied_of Tryz.func96 (by kernel_rfl) rfl
instance : Bodied Tryz.prog 97 := bodied_of Tryz.func97 (by kernel_rfl) rfl
instance : Bodied Tryz.prog 98 := bodied_of Tryz.func98 (by kernel_rfl) rfl
instance : Bodied Tryz.prog 99 := bodied_of Tryz.func99 (by kernel_rfl) rfl
instance : Bodied Tryz.prog 100 := bodied_of Tryz.func100 (by kernel_rfl) rfl
instance : Bodied Tryz.prog 101 := bodied_of Tryz.func101 (by kernel_rfl) rfl
instance : Bodied Tryz.prog 102 := bodied_of Tryz.func102 (by kernel_rfl) rfl
instance : Bodied Tryz.prog 103 := bodied_of Tryz.func103 (by kernel_rfl) rfl
instance : Bodied Tryz.prog 104 := bodied_of Tryz.func104 (by kernel_rfl) rfl
instance : Bodied Tryz.prog 105 := bodied_of Tryz.func105 (by kernel_rfl) rfl
instance : Bodied Tryz.prog 106 := bodied_of Tryz.func106 (by kernel_rfl) rfl
instance : Bodied Tryz.prog 107 := bodied_of Tryz.func107 (by kernel_rfl) rfl
instance : Bodied Tryz.prog 110 := bodied_of Tryz.func110 (by kernel_rfl) rfl
instance : Bodied Tryz.prog 111 := bodied_of Tryz.func111 (by kernel_rfl) rfl
instance : Bodied Tryz.prog 112 := bodied_of Tryz.func112 (by kernel_rfl) rfl
instance : Bodied Tryz.prog 113 := bodied_of Tryz.func113 (by kernel_rfl) rfl
instance : Bodied Tryz.prog 114 := bodied_of Tryz.func114 (by kernel_rfl) rfl
instance : Bodied Tryz.prog 115 := bodied_of Tryz.func115 (by kernel_rfl) rfl
instance : Bodied Tryz.prog 116 := bodied_of Tryz.func116 (by kernel_rfl) rfl
instance : Bodied Tryz.prog 117 := bodied_of Tryz.func117 (by kernel_rfl) rfl
instance : Bodied Tryz.prog 122 := bodied_of Tryz.func122 (by kernel_rfl) rfl
instance : Bodied Tryz.prog 123 := bodied_of Tryz.func123 (by kernel_rfl) rfl
instance : Bodied Tryz.prog 124 := bodied_of Tryz.func124 (by kernel_rfl) rfl
instance : Bodied Tryz.prog 125 := bodied_of Tryz.func125 (by kernel_rfl) rfl
instance : Bodied Tryz.prog 126 := bodied_of Tryz.func126 (by kernel_rfl) rfl
instance : Bodied Tryz.prog 127 := bodied_of Tryz.func127 (by kernel_rfl) rfl
instance : Bodied Tryz.prog 128 := bodied_of Tryz.func128 (by kernel_rfl) rfl
instance : Bodied Tryz.prog 131 := bodied_of Tryz.func131 (by kernel_rfl) rfl
instance : Bodied Tryz.prog 132 := bodied_of Tryz.func132 (by kernel_rfl) rfl
instance : Bodied Tryz.prog 133 := bodied_of Tryz.func133 (by kernel_rfl) rfl
instance : Bodied Tryz.prog 134 := bodied_of Tryz.func134 (by kernel_rfl) rfl
instance : Bodied Tryz.prog 135 := bodied_of Tryz.func135 (by kernel_rfl) rfl
instance : Bodied Tryz.prog 136 := bodied_of Tryz.func136 (by kernel_rfl) rfl
instance : Bodied Tryz.prog 137 := bodied_of Tryz.func137 (by kernel_rfl) rfl
instance : Bodied Tryz.prog 138 := bodied_of Tryz.func138 (by kernel_rfl) rfl
instance : Bodied Tryz.prog 139 := bodied_of Tryz.func139 (by kernel_rfl) rfl
instance : Bodied Tryz.prog 140 := bodied_of Tryz.func140 (by kernel_rfl) rfl
instance : Bodied Tryz.prog 141 := bodied_of Tryz.func141 (by kernel_rfl) rfl
instance : Bodied Tryz.prog 142 := bodied_of Tryz.func142 (by kernel_rfl) rfl
instance : Bodied Tryz.prog 143 := bodied_of Tryz.func143 (by kernel_rfl) rfl
instance : Bodied Tryz.prog 144 := bodied_of Tryz.func144 (by kernel_rfl) rfl
instance : Bodied Tryz.prog 145 := bodied_of Tryz.func145 (by kernel_rfl) rfl
instance : Bodied Tryz.prog 146 := bodied_of Tryz.func146 (by kernel_rfl) rfl
instance : Bodied Tryz.prog 147 := bodied_of Tryz.func147 (by kernel_rfl) rfl
instance : Bodied Tryz.prog 148 := bodied_of Tryz.func148 (by kernel_rfl) rfl
instance : Bodied Tryz.prog 149 := bodied_of Tryz.func149 (by kernel_rfl) rfl
instance : Bodied Tryz.prog 150 := bodied_of Tryz.func150 (by kernel_rfl) rfl
instance : Bodied Tryz.prog 151 := bodied_of Tryz.func151 (by kernel_rfl) rfl
instance : Bodied Tryz.prog 152 := bodied_of Tryz.func152 (by kernel_rfl) rfl
instance : Bodied Tryz.prog 153 := bodied_of Tryz.func153 (by kernel_rfl) rfl
instance : Bodied Tryz.prog 154 := bodied_of Tryz.func154 (by kernel_rfl) rfl
instance : Bodied Tryz.prog 155 := bodied_of Tryz.func155 (by kernel_rfl) rfl
instance : Bodied Tryz.prog 156 := bodied_of Tryz.func156 (by kernel_rfl) rfl
instance : Bodied Tryz.prog 157 := bodied_of Tryz.func157 (by kernel_rfl) rfl
instance : Bodied Tryz.prog 158 := bodied_of Tryz.func158 (by kernel_rfl) rfl
instance : Bodied Tryz.prog 159 := bodied_of Tryz.func159 (by kernel_rfl) rfl
instance : Bodied Tryz.prog 166 := bodied_of Tryz.func166 (by kernel_rfl) rfl
instance : Bodied Tryz.prog 167 := bodied_of Tryz.func167 (by kernel_rfl) rfl
instance : Bodied Tryz.prog 168 := bodied_of Tryz.func168 (by kernel_rfl) rfl
instance : Bodied Tryz.prog 169 := bodied_of Tryz.func169 (by kernel_rfl) rfl
instance : Bodied Tryz.prog 170 := bodied_of Tryz.func170 (by kernel_rfl) rfl
instance : Bodied Tryz.prog 171 := bodied_of Tryz.func171 (by kernel_rfl) rfl
instance : Bodied Tryz.prog 172 := bodied_of Tryz.func172 (by kernel_rfl) rfl
instance : Bodied Tryz.prog 173 := bodied_of Tryz.func173 (by kernel_rfl) rfl
instance : Bodied Tryz.prog 174 := bodied_of Tryz.func174 (by kernel_rfl) rfl
instance : Bodied Tryz.prog 175 := bodied_of Tryz.func175 (by kernel_rfl) rfl
instance : Bodied Tryz.prog 176 := bodied_of Tryz.func176 (by kernel_rfl) rfl
instance : Bodied Tryz.prog 177 := bodied_of Tryz.func177 (by kernel_rfl) rfl
instance : Bodied Tryz.prog 178 := bodied_of Tryz.func178 (by kernel_rfl) rfl
instance : Bodied Tryz.prog 179 := bodied_of Tryz.func179 (by kernel_rfl) rfl
instance : Bodied Tryz.prog 188 := bodied_of Tryz.func188 (by kernel_rfl) rfl
instance : Bodied Tryz.prog 189 := bodied_of Tryz.func189 (by kernel_rfl) rfl
instance : Bodied Tryz.prog 190 := bodied_of Tryz.func190 (by kernel_rfl) rfl
instance : Bodied Tryz.prog 191 := bodied_of Tryz.func191 (by kernel_rfl) rfl
instance : Bodied Tryz.prog 192 := bodied_of Tryz.func192 (by kernel_rfl) rfl
instance : Bodied Tryz.prog 193 := bodied_of Tryz.func193 (by kernel_rfl) rfl
instance : Bodied Tryz.prog 194 := bodied_of Tryz.func194 (by kernel_rfl) rfl
instance : Bodied Tryz.prog 195 := bodied_of Tryz.func195 (by kernel_rfl) rfl
instance : Bodied Tryz.prog 197 := bodied_of Tryz.func197 (by kernel_rfl) rfl
instance : Bodied Tryz.prog 198 := bodied_of Tryz.func198 (by kernel_rfl) rfl
instance : Bodied Tryz.prog 201 := bodied_of Tryz.func201 (by kernel_rfl) rfl
instance : Bodied Tryz.prog 202 := bodied_of Tryz.func202 (by kernel_rfl) rfl
instance : Bodied Tryz.prog 203 := bodied_of Tryz.func203 (by kernel_rfl) rfl
instance : Bodied Tryz.prog 204 := bodied_of Tryz.func204 (by kernel_rfl) rfl
end Go.Proofs.YtmeiadgpglpelaaGreat
/- What the helpers on lists of integers do: two lists are the same; a list is copied; a list is written over. Conditions: the lists may be read. -/
namespace Go.Proofs.YtmeiadgpglpelaaGreat
open Go.Eng Go.RowKit

theorem take_step {α : Type} [DecidableEq α] {xs ys : List α} {k : Nat} (h1 : k < xs.length) (h2 : k < ys.length) (hl : xs.length = ys.length) (ht : xs.take k = ys.take k) :
    decide (xs[k] = ys[k]) = decide (xs.length = ys.length ∧ xs.take (k + 1) = ys.take (k + 1)) := by
  have e1 := List.take_succ_eq_append_getElem h1
  have e2 := List.take_succ_eq_append_getElem h2
  rw [e1, e2, ht]
  simp only [List.append_cancel_left_eq, List.cons.injEq, and_true, hl, true_and]

theorem SameInts_spec {va vb : Value} {xs ys : List Int} {w : World} (ha : IL w va xs) (hb : IL w vb ys) :
    Calls Tryz.prog n_entrepotkit_SameInts #[va, vb] w fun e w' => e = .returned (.bool (decide (xs = ys))) ∧ Ext w w' := by
  obtain ⟨A, c, rfl, hnc, hcm, hz, hcell⟩ := ha.op
  obtain ⟨A', c', rfl, hnc', hcm', hz', hcell'⟩ := hb.op
  refine enter2 F_entrepotkit_SameInts rfl rfl ?_
  repeat (first | refine o_p rfl rfl rfl ?_ | refine on ?_ | refine sr ?_ | refine ss ?_)
  refine cw_block (cw_loop (G := Nat × Bool) (fun g => [(0, .slice A xs.length c), (1, .slice A' ys.length c'), (5, .bool g.2), (6, .int .i64 (g.1 : Int))])
    (fun g W => Ext w W ∧ g.1 ≤ xs.length ∧ g.2 = decide (xs.length = ys.length ∧ xs.take g.1 = ys.take g.1)) (fun g => xs.length - g.1) ?_ ?_)
  · exact ⟨(0, decide ((xs.length : Int) = ys.length)), ⟨rfl, rfl, rfl, rfl, trivial⟩, Fr.refl _ _, Nat.zero_le _, by simp; omega⟩
  rintro ⟨k, b⟩ W ⟨hE, hk, hb0⟩
  dsimp only at hk hb0 ⊢
  repeat (first | refine o_p rfl rfl rfl ?_ | refine on ?_ | refine sr ?_ | refine ss ?_)
  refine o_split 13 rfl (fun h1 => ?_) (fun h1 => ?_)
  · repeat refine o_p rfl rfl rfl ?_
    rw [h1] at hb0
    have hb1 := of_decide_eq_true hb0.symm
    refine on (cw_if rfl (fun h2 => cw_skip (pn_then (cw_seq (cw_block ?_)))) (fun h2 => cw_exit (pn_then_exit (pn_loop_exit (pn_block_exit (pn_then ?_))))))
    · obtain ⟨bk, off, rfl, hbk, hc⟩ := hcell k (by omega)
      obtain ⟨bk', off', rfl, hbk', hc'⟩ := hcell' k (by omega)
      have hck := hc k (by omega)
      have hck' := hc' k (by omega)
      refine cw_draw flo (fun W' => Ext w W') (by decide) (hE.trans (Fr.drew _)) ?_
      repeat refine d_p rfl rfl rfl rfl ?_
      refine d_ix k rfl rfl rfl rfl rfl (by omega) ?_
      refine dw_rd rfl rfl (fun W' hW' => ex_load rfl rfl rfl (hW'.cell hck)) rfl ?_
      repeat refine d_p rfl rfl rfl rfl ?_
      refine d_ix k rfl rfl rfl rfl rfl (by omega) ?_
      refine dw_rd rfl rfl (fun W' hW' => ex_load rfl rfl rfl (hW'.cell hck')) rfl ?_
      repeat refine d_p rfl rfl rfl rfl ?_
      refine dw_nil (pn_block (pn_then (cw_region ?_)))
      refine o_p rfl rfl rfl ?_
      refine o_c rfl rfl rfl (by unfold I64; omega) ?_
      repeat refine o_p rfl rfl rfl ?_
      refine ow_nil (pn_round (k + 1, decide (xs[k] = ys[k])) ?_ ?_ ?_)
      · exact ⟨rfl, rfl, rfl, rfl, trivial⟩
      · exact ⟨hE.trans (Fr.drew _), by simp only; omega, take_step (by omega) (by omega) hb1.1 hb1.2⟩
      · simp only; omega
    · repeat (first | refine o_p rfl rfl rfl ?_ | refine on ?_ | refine sr ?_ | refine ss ?_)
      refine cw_ret (pn_ret rfl rfl ⟨?_, hE⟩)
      obtain rfl : k = xs.length := by omega
      have h3 := hb1.2
      rw [List.take_of_length_le (Nat.le_refl _), List.take_of_length_le (by omega)] at h3
      rw [h1, decide_eq_true h3]
  · repeat refine ow_skip rfl rfl ?_
    repeat refine o_p rfl rfl rfl ?_
    refine on (cw_cond_f rfl (cw_exit (pn_then_exit (pn_loop_exit (pn_block_exit (pn_then ?_))))))
    repeat (first | refine o_p rfl rfl rfl ?_ | refine on ?_ | refine sr ?_ | refine ss ?_)
    refine cw_ret (pn_ret rfl rfl ⟨?_, hE⟩)
    rw [h1] at hb0
    have h3 := of_decide_eq_false hb0.symm
    rw [h1, decide_eq_false (fun e => h3 (by subst e; simp))]

theorem ints_one {xs : List Int} : ∀ u ∈ xs.map (Value.int .i64), u.oneCell' = true := by
  intro u hu
  obtain ⟨x, _, rfl⟩ := List.mem_map.1 hu
  rfl

/-- A copy: new memory. -/
theorem CopyInts_spec {va : Value} {xs : List Int} {w : World} (ha : IL w va xs) (hlen : xs.length ≤ 1048576) :
    Calls Tryz.prog n_entrepotkit_CopyInts #[va] w fun e w' => ∃ v, e = .returned v ∧ Mine w' w.heap.size t_int 1 v xs.length (xs.map (Value.int .i64)) ∧ Ext w w' := by
  refine enter1 F_entrepotkit_CopyInts rfl rfl ?_
  repeat (first | refine o_p rfl rfl rfl ?_ | refine on ?_ | refine sr ?_ | refine ss ?_)
  refine ow_ex rfl (ex_buildSlice (vs := []) (cells := []) rfl rfl rfl rfl (by decide) (fun z hz => by simp at hz; subst hz; rfl)) rfl ?_
  refine o_p rfl rfl rfl ?_
  have own0 : Mine (w.alloc (.cells #[] t_int)) w.heap.size t_int 1 (.slice (some ⟨w.heap.size, 0, none⟩) 0 0) 0 [] := World.ownsRow_made w #[] 0 (Nat.le_refl _) (by decide) (by rfl)
  refine ow_append rfl rfl rfl rfl rfl rfl rfl rfl own0 (ha.ext (Fr.alloc _ _)) ints_one (by omega) (by simp) ?_
  intro v' w' own fr
  refine o_p rfl rfl rfl ?_
  refine on (cw_ret (pn_ret rfl rfl ⟨_, rfl, by simpa using own, ?_⟩))
  exact Fr.trans' (Fr.alloc _ _) fr (by intro j hj h; simp [Value.ownBlock] at h; omega)

end Go.Proofs.YtmeiadgpglpelaaGreat
/- Vectors, part one: what the walks of package vector's inner functions come to: a region's number, the numbers of two vectors side by side, a fold over them. Conditions: the vectors may be read. -/
namespace Go.Proofs.YtmeiadgpglpelaaGreat
open Go.Eng Go.RowKit

/-- The number of the region i + 1. -/
def nn (xs : List Int) (i : Nat) : Int := max (xs.getD i 0) 0
def atL (xs : List Int) (r : Int) : Int := if 1 ≤ r ∧ r ≤ xs.length then nn xs (r - 1).toNat else 0

theorem nn_in {xs : List Int} {i : Nat} (h : i < xs.length) : nn xs i = max xs[i] 0 := by
  unfold nn
  rw [List.getD_eq_getElem?_getD, List.getElem?_eq_getElem h]
  rfl
theorem nn_out {xs : List Int} {i : Nat} (h : xs.length ≤ i) : nn xs i = 0 := by
  unfold nn
  rw [List.getD_eq_getElem?_getD, List.getElem?_eq_none h]
  rfl
theorem atL_succ (xs : List Int) (i : Nat) : atL xs ((i : Int) + 1) = nn xs i := by
  unfold atL
  by_cases h : i < xs.length
  · rw [if_pos (by omega)]
    congr 1
    omega
  · rw [if_neg (by omega), nn_out (by omega)]

theorem At_spec_vector_At {v : Value} {xs : List Int} {r : Int} {w : World} (hv : IL w v xs) :
    Calls Tryz.prog n_vector_At #[v, .int .i64 r] w fun e w' => e = .returned (.int .i64 (atL xs r)) ∧ w = w' := by
  obtain ⟨A, c, rfl, hnc, hcm, hz, hcell⟩ := hv.op
  refine enter2 F_vector_At rfl rfl ?_
  refine sr ?_
  refine o_p rfl rfl rfl ?_
  refine on ?_
  refine cw_seq (sr ?_)
  repeat refine o_p rfl rfl rfl ?_
  refine o_if 7 rfl (fun h1 => ?_) (fun h1 => ?_)
  · repeat refine ow_skip rfl rfl ?_
    repeat refine o_p rfl rfl rfl ?_
    refine on (cw_cond_t rfl (sr ?_))
    repeat refine o_p rfl rfl rfl ?_
    refine on (cw_ret (pn_then_ret (pn_ret rfl rfl ⟨?_, rfl⟩)))
    rw [atL, if_neg (by omega)]
  · repeat refine o_p rfl rfl rfl ?_
    refine on (cw_if rfl (fun h2 => sr ?_) (fun h2 => cw_skip (pn_then (sr ?_))))
    · repeat refine o_p rfl rfl rfl ?_
      refine on (cw_ret (pn_then_ret (pn_ret rfl rfl ⟨?_, rfl⟩)))
      rw [atL, if_neg (by omega)]
    · obtain ⟨b, off, rfl, hb, hc⟩ := hcell 0 (by omega)
      have hlt : (r - 1).toNat < xs.length := by omega
      have hck := hc (r - 1).toNat hlt
      repeat refine o_p rfl rfl rfl ?_
      refine o_c rfl rfl rfl (by unfold I64; omega) ?_
      refine o_ix (r - 1).toNat rfl rfl rfl (by omega) hlt ?_
      refine ow_ex rfl (ex_load rfl rfl rfl hck) rfl ?_
      repeat refine o_p rfl rfl rfl ?_
      refine on (cw_ret (pn_ret rfl rfl ⟨?_, rfl⟩))
      rw [atL, if_pos (by omega), nn_in hlt]

abbrev pbox (b : Nat) : Value := .pointer (some ⟨b, 0, none⟩)

/-- The numbers of both, side by side: each pair is handed to yield, in turn. -/
theorem sides_1_spec {l b1 b2 : Nat} {va vb : Value} {xs ys : List Int} {We W : World} (J : Nat → World → Prop) (h1 : We.cell? ⟨b1, 0, none⟩ = some va) (h2 : We.cell? ⟨b2, 0, none⟩ = some vb)
    (ha : IL We va xs) (hb : IL We vb ys) (hE : ∀ i W, J i W → Ext We W) (hst : ∀ i W W', J i W → Ext W W' → J i W')
    (hY : ∀ i, i < max xs.length ys.length → ∀ W, J i W → Yld Tryz.prog l #[.int .i64 (nn xs i), .int .i64 (nn ys i)] W fun e W' => e = .returned (.bool true) ∧ J (i + 1) W') (h0 : J 0 W) :
    Calls Tryz.prog n_vector_sides_1 #[.func (.yield l) #[] #[], pbox b1, pbox b2] W fun e W' => (∃ v, e = .returned v) ∧ J (max xs.length ys.length) W' := by
  obtain ⟨A, c, rfl, hnc, hcm, hz, hcell⟩ := ha.op
  obtain ⟨A', c', rfl, hnc', hcm', hz', hcell'⟩ := hb.op
  refine enter3 F_vector_sides_1 rfl rfl ?_
  refine (cw_seq (cw_region ?_))
  refine ow_ex rfl (ex_load rfl rfl rfl ((hE _ _ h0).cell h1)) rfl ?_
  repeat refine o_p rfl rfl rfl ?_
  refine ow_ex rfl (ex_load rfl rfl rfl ((hE _ _ h0).cell h2)) rfl ?_
  repeat refine o_p rfl rfl rfl ?_
  have hmax : max (xs.length : Int) (ys.length : Int) = ((max xs.length ys.length : Nat) : Int) := by omega
  refine (ow_nil (pn_then (cw_block (cw_loop (G := Nat) (fun i => [(0, .func (.yield l) #[] #[]), (1, pbox b1), (2, pbox b2), (9, .int .i64 ((max xs.length ys.length : Nat) : Int)), (10, .int .i64 (i : Int))])
    (fun i W => J i W ∧ i ≤ max xs.length ys.length) (fun i => max xs.length ys.length - i) ?_ ?_))))
  · exact ⟨0, ⟨rfl, rfl, rfl, by rw [← hmax]; rfl, rfl, trivial⟩, h0, by omega⟩
  rintro i W ⟨hJ, hi⟩
  refine (cw_seq (cw_region ?_))
  repeat refine o_p rfl rfl rfl ?_
  refine (ow_nil (pn_then (cw_seq (cw_if rfl (fun h => ?_) (fun h => ?_)))))  -- IF t11
  · refine (cw_skip (pn_then (cw_seq (cw_block (cw_seq (cw_region ?_))))))
    repeat refine o_p rfl rfl rfl ?_
    have hJd := hst _ _ _ hJ (Fr.drew W)
    have hEd := hE _ _ hJd
    refine (ow_nil (pn_then (cw_seq (cw_draw flo (fun W' => Ext We W') (by decide) hEd ?_))))
    repeat refine d_p rfl rfl rfl rfl ?_
    refine dw_rd rfl rfl (fun W' hW' => ex_load rfl rfl rfl (hW'.cell h1)) rfl ?_
    repeat refine d_p rfl rfl rfl rfl ?_
    refine d_c rfl rfl rfl rfl (by unfold I64; omega) ?_
    refine dw_call rfl rfl (ec_call rfl) rfl ((At_spec_vector_At (ha.ext hEd)).mono ?_)
    rintro _ w1 ⟨rfl, rfl⟩; refine ⟨_, rfl, hEd, ?_⟩
    rw [atL_succ]
    refine dw_rd rfl rfl (fun W' hW' => ex_load rfl rfl rfl (hW'.cell h2)) rfl ?_
    repeat refine d_p rfl rfl rfl rfl ?_
    refine d_c rfl rfl rfl rfl (by unfold I64; omega) ?_
    refine dw_call rfl rfl (ec_call rfl) rfl ((At_spec_vector_At (hb.ext hEd)).mono ?_)
    rintro _ w1 ⟨rfl, rfl⟩; refine ⟨_, rfl, hEd, ?_⟩
    rw [atL_succ]
    refine dw_yield rfl rfl rfl rfl ((hY i (by omega) _ hJd).mono ?_)
    rintro _ w1 ⟨rfl, hJ1⟩; refine ⟨_, rfl, hE _ _ hJ1, ?_⟩
    repeat refine d_p rfl rfl rfl rfl ?_
    refine dw_nil (pn_then (cw_cond_f rfl (cw_skip (pn_block (pn_then (cw_region ?_))))))
    refine o_c rfl rfl rfl (by unfold I64; omega) ?_
    repeat refine o_p rfl rfl rfl ?_
    refine (ow_nil (pn_round (i + 1) ?_ ?_ ?_))
    · exact ⟨rfl, rfl, rfl, rfl, rfl, trivial⟩
    · exact ⟨hJ1, by omega⟩
    · show max xs.length ys.length - (i + 1) < max xs.length ys.length - i; omega
  · obtain rfl : i = max xs.length ys.length := by omega
    exact cw_exit (pn_then_exit (pn_loop_exit (pn_block_exit (pn_end0 rfl ⟨⟨_, rfl⟩, hJ⟩))))

/-- A value of the iterator's type. -/
theorem sides_spec {va vb : Value} {w : World} :
    Calls Tryz.prog n_vector_sides #[va, vb] w fun e w' => e = .returned (.func (.func n_vector_sides_1) ⟨[]⟩ ⟨[pbox w.heap.size, pbox (w.heap.size + 1)]⟩) ∧ w' = (w.alloc (.cells va.cells t_sl_int)).alloc (.cells vb.cells t_sl_int) := by
  refine enter2 F_vector_sides rfl rfl ?_
  refine (cw_seq (cw_region ?_))
  refine ow_ex rfl (ex_box rfl) rfl ?_
  refine ow_ex rfl (ex_box rfl) rfl ?_
  repeat (first | refine o_p rfl rfl rfl ?_ | refine on ?_ | refine sr ?_ | refine ss ?_)
  refine cw_ret (pn_ret rfl rfl ⟨?_, rfl⟩)
  simp

theorem fold_int_spec {b1 b2 : Nat} {va vb : Value} {xs ys : List Int} {w : World} (I : Nat → Value → World → Prop) (g : FuncId) (gc : List Value) [Bodied Tryz.prog g] (v0 : Value)
    (h1 : w.cell? ⟨b1, 0, none⟩ = some va) (h2 : w.cell? ⟨b2, 0, none⟩ = some vb) (ha : IL w va xs) (hb : IL w vb ys) (hI0 : I 0 v0 w) (hone : ∀ i v W, I i v W → v.oneCell' = true)
    (hst : ∀ i v W W' S, I i v W → Fr S W W' → (∀ k, S k → w.heap.size ≤ k ∧ k < w.heap.size + 4) → I i v W')
    (hstep : ∀ i v W, i < max xs.length ys.length → I i v W → Ext w W → w.heap.size + 4 ≤ W.heap.size → Calls Tryz.prog g ([v, .int .i64 (nn xs i), .int .i64 (nn ys i)] ++ gc).toArray W fun e W' =>
      ∃ v', e = .returned v' ∧ I (i + 1) v' W' ∧ Fr (fun k => w.heap.size + 4 ≤ k) W W') :
    Calls Tryz.prog n_vector_fold_int #[.func (.func n_vector_sides_1) ⟨[]⟩ ⟨[pbox b1, pbox b2]⟩, v0, .func (.func g) ⟨[]⟩ ⟨gc⟩] w fun e W' => ∃ v, e = .returned v ∧ I (max xs.length ys.length) v W' ∧ Ext w W' := by
  have c0 : v0.cells = #[v0] := by have := hone _ _ _ hI0; cases v0 <;> first | rfl | (simp [Value.oneCell'] at this)
  refine enterM3 F_vector_fold_int rfl rfl ?_
  refine (cw_seq (cw_region ?_))
  refine ow_ex rfl (ex_box rfl) rfl ?_
  refine ow_ex rfl (ex_box rfl) rfl ?_
  rw [c0]
  obtain ⟨w1, hw1⟩ : ∃ w1, (w.alloc (.cells #[v0] t_int)).alloc (.cells (Value.func (.func g) ⟨[]⟩ ⟨gc⟩).cells t_func_int_int_int_int) = w1 := ⟨_, rfl⟩
  have B0 : Blk w1 w.heap.size t_int [v0] := by rw [← hw1]; exact (Blk.new w _ [v0]).ext (Fr.alloc _ _)
  have B1 : Blk w1 (w.heap.size + 1) t_func_int_int_int_int [.func (.func g) ⟨[]⟩ ⟨gc⟩] := by
    rw [← hw1]
    have := Blk.new (w.alloc (.cells #[v0] t_int)) t_func_int_int_int_int [.func (.func g) ⟨[]⟩ ⟨gc⟩]
    rwa [World.size_alloc] at this
  have e1 : Ext w w1 := by rw [← hw1]; exact (Fr.alloc _ _).trans (Fr.alloc _ _)
  have z1 : w1.heap.size = w.heap.size + 2 := by rw [← hw1]; simp
  have I1 : I 0 v0 w1 := hst _ _ _ _ None hI0 e1 (fun k h => h.elim)
  rw [World.size_alloc, hw1]
  clear hw1
  repeat refine o_p rfl rfl rfl ?_
  refine (ow_nil (pn_then (cw_seq (cw_seq (cw_region ?_)))))
  repeat refine o_p rfl rfl rfl ?_
  refine (ow_nil (pn_then (cw_block (cw_rangeFunc rfl ?_))))
  intro r hr1 hr2 hr3 hr4 hr5 hr6 hkn
  obtain ⟨w2, hw2⟩ : ∃ w2, (w1.alloc (.deferred (some []))).alloc (.loop r) = w2 := ⟨_, rfl⟩
  have e2 : Ext w1 w2 := by rw [← hw2]; exact (Fr.alloc _ _).trans (Fr.alloc _ _)
  have D2 : w2.heap[w.heap.size + 2]? = some (.deferred (some [])) := by
    rw [← hw2, ← z1]; exact (Below.heap_alloc _ _ _ (by simp)).trans (World.alloc_heap_new w1 _)
  have L2 : w2.heap[w.heap.size + 3]? = some (.loop r) := by
    rw [← hw2]; have := World.alloc_heap_new (w1.alloc (.deferred (some []))) (.loop r); rwa [World.size_alloc, z1] at this
  have z2 : w2.heap.size = w.heap.size + 4 := by rw [← hw2]; simp [z1]
  rw [hw2]
  rw [z1]
  let J : Nat → World → Prop := fun i W => ∃ v, Blk W w.heap.size t_int [v] ∧ Blk W (w.heap.size + 1) t_func_int_int_int_int [.func (.func g) ⟨[]⟩ ⟨gc⟩] ∧ I i v W ∧ W.heap[w.heap.size + 2]? = some (.deferred (some [])) ∧
    W.heap[w.heap.size + 3]? = some (.loop r) ∧ Ext w W ∧ w.heap.size + 4 ≤ W.heap.size
  have hJ0 : J 0 w2 := ⟨v0, B0.ext e2, B1.ext e2, hst _ _ _ _ None I1 e2 (fun k h => h.elim), D2, L2, e1.trans e2, by omega⟩
  refine (sides_1_spec J h1 h2 ha hb (fun i W ⟨v, _, _, _, _, _, h, _⟩ => h) ?_ ?_ hJ0).mono ?_
  · rintro i W W' ⟨v, hb0, hb1, hI, hD, hL, hE, hz⟩ hW
    exact ⟨v, hb0.ext hW, hb1.ext hW, hst _ _ _ _ None hI hW (fun k h => h.elim), (hW.blk (by omega)).trans hD, (hW.blk (by omega)).trans hL, hE.trans hW, Nat.le_trans hz hW.size⟩
  · rintro i hi W ⟨v, hb0, hb1, hI, hD, hL, hE, hz⟩
    -- A ROUND
    refine yield_of hL (by rw [hr3]; rfl) (by rw [hr3]; decide) hkn ?_
    rw [hr3, hr4, hr5]
    refine (cw_seq (cw_region ?_))
    repeat refine o_p rfl rfl rfl ?_
    refine (ow_nil (pn_then (cw_region ?_)))
    repeat refine o_p rfl rfl rfl ?_
    refine (ow_nil (pn_asg hL hr1 ?_))
    obtain ⟨W1, hW1⟩ : ∃ W1, W.putObj (w.heap.size + 3) (.loop { r with state := .busy }) = W1 := ⟨_, rfl⟩
    have f1 : Fr (· = w.heap.size + 3) W W1 := by rw [← hW1]; exact Fr.putObj _ _ _
    have hL1 : W1.heap[w.heap.size + 3]? = some (.loop { r with state := .busy }) := by rw [← hW1]; exact World.putObj_heap_same (by omega)
    have hb0' := hb0.fr f1 (by omega)
    have hb1' := hb1.fr f1 (by omega)
    have hI' := hst _ _ _ _ _ hI f1 (fun k h => by omega)
    have hD' := (f1.keep (w.heap.size + 2) (by omega) (by omega)).trans hD
    have hE' : Ext w W1 := hE.trans' f1 (fun j hj h => by omega)
    have hz' : w.heap.size + 4 ≤ W1.heap.size := Nat.le_trans hz f1.size
    rw [hW1]
    refine (cw_block (cw_region ?_))
    refine ow_ex rfl (ex_load rfl rfl rfl (hb1'.cell 0)) rfl ?_
    refine ow_ex rfl (ex_load rfl rfl rfl (hb0'.cell 0)) rfl ?_
    repeat refine o_p rfl rfl rfl ?_
    refine ow_call rfl (ec_call rfl) rfl ((hstep i v W1 hi hI' hE' hz').mono ?_)
    rintro _ W2 ⟨v', rfl, hI2, f2⟩; refine ⟨_, rfl, ?_⟩
    have hb0'' := hb0'.fr f2 (by omega)
    have hb1'' := hb1'.fr f2 (by omega)
    have hD'' := (f2.keep (w.heap.size + 2) (by omega) (by omega)).trans hD'
    have hL'' := (f2.keep (w.heap.size + 3) (by omega) (by omega)).trans hL1
    have hE'' : Ext w W2 := hE'.trans' f2 (fun j hj h => by omega)
    have hz'' : w.heap.size + 4 ≤ W2.heap.size := Nat.le_trans hz' f2.size
    refine ow_eu rfl (eu_store rfl rfl rfl rfl (hone _ _ _ hI2) (hb0''.cell 0) (hb0''.frozen 0)) ?_  -- 5: store from
    have f3 := Fr.setCell W2 ⟨w.heap.size, 0, none⟩ v'
    have hL3 := (f3.keep (w.heap.size + 3) (by omega) (by simp)).trans hL''
    have hrr : ({ r with state := .ready, pending := none } : Loop) = r := by cases r; simp_all
    have hL4 : ∀ r', r' = r → ((W2.setCell ⟨w.heap.size, 0, none⟩ v').putObj (w.heap.size + 3) (.loop r')).heap[w.heap.size + 3]? = some (.loop r) := fun r' e => by
      rw [World.putObj_heap_same (by simp; omega), e]
    refine (ow_nil (pn_block (pn_round_go hL3 ⟨rfl, v', ?_⟩)))
    have hL5 := hL4 _ hrr
    generalize hW4 : (W2.setCell ⟨w.heap.size, 0, none⟩ v').putObj (w.heap.size + 3) _ = W4 at hL5
    have f4 : Fr (· = w.heap.size + 3) (W2.setCell ⟨w.heap.size, 0, none⟩ v') W4 := by rw [← hW4]; exact Fr.putObj _ _ _
    show Blk _ _ _ _ ∧ _
    refine ⟨?_, ?_, ?_, ?_, ?_, ?_, ?_⟩
    · exact ((hb0''.set 0 v').fr f4 (by omega))
    · exact (hb1''.fr f3 (by simp)).fr f4 (by omega)
    · exact hst _ _ _ _ _ (hst _ _ _ _ _ hI2 f3 (fun k h => by simp at h; omega)) f4 (fun k h => by omega)
    · exact (f4.keep _ (by simp; omega) (by omega)).trans ((f3.keep _ (by omega) (by simp)).trans hD'')
    · exact hL5
    · exact (hE''.trans' f3 (fun j hj h => by simp at h; omega)).trans' f4 (fun j hj h => by omega)
    · have := f3.size; have := f4.size; omega
  · rintro e W ⟨⟨u, rfl⟩, v, hb0, hb1, hI, hD, hL, hE, hz⟩
    refine ⟨⟨_, rfl⟩, r, hL, by rw [hr1]; decide, ?_⟩
    rw [hr2]
    -- BEHIND
    dsimp only
    generalize hW4 : W.putObj (w.heap.size + 2 + 1) _ = W4
    have f1 : Fr (· = w.heap.size + 3) W W4 := by rw [← hW4]; exact Fr.putObj _ _ _
    refine (pn_block (pn_then (cw_seq (cw_region ?_))))
    refine ow_ex rfl (ex_load rfl rfl rfl ((hb0.fr f1 (by omega)).cell 0)) rfl ?_
    repeat refine o_p rfl rfl rfl ?_
    have hD1 := (f1.keep (w.heap.size + 2) (by omega) (by omega)).trans hD
    refine (ow_nil (pn_then (cw_ret (pn_retM rfl rfl hD1 ⟨v, rfl, ?_, ?_⟩))))
    · exact hst _ _ _ _ _ (hst _ _ _ _ _ hI f1 (fun k h => by omega)) (Fr.putObj _ _ _) (fun k h => by omega)
    · exact (hE.trans' f1 (fun j hj h => by omega)).trans' (Fr.putObj _ _ _) (fun j hj h => by omega)

end Go.Proofs.YtmeiadgpglpelaaGreat
/- Vectors, part two: package vector's and entrepotref14's functions. Conditions: the vectors may be read, and are not too long. -/
namespace Go.Proofs.YtmeiadgpglpelaaGreat
open Go.Eng Go.RowKit

/-! ## The closures -/
def capI : Int := 4611686018427387904
theorem Weight_1_spec (n a y : Int) (w : World) (hn : 0 ≤ n ∧ n ≤ capI) (ha : 0 ≤ a) : Calls Tryz.prog n_vector_Weight_1 #[.int .i64 n, .int .i64 a, .int .i64 y] w fun e w' => e = .returned (.int .i64 (n + min a (capI - n))) ∧ w = w' := by
  unfold capI at *
  refine enter3 F_vector_Weight_1 rfl rfl ?_
  refine (cw_seq (cw_region ?_))
  repeat refine o_p rfl rfl rfl ?_
  refine (ow_nil (pn_then (cw_seq (cw_region ?_))))
  repeat refine o_p rfl rfl rfl ?_
  refine o_c rfl rfl rfl (by unfold I64; omega) ?_
  repeat refine o_p rfl rfl rfl ?_
  refine o_c rfl rfl rfl (by unfold I64; omega) ?_
  repeat refine o_p rfl rfl rfl ?_
  exact (ow_nil (pn_then (cw_ret (pn_ret rfl rfl ⟨rfl, rfl⟩))))

end Go.Proofs.YtmeiadgpglpelaaGreat
/- Vectors, part three: Leq, Same, Weight, Has, Next of both packages. Conditions: the vectors may be read, and are not too long. -/
namespace Go.Proofs.YtmeiadgpglpelaaGreat
open Go.Eng Go.RowKit

theorem nn_nonneg (xs : List Int) (i : Nat) : 0 ≤ nn xs i := by unfold nn; omega
def weightF (xs : List Int) : Nat → Int
  | 0 => 0
  | i + 1 => weightF xs i + min (nn xs i) (capI - weightF xs i)
def weightL (xs : List Int) : Int := weightF xs xs.length
theorem weightF_bound (xs : List Int) (i : Nat) : 0 ≤ weightF xs i ∧ weightF xs i ≤ capI := by
  induction i with
  | zero => simp [weightF, capI]
  | succ i ih => have := nn_nonneg xs i; simp only [weightF]; omega
theorem Weight_spec {va : Value} {xs : List Int} {w : World} (ha : IL w va xs) : Calls Tryz.prog n_vector_Weight #[va] w fun e w' => e = .returned (.int .i64 (weightL xs)) ∧ Ext w w' := by
  have ca : va.cells = #[va] := by obtain ⟨A, c, rfl, _⟩ := ha.op; rfl
  have hb : IL w (.slice none 0 0) ([] : List Int) := VL.nil _ _
  have cb : (Value.slice none 0 0).cells = #[.slice none 0 0] := rfl
  refine enter1 F_vector_Weight rfl rfl ?_
  (refine sr ?_; refine o_p rfl rfl rfl ?_; refine on ?_; refine sr ?_; refine o_p rfl rfl rfl ?_)
  refine ow_call rfl (ec_call rfl) rfl (sides_spec.mono ?_)
  rintro _ w1 ⟨rfl, rfl⟩; refine ⟨_, rfl, ?_⟩
  rw [ca, cb]
  have B1 : Blk (w.alloc (.cells #[va] t_sl_int)) w.heap.size t_sl_int [va] := Blk.new w _ [va]
  have e1 : Ext w (w.alloc (.cells #[va] t_sl_int)) := Fr.alloc _ _
  have z1 : (w.alloc (.cells #[va] t_sl_int)).heap.size = w.heap.size + 1 := by simp
  generalize w.alloc (.cells #[va] t_sl_int) = w1 at *
  have B2 : Blk (w1.alloc (.cells #[.slice none 0 0] t_sl_int)) w1.heap.size t_sl_int [.slice none 0 0] := Blk.new w1 _ _
  have e2 : Ext w1 (w1.alloc (.cells #[.slice none 0 0] t_sl_int)) := Fr.alloc _ _
  generalize w1.alloc (.cells #[.slice none 0 0] t_sl_int) = w2 at *
  have eE : Ext w w2 := e1.trans e2
  rw [z1] at B2
  refine ow_call rfl (ec_call rfl) rfl ((fold_int_spec (fun i v _ => v = .int .i64 (weightF xs i)) n_vector_Weight_1 [] (.int .i64 0) ((B1.ext e2).cell 0) (B2.cell 0) (ha.ext eE) (hb.ext eE) rfl ?_ ?_ ?_).mono ?_)
  · rintro i v W rfl; rfl
  · rintro i v W W' S rfl _ _; rfl
  · rintro i v W hi rfl hE hz
    refine (Weight_1_spec _ _ _ _ (weightF_bound xs i) (nn_nonneg xs i)).mono ?_
    rintro e W' ⟨rfl, rfl⟩
    exact ⟨_, rfl, rfl, Fr.refl _ _⟩
  · rintro e w3 ⟨v, rfl, rfl, hE⟩
    refine ⟨_, rfl, ?_⟩
    (refine o_p rfl rfl rfl ?_; refine on ?_)
    have hm : max xs.length ([] : List Int).length = xs.length := by simp
    rw [hm]
    exact cw_ret (pn_ret rfl rfl ⟨rfl, eE.trans hE⟩)

/-! ## A dot -/
abbrev dotV (r n : Int) : Value := .agg #[.int .i64 r, .int .i64 n]
end Go.Proofs.YtmeiadgpglpelaaGreat
/- Vectors, part four: the document's answers (entrepotref14): Leq, Same, Join, Meet, Has, Next, Weight. Conditions: the vectors may be read, and are not too long. -/
namespace Go.Proofs.YtmeiadgpglpelaaGreat
open Go.Eng Go.RowKit

end Go.Proofs.YtmeiadgpglpelaaGreat
/- Vectors, part five: With of both packages, Less of both packages, and what the laws use besides. Conditions: the vectors may be read, and are not too long. -/
namespace Go.Proofs.YtmeiadgpglpelaaGreat
open Go.Eng Go.RowKit

end Go.Proofs.YtmeiadgpglpelaaGreat
/- Vectors, part six: Less of both packages, and what the laws use besides. Conditions: the vectors may be read, and are not too long. -/
namespace Go.Proofs.YtmeiadgpglpelaaGreat
open Go.Eng Go.RowKit

instance : EqT Tryz.prog t_api_Dot := ⟨by kernel_rfl⟩
set_option maxRecDepth 100000 in
theorem eq_dot (a b c d : Int) (w : World) : (Op.equalIn 10000 t_api_Dot (dotV a b) (dotV c d)).run Tryz.prog w = .ok (decide (a = c ∧ b = d)) w := by
  have hS : Tryz.prog.underlying t_api_Dot = some (.struct (Tryz.prog.fieldsOf t_api_Dot)) := by kernel_rfl
  have hp : Tryz.prog.stoodInHeld t_api_Dot = false := by kernel_rfl
  have hf : ∃ f g : Field, (Tryz.prog.fieldsOf t_api_Dot).toList = [f, g] ∧ f.name ≠ "_" ∧ g.name ≠ "_" ∧ f.type = t_int ∧ g.type = t_int ∧ f.offset = 0 ∧ g.offset = 1 :=
    ⟨_, _, rfl, by decide, by decide, rfl, rfl, rfl, rfl⟩
  obtain ⟨f, g, h1, h2, h3, h4, h5, h6, h7⟩ := hf
  have ui : Tryz.prog.underlying t_int = some (.int .i64) := by kernel_rfl
  rw [show (10000 : Nat) = 9998 + 1 + 1 from rfl, run_equalIn_struct w 9999 t_api_Dot _ _ hS hp, h1]
  have p0 : ∀ (x y : Int), (part t_int #[.int .i64 x, .int .i64 y] 0).run Tryz.prog w = .ok (.int .i64 x) w := fun x y => by simp [part, isAgg, run_underlying ui]
  have p1 : ∀ (x y : Int), (part t_int #[.int .i64 x, .int .i64 y] 1).run Tryz.prog w = .ok (.int .i64 y) w := fun x y => by simp [part, isAgg, run_underlying ui]
  have q : ∀ x y : Int, (Op.equalIn 9999 t_int (.int .i64 x) (.int .i64 y)).run Tryz.prog w = .ok (x == y) w := fun x y => run_equalIn_int w 9998 t_int .i64 .i64 x y ui
  simp only [Op.eqFields, h2, h3, h4, h5, h6, h7, ne_eq, not_false_eq_true, if_true, Sem.run_bind, p0, p1, q, Result.andThen_ok]
  by_cases e1 : a = c <;> by_cases e2 : b = d <;> simp [e1, e2, p1, q]

def cmpV (a b : Int) : Int := if a < b then -1 else if b < a then 1 else 0
def cmpVs : List Int → List Int → Int
  | [], [] => 0
  | [], _ :: _ => -1
  | _ :: _, [] => 1
  | x :: xs, y :: ys => if cmpV x y ≠ 0 then cmpV x y else cmpVs xs ys

theorem isNaN_spec (a : Int) (w : World) : Calls Tryz.prog n_cmp_isNaN_int #[.int .i64 a] w fun e w' => e = .returned (.bool false) ∧ w = w' := by
  refine enter1 F_cmp_isNaN_int rfl rfl ?_
  (refine sr ?_; refine o_p rfl rfl rfl ?_; refine on ?_; refine sr ?_; (iterate 4 refine o_p rfl rfl rfl ?_); refine on ?_)
  exact cw_ret (pn_ret rfl rfl ⟨by simp, rfl⟩)

theorem Compare_spec (a b : Int) (w : World) : Calls Tryz.prog n_cmp_Compare_int #[.int .i64 a, .int .i64 b] w fun e w' => e = .returned (.int .i64 (cmpV a b)) ∧ w = w' := by
  refine enter2 F_cmp_Compare_int rfl rfl ?_
  (refine sr ?_; refine o_p rfl rfl rfl ?_; refine on ?_; refine sr ?_; refine o_p rfl rfl rfl ?_)
  refine ow_call rfl (ec_call rfl) rfl ((isNaN_spec a w).mono ?_)
  rintro _ w1 ⟨rfl, rfl⟩; refine ⟨_, rfl, ?_⟩
  (refine o_p rfl rfl rfl ?_; refine on ?_; refine sr ?_; refine o_p rfl rfl rfl ?_)
  refine ow_call rfl (ec_call rfl) rfl ((isNaN_spec b w).mono ?_)
  rintro _ w1 ⟨rfl, rfl⟩; refine ⟨_, rfl, ?_⟩
  (refine o_p rfl rfl rfl ?_; refine on ?_; refine ss ?_; refine sr ?_; refine o_p rfl rfl rfl ?_; refine on ?_)
  refine cw_cond_f rfl (cw_skip (pn_then (ss (sr ?_))))
  (refine o_p rfl rfl rfl ?_; refine on ?_)
  refine cw_cond_f rfl (cw_skip (pn_then (ss (sr ?_))))
  ((iterate 3 refine o_p rfl rfl rfl ?_); refine on ?_)
  refine cw_if rfl (fun h1 => sr ?_) (fun h1 => cw_skip (pn_then (ss (sr ?_))))
  · (refine o_p rfl rfl rfl ?_; refine on ?_)
    exact cw_ret (pn_then_ret (pn_ret rfl rfl ⟨by simp [cmpV, h1], rfl⟩))
  · ((iterate 3 refine o_p rfl rfl rfl ?_); refine on ?_)
    refine cw_if rfl (fun h2 => sr ?_) (fun h2 => cw_skip (pn_then (sr ?_)))
    · (refine o_p rfl rfl rfl ?_; refine on ?_)
      exact cw_ret (pn_then_ret (pn_ret rfl rfl ⟨by simp [cmpV, h1, h2], rfl⟩))
    · (refine o_p rfl rfl rfl ?_; refine on ?_)
      exact cw_ret (pn_ret rfl rfl ⟨by simp [cmpV, h1, h2], rfl⟩)

theorem CompareFunc_spec {va vb : Value} {xs ys : List Int} {w : World} (ha : IL w va xs) (hb : IL w vb ys) (hx : xs.length ≤ 1048576) :
    Calls Tryz.prog n_slices_CompareFunc_sl_int_sl_int_int_int #[va, vb, .func (.func n_cmp_Compare_int) ⟨[]⟩ ⟨[]⟩] w fun e w' => e = .returned (.int .i64 (cmpVs xs ys)) ∧ w = w' := by
  obtain ⟨A, c, rfl, hnc, hcm, hz, hcell⟩ := ha.op
  obtain ⟨A', c', rfl, hnc', hcm', hz', hcell'⟩ := hb.op
  refine enter3 F_slices_CompareFunc_sl_int_sl_int_int_int rfl rfl ?_
  (refine sr ?_; refine o_p rfl rfl rfl ?_; refine on ?_; refine ss ?_; refine sr ?_; (iterate 3 refine o_p rfl rfl rfl ?_); refine on ?_)
  refine cw_block (cw_loop (G := Nat) (fun k => [(0, .slice A xs.length c), (1, .slice A' ys.length c'), (2, .func (.func n_cmp_Compare_int) ⟨[]⟩ ⟨[]⟩), (11, .slice A xs.length c), (12, .int .i64 xs.length), (13, .int .i64 (k : Int))])
    (fun k W => w = W ∧ k ≤ xs.length ∧ k ≤ ys.length ∧ cmpVs xs ys = cmpVs (xs.drop k) (ys.drop k)) (fun k => xs.length - k) ?_ ?_)
  · exact ⟨0, ⟨rfl, rfl, rfl, rfl, rfl, rfl, trivial⟩, rfl, Nat.zero_le _, Nat.zero_le _, by simp⟩
  rintro k W ⟨rfl, hk, hk', hJ⟩
  try dsimp only
  (refine sr ?_; refine o_p rfl rfl rfl ?_; refine on ?_)
  refine cw_seq (cw_if rfl (fun h => ?_) (fun h => ?_))
  · refine (cw_skip (pn_then (cw_seq (cw_block (sr ?_)))))
    obtain ⟨bk, off, rfl, hbk, hc⟩ := hcell k (by omega)
    have hck := hc k (by omega)
    (refine o_p rfl rfl rfl ?_)
    refine o_ix k rfl rfl rfl (by omega) (by omega) ?_
    refine ow_ex rfl (ex_load rfl rfl rfl hck) rfl ?_
    ((iterate 2 refine o_p rfl rfl rfl ?_); refine on ?_; refine ss ?_; refine sr ?_; (iterate 4 refine o_p rfl rfl rfl ?_); refine on ?_)
    refine cw_if rfl (fun h1 => ?_) (fun h1 => ?_)
    · refine sr ?_
      (refine o_p rfl rfl rfl ?_)
      refine (ow_nil (pn_then (cw_ret (pn_then_ret (pn_block_ret (pn_then_ret (pn_loop_ret (pn_block_ret (pn_then_ret (pn_ret rfl rfl ⟨?_, rfl⟩))))))))))
      rw [hJ, List.drop_eq_getElem_cons (by omega), List.drop_eq_nil_of_le (show ys.length ≤ _ by omega)]
      rfl
    · obtain ⟨bk', off', rfl, hbk', hc'⟩ := hcell' k (by omega)
      have hck' := hc' k (by omega)
      refine cw_skip (pn_then (sr ?_))
      ((iterate 2 refine o_p rfl rfl rfl ?_))
      refine o_ix k rfl rfl rfl (by omega) (by omega) ?_
      refine ow_ex rfl (ex_load rfl rfl rfl hck') rfl ?_
      (refine o_p rfl rfl rfl ?_; refine on ?_; refine sr ?_; (iterate 3 refine o_p rfl rfl rfl ?_))
      refine ow_call rfl (ec_call rfl) rfl ((Compare_spec _ _ _).mono ?_)
      rintro _ w1 ⟨rfl, rfl⟩; refine ⟨_, rfl, ?_⟩
      (refine o_p rfl rfl rfl ?_; refine on ?_; refine sr ?_; (iterate 2 refine o_p rfl rfl rfl ?_); refine on ?_)
      have hstep : cmpVs xs ys = if cmpV xs[k] ys[k] ≠ 0 then cmpV xs[k] ys[k] else cmpVs (xs.drop (k + 1)) (ys.drop (k + 1)) := by
        rw [hJ, List.drop_eq_getElem_cons (l := xs) (by omega), List.drop_eq_getElem_cons (l := ys) (by omega)]
        rfl
      refine cw_cond rfl (fun h2 => ?_) (fun h2 => ?_)
      · refine sr ?_
        ((iterate 2 refine o_p rfl rfl rfl ?_))
        refine (ow_nil (pn_then (cw_ret (pn_block_ret (pn_then_ret (pn_loop_ret (pn_block_ret (pn_then_ret (pn_ret rfl rfl ⟨?_, rfl⟩)))))))))
        rw [hstep, if_pos (by simpa using h2)]
      · refine (cw_skip (pn_block (pn_then (cw_region ?_))))
        refine o_c rfl rfl rfl (by unfold I64; omega) ?_
        (refine o_p rfl rfl rfl ?_)
        refine (ow_nil (pn_round (k + 1) ?_ ?_ ?_))
        · exact ⟨rfl, rfl, rfl, rfl, rfl, rfl, trivial⟩
        · exact ⟨rfl, by omega, by omega, by rw [hstep, if_neg (by simpa using h2)]⟩
        · show xs.length - (k + 1) < xs.length - k; omega
  · refine (cw_exit (pn_then_exit (pn_loop_exit (pn_block_exit (pn_then (ss (sr ?_)))))))
    obtain rfl : k = xs.length := by omega
    rw [List.drop_length] at hJ
    ((iterate 5 refine o_p rfl rfl rfl ?_); refine on ?_)
    refine cw_if rfl (fun h1 => ?_) (fun h1 => ?_)
    · refine sr ?_
      (refine o_p rfl rfl rfl ?_)
      refine (ow_nil (pn_then (cw_ret (pn_then_ret (pn_ret rfl rfl ⟨?_, rfl⟩)))))
      rw [hJ, List.drop_eq_getElem_cons (l := ys) (by omega)]
      rfl
    · refine cw_skip (pn_then (sr ?_))
      (refine o_p rfl rfl rfl ?_)
      refine (ow_nil (pn_then (cw_ret (pn_ret rfl rfl ⟨?_, rfl⟩))))
      rw [hJ, List.drop_eq_nil_of_le (show ys.length ≤ _ by omega)]
      rfl

def lessL (ra na : Int) (xs : List Int) (rb nb : Int) (ys : List Int) : Bool :=
  decide (weightL xs < weightL ys ∨ (weightL xs = weightL ys ∧ (ra < rb ∨ (ra = rb ∧ na < nb))))
theorem less_cmp {ra na rb nb : Int} {xs ys : List Int} (h : ¬ (ra = rb ∧ na = nb)) : decide (cmpVs [weightL xs, ra, na] [weightL ys, rb, nb] < 0) = lessL ra na xs rb nb ys := by
  unfold lessL
  rw [decide_eq_decide]
  simp only [cmpVs, cmpV]
  split <;> (try split) <;> (try split) <;> omega

theorem fill3 (a b c : Value) (ha : a.cells.toList = [a]) (hb : b.cells.toList = [b]) (hc : c.cells.toList = [c]) (z : List Value) (hz : z.length = 3 * 1) : fillL (fun k => some (k * 1, 1)) z [(0, a), (1, b), (2, c)] = some [a, b, c] := by
  match z, hz with
  | [x, y, u], _ =>
    have e : ∀ v : Value, v.cells.toList = [v] → v.cells.size = 1 := fun v h => by rw [← Array.length_toList, h]; rfl
    simp [fillL, spl, ha, hb, hc, e a ha, e b hb, e c hc]

theorem Less_spec {va vb : Value} {xs ys : List Int} {ra na rb nb : Int} {w : World} (ha : IL w va xs) (hb : IL w vb ys) :
    Calls Tryz.prog n_vector_Less #[dotV ra na, va, dotV rb nb, vb] w fun e w' => e = .returned (.bool (lessL ra na xs rb nb ys)) ∧ Ext w w' := by
  refine enter4 F_vector_Less rfl rfl ?_
  refine (cw_seq (cw_region ?_))
  refine ow_ex rfl (ex_box rfl) rfl ?_
  have B : Blk (w.alloc (.cells (dotV ra na).cells t_api_Dot)) w.heap.size t_api_Dot [.int .i64 ra, .int .i64 na] := Blk.new w _ _
  have e1 : Ext w (w.alloc (.cells (dotV ra na).cells t_api_Dot)) := Fr.alloc _ _
  generalize w.alloc (.cells (dotV ra na).cells t_api_Dot) = w1 at *
  refine ow_ex rfl (ex_box rfl) rfl ?_
  have B' : Blk (w1.alloc (.cells (dotV rb nb).cells t_api_Dot)) w1.heap.size t_api_Dot [.int .i64 rb, .int .i64 nb] := Blk.new w1 _ _
  have e2 : Ext w1 (w1.alloc (.cells (dotV rb nb).cells t_api_Dot)) := Fr.alloc _ _
  generalize w1.alloc (.cells (dotV rb nb).cells t_api_Dot) = w2 at *
  have B := B.ext e2
  have e2 := e1.trans e2
  (refine o_p rfl rfl rfl ?_)
  refine (ow_nil (pn_then (cw_seq (cw_draw flo (fun W' => Ext w2 W') (by decide) (Fr.drew _) ?_))))
  (refine d_p rfl rfl rfl rfl ?_)
  refine dw_call rfl rfl (ec_call rfl) rfl ((Weight_spec (ha.ext (e2.trans (Fr.drew _)))).mono ?_)
  rintro _ w3 ⟨rfl, e3⟩; refine ⟨_, rfl, (Fr.drew _).trans e3, ?_⟩
  (refine d_p rfl rfl rfl rfl ?_)
  refine dw_rd rfl rfl (fun W' hW' => ex_load rfl rfl rfl (hW'.cell (B.cell 0))) rfl ?_
  (refine d_p rfl rfl rfl rfl ?_)
  refine dw_rd rfl rfl (fun W' hW' => ex_load rfl rfl rfl (hW'.cell (B.cell 1))) rfl ?_
  refine dw_ex rfl rfl (ex_buildSlice (vs := [(0, .int .i64 (weightL xs)), (1, .int .i64 ra), (2, .int .i64 na)]) (cells := [.int .i64 (weightL xs), .int .i64 ra, .int .i64 na]) rfl rfl rfl rfl (by decide) (fill3 _ _ _ rfl rfl rfl)) (((Fr.drew _).trans e3).trans (Fr.alloc _ _)) rfl ?_
  have D := Blk.new w3 t_int [.int .i64 (weightL xs), .int .i64 ra, .int .i64 na]
  have e4 : Ext w2 (w3.alloc (.cells [.int .i64 (weightL xs), .int .i64 ra, .int .i64 na].toArray t_int)) := ((Fr.drew _).trans e3).trans (Fr.alloc _ _)
  generalize hw4 : w3.alloc (.cells [.int .i64 (weightL xs), .int .i64 ra, .int .i64 na].toArray t_int) = w4 at *
  (refine d_p rfl rfl rfl rfl ?_)
  refine (dw_nil (pn_then (cw_seq (cw_draw flo (fun W' => Ext w4 W') (by decide) (Fr.drew _) ?_))))
  (refine d_p rfl rfl rfl rfl ?_)
  refine dw_call rfl rfl (ec_call rfl) rfl ((Weight_spec (hb.ext ((e2.trans e4).trans (Fr.drew _)))).mono ?_)
  rintro _ w5 ⟨rfl, e5⟩; refine ⟨_, rfl, (Fr.drew _).trans e5, ?_⟩
  (refine d_p rfl rfl rfl rfl ?_)
  refine dw_rd rfl rfl (fun W' hW' => ex_load rfl rfl rfl (hW'.cell (e4.cell (B'.cell 0)))) rfl ?_
  (refine d_p rfl rfl rfl rfl ?_)
  refine dw_rd rfl rfl (fun W' hW' => ex_load rfl rfl rfl (hW'.cell (e4.cell (B'.cell 1)))) rfl ?_
  refine dw_ex rfl rfl (ex_buildSlice (vs := [(0, .int .i64 (weightL ys)), (1, .int .i64 rb), (2, .int .i64 nb)]) (cells := [.int .i64 (weightL ys), .int .i64 rb, .int .i64 nb]) rfl rfl rfl rfl (by decide) (fill3 _ _ _ rfl rfl rfl)) (((Fr.drew _).trans e5).trans (Fr.alloc _ _)) rfl ?_
  have D' := Blk.new w5 t_int [.int .i64 (weightL ys), .int .i64 rb, .int .i64 nb]
  have e6 : Ext w4 (w5.alloc (.cells [.int .i64 (weightL ys), .int .i64 rb, .int .i64 nb].toArray t_int)) := ((Fr.drew _).trans e5).trans (Fr.alloc _ _)
  generalize hw6 : w5.alloc (.cells [.int .i64 (weightL ys), .int .i64 rb, .int .i64 nb].toArray t_int) = w6 at *
  (refine d_p rfl rfl rfl rfl ?_)
  have eE := (e2.trans e4).trans e6
  have C := (B.ext e4).ext e6
  have C' := (B'.ext e4).ext e6
  have x1 : IL w6 (.slice (some ⟨w3.heap.size, 0, none⟩) 3 3) [weightL xs, ra, na] := (D.ext e6).sl (n := 3) (sz := 1) rfl (by decide)
  have x2 : IL w6 (.slice (some ⟨w5.heap.size, 0, none⟩) 3 3) [weightL ys, rb, nb] := D'.sl (n := 3) (sz := 1) rfl (by decide)
  refine (dw_nil (pn_then (cw_seq (cw_region ?_))))
  refine ow_ex rfl (ex_loadN (cs := [.int .i64 ra, .int .i64 na]) rfl rfl rfl rfl (fun j _ => by rw [Nat.zero_add]; exact C.cell j)) rfl ?_
  refine ow_ex rfl (ex_loadN (cs := [.int .i64 rb, .int .i64 nb]) rfl rfl rfl rfl (fun j _ => by rw [Nat.zero_add]; exact C'.cell j)) rfl ?_
  refine ow_pu rfl (pu_neA rfl rfl (eq_dot ra na rb nb)) rfl ?_
  (refine o_p rfl rfl rfl ?_)
  refine o_split 28 rfl (fun h1 => ?_) (fun h1 => ?_)
  · have h1 : ¬ (ra = rb ∧ na = nb) := by simpa only [Bool.not_eq_true', decide_eq_false_iff_not] using h1
    ((iterate 2 refine o_p rfl rfl rfl ?_))
    refine ow_call rfl (ec_call rfl) rfl ((CompareFunc_spec x1 x2 (by simp)).mono ?_)
    rintro _ w7 ⟨rfl, rfl⟩; refine ⟨_, rfl, ?_⟩
    ((iterate 3 refine o_p rfl rfl rfl ?_))
    rw [less_cmp h1]
    refine o_split 34 rfl (fun h2 => ?_) (fun h2 => ?_)
    · ((iterate 10 refine ow_skip rfl rfl ?_); (iterate 2 refine o_p rfl rfl rfl ?_))
      refine (ow_nil (pn_then (cw_ret (pn_ret rfl rfl ⟨?_, eE⟩))))
      rw [h2]
    · refine ow_ex rfl (ex_loadN (cs := [.int .i64 ra, .int .i64 na]) rfl rfl rfl rfl (fun j _ => by rw [Nat.zero_add]; exact C.cell j)) rfl ?_
      refine ow_ex rfl (ex_loadN (cs := [.int .i64 rb, .int .i64 nb]) rfl rfl rfl rfl (fun j _ => by rw [Nat.zero_add]; exact C'.cell j)) rfl ?_
      refine ow_pu rfl (pu_eqA rfl rfl (eq_dot ra na rb nb)) rfl ?_
      (refine o_p rfl rfl rfl ?_)
      rw [decide_eq_false h1]
      ((iterate 5 refine ow_skip rfl rfl ?_); (iterate 3 refine o_p rfl rfl rfl ?_))
      refine (ow_nil (pn_then (cw_ret (pn_ret rfl rfl ⟨?_, eE⟩))))
      rw [h2]
  · have h1 : ra = rb ∧ na = nb := by simpa using h1
    ((iterate 4 refine ow_skip rfl rfl ?_); (iterate 2 refine o_p rfl rfl rfl ?_))
    refine ow_ex rfl (ex_loadN (cs := [.int .i64 ra, .int .i64 na]) rfl rfl rfl rfl (fun j _ => by rw [Nat.zero_add]; exact C.cell j)) rfl ?_
    refine ow_ex rfl (ex_loadN (cs := [.int .i64 rb, .int .i64 nb]) rfl rfl rfl rfl (fun j _ => by rw [Nat.zero_add]; exact C'.cell j)) rfl ?_
    refine ow_pu rfl (pu_eqA rfl rfl (eq_dot ra na rb nb)) rfl ?_
    (refine o_p rfl rfl rfl ?_)
    rw [decide_eq_true h1]
    (refine o_p rfl rfl rfl ?_)
    refine ow_call rfl (ec_call rfl) rfl ((Weight_spec (ha.ext eE)).mono ?_)
    rintro _ w7 ⟨rfl, e7⟩; refine ⟨_, rfl, ?_⟩
    (refine o_p rfl rfl rfl ?_)
    refine ow_call rfl (ec_call rfl) rfl ((Weight_spec (hb.ext (eE.trans e7))).mono ?_)
    rintro _ w8 ⟨rfl, e8⟩; refine ⟨_, rfl, ?_⟩
    ((iterate 4 refine o_p rfl rfl rfl ?_))
    refine (ow_nil (pn_then (cw_ret (pn_ret rfl rfl ⟨?_, (eE.trans e7).trans e8⟩))))
    simp [lessL, h1]

end Go.Proofs.YtmeiadgpglpelaaGreat
