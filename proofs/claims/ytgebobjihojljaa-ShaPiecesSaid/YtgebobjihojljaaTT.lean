/- The types and the functions of this seat's program, as the engine asks for them: laid by a program (seatgen.py) out of the translation. Conditions: none. -/
import Derived.Test.YtgebobjihojljaaChecked
import Derived.Test.YtgebobjihojljaaEngV
import Derived.KernelRfl
namespace Go.Proofs.Ytgebobjihojljaa
open Go.Eng
def ti1 : TI := ⟨.func #[] #[] false, 1, 8, .nilFunc, []⟩
theorem g1 : good Try.prog (1, ti1) := good_d rfl (by kernel_rfl) (by kernel_rfl)
def ti2 : TI := ⟨.int .i64, 1, 8, .int .i64 0, []⟩
theorem g2 : good Try.prog (2, ti2) := good_d rfl (by kernel_rfl) (by kernel_rfl)
def ti3 : TI := ⟨.int .i64, 1, 8, .int .i64 0, []⟩
theorem g3 : good Try.prog (3, ti3) := good_d rfl (by kernel_rfl) (by kernel_rfl)
def ti4 : TI := ⟨.bool, 1, 1, .bool false, []⟩
theorem g4 : good Try.prog (4, ti4) := good_d rfl (by kernel_rfl) (by kernel_rfl)
def ti5 : TI := ⟨.int .u8, 1, 1, .int .u8 0, []⟩
theorem g5 : good Try.prog (5, ti5) := good_d rfl (by kernel_rfl) (by kernel_rfl)
def ti6 : TI := ⟨.int .u8, 1, 1, .int .u8 0, []⟩
theorem g6 : good Try.prog (6, ti6) := good_d rfl (by kernel_rfl) (by kernel_rfl)
def ti7 : TI := ⟨.struct #[], 4, 24, .agg ⟨[.int .i64 0, .int .i64 0, .bool false, .int .u8 0]⟩, [(2, 0), (3, 1), (4, 2), (6, 3)]⟩
theorem g7 : good Try.prog (7, ti7) := good_s rfl (by kernel_rfl) (by kernel_rfl)
def ti8 : TI := ⟨.struct #[], 4, 24, .agg ⟨[.int .i64 0, .int .i64 0, .bool false, .int .u8 0]⟩, [(2, 0), (3, 1), (4, 2), (6, 3)]⟩
theorem g8 : good Try.prog (8, ti8) := good_s rfl (by kernel_rfl) (by kernel_rfl)
def ti9 : TI := ⟨.string, 1, 16, .string ⟨⟨[]⟩⟩, []⟩
theorem g9 : good Try.prog (9, ti9) := good_d rfl (by kernel_rfl) (by kernel_rfl)
def ti10 : TI := ⟨.string, 1, 16, .string ⟨⟨[]⟩⟩, []⟩
theorem g10 : good Try.prog (10, ti10) := good_d rfl (by kernel_rfl) (by kernel_rfl)
def ti11 : TI := ⟨.string, 1, 16, .string ⟨⟨[]⟩⟩, []⟩
theorem g11 : good Try.prog (11, ti11) := good_d rfl (by kernel_rfl) (by kernel_rfl)
def ti12 : TI := ⟨.int .u64, 1, 8, .int .u64 0, []⟩
theorem g12 : good Try.prog (12, ti12) := good_d rfl (by kernel_rfl) (by kernel_rfl)
def ti13 : TI := ⟨.struct #[], 2, 24, .agg ⟨[.string ⟨⟨[]⟩⟩, .int .u64 0]⟩, [(9, 0), (12, 1)]⟩
theorem g13 : good Try.prog (13, ti13) := good_s rfl (by kernel_rfl) (by kernel_rfl)
def ti14 : TI := ⟨.struct #[], 2, 24, .agg ⟨[.string ⟨⟨[]⟩⟩, .int .u64 0]⟩, [(9, 0), (12, 1)]⟩
theorem g14 : good Try.prog (14, ti14) := good_s rfl (by kernel_rfl) (by kernel_rfl)
def ti15 : TI := ⟨.pointer 72, 1, 8, .pointer none, []⟩
theorem g15 : good Try.prog (15, ti15) := good_d rfl (by kernel_rfl) (by kernel_rfl)
def ti16 : TI := ⟨.pointer 75, 1, 8, .pointer none, []⟩
theorem g16 : good Try.prog (16, ti16) := good_d rfl (by kernel_rfl) (by kernel_rfl)
def ti17 : TI := ⟨.pointer 83, 1, 8, .pointer none, []⟩
theorem g17 : good Try.prog (17, ti17) := good_d rfl (by kernel_rfl) (by kernel_rfl)
def ti18 : TI := ⟨.struct #[], 1, 8, .agg ⟨[.pointer none]⟩, [(17, 0)]⟩
theorem g18 : good Try.prog (18, ti18) := good_s rfl (by kernel_rfl) (by kernel_rfl)
def ti19 : TI := ⟨.struct #[], 1, 8, .agg ⟨[.pointer none]⟩, [(17, 0)]⟩
theorem g19 : good Try.prog (19, ti19) := good_s rfl (by kernel_rfl) (by kernel_rfl)
def ti21 : TI := ⟨.int .i32, 1, 4, .int .i32 0, []⟩
theorem g21 : good Try.prog (21, ti21) := good_d rfl (by kernel_rfl) (by kernel_rfl)
def ti22 : TI := ⟨.slice 5, 1, 24, .slice none 0 0, []⟩
theorem g22 : good Try.prog (22, ti22) := good_d rfl (by kernel_rfl) (by kernel_rfl)
def ti23 : TI := ⟨.pointer 28, 1, 8, .pointer none, []⟩
theorem g23 : good Try.prog (23, ti23) := good_d rfl (by kernel_rfl) (by kernel_rfl)
def ti24 : TI := ⟨.int .u32, 1, 4, .int .u32 0, []⟩
theorem g24 : good Try.prog (24, ti24) := good_d rfl (by kernel_rfl) (by kernel_rfl)
def ti25 : TI := ⟨.array 8 24, 8, 32, .agg ⟨[.int .u32 0, .int .u32 0, .int .u32 0, .int .u32 0, .int .u32 0, .int .u32 0, .int .u32 0, .int .u32 0]⟩, []⟩
theorem g25 : good Try.prog (25, ti25) := good_d rfl (by kernel_rfl) (by kernel_rfl)
def ti26 : TI := ⟨.array 8 24, 8, 32, .agg ⟨[.int .u32 0, .int .u32 0, .int .u32 0, .int .u32 0, .int .u32 0, .int .u32 0, .int .u32 0, .int .u32 0]⟩, []⟩
theorem g26 : good Try.prog (26, ti26) := good_d rfl (by kernel_rfl) (by kernel_rfl)
def ti27 : TI := ⟨.struct #[], 11, 72, .agg ⟨[.int .u32 0, .int .u32 0, .int .u32 0, .int .u32 0, .int .u32 0, .int .u32 0, .int .u32 0, .int .u32 0, .slice none 0 0, .int .i64 0, .bool false]⟩, [(26, 0), (22, 8), (3, 9), (4, 10)]⟩
theorem g27 : good Try.prog (27, ti27) := good_s rfl (by kernel_rfl) (by kernel_rfl)
def ti28 : TI := ⟨.struct #[], 11, 72, .agg ⟨[.int .u32 0, .int .u32 0, .int .u32 0, .int .u32 0, .int .u32 0, .int .u32 0, .int .u32 0, .int .u32 0, .slice none 0 0, .int .i64 0, .bool false]⟩, [(26, 0), (22, 8), (3, 9), (4, 10)]⟩
theorem g28 : good Try.prog (28, ti28) := good_s rfl (by kernel_rfl) (by kernel_rfl)
def ti29 : TI := ⟨.slice 23, 1, 24, .slice none 0 0, []⟩
theorem g29 : good Try.prog (29, ti29) := good_d rfl (by kernel_rfl) (by kernel_rfl)
def ti30 : TI := ⟨.array 32 5, 32, 32, .agg ⟨[.int .u8 0, .int .u8 0, .int .u8 0, .int .u8 0, .int .u8 0, .int .u8 0, .int .u8 0, .int .u8 0, .int .u8 0, .int .u8 0, .int .u8 0, .int .u8 0, .int .u8 0, .int .u8 0, .int .u8 0, .int .u8 0, .int .u8 0, .int .u8 0, .int .u8 0, .int .u8 0, .int .u8 0, .int .u8 0, .int .u8 0, .int .u8 0, .int .u8 0, .int .u8 0, .int .u8 0, .int .u8 0, .int .u8 0, .int .u8 0, .int .u8 0, .int .u8 0]⟩, []⟩
theorem g30 : good Try.prog (30, ti30) := good_d rfl (by kernel_rfl) (by kernel_rfl)
def ti31 : TI := ⟨.array 32 5, 32, 32, .agg ⟨[.int .u8 0, .int .u8 0, .int .u8 0, .int .u8 0, .int .u8 0, .int .u8 0, .int .u8 0, .int .u8 0, .int .u8 0, .int .u8 0, .int .u8 0, .int .u8 0, .int .u8 0, .int .u8 0, .int .u8 0, .int .u8 0, .int .u8 0, .int .u8 0, .int .u8 0, .int .u8 0, .int .u8 0, .int .u8 0, .int .u8 0, .int .u8 0, .int .u8 0, .int .u8 0, .int .u8 0, .int .u8 0, .int .u8 0, .int .u8 0, .int .u8 0, .int .u8 0]⟩, []⟩
theorem g31 : good Try.prog (31, ti31) := good_d rfl (by kernel_rfl) (by kernel_rfl)
def ti32 : TI := ⟨.int .i64, 1, 8, .int .i64 0, []⟩
theorem g32 : good Try.prog (32, ti32) := good_d rfl (by kernel_rfl) (by kernel_rfl)
def ti34 : TI := ⟨.func #[] #[31, 32] false, 1, 8, .nilFunc, []⟩
theorem g34 : good Try.prog (34, ti34) := good_d rfl (by kernel_rfl) (by kernel_rfl)
def ti35 : TI := ⟨.func #[22] #[32] false, 1, 8, .nilFunc, []⟩
theorem g35 : good Try.prog (35, ti35) := good_d rfl (by kernel_rfl) (by kernel_rfl)
def ti36 : TI := ⟨.func #[] #[3] false, 1, 8, .nilFunc, []⟩
theorem g36 : good Try.prog (36, ti36) := good_d rfl (by kernel_rfl) (by kernel_rfl)
def ti37 : TI := ⟨.func #[] #[4] false, 1, 8, .nilFunc, []⟩
theorem g37 : good Try.prog (37, ti37) := good_d rfl (by kernel_rfl) (by kernel_rfl)
def ti38 : TI := ⟨.func #[22] #[4] false, 1, 8, .nilFunc, []⟩
theorem g38 : good Try.prog (38, ti38) := good_d rfl (by kernel_rfl) (by kernel_rfl)
def ti39 : TI := ⟨.func #[22] #[22] false, 1, 8, .nilFunc, []⟩
theorem g39 : good Try.prog (39, ti39) := good_d rfl (by kernel_rfl) (by kernel_rfl)
def ti40 : TI := ⟨.func #[22] #[31] false, 1, 8, .nilFunc, []⟩
theorem g40 : good Try.prog (40, ti40) := good_d rfl (by kernel_rfl) (by kernel_rfl)
def ti41 : TI := ⟨.func #[22, 3] #[31, 32] false, 1, 8, .nilFunc, []⟩
theorem g41 : good Try.prog (41, ti41) := good_d rfl (by kernel_rfl) (by kernel_rfl)
def ti42 : TI := ⟨.func #[22, 22] #[4] false, 1, 8, .nilFunc, []⟩
theorem g42 : good Try.prog (42, ti42) := good_d rfl (by kernel_rfl) (by kernel_rfl)
def ti43 : TI := ⟨.func #[22, 3] #[4] false, 1, 8, .nilFunc, []⟩
theorem g43 : good Try.prog (43, ti43) := good_d rfl (by kernel_rfl) (by kernel_rfl)
def ti44 : TI := ⟨.func #[31, 3] #[31, 32] false, 1, 8, .nilFunc, []⟩
theorem g44 : good Try.prog (44, ti44) := good_d rfl (by kernel_rfl) (by kernel_rfl)
def ti45 : TI := ⟨.func #[9] #[31, 32] false, 1, 8, .nilFunc, []⟩
theorem g45 : good Try.prog (45, ti45) := good_d rfl (by kernel_rfl) (by kernel_rfl)
def ti46 : TI := ⟨.func #[31] #[9] false, 1, 8, .nilFunc, []⟩
theorem g46 : good Try.prog (46, ti46) := good_d rfl (by kernel_rfl) (by kernel_rfl)
def ti47 : TI := ⟨.func #[31, 3] #[4] false, 1, 8, .nilFunc, []⟩
theorem g47 : good Try.prog (47, ti47) := good_d rfl (by kernel_rfl) (by kernel_rfl)
def ti48 : TI := ⟨.func #[3, 3] #[3] false, 1, 8, .nilFunc, []⟩
theorem g48 : good Try.prog (48, ti48) := good_d rfl (by kernel_rfl) (by kernel_rfl)
def ti49 : TI := ⟨.func #[31, 3, 3, 22] #[4] false, 1, 8, .nilFunc, []⟩
theorem g49 : good Try.prog (49, ti49) := good_d rfl (by kernel_rfl) (by kernel_rfl)
def ti50 : TI := ⟨.func #[31, 31] #[3] false, 1, 8, .nilFunc, []⟩
theorem g50 : good Try.prog (50, ti50) := good_d rfl (by kernel_rfl) (by kernel_rfl)
def ti51 : TI := ⟨.func #[31, 31, 3, 9] #[4] false, 1, 8, .nilFunc, []⟩
theorem g51 : good Try.prog (51, ti51) := good_d rfl (by kernel_rfl) (by kernel_rfl)
def ti52 : TI := ⟨.func #[31, 31, 9] #[4] false, 1, 8, .nilFunc, []⟩
theorem g52 : good Try.prog (52, ti52) := good_d rfl (by kernel_rfl) (by kernel_rfl)
def ti53 : TI := ⟨.slice 3, 1, 24, .slice none 0 0, []⟩
theorem g53 : good Try.prog (53, ti53) := good_d rfl (by kernel_rfl) (by kernel_rfl)
def ti54 : TI := ⟨.func #[] #[23] false, 1, 8, .nilFunc, []⟩
theorem g54 : good Try.prog (54, ti54) := good_d rfl (by kernel_rfl) (by kernel_rfl)
def ti55 : TI := ⟨.func #[22] #[] false, 1, 8, .nilFunc, []⟩
theorem g55 : good Try.prog (55, ti55) := good_d rfl (by kernel_rfl) (by kernel_rfl)
def ti56 : TI := ⟨.func #[22, 53] #[4] false, 1, 8, .nilFunc, []⟩
theorem g56 : good Try.prog (56, ti56) := good_d rfl (by kernel_rfl) (by kernel_rfl)
def ti57 : TI := ⟨.int .u64, 1, 8, .int .u64 0, []⟩
theorem g57 : good Try.prog (57, ti57) := good_d rfl (by kernel_rfl) (by kernel_rfl)
def ti58 : TI := ⟨.func #[25, 22] #[25] false, 1, 8, .nilFunc, []⟩
theorem g58 : good Try.prog (58, ti58) := good_d rfl (by kernel_rfl) (by kernel_rfl)
def ti59 : TI := ⟨.func #[5] #[3] false, 1, 8, .nilFunc, []⟩
theorem g59 : good Try.prog (59, ti59) := good_d rfl (by kernel_rfl) (by kernel_rfl)
def ti60 : TI := ⟨.int .u64, 1, 8, .int .u64 0, []⟩
theorem g60 : good Try.prog (60, ti60) := good_d rfl (by kernel_rfl) (by kernel_rfl)
def ti61 : TI := ⟨.func #[5] #[5] false, 1, 8, .nilFunc, []⟩
theorem g61 : good Try.prog (61, ti61) := good_d rfl (by kernel_rfl) (by kernel_rfl)
def ti62 : TI := ⟨.func #[22, 22] #[3] false, 1, 8, .nilFunc, []⟩
theorem g62 : good Try.prog (62, ti62) := good_d rfl (by kernel_rfl) (by kernel_rfl)
def ti63 : TI := ⟨.func #[] #[26] false, 1, 8, .nilFunc, []⟩
theorem g63 : good Try.prog (63, ti63) := good_d rfl (by kernel_rfl) (by kernel_rfl)
def ti64 : TI := ⟨.pointer 26, 1, 8, .pointer none, []⟩
theorem g64 : good Try.prog (64, ti64) := good_d rfl (by kernel_rfl) (by kernel_rfl)
def ti65 : TI := ⟨.array 64 24, 64, 256, .agg ⟨[.int .u32 0, .int .u32 0, .int .u32 0, .int .u32 0, .int .u32 0, .int .u32 0, .int .u32 0, .int .u32 0, .int .u32 0, .int .u32 0, .int .u32 0, .int .u32 0, .int .u32 0, .int .u32 0, .int .u32 0, .int .u32 0, .int .u32 0, .int .u32 0, .int .u32 0, .int .u32 0, .int .u32 0, .int .u32 0, .int .u32 0, .int .u32 0, .int .u32 0, .int .u32 0, .int .u32 0, .int .u32 0, .int .u32 0, .int .u32 0, .int .u32 0, .int .u32 0, .int .u32 0, .int .u32 0, .int .u32 0, .int .u32 0, .int .u32 0, .int .u32 0, .int .u32 0, .int .u32 0, .int .u32 0, .int .u32 0, .int .u32 0, .int .u32 0, .int .u32 0, .int .u32 0, .int .u32 0, .int .u32 0, .int .u32 0, .int .u32 0, .int .u32 0, .int .u32 0, .int .u32 0, .int .u32 0, .int .u32 0, .int .u32 0, .int .u32 0, .int .u32 0, .int .u32 0, .int .u32 0, .int .u32 0, .int .u32 0, .int .u32 0, .int .u32 0]⟩, []⟩
theorem g65 : good Try.prog (65, ti65) := good_d rfl (by kernel_rfl) (by kernel_rfl)
def ti66 : TI := ⟨.func #[] #[65] false, 1, 8, .nilFunc, []⟩
theorem g66 : good Try.prog (66, ti66) := good_d rfl (by kernel_rfl) (by kernel_rfl)
def ti67 : TI := ⟨.func #[22] #[65] false, 1, 8, .nilFunc, []⟩
theorem g67 : good Try.prog (67, ti67) := good_d rfl (by kernel_rfl) (by kernel_rfl)
def ti68 : TI := ⟨.func #[24, 3] #[24] false, 1, 8, .nilFunc, []⟩
theorem g68 : good Try.prog (68, ti68) := good_d rfl (by kernel_rfl) (by kernel_rfl)
def ti69 : TI := ⟨.func #[22, 5] #[3] false, 1, 8, .nilFunc, []⟩
theorem g69 : good Try.prog (69, ti69) := good_d rfl (by kernel_rfl) (by kernel_rfl)
def ti70 : TI := ⟨.func #[] #[9] false, 1, 8, .nilFunc, []⟩
theorem g70 : good Try.prog (70, ti70) := good_d rfl (by kernel_rfl) (by kernel_rfl)
def ti71 : TI := ⟨.struct #[], 4, 40, .agg ⟨[.pointer none, .pointer none, .pointer none, .string ⟨⟨[]⟩⟩]⟩, [(17, 0), (17, 1), (17, 2), (9, 3)]⟩
theorem g71 : good Try.prog (71, ti71) := good_s rfl (by kernel_rfl) (by kernel_rfl)
def ti72 : TI := ⟨.struct #[], 4, 40, .agg ⟨[.pointer none, .pointer none, .pointer none, .string ⟨⟨[]⟩⟩]⟩, [(17, 0), (17, 1), (17, 2), (9, 3)]⟩
theorem g72 : good Try.prog (72, ti72) := good_s rfl (by kernel_rfl) (by kernel_rfl)
def ti73 : TI := ⟨.array 0 16, 0, 0, .agg ⟨[]⟩, []⟩
theorem g73 : good Try.prog (73, ti73) := good_d rfl (by kernel_rfl) (by kernel_rfl)
def ti74 : TI := ⟨.struct #[], 0, 0, .agg ⟨[]⟩, [(73, 0)]⟩
theorem g74 : good Try.prog (74, ti74) := good_s rfl (by kernel_rfl) (by kernel_rfl)
def ti75 : TI := ⟨.struct #[], 0, 0, .agg ⟨[]⟩, [(73, 0)]⟩
theorem g75 : good Try.prog (75, ti75) := good_s rfl (by kernel_rfl) (by kernel_rfl)
def ti76 : TI := ⟨.int .u8, 1, 1, .int .u8 0, []⟩
theorem g76 : good Try.prog (76, ti76) := good_d rfl (by kernel_rfl) (by kernel_rfl)
def ti77 : TI := ⟨.int .u8, 1, 1, .int .u8 0, []⟩
theorem g77 : good Try.prog (77, ti77) := good_d rfl (by kernel_rfl) (by kernel_rfl)
def ti78 : TI := ⟨.func #[84, 84] #[4] false, 1, 8, .nilFunc, []⟩
theorem g78 : good Try.prog (78, ti78) := good_d rfl (by kernel_rfl) (by kernel_rfl)
def ti79 : TI := ⟨.pointer 5, 1, 8, .pointer none, []⟩
theorem g79 : good Try.prog (79, ti79) := good_d rfl (by kernel_rfl) (by kernel_rfl)
def ti80 : TI := ⟨.int .i32, 1, 4, .int .i32 0, []⟩
theorem g80 : good Try.prog (80, ti80) := good_d rfl (by kernel_rfl) (by kernel_rfl)
def ti81 : TI := ⟨.int .i32, 1, 4, .int .i32 0, []⟩
theorem g81 : good Try.prog (81, ti81) := good_d rfl (by kernel_rfl) (by kernel_rfl)
def ti82 : TI := ⟨.struct #[], 11, 48, .agg ⟨[.int .u64 0, .int .u64 0, .int .u32 0, .int .u8 0, .int .u8 0, .int .u8 0, .int .u8 0, .nilFunc, .pointer none, .int .i32 0, .int .i32 0]⟩, [(12, 0), (12, 1), (24, 2), (76, 3), (5, 4), (5, 5), (77, 6), (78, 7), (79, 8), (80, 9), (81, 10)]⟩
theorem g82 : good Try.prog (82, ti82) := good_s rfl (by kernel_rfl) (by kernel_rfl)
def ti83 : TI := ⟨.struct #[], 11, 48, .agg ⟨[.int .u64 0, .int .u64 0, .int .u32 0, .int .u8 0, .int .u8 0, .int .u8 0, .int .u8 0, .nilFunc, .pointer none, .int .i32 0, .int .i32 0]⟩, [(12, 0), (12, 1), (24, 2), (76, 3), (5, 4), (5, 5), (77, 6), (78, 7), (79, 8), (80, 9), (81, 10)]⟩
theorem g83 : good Try.prog (83, ti83) := good_s rfl (by kernel_rfl) (by kernel_rfl)
def tts : List (Nat × TI) := [(1, ti1), (2, ti2), (3, ti3), (4, ti4), (5, ti5), (6, ti6), (7, ti7), (8, ti8), (9, ti9), (10, ti10), (11, ti11), (12, ti12), (13, ti13), (14, ti14), (15, ti15), (16, ti16), (17, ti17), (18, ti18), (19, ti19), (21, ti21), (22, ti22), (23, ti23), (24, ti24), (25, ti25), (26, ti26), (27, ti27), (28, ti28), (29, ti29), (30, ti30), (31, ti31), (32, ti32), (34, ti34), (35, ti35), (36, ti36), (37, ti37), (38, ti38), (39, ti39), (40, ti40), (41, ti41), (42, ti42), (43, ti43), (44, ti44), (45, ti45), (46, ti46), (47, ti47), (48, ti48), (49, ti49), (50, ti50), (51, ti51), (52, ti52), (53, ti53), (54, ti54), (55, ti55), (56, ti56), (57, ti57), (58, ti58), (59, ti59), (60, ti60), (61, ti61), (62, ti62), (63, ti63), (64, ti64), (65, ti65), (66, ti66), (67, ti67), (68, ti68), (69, ti69), (70, ti70), (71, ti71), (72, ti72), (73, ti73), (74, ti74), (75, ti75), (76, ti76), (77, ti77), (78, ti78), (79, ti79), (80, ti80), (81, ti81), (82, ti82), (83, ti83)]
theorem tts_good : ∀ p ∈ tts, good Try.prog p := by
  intro p hp
  simp only [tts, List.mem_cons, List.not_mem_nil, or_false] at hp
  rcases hp with rfl | rfl | rfl | rfl | rfl | rfl | rfl | rfl | rfl | rfl | rfl | rfl | rfl | rfl | rfl | rfl | rfl | rfl | rfl | rfl | rfl | rfl | rfl | rfl | rfl | rfl | rfl | rfl | rfl | rfl | rfl | rfl | rfl | rfl | rfl | rfl | rfl | rfl | rfl | rfl | rfl | rfl | rfl | rfl | rfl | rfl | rfl | rfl | rfl | rfl | rfl | rfl | rfl | rfl | rfl | rfl | rfl | rfl | rfl | rfl | rfl | rfl | rfl | rfl | rfl | rfl | rfl | rfl | rfl | rfl | rfl | rfl | rfl | rfl | rfl | rfl | rfl | rfl | rfl | rfl | rfl
  · exact g1
  · exact g2
  · exact g3
  · exact g4
  · exact g5
  · exact g6
  · exact g7
  · exact g8
  · exact g9
  · exact g10
  · exact g11
  · exact g12
  · exact g13
  · exact g14
  · exact g15
  · exact g16
  · exact g17
  · exact g18
  · exact g19
  · exact g21
  · exact g22
  · exact g23
  · exact g24
  · exact g25
  · exact g26
  · exact g27
  · exact g28
  · exact g29
  · exact g30
  · exact g31
  · exact g32
  · exact g34
  · exact g35
  · exact g36
  · exact g37
  · exact g38
  · exact g39
  · exact g40
  · exact g41
  · exact g42
  · exact g43
  · exact g44
  · exact g45
  · exact g46
  · exact g47
  · exact g48
  · exact g49
  · exact g50
  · exact g51
  · exact g52
  · exact g53
  · exact g54
  · exact g55
  · exact g56
  · exact g57
  · exact g58
  · exact g59
  · exact g60
  · exact g61
  · exact g62
  · exact g63
  · exact g64
  · exact g65
  · exact g66
  · exact g67
  · exact g68
  · exact g69
  · exact g70
  · exact g71
  · exact g72
  · exact g73
  · exact g74
  · exact g75
  · exact g76
  · exact g77
  · exact g78
  · exact g79
  · exact g80
  · exact g81
  · exact g82
  · exact g83
theorem tts_sane : ∀ p ∈ tts, p.2.flds ≠ [(0, 99999)] := by decide
instance : TT Try.prog (lookT tts) := TT.of_list tts_good tts_sane
instance : Mixed Try.prog := ⟨by kernel_rfl⟩
abbrev n_entrepotlaw02_ShaNone : Nat := 3
theorem F_entrepotlaw02_ShaNone : Try.prog.funcs[n_entrepotlaw02_ShaNone]? = some Try.f3 := Try.func3
abbrev n_entrepotlaw02_ShaSums : Nat := 4
theorem F_entrepotlaw02_ShaSums : Try.prog.funcs[n_entrepotlaw02_ShaSums]? = some Try.f4 := Try.func4
abbrev n_entrepotlaw02_ShaKnown : Nat := 5
theorem F_entrepotlaw02_ShaKnown : Try.prog.funcs[n_entrepotlaw02_ShaKnown]? = some Try.f5 := Try.func5
abbrev n_entrepotlaw02_ShaCuts : Nat := 6
theorem F_entrepotlaw02_ShaCuts : Try.prog.funcs[n_entrepotlaw02_ShaCuts]? = some Try.f6 := Try.func6
abbrev n_entrepotlaw02_ShaTells : Nat := 7
theorem F_entrepotlaw02_ShaTells : Try.prog.funcs[n_entrepotlaw02_ShaTells]? = some Try.f7 := Try.func7
abbrev n_entrepotlaw02_ShaTexts : Nat := 8
theorem F_entrepotlaw02_ShaTexts : Try.prog.funcs[n_entrepotlaw02_ShaTexts]? = some Try.f8 := Try.func8
abbrev n_entrepotlaw02_ShaPieces : Nat := 9
theorem F_entrepotlaw02_ShaPieces : Try.prog.funcs[n_entrepotlaw02_ShaPieces]? = some Try.f9 := Try.func9
abbrev n_p_sha_Hash_Sum : Nat := 10
theorem F_p_sha_Hash_Sum : Try.prog.funcs[n_p_sha_Hash_Sum]? = some Try.f10 := Try.func10
abbrev n_p_sha_Hash_Write : Nat := 11
theorem F_p_sha_Hash_Write : Try.prog.funcs[n_p_sha_Hash_Write]? = some Try.f11 := Try.func11
abbrev n_p_sha_Hash_Len : Nat := 12
theorem F_p_sha_Hash_Len : Try.prog.funcs[n_p_sha_Hash_Len]? = some Try.f12 := Try.func12
abbrev n_entrepotlaw02_awake : Nat := 13
theorem F_entrepotlaw02_awake : Try.prog.funcs[n_entrepotlaw02_awake]? = some Try.f13 := Try.func13
abbrev n_entrepotkit_LentBytes : Nat := 14
theorem F_entrepotkit_LentBytes : Try.prog.funcs[n_entrepotkit_LentBytes]? = some Try.f14 := Try.func14
abbrev n_sha_Sum : Nat := 15
theorem F_sha_Sum : Try.prog.funcs[n_sha_Sum]? = some Try.f15 := Try.func15
abbrev n_sha_Of : Nat := 16
theorem F_sha_Of : Try.prog.funcs[n_sha_Of]? = some Try.f16 := Try.func16
abbrev n_entrepotref02_Of : Nat := 17
theorem F_entrepotref02_Of : Try.prog.funcs[n_entrepotref02_Of]? = some Try.f17 := Try.func17
abbrev n_entrepotref02_Sum : Nat := 18
theorem F_entrepotref02_Sum : Try.prog.funcs[n_entrepotref02_Sum]? = some Try.f18 := Try.func18
abbrev n_entrepotkit_KeptBytes : Nat := 19
theorem F_entrepotkit_KeptBytes : Try.prog.funcs[n_entrepotkit_KeptBytes]? = some Try.f19 := Try.func19
abbrev n_sha_Cut : Nat := 20
theorem F_sha_Cut : Try.prog.funcs[n_sha_Cut]? = some Try.f20 := Try.func20
abbrev n_sha_Read : Nat := 21
theorem F_sha_Read : Try.prog.funcs[n_sha_Read]? = some Try.f21 := Try.func21
abbrev n_sha_Text : Nat := 22
theorem F_sha_Text : Try.prog.funcs[n_sha_Text]? = some Try.f22 := Try.func22
abbrev n_sha_Has : Nat := 23
theorem F_sha_Has : Try.prog.funcs[n_sha_Has]? = some Try.f23 := Try.func23
abbrev n_entrepotkit_Pick : Nat := 24
theorem F_entrepotkit_Pick : Try.prog.funcs[n_entrepotkit_Pick]? = some Try.f24 := Try.func24
abbrev n_entrepotref02_Cut : Nat := 25
theorem F_entrepotref02_Cut : Try.prog.funcs[n_entrepotref02_Cut]? = some Try.f25 := Try.func25
abbrev n_entrepotref02_Read : Nat := 26
theorem F_entrepotref02_Read : Try.prog.funcs[n_entrepotref02_Read]? = some Try.f26 := Try.func26
abbrev n_entrepotref02_Has : Nat := 27
theorem F_entrepotref02_Has : Try.prog.funcs[n_entrepotref02_Has]? = some Try.f27 := Try.func27
abbrev n_entrepotref02_Text : Nat := 28
theorem F_entrepotref02_Text : Try.prog.funcs[n_entrepotref02_Text]? = some Try.f28 := Try.func28
abbrev n_sha_Compare : Nat := 29
theorem F_sha_Compare : Try.prog.funcs[n_sha_Compare]? = some Try.f29 := Try.func29
abbrev n_entrepotref02_Compare : Nat := 30
theorem F_entrepotref02_Compare : Try.prog.funcs[n_entrepotref02_Compare]? = some Try.f30 := Try.func30
abbrev n_sha_New : Nat := 31
theorem F_sha_New : Try.prog.funcs[n_sha_New]? = some Try.f31 := Try.func31
abbrev n_entrepotkit_CopyBytes : Nat := 32
theorem F_entrepotkit_CopyBytes : Try.prog.funcs[n_entrepotkit_CopyBytes]? = some Try.f32 := Try.func32
abbrev n_entrepotkit_OverBytes : Nat := 33
theorem F_entrepotkit_OverBytes : Try.prog.funcs[n_entrepotkit_OverBytes]? = some Try.f33 := Try.func33
abbrev n_p_sha_Hash_none : Nat := 34
theorem F_p_sha_Hash_none : Try.prog.funcs[n_p_sha_Hash_none]? = some Try.f34 := Try.func34
abbrev n_bytes_Clone : Nat := 35
theorem F_bytes_Clone : Try.prog.funcs[n_bytes_Clone]? = some Try.f35 := Try.func35
abbrev n_p_sha_words_block : Nat := 36
theorem F_p_sha_words_block : Try.prog.funcs[n_p_sha_words_block]? = some Try.f36 := Try.func36
abbrev n_entrepotref02_block : Nat := 37
theorem F_entrepotref02_block : Try.prog.funcs[n_entrepotref02_block]? = some Try.f37 := Try.func37
abbrev n_sha_digit : Nat := 38
theorem F_sha_digit : Try.prog.funcs[n_sha_digit]? = some Try.f38 := Try.func38
abbrev n_entrepotref02_digit : Nat := 39
theorem F_entrepotref02_digit : Try.prog.funcs[n_entrepotref02_digit]? = some Try.f39 := Try.func39
abbrev n_bytes_Compare : Nat := 40
theorem F_bytes_Compare : Try.prog.funcs[n_bytes_Compare]? = some Try.f40 := Try.func40
abbrev n_sha_begin : Nat := 41
theorem F_sha_begin : Try.prog.funcs[n_sha_begin]? = some Try.f41 := Try.func41
abbrev n_sha_keys : Nat := 42
theorem F_sha_keys : Try.prog.funcs[n_sha_keys]? = some Try.f42 := Try.func42
abbrev n_sha_spread : Nat := 43
theorem F_sha_spread : Try.prog.funcs[n_sha_spread]? = some Try.f43 := Try.func43
abbrev n_sha_turned : Nat := 44
theorem F_sha_turned : Try.prog.funcs[n_sha_turned]? = some Try.f44 := Try.func44
abbrev n_entrepotref02_turn : Nat := 45
theorem F_entrepotref02_turn : Try.prog.funcs[n_entrepotref02_turn]? = some Try.f45 := Try.func45
abbrev n_entrepotref02_keys : Nat := 46
theorem F_entrepotref02_keys : Try.prog.funcs[n_entrepotref02_keys]? = some Try.f46 := Try.func46
abbrev n_bytes_IndexByte : Nat := 47
theorem F_bytes_IndexByte : Try.prog.funcs[n_bytes_IndexByte]? = some Try.f47 := Try.func47
abbrev n_internal_bytealg_Compare : Nat := 48
theorem F_internal_bytealg_Compare : Try.prog.funcs[n_internal_bytealg_Compare]? = some Try.f48 := Try.func48
abbrev n_math_bits_RotateLeft32 : Nat := 49
theorem F_math_bits_RotateLeft32 : Try.prog.funcs[n_math_bits_RotateLeft32]? = some Try.f49 := Try.func49
abbrev n_internal_bytealg_IndexByte : Nat := 50
theorem F_internal_bytealg_IndexByte : Try.prog.funcs[n_internal_bytealg_IndexByte]? = some Try.f50 := Try.func50
abbrev n_p_internal_abi_Type_Align : Nat := 63
theorem F_p_internal_abi_Type_Align : Try.prog.funcs[n_p_internal_abi_Type_Align]? = some Try.f63 := Try.func63
abbrev n_internal_runtime_maps_unhashableTypeError_Error : Nat := 64
theorem F_internal_runtime_maps_unhashableTypeError_Error : Try.prog.funcs[n_internal_runtime_maps_unhashableTypeError_Error]? = some Try.f64 := Try.func64
abbrev n_internal_runtime_maps_unhashableTypeError_RuntimeError : Nat := 65
theorem F_internal_runtime_maps_unhashableTypeError_RuntimeError : Try.prog.funcs[n_internal_runtime_maps_unhashableTypeError_RuntimeError]? = some Try.f65 := Try.func65
abbrev n_api_Errno_Error : Nat := 66
theorem F_api_Errno_Error : Try.prog.funcs[n_api_Errno_Error]? = some Try.f66 := Try.func66
abbrev n_internal_abi_Kind_String : Nat := 67
theorem F_internal_abi_Kind_String : Try.prog.funcs[n_internal_abi_Kind_String]? = some Try.f67 := Try.func67
abbrev t_func : Nat := 1
abbrev t_int64 : Nat := 2
abbrev t_int : Nat := 3
abbrev t_bool : Nat := 4
abbrev t_uint8 : Nat := 5
abbrev t_abi_BoundsErrorCode : Nat := 6
abbrev t_runtime_boundsError : Nat := 8
abbrev t_string : Nat := 9
abbrev t_runtime_errorString : Nat := 10
abbrev t_runtime_plainError : Nat := 11
abbrev t_uintptr : Nat := 12
abbrev t_runtime_errorAddressString : Nat := 14
abbrev t_p_runtime_TypeAssertionError : Nat := 15
abbrev t_p_runtime_PanicNilError : Nat := 16
abbrev t_p_abi_Type : Nat := 17
abbrev t_maps_unhashableTypeError : Nat := 19
abbrev t_int32 : Nat := 21
abbrev t_sl_uint8 : Nat := 22
abbrev t_p_sha_Hash : Nat := 23
abbrev t_uint32 : Nat := 24
abbrev t_8_uint32 : Nat := 25
abbrev t_sha_words : Nat := 26
abbrev t_sha_Hash : Nat := 28
abbrev t_sl_p_sha_Hash : Nat := 29
abbrev t_32_uint8 : Nat := 30
abbrev t_api_ID : Nat := 31
abbrev t_api_Errno : Nat := 32
abbrev t_func_api_ID_api_Errno : Nat := 34
abbrev t_func_sl_uint8_api_Errno : Nat := 35
abbrev t_func_int : Nat := 36
abbrev t_func_bool : Nat := 37
abbrev t_func_sl_uint8_bool : Nat := 38
abbrev t_func_sl_uint8_sl_uint8 : Nat := 39
abbrev t_func_sl_uint8_api_ID : Nat := 40
abbrev t_func_sl_uint8_int_api_ID_api_Errno : Nat := 41
abbrev t_func_sl_uint8_sl_uint8_bool : Nat := 42
abbrev t_func_sl_uint8_int_bool : Nat := 43
abbrev t_func_api_ID_int_api_ID_api_Errno : Nat := 44
abbrev t_func_string_api_ID_api_Errno : Nat := 45
abbrev t_func_api_ID_string : Nat := 46
abbrev t_func_api_ID_int_bool : Nat := 47
abbrev t_func_int_int_int : Nat := 48
abbrev t_func_api_ID_int_int_sl_uint8_bool : Nat := 49
abbrev t_func_api_ID_api_ID_int : Nat := 50
abbrev t_func_api_ID_api_ID_int_string_bool : Nat := 51
abbrev t_func_api_ID_api_ID_string_bool : Nat := 52
abbrev t_sl_int : Nat := 53
abbrev t_func_p_sha_Hash : Nat := 54
abbrev t_func_sl_uint8 : Nat := 55
abbrev t_func_sl_uint8_sl_int_bool : Nat := 56
abbrev t_uint64 : Nat := 57
abbrev t_func_8_uint32_sl_uint8_8_uint32 : Nat := 58
abbrev t_func_uint8_int : Nat := 59
abbrev t_uint : Nat := 60
abbrev t_func_uint8_uint8 : Nat := 61
abbrev t_func_sl_uint8_sl_uint8_int : Nat := 62
abbrev t_func_sha_words : Nat := 63
abbrev t_p_sha_words : Nat := 64
abbrev t_64_uint32 : Nat := 65
abbrev t_func_64_uint32 : Nat := 66
abbrev t_func_sl_uint8_64_uint32 : Nat := 67
abbrev t_func_uint32_int_uint32 : Nat := 68
abbrev t_func_sl_uint8_uint8_int : Nat := 69
abbrev t_func_string : Nat := 70
abbrev t_runtime_TypeAssertionError : Nat := 72
abbrev t_0_p_runtime_PanicNilError : Nat := 73
abbrev t_runtime_PanicNilError : Nat := 75
abbrev t_abi_TFlag : Nat := 76
abbrev t_abi_Kind : Nat := 77
abbrev t_func_unsafe_Pointer_unsafe_Pointer_bool : Nat := 78
abbrev t_p_uint8 : Nat := 79
abbrev t_abi_NameOff : Nat := 80
abbrev t_abi_TypeOff : Nat := 81
abbrev t_abi_Type : Nat := 83
abbrev t_unsafe_Pointer : Nat := 84
instance : Bodied Try.prog 3 := bodied_of Try.func3 (by kernel_rfl) rfl -- entrepot/entrepotlaw02.ShaNone
instance : Bodied Try.prog 4 := bodied_of Try.func4 (by kernel_rfl) rfl -- entrepot/entrepotlaw02.ShaSums
instance : Bodied Try.prog 5 := bodied_of Try.func5 (by kernel_rfl) rfl -- entrepot/entrepotlaw02.ShaKnown
instance : Bodied Try.prog 6 := bodied_of Try.func6 (by kernel_rfl) rfl -- entrepot/entrepotlaw02.ShaCuts
instance : Bodied Try.prog 7 := bodied_of Try.func7 (by kernel_rfl) rfl -- entrepot/entrepotlaw02.ShaTells
instance : Bodied Try.prog 8 := bodied_of Try.func8 (by kernel_rfl) rfl -- entrepot/entrepotlaw02.ShaTexts
instance : Bodied Try.prog 9 := bodied_of Try.func9 (by kernel_rfl) rfl -- entrepot/entrepotlaw02.ShaPieces
instance : Bodied Try.prog 10 := bodied_of Try.func10 (by kernel_rfl) rfl -- (*entrepot/sha.Hash).Sum
instance : Bodied Try.prog 11 := bodied_of Try.func11 (by kernel_rfl) rfl -- (*entrepot/sha.Hash).Write
instance : Bodied Try.prog 12 := bodied_of Try.func12 (by kernel_rfl) rfl -- (*entrepot/sha.Hash).Len
instance : Bodied Try.prog 13 := bodied_of Try.func13 (by kernel_rfl) rfl -- entrepot/entrepotlaw02.awake
instance : Bodied Try.prog 14 := bodied_of Try.func14 (by kernel_rfl) rfl -- entrepot/entrepotkit.LentBytes
instance : Bodied Try.prog 15 := bodied_of Try.func15 (by kernel_rfl) rfl -- entrepot/sha.Sum
instance : Bodied Try.prog 16 := bodied_of Try.func16 (by kernel_rfl) rfl -- entrepot/sha.Of
instance : Bodied Try.prog 17 := bodied_of Try.func17 (by kernel_rfl) rfl -- entrepot/entrepotref02.Of
instance : Bodied Try.prog 18 := bodied_of Try.func18 (by kernel_rfl) rfl -- entrepot/entrepotref02.Sum
instance : Bodied Try.prog 19 := bodied_of Try.func19 (by kernel_rfl) rfl -- entrepot/entrepotkit.KeptBytes
instance : Bodied Try.prog 20 := bodied_of Try.func20 (by kernel_rfl) rfl -- entrepot/sha.Cut
instance : Bodied Try.prog 21 := bodied_of Try.func21 (by kernel_rfl) rfl -- entrepot/sha.Read
instance : Bodied Try.prog 22 := bodied_of Try.func22 (by kernel_rfl) rfl -- entrepot/sha.Text
instance : Bodied Try.prog 23 := bodied_of Try.func23 (by kernel_rfl) rfl -- entrepot/sha.Has
instance : Bodied Try.prog 24 := bodied_of Try.func24 (by kernel_rfl) rfl -- entrepot/entrepotkit.Pick
instance : Bodied Try.prog 25 := bodied_of Try.func25 (by kernel_rfl) rfl -- entrepot/entrepotref02.Cut
instance : Bodied Try.prog 26 := bodied_of Try.func26 (by kernel_rfl) rfl -- entrepot/entrepotref02.Read
instance : Bodied Try.prog 27 := bodied_of Try.func27 (by kernel_rfl) rfl -- entrepot/entrepotref02.Has
instance : Bodied Try.prog 28 := bodied_of Try.func28 (by kernel_rfl) rfl -- entrepot/entrepotref02.Text
instance : Bodied Try.prog 29 := bodied_of Try.func29 (by kernel_rfl) rfl -- entrepot/sha.Compare
instance : Bodied Try.prog 30 := bodied_of Try.func30 (by kernel_rfl) rfl -- entrepot/entrepotref02.Compare
instance : Bodied Try.prog 31 := bodied_of Try.func31 (by kernel_rfl) rfl -- entrepot/sha.New
instance : Bodied Try.prog 32 := bodied_of Try.func32 (by kernel_rfl) rfl -- entrepot/entrepotkit.CopyBytes
instance : Bodied Try.prog 33 := bodied_of Try.func33 (by kernel_rfl) rfl -- entrepot/entrepotkit.OverBytes
instance : Bodied Try.prog 34 := bodied_of Try.func34 (by kernel_rfl) rfl -- (*entrepot/sha.Hash).none
instance : Bodied Try.prog 35 := bodied_of Try.func35 (by kernel_rfl) rfl -- bytes.Clone
instance : Bodied Try.prog 36 := bodied_of Try.func36 (by kernel_rfl) rfl -- (*entrepot/sha.words).block
instance : Bodied Try.prog 37 := bodied_of Try.func37 (by kernel_rfl) rfl -- entrepot/entrepotref02.block
instance : Bodied Try.prog 38 := bodied_of Try.func38 (by kernel_rfl) rfl -- entrepot/sha.digit
instance : Bodied Try.prog 39 := bodied_of Try.func39 (by kernel_rfl) rfl -- entrepot/entrepotref02.digit
instance : Bodied Try.prog 40 := bodied_of Try.func40 (by kernel_rfl) rfl -- bytes.Compare
instance : Bodied Try.prog 41 := bodied_of Try.func41 (by kernel_rfl) rfl -- entrepot/sha.begin
instance : Bodied Try.prog 42 := bodied_of Try.func42 (by kernel_rfl) rfl -- entrepot/sha.keys
instance : Bodied Try.prog 43 := bodied_of Try.func43 (by kernel_rfl) rfl -- entrepot/sha.spread
instance : Bodied Try.prog 44 := bodied_of Try.func44 (by kernel_rfl) rfl -- entrepot/sha.turned
instance : Bodied Try.prog 45 := bodied_of Try.func45 (by kernel_rfl) rfl -- entrepot/entrepotref02.turn
instance : Bodied Try.prog 46 := bodied_of Try.func46 (by kernel_rfl) rfl -- entrepot/entrepotref02.keys
instance : Bodied Try.prog 47 := bodied_of Try.func47 (by kernel_rfl) rfl -- bytes.IndexByte
instance : Bodied Try.prog 49 := bodied_of Try.func49 (by kernel_rfl) rfl -- math/bits.RotateLeft32
end Go.Proofs.Ytgebobjihojljaa
