/- The types and the functions of this seat's program, as the engine asks for them: laid by a program (seatgen.py) out of the translation. Conditions: none. -/
import Derived.Test.YtgkhflcpbjlmiaaChecked
import Derived.Test.YtgkhflcpbjlmiaaK2
import Derived.KernelRfl
import Derived.Test.YtgkhflcpbjlmiaaK3
namespace Go.Proofs.Ytgkhflcpbjlmiaa
open Go.Eng
def ti1 : TI := ⟨.func #[] #[] false, 1, 8, .nilFunc, []⟩
theorem g1 : good Try.prog (1, ti1) := good_d rfl (by kernel_rfl) (by kernel_rfl)
def ti2 : TI := ⟨.int .i64, 1, 8, .int .i64 0, []⟩
theorem g2 : good Try.prog (2, ti2) := good_d rfl (by kernel_rfl) (by kernel_rfl)
def ti3 : TI := ⟨.int .i64, 1, 8, .int .i64 0, []⟩
theorem g3 : good Try.prog (3, ti3) := good_d rfl (by kernel_rfl) (by kernel_rfl)
def ti4 : TI := ⟨.bool, 1, 1, .bool false, []⟩
theorem g4 : good Try.prog (4, ti4) := good_d rfl (by kernel_rfl) (by kernel_rfl)
def ti5 : TI := ⟨.int .u8, 1, 1, .int .u8 0, []⟩
theorem g5 : good Try.prog (5, ti5) := good_d rfl (by kernel_rfl) (by kernel_rfl)
def ti6 : TI := ⟨.int .u8, 1, 1, .int .u8 0, []⟩
theorem g6 : good Try.prog (6, ti6) := good_d rfl (by kernel_rfl) (by kernel_rfl)
def ti7 : TI := ⟨.struct #[], 4, 24, .agg ⟨[.int .i64 0, .int .i64 0, .bool false, .int .u8 0]⟩, [(2, 0), (3, 1), (4, 2), (6, 3)]⟩
theorem g7 : good Try.prog (7, ti7) := good_s rfl (by kernel_rfl) (by kernel_rfl)
def ti8 : TI := ⟨.struct #[], 4, 24, .agg ⟨[.int .i64 0, .int .i64 0, .bool false, .int .u8 0]⟩, [(2, 0), (3, 1), (4, 2), (6, 3)]⟩
theorem g8 : good Try.prog (8, ti8) := good_s rfl (by kernel_rfl) (by kernel_rfl)
def ti9 : TI := ⟨.string, 1, 16, .string ⟨⟨[]⟩⟩, []⟩
theorem g9 : good Try.prog (9, ti9) := good_d rfl (by kernel_rfl) (by kernel_rfl)
def ti10 : TI := ⟨.string, 1, 16, .string ⟨⟨[]⟩⟩, []⟩
theorem g10 : good Try.prog (10, ti10) := good_d rfl (by kernel_rfl) (by kernel_rfl)
def ti11 : TI := ⟨.string, 1, 16, .string ⟨⟨[]⟩⟩, []⟩
theorem g11 : good Try.prog (11, ti11) := good_d rfl (by kernel_rfl) (by kernel_rfl)
def ti12 : TI := ⟨.int .u64, 1, 8, .int .u64 0, []⟩
theorem g12 : good Try.prog (12, ti12) := good_d rfl (by kernel_rfl) (by kernel_rfl)
def ti13 : TI := ⟨.struct #[], 2, 24, .agg ⟨[.string ⟨⟨[]⟩⟩, .int .u64 0]⟩, [(9, 0), (12, 1)]⟩
theorem g13 : good Try.prog (13, ti13) := good_s rfl (by kernel_rfl) (by kernel_rfl)
def ti14 : TI := ⟨.struct #[], 2, 24, .agg ⟨[.string ⟨⟨[]⟩⟩, .int .u64 0]⟩, [(9, 0), (12, 1)]⟩
theorem g14 : good Try.prog (14, ti14) := good_s rfl (by kernel_rfl) (by kernel_rfl)
def ti15 : TI := ⟨.pointer 144, 1, 8, .pointer none, []⟩
theorem g15 : good Try.prog (15, ti15) := good_d rfl (by kernel_rfl) (by kernel_rfl)
def ti16 : TI := ⟨.pointer 147, 1, 8, .pointer none, []⟩
theorem g16 : good Try.prog (16, ti16) := good_d rfl (by kernel_rfl) (by kernel_rfl)
def ti17 : TI := ⟨.pointer 156, 1, 8, .pointer none, []⟩
theorem g17 : good Try.prog (17, ti17) := good_d rfl (by kernel_rfl) (by kernel_rfl)
def ti18 : TI := ⟨.struct #[], 1, 8, .agg ⟨[.pointer none]⟩, [(17, 0)]⟩
theorem g18 : good Try.prog (18, ti18) := good_s rfl (by kernel_rfl) (by kernel_rfl)
def ti19 : TI := ⟨.struct #[], 1, 8, .agg ⟨[.pointer none]⟩, [(17, 0)]⟩
theorem g19 : good Try.prog (19, ti19) := good_s rfl (by kernel_rfl) (by kernel_rfl)
def ti21 : TI := ⟨.int .i32, 1, 4, .int .i32 0, []⟩
theorem g21 : good Try.prog (21, ti21) := good_d rfl (by kernel_rfl) (by kernel_rfl)
def ti22 : TI := ⟨.slice 42, 1, 24, .slice none 0 0, []⟩
theorem g22 : good Try.prog (22, ti22) := good_d rfl (by kernel_rfl) (by kernel_rfl)
def ti23 : TI := ⟨.func #[22] #[4] false, 1, 8, .nilFunc, []⟩
theorem g23 : good Try.prog (23, ti23) := good_d rfl (by kernel_rfl) (by kernel_rfl)
def ti24 : TI := ⟨.func #[] #[4] false, 1, 8, .nilFunc, []⟩
theorem g24 : good Try.prog (24, ti24) := good_d rfl (by kernel_rfl) (by kernel_rfl)
def ti25 : TI := ⟨.pointer 50, 1, 8, .pointer none, []⟩
theorem g25 : good Try.prog (25, ti25) := good_d rfl (by kernel_rfl) (by kernel_rfl)
def ti26 : TI := ⟨.int .i64, 1, 8, .int .i64 0, []⟩
theorem g26 : good Try.prog (26, ti26) := good_d rfl (by kernel_rfl) (by kernel_rfl)
def ti28 : TI := ⟨.func #[3] #[25, 26] false, 1, 8, .nilFunc, []⟩
theorem g28 : good Try.prog (28, ti28) := good_d rfl (by kernel_rfl) (by kernel_rfl)
def ti29 : TI := ⟨.pointer 92, 1, 8, .pointer none, []⟩
theorem g29 : good Try.prog (29, ti29) := good_d rfl (by kernel_rfl) (by kernel_rfl)
def ti31 : TI := ⟨.func #[3] #[29, 26] false, 1, 8, .nilFunc, []⟩
theorem g31 : good Try.prog (31, ti31) := good_d rfl (by kernel_rfl) (by kernel_rfl)
def ti32 : TI := ⟨.func #[25, 29, 42] #[4] false, 1, 8, .nilFunc, []⟩
theorem g32 : good Try.prog (32, ti32) := good_d rfl (by kernel_rfl) (by kernel_rfl)
def ti33 : TI := ⟨.struct #[], 2, 16, .agg ⟨[.int .i64 0, .int .i64 0]⟩, [(3, 0), (3, 1)]⟩
theorem g33 : good Try.prog (33, ti33) := good_s rfl (by kernel_rfl) (by kernel_rfl)
def ti34 : TI := ⟨.struct #[], 2, 16, .agg ⟨[.int .i64 0, .int .i64 0]⟩, [(3, 0), (3, 1)]⟩
theorem g34 : good Try.prog (34, ti34) := good_s rfl (by kernel_rfl) (by kernel_rfl)
def ti35 : TI := ⟨.slice 3, 1, 24, .slice none 0 0, []⟩
theorem g35 : good Try.prog (35, ti35) := good_d rfl (by kernel_rfl) (by kernel_rfl)
def ti36 : TI := ⟨.array 32 5, 32, 32, .agg ⟨[.int .u8 0, .int .u8 0, .int .u8 0, .int .u8 0, .int .u8 0, .int .u8 0, .int .u8 0, .int .u8 0, .int .u8 0, .int .u8 0, .int .u8 0, .int .u8 0, .int .u8 0, .int .u8 0, .int .u8 0, .int .u8 0, .int .u8 0, .int .u8 0, .int .u8 0, .int .u8 0, .int .u8 0, .int .u8 0, .int .u8 0, .int .u8 0, .int .u8 0, .int .u8 0, .int .u8 0, .int .u8 0, .int .u8 0, .int .u8 0, .int .u8 0, .int .u8 0]⟩, []⟩
theorem g36 : good Try.prog (36, ti36) := good_d rfl (by kernel_rfl) (by kernel_rfl)
def ti37 : TI := ⟨.array 32 5, 32, 32, .agg ⟨[.int .u8 0, .int .u8 0, .int .u8 0, .int .u8 0, .int .u8 0, .int .u8 0, .int .u8 0, .int .u8 0, .int .u8 0, .int .u8 0, .int .u8 0, .int .u8 0, .int .u8 0, .int .u8 0, .int .u8 0, .int .u8 0, .int .u8 0, .int .u8 0, .int .u8 0, .int .u8 0, .int .u8 0, .int .u8 0, .int .u8 0, .int .u8 0, .int .u8 0, .int .u8 0, .int .u8 0, .int .u8 0, .int .u8 0, .int .u8 0, .int .u8 0, .int .u8 0]⟩, []⟩
theorem g37 : good Try.prog (37, ti37) := good_d rfl (by kernel_rfl) (by kernel_rfl)
def ti38 : TI := ⟨.slice 37, 1, 24, .slice none 0 0, []⟩
theorem g38 : good Try.prog (38, ti38) := good_d rfl (by kernel_rfl) (by kernel_rfl)
def ti39 : TI := ⟨.struct #[], 39, 136, .agg ⟨[.int .i64 0, .int .i64 0, .slice none 0 0, .int .i64 0, .string ⟨⟨[]⟩⟩, .string ⟨⟨[]⟩⟩, .int .u8 0, .int .u8 0, .int .u8 0, .int .u8 0, .int .u8 0, .int .u8 0, .int .u8 0, .int .u8 0, .int .u8 0, .int .u8 0, .int .u8 0, .int .u8 0, .int .u8 0, .int .u8 0, .int .u8 0, .int .u8 0, .int .u8 0, .int .u8 0, .int .u8 0, .int .u8 0, .int .u8 0, .int .u8 0, .int .u8 0, .int .u8 0, .int .u8 0, .int .u8 0, .int .u8 0, .int .u8 0, .int .u8 0, .int .u8 0, .int .u8 0, .int .u8 0, .slice none 0 0]⟩, [(34, 0), (35, 2), (3, 3), (9, 4), (9, 5), (37, 6), (38, 38)]⟩
theorem g39 : good Try.prog (39, ti39) := good_s rfl (by kernel_rfl) (by kernel_rfl)
def ti40 : TI := ⟨.struct #[], 39, 136, .agg ⟨[.int .i64 0, .int .i64 0, .slice none 0 0, .int .i64 0, .string ⟨⟨[]⟩⟩, .string ⟨⟨[]⟩⟩, .int .u8 0, .int .u8 0, .int .u8 0, .int .u8 0, .int .u8 0, .int .u8 0, .int .u8 0, .int .u8 0, .int .u8 0, .int .u8 0, .int .u8 0, .int .u8 0, .int .u8 0, .int .u8 0, .int .u8 0, .int .u8 0, .int .u8 0, .int .u8 0, .int .u8 0, .int .u8 0, .int .u8 0, .int .u8 0, .int .u8 0, .int .u8 0, .int .u8 0, .int .u8 0, .int .u8 0, .int .u8 0, .int .u8 0, .int .u8 0, .int .u8 0, .int .u8 0, .slice none 0 0]⟩, [(34, 0), (35, 2), (3, 3), (9, 4), (9, 5), (37, 6), (38, 38)]⟩
theorem g40 : good Try.prog (40, ti40) := good_s rfl (by kernel_rfl) (by kernel_rfl)
def ti41 : TI := ⟨.struct #[], 41, 152, .agg ⟨[.int .i64 0, .int .i64 0, .int .i64 0, .int .i64 0, .slice none 0 0, .int .i64 0, .string ⟨⟨[]⟩⟩, .string ⟨⟨[]⟩⟩, .int .u8 0, .int .u8 0, .int .u8 0, .int .u8 0, .int .u8 0, .int .u8 0, .int .u8 0, .int .u8 0, .int .u8 0, .int .u8 0, .int .u8 0, .int .u8 0, .int .u8 0, .int .u8 0, .int .u8 0, .int .u8 0, .int .u8 0, .int .u8 0, .int .u8 0, .int .u8 0, .int .u8 0, .int .u8 0, .int .u8 0, .int .u8 0, .int .u8 0, .int .u8 0, .int .u8 0, .int .u8 0, .int .u8 0, .int .u8 0, .int .u8 0, .int .u8 0, .slice none 0 0]⟩, [(3, 0), (3, 1), (40, 2)]⟩
theorem g41 : good Try.prog (41, ti41) := good_s rfl (by kernel_rfl) (by kernel_rfl)
def ti42 : TI := ⟨.struct #[], 41, 152, .agg ⟨[.int .i64 0, .int .i64 0, .int .i64 0, .int .i64 0, .slice none 0 0, .int .i64 0, .string ⟨⟨[]⟩⟩, .string ⟨⟨[]⟩⟩, .int .u8 0, .int .u8 0, .int .u8 0, .int .u8 0, .int .u8 0, .int .u8 0, .int .u8 0, .int .u8 0, .int .u8 0, .int .u8 0, .int .u8 0, .int .u8 0, .int .u8 0, .int .u8 0, .int .u8 0, .int .u8 0, .int .u8 0, .int .u8 0, .int .u8 0, .int .u8 0, .int .u8 0, .int .u8 0, .int .u8 0, .int .u8 0, .int .u8 0, .int .u8 0, .int .u8 0, .int .u8 0, .int .u8 0, .int .u8 0, .int .u8 0, .int .u8 0, .slice none 0 0]⟩, [(3, 0), (3, 1), (40, 2)]⟩
theorem g42 : good Try.prog (42, ti42) := good_s rfl (by kernel_rfl) (by kernel_rfl)
def ti43 : TI := ⟨.func #[25, 29, 34] #[4] false, 1, 8, .nilFunc, []⟩
theorem g43 : good Try.prog (43, ti43) := good_d rfl (by kernel_rfl) (by kernel_rfl)
def ti44 : TI := ⟨.func #[3, 22] #[4] false, 1, 8, .nilFunc, []⟩
theorem g44 : good Try.prog (44, ti44) := good_d rfl (by kernel_rfl) (by kernel_rfl)
def ti45 : TI := ⟨.func #[40] #[4] false, 1, 8, .nilFunc, []⟩
theorem g45 : good Try.prog (45, ti45) := good_d rfl (by kernel_rfl) (by kernel_rfl)
def ti46 : TI := ⟨.slice 98, 1, 24, .slice none 0 0, []⟩
theorem g46 : good Try.prog (46, ti46) := good_d rfl (by kernel_rfl) (by kernel_rfl)
def ti47 : TI := ⟨.slice 98, 1, 24, .slice none 0 0, []⟩
theorem g47 : good Try.prog (47, ti47) := good_d rfl (by kernel_rfl) (by kernel_rfl)
def ti48 : TI := ⟨.map 34 98, 1, 8, .map none, []⟩
theorem g48 : good Try.prog (48, ti48) := good_d rfl (by kernel_rfl) (by kernel_rfl)
def ti49 : TI := ⟨.struct #[], 3, 56, .agg ⟨[.slice none 0 0, .slice none 0 0, .map none]⟩, [(35, 0), (47, 1), (48, 2)]⟩
theorem g49 : good Try.prog (49, ti49) := good_s rfl (by kernel_rfl) (by kernel_rfl)
def ti50 : TI := ⟨.struct #[], 3, 56, .agg ⟨[.slice none 0 0, .slice none 0 0, .map none]⟩, [(35, 0), (47, 1), (48, 2)]⟩
theorem g50 : good Try.prog (50, ti50) := good_s rfl (by kernel_rfl) (by kernel_rfl)
def ti51 : TI := ⟨.slice 25, 1, 24, .slice none 0 0, []⟩
theorem g51 : good Try.prog (51, ti51) := good_d rfl (by kernel_rfl) (by kernel_rfl)
def ti53 : TI := ⟨.func #[40, 3] #[4, 26] false, 1, 8, .nilFunc, []⟩
theorem g53 : good Try.prog (53, ti53) := good_d rfl (by kernel_rfl) (by kernel_rfl)
def ti55 : TI := ⟨.func #[34] #[40, 26] false, 1, 8, .nilFunc, []⟩
theorem g55 : good Try.prog (55, ti55) := good_d rfl (by kernel_rfl) (by kernel_rfl)
def ti57 : TI := ⟨.func #[3] #[34, 26] false, 1, 8, .nilFunc, []⟩
theorem g57 : good Try.prog (57, ti57) := good_d rfl (by kernel_rfl) (by kernel_rfl)
def ti58 : TI := ⟨.struct #[], 40, 144, .agg ⟨[.int .i64 0, .int .i64 0, .slice none 0 0, .int .i64 0, .string ⟨⟨[]⟩⟩, .string ⟨⟨[]⟩⟩, .int .u8 0, .int .u8 0, .int .u8 0, .int .u8 0, .int .u8 0, .int .u8 0, .int .u8 0, .int .u8 0, .int .u8 0, .int .u8 0, .int .u8 0, .int .u8 0, .int .u8 0, .int .u8 0, .int .u8 0, .int .u8 0, .int .u8 0, .int .u8 0, .int .u8 0, .int .u8 0, .int .u8 0, .int .u8 0, .int .u8 0, .int .u8 0, .int .u8 0, .int .u8 0, .int .u8 0, .int .u8 0, .int .u8 0, .int .u8 0, .int .u8 0, .int .u8 0, .slice none 0 0, .int .i64 0]⟩, [(40, 0), (3, 39)]⟩
theorem g58 : good Try.prog (58, ti58) := good_s rfl (by kernel_rfl) (by kernel_rfl)
def ti59 : TI := ⟨.struct #[], 40, 144, .agg ⟨[.int .i64 0, .int .i64 0, .slice none 0 0, .int .i64 0, .string ⟨⟨[]⟩⟩, .string ⟨⟨[]⟩⟩, .int .u8 0, .int .u8 0, .int .u8 0, .int .u8 0, .int .u8 0, .int .u8 0, .int .u8 0, .int .u8 0, .int .u8 0, .int .u8 0, .int .u8 0, .int .u8 0, .int .u8 0, .int .u8 0, .int .u8 0, .int .u8 0, .int .u8 0, .int .u8 0, .int .u8 0, .int .u8 0, .int .u8 0, .int .u8 0, .int .u8 0, .int .u8 0, .int .u8 0, .int .u8 0, .int .u8 0, .int .u8 0, .int .u8 0, .int .u8 0, .int .u8 0, .int .u8 0, .slice none 0 0, .int .i64 0]⟩, [(40, 0), (3, 39)]⟩
theorem g59 : good Try.prog (59, ti59) := good_s rfl (by kernel_rfl) (by kernel_rfl)
def ti61 : TI := ⟨.func #[34] #[59, 4] false, 1, 8, .nilFunc, []⟩
theorem g61 : good Try.prog (61, ti61) := good_d rfl (by kernel_rfl) (by kernel_rfl)
def ti62 : TI := ⟨.func #[40, 40] #[4] false, 1, 8, .nilFunc, []⟩
theorem g62 : good Try.prog (62, ti62) := good_d rfl (by kernel_rfl) (by kernel_rfl)
def ti63 : TI := ⟨.func #[] #[35] false, 1, 8, .nilFunc, []⟩
theorem g63 : good Try.prog (63, ti63) := good_d rfl (by kernel_rfl) (by kernel_rfl)
def ti64 : TI := ⟨.slice 59, 1, 24, .slice none 0 0, []⟩
theorem g64 : good Try.prog (64, ti64) := good_d rfl (by kernel_rfl) (by kernel_rfl)
def ti65 : TI := ⟨.func #[] #[64] false, 1, 8, .nilFunc, []⟩
theorem g65 : good Try.prog (65, ti65) := good_d rfl (by kernel_rfl) (by kernel_rfl)
def ti66 : TI := ⟨.slice 34, 1, 24, .slice none 0 0, []⟩
theorem g66 : good Try.prog (66, ti66) := good_d rfl (by kernel_rfl) (by kernel_rfl)
def ti67 : TI := ⟨.func #[] #[66] false, 1, 8, .nilFunc, []⟩
theorem g67 : good Try.prog (67, ti67) := good_d rfl (by kernel_rfl) (by kernel_rfl)
def ti68 : TI := ⟨.func #[40, 3] #[4] false, 1, 8, .nilFunc, []⟩
theorem g68 : good Try.prog (68, ti68) := good_d rfl (by kernel_rfl) (by kernel_rfl)
def ti69 : TI := ⟨.func #[] #[25] false, 1, 8, .nilFunc, []⟩
theorem g69 : good Try.prog (69, ti69) := good_d rfl (by kernel_rfl) (by kernel_rfl)
def ti70 : TI := ⟨.func #[25, 40, 3, 4, 26] #[4] false, 1, 8, .nilFunc, []⟩
theorem g70 : good Try.prog (70, ti70) := good_d rfl (by kernel_rfl) (by kernel_rfl)
def ti71 : TI := ⟨.func #[3, 3, 35] #[40] true, 1, 8, .nilFunc, []⟩
theorem g71 : good Try.prog (71, ti71) := good_d rfl (by kernel_rfl) (by kernel_rfl)
def ti72 : TI := ⟨.func #[25, 3, 3, 26] #[4] false, 1, 8, .nilFunc, []⟩
theorem g72 : good Try.prog (72, ti72) := good_d rfl (by kernel_rfl) (by kernel_rfl)
def ti73 : TI := ⟨.func #[35, 35] #[4] false, 1, 8, .nilFunc, []⟩
theorem g73 : good Try.prog (73, ti73) := good_d rfl (by kernel_rfl) (by kernel_rfl)
def ti74 : TI := ⟨.func #[3, 3] #[3] false, 1, 8, .nilFunc, []⟩
theorem g74 : good Try.prog (74, ti74) := good_d rfl (by kernel_rfl) (by kernel_rfl)
def ti75 : TI := ⟨.slice 40, 1, 24, .slice none 0 0, []⟩
theorem g75 : good Try.prog (75, ti75) := good_d rfl (by kernel_rfl) (by kernel_rfl)
def ti76 : TI := ⟨.func #[3, 35] #[75] false, 1, 8, .nilFunc, []⟩
theorem g76 : good Try.prog (76, ti76) := good_d rfl (by kernel_rfl) (by kernel_rfl)
def ti78 : TI := ⟨.func #[25, 35, 75] #[75, 4] false, 1, 8, .nilFunc, []⟩
theorem g78 : good Try.prog (78, ti78) := good_d rfl (by kernel_rfl) (by kernel_rfl)
def ti79 : TI := ⟨.func #[35, 34] #[35] false, 1, 8, .nilFunc, []⟩
theorem g79 : good Try.prog (79, ti79) := good_d rfl (by kernel_rfl) (by kernel_rfl)
def ti80 : TI := ⟨.func #[3, 35, 35, 35] #[4] false, 1, 8, .nilFunc, []⟩
theorem g80 : good Try.prog (80, ti80) := good_d rfl (by kernel_rfl) (by kernel_rfl)
def ti81 : TI := ⟨.func #[64] #[4] false, 1, 8, .nilFunc, []⟩
theorem g81 : good Try.prog (81, ti81) := good_d rfl (by kernel_rfl) (by kernel_rfl)
def ti82 : TI := ⟨.func #[35] #[35] false, 1, 8, .nilFunc, []⟩
theorem g82 : good Try.prog (82, ti82) := good_d rfl (by kernel_rfl) (by kernel_rfl)
def ti83 : TI := ⟨.func #[64] #[64] false, 1, 8, .nilFunc, []⟩
theorem g83 : good Try.prog (83, ti83) := good_d rfl (by kernel_rfl) (by kernel_rfl)
def ti84 : TI := ⟨.func #[3, 35, 64] #[25, 26] false, 1, 8, .nilFunc, []⟩
theorem g84 : good Try.prog (84, ti84) := good_d rfl (by kernel_rfl) (by kernel_rfl)
def ti85 : TI := ⟨.func #[3, 35, 64] #[29, 26] false, 1, 8, .nilFunc, []⟩
theorem g85 : good Try.prog (85, ti85) := good_d rfl (by kernel_rfl) (by kernel_rfl)
def ti86 : TI := ⟨.func #[64, 64] #[4] false, 1, 8, .nilFunc, []⟩
theorem g86 : good Try.prog (86, ti86) := good_d rfl (by kernel_rfl) (by kernel_rfl)
def ti87 : TI := ⟨.func #[35] #[] false, 1, 8, .nilFunc, []⟩
theorem g87 : good Try.prog (87, ti87) := good_d rfl (by kernel_rfl) (by kernel_rfl)
def ti88 : TI := ⟨.func #[64] #[] false, 1, 8, .nilFunc, []⟩
theorem g88 : good Try.prog (88, ti88) := good_d rfl (by kernel_rfl) (by kernel_rfl)
def ti89 : TI := ⟨.func #[3, 35, 64, 22] #[4] false, 1, 8, .nilFunc, []⟩
theorem g89 : good Try.prog (89, ti89) := good_d rfl (by kernel_rfl) (by kernel_rfl)
def ti90 : TI := ⟨.func #[75, 3] #[4] false, 1, 8, .nilFunc, []⟩
theorem g90 : good Try.prog (90, ti90) := good_d rfl (by kernel_rfl) (by kernel_rfl)
def ti91 : TI := ⟨.struct #[], 2, 48, .agg ⟨[.slice none 0 0, .slice none 0 0]⟩, [(35, 0), (64, 1)]⟩
theorem g91 : good Try.prog (91, ti91) := good_s rfl (by kernel_rfl) (by kernel_rfl)
def ti92 : TI := ⟨.struct #[], 2, 48, .agg ⟨[.slice none 0 0, .slice none 0 0]⟩, [(35, 0), (64, 1)]⟩
theorem g92 : good Try.prog (92, ti92) := good_s rfl (by kernel_rfl) (by kernel_rfl)
def ti93 : TI := ⟨.func #[40] #[40] false, 1, 8, .nilFunc, []⟩
theorem g93 : good Try.prog (93, ti93) := good_d rfl (by kernel_rfl) (by kernel_rfl)
def ti94 : TI := ⟨.func #[75] #[] false, 1, 8, .nilFunc, []⟩
theorem g94 : good Try.prog (94, ti94) := good_d rfl (by kernel_rfl) (by kernel_rfl)
def ti95 : TI := ⟨.func #[66, 66] #[4] false, 1, 8, .nilFunc, []⟩
theorem g95 : good Try.prog (95, ti95) := good_d rfl (by kernel_rfl) (by kernel_rfl)
def ti96 : TI := ⟨.func #[66] #[] false, 1, 8, .nilFunc, []⟩
theorem g96 : good Try.prog (96, ti96) := good_d rfl (by kernel_rfl) (by kernel_rfl)
def ti97 : TI := ⟨.func #[35, 34] #[4] false, 1, 8, .nilFunc, []⟩
theorem g97 : good Try.prog (97, ti97) := good_d rfl (by kernel_rfl) (by kernel_rfl)
def ti98 : TI := ⟨.pointer 59, 1, 8, .pointer none, []⟩
theorem g98 : good Try.prog (98, ti98) := good_d rfl (by kernel_rfl) (by kernel_rfl)
def ti100 : TI := ⟨.func #[59] #[] false, 1, 8, .nilFunc, []⟩
theorem g100 : good Try.prog (100, ti100) := good_d rfl (by kernel_rfl) (by kernel_rfl)
def ti101 : TI := ⟨.func #[98] #[4] false, 1, 8, .nilFunc, []⟩
theorem g101 : good Try.prog (101, ti101) := good_d rfl (by kernel_rfl) (by kernel_rfl)
def ti102 : TI := ⟨.func #[118, 3] #[20] false, 1, 8, .nilFunc, []⟩
theorem g102 : good Try.prog (102, ti102) := good_d rfl (by kernel_rfl) (by kernel_rfl)
def ti103 : TI := ⟨.pointer 47, 1, 8, .pointer none, []⟩
theorem g103 : good Try.prog (103, ti103) := good_d rfl (by kernel_rfl) (by kernel_rfl)
def ti104 : TI := ⟨.func #[47, 98] #[3] false, 1, 8, .nilFunc, []⟩
theorem g104 : good Try.prog (104, ti104) := good_d rfl (by kernel_rfl) (by kernel_rfl)
def ti105 : TI := ⟨.func #[35, 3] #[34] false, 1, 8, .nilFunc, []⟩
theorem g105 : good Try.prog (105, ti105) := good_d rfl (by kernel_rfl) (by kernel_rfl)
def ti106 : TI := ⟨.func #[59] #[59] false, 1, 8, .nilFunc, []⟩
theorem g106 : good Try.prog (106, ti106) := good_d rfl (by kernel_rfl) (by kernel_rfl)
def ti107 : TI := ⟨.func #[38, 38] #[4] false, 1, 8, .nilFunc, []⟩
theorem g107 : good Try.prog (107, ti107) := good_d rfl (by kernel_rfl) (by kernel_rfl)
def ti108 : TI := ⟨.func #[] #[46] false, 1, 8, .nilFunc, []⟩
theorem g108 : good Try.prog (108, ti108) := good_d rfl (by kernel_rfl) (by kernel_rfl)
def ti109 : TI := ⟨.slice 35, 1, 24, .slice none 0 0, []⟩
theorem g109 : good Try.prog (109, ti109) := good_d rfl (by kernel_rfl) (by kernel_rfl)
def ti110 : TI := ⟨.func #[35, 35] #[35] false, 1, 8, .nilFunc, []⟩
theorem g110 : good Try.prog (110, ti110) := good_d rfl (by kernel_rfl) (by kernel_rfl)
def ti111 : TI := ⟨.func #[35, 3] #[3] false, 1, 8, .nilFunc, []⟩
theorem g111 : good Try.prog (111, ti111) := good_d rfl (by kernel_rfl) (by kernel_rfl)
def ti112 : TI := ⟨.func #[35, 3] #[4] false, 1, 8, .nilFunc, []⟩
theorem g112 : good Try.prog (112, ti112) := good_d rfl (by kernel_rfl) (by kernel_rfl)
def ti113 : TI := ⟨.func #[40, 3, 3] #[4] false, 1, 8, .nilFunc, []⟩
theorem g113 : good Try.prog (113, ti113) := good_d rfl (by kernel_rfl) (by kernel_rfl)
def ti114 : TI := ⟨.func #[34] #[3] false, 1, 8, .nilFunc, []⟩
theorem g114 : good Try.prog (114, ti114) := good_d rfl (by kernel_rfl) (by kernel_rfl)
def ti115 : TI := ⟨.func #[38] #[] false, 1, 8, .nilFunc, []⟩
theorem g115 : good Try.prog (115, ti115) := good_d rfl (by kernel_rfl) (by kernel_rfl)
def ti116 : TI := ⟨.func #[118, 20] #[] false, 1, 8, .nilFunc, []⟩
theorem g116 : good Try.prog (116, ti116) := good_d rfl (by kernel_rfl) (by kernel_rfl)
def ti119 : TI := ⟨.func #[] #[3] false, 1, 8, .nilFunc, []⟩
theorem g119 : good Try.prog (119, ti119) := good_d rfl (by kernel_rfl) (by kernel_rfl)
def ti120 : TI := ⟨.func #[3, 3] #[] false, 1, 8, .nilFunc, []⟩
theorem g120 : good Try.prog (120, ti120) := good_d rfl (by kernel_rfl) (by kernel_rfl)
def ti121 : TI := ⟨.func #[118, 3, 3] #[4] false, 1, 8, .nilFunc, []⟩
theorem g121 : good Try.prog (121, ti121) := good_d rfl (by kernel_rfl) (by kernel_rfl)
def ti122 : TI := ⟨.func #[118, 3] #[] false, 1, 8, .nilFunc, []⟩
theorem g122 : good Try.prog (122, ti122) := good_d rfl (by kernel_rfl) (by kernel_rfl)
def ti123 : TI := ⟨.func #[] #[20] false, 1, 8, .nilFunc, []⟩
theorem g123 : good Try.prog (123, ti123) := good_d rfl (by kernel_rfl) (by kernel_rfl)
def ti124 : TI := ⟨.func #[38] #[38] false, 1, 8, .nilFunc, []⟩
theorem g124 : good Try.prog (124, ti124) := good_d rfl (by kernel_rfl) (by kernel_rfl)
def ti125 : TI := ⟨.func #[47] #[47] false, 1, 8, .nilFunc, []⟩
theorem g125 : good Try.prog (125, ti125) := good_d rfl (by kernel_rfl) (by kernel_rfl)
def ti126 : TI := ⟨.func #[118] #[20] false, 1, 8, .nilFunc, []⟩
theorem g126 : good Try.prog (126, ti126) := good_d rfl (by kernel_rfl) (by kernel_rfl)
def ti127 : TI := ⟨.func #[35, 35, 74] #[35] false, 1, 8, .nilFunc, []⟩
theorem g127 : good Try.prog (127, ti127) := good_d rfl (by kernel_rfl) (by kernel_rfl)
def ti128 : TI := ⟨.func #[130, 4, 132] #[4] false, 1, 8, .nilFunc, []⟩
theorem g128 : good Try.prog (128, ti128) := good_d rfl (by kernel_rfl) (by kernel_rfl)
def ti129 : TI := ⟨.func #[136] #[] false, 1, 8, .nilFunc, []⟩
theorem g129 : good Try.prog (129, ti129) := good_d rfl (by kernel_rfl) (by kernel_rfl)
def ti130 : TI := ⟨.func #[136] #[] false, 1, 8, .nilFunc, []⟩
theorem g130 : good Try.prog (130, ti130) := good_d rfl (by kernel_rfl) (by kernel_rfl)
def ti131 : TI := ⟨.func #[35, 35] #[130] false, 1, 8, .nilFunc, []⟩
theorem g131 : good Try.prog (131, ti131) := good_d rfl (by kernel_rfl) (by kernel_rfl)
def ti132 : TI := ⟨.func #[4, 3, 3] #[4] false, 1, 8, .nilFunc, []⟩
theorem g132 : good Try.prog (132, ti132) := good_d rfl (by kernel_rfl) (by kernel_rfl)
def ti133 : TI := ⟨.func #[35, 134] #[4] false, 1, 8, .nilFunc, []⟩
theorem g133 : good Try.prog (133, ti133) := good_d rfl (by kernel_rfl) (by kernel_rfl)
def ti134 : TI := ⟨.func #[3] #[4] false, 1, 8, .nilFunc, []⟩
theorem g134 : good Try.prog (134, ti134) := good_d rfl (by kernel_rfl) (by kernel_rfl)
def ti135 : TI := ⟨.func #[20] #[] false, 1, 8, .nilFunc, []⟩
theorem g135 : good Try.prog (135, ti135) := good_d rfl (by kernel_rfl) (by kernel_rfl)
def ti136 : TI := ⟨.func #[3, 3] #[4] false, 1, 8, .nilFunc, []⟩
theorem g136 : good Try.prog (136, ti136) := good_d rfl (by kernel_rfl) (by kernel_rfl)
def ti137 : TI := ⟨.func #[130, 35, 138] #[35] false, 1, 8, .nilFunc, []⟩
theorem g137 : good Try.prog (137, ti137) := good_d rfl (by kernel_rfl) (by kernel_rfl)
def ti138 : TI := ⟨.func #[35, 3, 3] #[35] false, 1, 8, .nilFunc, []⟩
theorem g138 : good Try.prog (138, ti138) := good_d rfl (by kernel_rfl) (by kernel_rfl)
def ti139 : TI := ⟨.func #[35, 134] #[3] false, 1, 8, .nilFunc, []⟩
theorem g139 : good Try.prog (139, ti139) := good_d rfl (by kernel_rfl) (by kernel_rfl)
def ti140 : TI := ⟨.func #[34, 35, 34, 35] #[4] false, 1, 8, .nilFunc, []⟩
theorem g140 : good Try.prog (140, ti140) := good_d rfl (by kernel_rfl) (by kernel_rfl)
def ti141 : TI := ⟨.func #[35] #[3] false, 1, 8, .nilFunc, []⟩
theorem g141 : good Try.prog (141, ti141) := good_d rfl (by kernel_rfl) (by kernel_rfl)
def ti142 : TI := ⟨.func #[] #[9] false, 1, 8, .nilFunc, []⟩
theorem g142 : good Try.prog (142, ti142) := good_d rfl (by kernel_rfl) (by kernel_rfl)
def ti143 : TI := ⟨.struct #[], 4, 40, .agg ⟨[.pointer none, .pointer none, .pointer none, .string ⟨⟨[]⟩⟩]⟩, [(17, 0), (17, 1), (17, 2), (9, 3)]⟩
theorem g143 : good Try.prog (143, ti143) := good_s rfl (by kernel_rfl) (by kernel_rfl)
def ti144 : TI := ⟨.struct #[], 4, 40, .agg ⟨[.pointer none, .pointer none, .pointer none, .string ⟨⟨[]⟩⟩]⟩, [(17, 0), (17, 1), (17, 2), (9, 3)]⟩
theorem g144 : good Try.prog (144, ti144) := good_s rfl (by kernel_rfl) (by kernel_rfl)
def ti145 : TI := ⟨.array 0 16, 0, 0, .agg ⟨[]⟩, []⟩
theorem g145 : good Try.prog (145, ti145) := good_d rfl (by kernel_rfl) (by kernel_rfl)
def ti146 : TI := ⟨.struct #[], 0, 0, .agg ⟨[]⟩, [(145, 0)]⟩
theorem g146 : good Try.prog (146, ti146) := good_s rfl (by kernel_rfl) (by kernel_rfl)
def ti147 : TI := ⟨.struct #[], 0, 0, .agg ⟨[]⟩, [(145, 0)]⟩
theorem g147 : good Try.prog (147, ti147) := good_s rfl (by kernel_rfl) (by kernel_rfl)
def ti148 : TI := ⟨.int .u32, 1, 4, .int .u32 0, []⟩
theorem g148 : good Try.prog (148, ti148) := good_d rfl (by kernel_rfl) (by kernel_rfl)
def ti149 : TI := ⟨.int .u8, 1, 1, .int .u8 0, []⟩
theorem g149 : good Try.prog (149, ti149) := good_d rfl (by kernel_rfl) (by kernel_rfl)
def ti150 : TI := ⟨.int .u8, 1, 1, .int .u8 0, []⟩
theorem g150 : good Try.prog (150, ti150) := good_d rfl (by kernel_rfl) (by kernel_rfl)
def ti151 : TI := ⟨.func #[160, 160] #[4] false, 1, 8, .nilFunc, []⟩
theorem g151 : good Try.prog (151, ti151) := good_d rfl (by kernel_rfl) (by kernel_rfl)
def ti152 : TI := ⟨.pointer 5, 1, 8, .pointer none, []⟩
theorem g152 : good Try.prog (152, ti152) := good_d rfl (by kernel_rfl) (by kernel_rfl)
def ti153 : TI := ⟨.int .i32, 1, 4, .int .i32 0, []⟩
theorem g153 : good Try.prog (153, ti153) := good_d rfl (by kernel_rfl) (by kernel_rfl)
def ti154 : TI := ⟨.int .i32, 1, 4, .int .i32 0, []⟩
theorem g154 : good Try.prog (154, ti154) := good_d rfl (by kernel_rfl) (by kernel_rfl)
def ti155 : TI := ⟨.struct #[], 11, 48, .agg ⟨[.int .u64 0, .int .u64 0, .int .u32 0, .int .u8 0, .int .u8 0, .int .u8 0, .int .u8 0, .nilFunc, .pointer none, .int .i32 0, .int .i32 0]⟩, [(12, 0), (12, 1), (148, 2), (149, 3), (5, 4), (5, 5), (150, 6), (151, 7), (152, 8), (153, 9), (154, 10)]⟩
theorem g155 : good Try.prog (155, ti155) := good_s rfl (by kernel_rfl) (by kernel_rfl)
def ti156 : TI := ⟨.struct #[], 11, 48, .agg ⟨[.int .u64 0, .int .u64 0, .int .u32 0, .int .u8 0, .int .u8 0, .int .u8 0, .int .u8 0, .nilFunc, .pointer none, .int .i32 0, .int .i32 0]⟩, [(12, 0), (12, 1), (148, 2), (149, 3), (5, 4), (5, 5), (150, 6), (151, 7), (152, 8), (153, 9), (154, 10)]⟩
theorem g156 : good Try.prog (156, ti156) := good_s rfl (by kernel_rfl) (by kernel_rfl)
def ti157 : TI := ⟨.func #[35, 35, 74] #[3] false, 1, 8, .nilFunc, []⟩
theorem g157 : good Try.prog (157, ti157) := good_d rfl (by kernel_rfl) (by kernel_rfl)
def ti158 : TI := ⟨.func #[130, 3, 159] #[3] false, 1, 8, .nilFunc, []⟩
theorem g158 : good Try.prog (158, ti158) := good_d rfl (by kernel_rfl) (by kernel_rfl)
def ti159 : TI := ⟨.func #[3, 3, 3] #[3] false, 1, 8, .nilFunc, []⟩
theorem g159 : good Try.prog (159, ti159) := good_d rfl (by kernel_rfl) (by kernel_rfl)
def tts : List (Nat × TI) := [(1, ti1), (2, ti2), (3, ti3), (4, ti4), (5, ti5), (6, ti6), (7, ti7), (8, ti8), (9, ti9), (10, ti10), (11, ti11), (12, ti12), (13, ti13), (14, ti14), (15, ti15), (16, ti16), (17, ti17), (18, ti18), (19, ti19), (21, ti21), (22, ti22), (23, ti23), (24, ti24), (25, ti25), (26, ti26), (28, ti28), (29, ti29), (31, ti31), (32, ti32), (33, ti33), (34, ti34), (35, ti35), (36, ti36), (37, ti37), (38, ti38), (39, ti39), (40, ti40), (41, ti41), (42, ti42), (43, ti43), (44, ti44), (45, ti45), (46, ti46), (47, ti47), (48, ti48), (49, ti49), (50, ti50), (51, ti51), (53, ti53), (55, ti55), (57, ti57), (58, ti58), (59, ti59), (61, ti61), (62, ti62), (63, ti63), (64, ti64), (65, ti65), (66, ti66), (67, ti67), (68, ti68), (69, ti69), (70, ti70), (71, ti71), (72, ti72), (73, ti73), (74, ti74), (75, ti75), (76, ti76), (78, ti78), (79, ti79), (80, ti80), (81, ti81), (82, ti82), (83, ti83), (84, ti84), (85, ti85), (86, ti86), (87, ti87), (88, ti88), (89, ti89), (90, ti90), (91, ti91), (92, ti92), (93, ti93), (94, ti94), (95, ti95), (96, ti96), (97, ti97), (98, ti98), (100, ti100), (101, ti101), (102, ti102), (103, ti103), (104, ti104), (105, ti105), (106, ti106), (107, ti107), (108, ti108), (109, ti109), (110, ti110), (111, ti111), (112, ti112), (113, ti113), (114, ti114), (115, ti115), (116, ti116), (119, ti119), (120, ti120), (121, ti121), (122, ti122), (123, ti123), (124, ti124), (125, ti125), (126, ti126), (127, ti127), (128, ti128), (129, ti129), (130, ti130), (131, ti131), (132, ti132), (133, ti133), (134, ti134), (135, ti135), (136, ti136), (137, ti137), (138, ti138), (139, ti139), (140, ti140), (141, ti141), (142, ti142), (143, ti143), (144, ti144), (145, ti145), (146, ti146), (147, ti147), (148, ti148), (149, ti149), (150, ti150), (151, ti151), (152, ti152), (153, ti153), (154, ti154), (155, ti155), (156, ti156), (157, ti157), (158, ti158), (159, ti159)]
theorem tts_good : ∀ p ∈ tts, good Try.prog p := by
  intro p hp
  simp only [tts, List.mem_cons, List.not_mem_nil, or_false] at hp
  rcases hp with rfl | rfl | rfl | rfl | rfl | rfl | rfl | rfl | rfl | rfl | rfl | rfl | rfl | rfl | rfl | rfl | rfl | rfl | rfl | rfl | rfl | rfl | rfl | rfl | rfl | rfl | rfl | rfl | rfl | rfl | rfl | rfl | rfl | rfl | rfl | rfl | rfl | rfl | rfl | rfl | rfl | rfl | rfl | rfl | rfl | rfl | rfl | rfl | rfl | rfl | rfl | rfl | rfl | rfl | rfl | rfl | rfl | rfl | rfl | rfl | rfl | rfl | rfl | rfl | rfl | rfl | rfl | rfl | rfl | rfl | rfl | rfl | rfl | rfl | rfl | rfl | rfl | rfl | rfl | rfl | rfl | rfl | rfl | rfl | rfl | rfl | rfl | rfl | rfl | rfl | rfl | rfl | rfl | rfl | rfl | rfl | rfl | rfl | rfl | rfl | rfl | rfl | rfl | rfl | rfl | rfl | rfl | rfl | rfl | rfl | rfl | rfl | rfl | rfl | rfl | rfl | rfl | rfl | rfl | rfl | rfl | rfl | rfl | rfl | rfl | rfl | rfl | rfl | rfl | rfl | rfl | rfl | rfl | rfl | rfl | rfl | rfl | rfl | rfl | rfl | rfl | rfl | rfl | rfl | rfl | rfl | rfl | rfl
  · exact g1
  · exact g2
  · exact g3
  · exact g4
  · exact g5
  · exact g6
  · exact g7
  · exact g8
  · exact g9
  · exact g10
  · exact g11
  · exact g12
  · exact g13
  · exact g14
  · exact g15
  · exact g16
  · exact g17
  · exact g18
  · exact g19
  · exact g21
  · exact g22
  · exact g23
  · exact g24
  · exact g25
  · exact g26
  · exact g28
  · exact g29
  · exact g31
  · exact g32
  · exact g33
  · exact g34
  · exact g35
  · exact g36
  · exact g37
  · exact g38
  · exact g39
  · exact g40
  · exact g41
  · exact g42
  · exact g43
  · exact g44
  · exact g45
  · exact g46
  · exact g47
  · exact g48
  · exact g49
  · exact g50
  · exact g51
  · exact g53
  · exact g55
  · exact g57
  · exact g58
  · exact g59
  · exact g61
  · exact g62
  · exact g63
  · exact g64
  · exact g65
  · exact g66
  · exact g67
  · exact g68
  · exact g69
  · exact g70
  · exact g71
  · exact g72
  · exact g73
  · exact g74
  · exact g75
  · exact g76
  · exact g78
  · exact g79
  · exact g80
  · exact g81
  · exact g82
  · exact g83
  · exact g84
  · exact g85
  · exact g86
  · exact g87
  · exact g88
  · exact g89
  · exact g90
  · exact g91
  · exact g92
  · exact g93
  · exact g94
  · exact g95
  · exact g96
  · exact g97
  · exact g98
  · exact g100
  · exact g101
  · exact g102
  · exact g103
  · exact g104
  · exact g105
  · exact g106
  · exact g107
  · exact g108
  · exact g109
  · exact g110
  · exact g111
  · exact g112
  · exact g113
  · exact g114
  · exact g115
  · exact g116
  · exact g119
  · exact g120
  · exact g121
  · exact g122
  · exact g123
  · exact g124
  · exact g125
  · exact g126
  · exact g127
  · exact g128
  · exact g129
  · exact g130
  · exact g131
  · exact g132
  · exact g133
  · exact g134
  · exact g135
  · exact g136
  · exact g137
  · exact g138
  · exact g139
  · exact g140
  · exact g141
  · exact g142
  · exact g143
  · exact g144
  · exact g145
  · exact g146
  · exact g147
  · exact g148
  · exact g149
  · exact g150
  · exact g151
  · exact g152
  · exact g153
  · exact g154
  · exact g155
  · exact g156
  · exact g157
  · exact g158
  · exact g159
set_option maxRecDepth 100000 in
theorem tts_sane : ∀ p ∈ tts, p.2.flds ≠ [(0, 99999)] := by decide
instance : TT Try.prog (lookT tts) := TT.of_list tts_good tts_sane
instance : Mixed Try.prog := ⟨by kernel_rfl⟩
abbrev n_entrepotlaw21_HoldScript : Nat := 3
theorem F_entrepotlaw21_HoldScript : Try.prog.funcs[n_entrepotlaw21_HoldScript]? = some Try.f3 := Try.func3
abbrev n_entrepotlaw21_HoldNone : Nat := 4
theorem F_entrepotlaw21_HoldNone : Try.prog.funcs[n_entrepotlaw21_HoldNone]? = some Try.f4 := Try.func4
abbrev n_entrepotlaw21_HoldKnown : Nat := 5
theorem F_entrepotlaw21_HoldKnown : Try.prog.funcs[n_entrepotlaw21_HoldKnown]? = some Try.f5 := Try.func5
abbrev n_entrepotlaw21_HoldCausal : Nat := 6
theorem F_entrepotlaw21_HoldCausal : Try.prog.funcs[n_entrepotlaw21_HoldCausal]? = some Try.f6 := Try.func6
abbrev n_entrepotlaw21_HoldLoads : Nat := 7
theorem F_entrepotlaw21_HoldLoads : Try.prog.funcs[n_entrepotlaw21_HoldLoads]? = some Try.f7 := Try.func7
abbrev n_entrepotlaw21_Long : Nat := 8
theorem F_entrepotlaw21_Long : Try.prog.funcs[n_entrepotlaw21_Long]? = some Try.f8 := Try.func8
abbrev n_entrepotlaw21_awake : Nat := 9
theorem F_entrepotlaw21_awake : Try.prog.funcs[n_entrepotlaw21_awake]? = some Try.f9 := Try.func9
abbrev n_hold_New : Nat := 10
theorem F_hold_New : Try.prog.funcs[n_hold_New]? = some Try.f10 := Try.func10
abbrev n_entrepotref21_New : Nat := 11
theorem F_entrepotref21_New : Try.prog.funcs[n_entrepotref21_New]? = some Try.f11 := Try.func11
abbrev n_entrepotlaw21_acted : Nat := 12
theorem F_entrepotlaw21_acted : Try.prog.funcs[n_entrepotlaw21_acted]? = some Try.f12 := Try.func12
abbrev n_entrepotlaw21_stands : Nat := 13
theorem F_entrepotlaw21_stands : Try.prog.funcs[n_entrepotlaw21_stands]? = some Try.f13 := Try.func13
abbrev n_entrepotkit_LongEvent : Nat := 14
theorem F_entrepotkit_LongEvent : Try.prog.funcs[n_entrepotkit_LongEvent]? = some Try.f14 := Try.func14
abbrev n_p_hold_Queue_Add : Nat := 15
theorem F_p_hold_Queue_Add : Try.prog.funcs[n_p_hold_Queue_Add]? = some Try.f15 := Try.func15
abbrev n_p_hold_Queue_Deliver : Nat := 16
theorem F_p_hold_Queue_Deliver : Try.prog.funcs[n_p_hold_Queue_Deliver]? = some Try.f16 := Try.func16
abbrev n_p_hold_Queue_Own : Nat := 17
theorem F_p_hold_Queue_Own : Try.prog.funcs[n_p_hold_Queue_Own]? = some Try.f17 := Try.func17
abbrev n_p_hold_Queue_Holds : Nat := 18
theorem F_p_hold_Queue_Holds : Try.prog.funcs[n_p_hold_Queue_Holds]? = some Try.f18 := Try.func18
abbrev n_entrepotkit_SameEvent : Nat := 19
theorem F_entrepotkit_SameEvent : Try.prog.funcs[n_entrepotkit_SameEvent]? = some Try.f19 := Try.func19
abbrev n_p_hold_Queue_Vector : Nat := 20
theorem F_p_hold_Queue_Vector : Try.prog.funcs[n_p_hold_Queue_Vector]? = some Try.f20 := Try.func20
abbrev n_p_hold_Queue_Held : Nat := 21
theorem F_p_hold_Queue_Held : Try.prog.funcs[n_p_hold_Queue_Held]? = some Try.f21 := Try.func21
abbrev n_p_hold_Queue_Ripe : Nat := 22
theorem F_p_hold_Queue_Ripe : Try.prog.funcs[n_p_hold_Queue_Ripe]? = some Try.f22 := Try.func22
abbrev n_entrepotlaw21_one : Nat := 23
theorem F_entrepotlaw21_one : Try.prog.funcs[n_entrepotlaw21_one]? = some Try.f23 := Try.func23
abbrev n_entrepotlaw21_adds : Nat := 24
theorem F_entrepotlaw21_adds : Try.prog.funcs[n_entrepotlaw21_adds]? = some Try.f24 := Try.func24
abbrev n_entrepotlaw21_at : Nat := 25
theorem F_entrepotlaw21_at : Try.prog.funcs[n_entrepotlaw21_at]? = some Try.f25 := Try.func25
abbrev n_entrepotlaw21_takes : Nat := 26
theorem F_entrepotlaw21_takes : Try.prog.funcs[n_entrepotlaw21_takes]? = some Try.f26 := Try.func26
abbrev n_entrepotkit_SameInts : Nat := 27
theorem F_entrepotkit_SameInts : Try.prog.funcs[n_entrepotkit_SameInts]? = some Try.f27 := Try.func27
abbrev n_entrepotkit_Pick : Nat := 28
theorem F_entrepotkit_Pick : Try.prog.funcs[n_entrepotkit_Pick]? = some Try.f28 := Try.func28
abbrev n_entrepotlaw21_made : Nat := 29
theorem F_entrepotlaw21_made : Try.prog.funcs[n_entrepotlaw21_made]? = some Try.f29 := Try.func29
abbrev n_entrepotlaw21_drained : Nat := 30
theorem F_entrepotlaw21_drained : Try.prog.funcs[n_entrepotlaw21_drained]? = some Try.f30 := Try.func30
abbrev n_vector_With : Nat := 31
theorem F_vector_With : Try.prog.funcs[n_vector_With]? = some Try.f31 := Try.func31
abbrev n_event_Needs : Nat := 32
theorem F_event_Needs : Try.prog.funcs[n_event_Needs]? = some Try.f32 := Try.func32
abbrev n_entrepotkit_LongWaiting : Nat := 33
theorem F_entrepotkit_LongWaiting : Try.prog.funcs[n_entrepotkit_LongWaiting]? = some Try.f33 := Try.func33
abbrev n_entrepotkit_CopyInts : Nat := 34
theorem F_entrepotkit_CopyInts : Try.prog.funcs[n_entrepotkit_CopyInts]? = some Try.f34 := Try.func34
abbrev n_entrepotkit_CopyWaiting : Nat := 35
theorem F_entrepotkit_CopyWaiting : Try.prog.funcs[n_entrepotkit_CopyWaiting]? = some Try.f35 := Try.func35
abbrev n_hold_Load : Nat := 36
theorem F_hold_Load : Try.prog.funcs[n_hold_Load]? = some Try.f36 := Try.func36
abbrev n_entrepotref21_Load : Nat := 37
theorem F_entrepotref21_Load : Try.prog.funcs[n_entrepotref21_Load]? = some Try.f37 := Try.func37
abbrev n_entrepotkit_SameWaiting : Nat := 38
theorem F_entrepotkit_SameWaiting : Try.prog.funcs[n_entrepotkit_SameWaiting]? = some Try.f38 := Try.func38
abbrev n_entrepotkit_OverInts : Nat := 39
theorem F_entrepotkit_OverInts : Try.prog.funcs[n_entrepotkit_OverInts]? = some Try.f39 := Try.func39
abbrev n_entrepotkit_OverWaiting : Nat := 40
theorem F_entrepotkit_OverWaiting : Try.prog.funcs[n_entrepotkit_OverWaiting]? = some Try.f40 := Try.func40
abbrev n_entrepotkit_LongEvents : Nat := 41
theorem F_entrepotkit_LongEvents : Try.prog.funcs[n_entrepotkit_LongEvents]? = some Try.f41 := Try.func41
abbrev n_entrepotkit_CopyEvent : Nat := 42
theorem F_entrepotkit_CopyEvent : Try.prog.funcs[n_entrepotkit_CopyEvent]? = some Try.f42 := Try.func42
abbrev n_p_entrepotref21_Queue_Add : Nat := 43
theorem F_p_entrepotref21_Queue_Add : Try.prog.funcs[n_p_entrepotref21_Queue_Add]? = some Try.f43 := Try.func43
abbrev n_entrepotkit_OverEvents : Nat := 44
theorem F_entrepotkit_OverEvents : Try.prog.funcs[n_entrepotkit_OverEvents]? = some Try.f44 := Try.func44
abbrev n_entrepotlaw21_delivers : Nat := 45
theorem F_entrepotlaw21_delivers : Try.prog.funcs[n_entrepotlaw21_delivers]? = some Try.f45 := Try.func45
abbrev n_p_entrepotref21_Queue_Own : Nat := 46
theorem F_p_entrepotref21_Queue_Own : Try.prog.funcs[n_p_entrepotref21_Queue_Own]? = some Try.f46 := Try.func46
abbrev n_p_entrepotref21_Queue_Ripe : Nat := 47
theorem F_p_entrepotref21_Queue_Ripe : Try.prog.funcs[n_p_entrepotref21_Queue_Ripe]? = some Try.f47 := Try.func47
abbrev n_p_entrepotref21_Queue_Holds : Nat := 48
theorem F_p_entrepotref21_Queue_Holds : Try.prog.funcs[n_p_entrepotref21_Queue_Holds]? = some Try.f48 := Try.func48
abbrev n_p_entrepotref21_Queue_Held : Nat := 49
theorem F_p_entrepotref21_Queue_Held : Try.prog.funcs[n_p_entrepotref21_Queue_Held]? = some Try.f49 := Try.func49
abbrev n_entrepotkit_SameDots : Nat := 50
theorem F_entrepotkit_SameDots : Try.prog.funcs[n_entrepotkit_SameDots]? = some Try.f50 := Try.func50
abbrev n_entrepotkit_OverDots : Nat := 51
theorem F_entrepotkit_OverDots : Try.prog.funcs[n_entrepotkit_OverDots]? = some Try.f51 := Try.func51
abbrev n_p_hold_Queue_none : Nat := 52
theorem F_p_hold_Queue_none : Try.prog.funcs[n_p_hold_Queue_none]? = some Try.f52 := Try.func52
abbrev n_p_hold_Queue_fits : Nat := 53
theorem F_p_hold_Queue_fits : Try.prog.funcs[n_p_hold_Queue_fits]? = some Try.f53 := Try.func53
abbrev n_vector_Has : Nat := 54
theorem F_vector_Has : Try.prog.funcs[n_vector_Has]? = some Try.f54 := Try.func54
abbrev n_p_hold_Queue_hold : Nat := 55
theorem F_p_hold_Queue_hold : Try.prog.funcs[n_p_hold_Queue_hold]? = some Try.f55 := Try.func55
abbrev n_p_hold_Queue_ripe : Nat := 56
theorem F_p_hold_Queue_ripe : Try.prog.funcs[n_p_hold_Queue_ripe]? = some Try.f56 := Try.func56
abbrev n_container_heap_Remove : Nat := 57
theorem F_container_heap_Remove : Try.prog.funcs[n_container_heap_Remove]? = some Try.f57 := Try.func57
abbrev n_slices_Index_hold_waiting_p_api_Waiting : Nat := 58
theorem F_slices_Index_hold_waiting_p_api_Waiting : Try.prog.funcs[n_slices_Index_hold_waiting_p_api_Waiting]? = some Try.f58 := Try.func58
abbrev n_vector_Next : Nat := 59
theorem F_vector_Next : Try.prog.funcs[n_vector_Next]? = some Try.f59 := Try.func59
abbrev n_hold_own : Nat := 60
theorem F_hold_own : Try.prog.funcs[n_hold_own]? = some Try.f60 := Try.func60
abbrev n_entrepotkit_SameIDs : Nat := 61
theorem F_entrepotkit_SameIDs : Try.prog.funcs[n_entrepotkit_SameIDs]? = some Try.f61 := Try.func61
abbrev n_slices_Clone_sl_int_int : Nat := 62
theorem F_slices_Clone_sl_int_int : Try.prog.funcs[n_slices_Clone_sl_int_int]? = some Try.f62 := Try.func62
abbrev n_hold_waiting_drained : Nat := 63
theorem F_hold_waiting_drained : Try.prog.funcs[n_hold_waiting_drained]? = some Try.f63 := Try.func63
abbrev n_vector_Join : Nat := 64
theorem F_vector_Join : Try.prog.funcs[n_vector_Join]? = some Try.f64 := Try.func64
abbrev n_vector_Leq : Nat := 65
theorem F_vector_Leq : Try.prog.funcs[n_vector_Leq]? = some Try.f65 := Try.func65
abbrev n_vector_At : Nat := 66
theorem F_vector_At : Try.prog.funcs[n_vector_At]? = some Try.f66 := Try.func66
abbrev n_hold_numbers : Nat := 67
theorem F_hold_numbers : Try.prog.funcs[n_hold_numbers]? = some Try.f67 := Try.func67
abbrev n_entrepotref21_vector : Nat := 68
theorem F_entrepotref21_vector : Try.prog.funcs[n_entrepotref21_vector]? = some Try.f68 := Try.func68
abbrev n_entrepotref21_fits : Nat := 69
theorem F_entrepotref21_fits : Try.prog.funcs[n_entrepotref21_fits]? = some Try.f69 := Try.func69
abbrev n_entrepotref14_Has : Nat := 70
theorem F_entrepotref14_Has : Try.prog.funcs[n_entrepotref14_Has]? = some Try.f70 := Try.func70
abbrev n_p_entrepotref21_Queue_lay : Nat := 71
theorem F_p_entrepotref21_Queue_lay : Try.prog.funcs[n_p_entrepotref21_Queue_lay]? = some Try.f71 := Try.func71
abbrev n_p_entrepotref21_Queue_place : Nat := 72
theorem F_p_entrepotref21_Queue_place : Try.prog.funcs[n_p_entrepotref21_Queue_place]? = some Try.f72 := Try.func72
abbrev n_entrepotkit_OverIDs : Nat := 73
theorem F_entrepotkit_OverIDs : Try.prog.funcs[n_entrepotkit_OverIDs]? = some Try.f73 := Try.func73
abbrev n_p_entrepotref21_Queue_Deliver : Nat := 74
theorem F_p_entrepotref21_Queue_Deliver : Try.prog.funcs[n_p_entrepotref21_Queue_Deliver]? = some Try.f74 := Try.func74
abbrev n_entrepotref14_Leq : Nat := 75
theorem F_entrepotref14_Leq : Try.prog.funcs[n_entrepotref14_Leq]? = some Try.f75 := Try.func75
abbrev n_container_heap_Push : Nat := 76
theorem F_container_heap_Push : Try.prog.funcs[n_container_heap_Push]? = some Try.f76 := Try.func76
abbrev n_container_heap_down : Nat := 77
theorem F_container_heap_down : Try.prog.funcs[n_container_heap_down]? = some Try.f77 := Try.func77
abbrev n_container_heap_up : Nat := 78
theorem F_container_heap_up : Try.prog.funcs[n_container_heap_up]? = some Try.f78 := Try.func78
abbrev n_slices_Clone_sl_api_ID_api_ID : Nat := 79
theorem F_slices_Clone_sl_api_ID_api_ID : Try.prog.funcs[n_slices_Clone_sl_api_ID_api_ID]? = some Try.f79 := Try.func79
abbrev n_slices_Clone_hold_waiting_p_api_Waiting : Nat := 80
theorem F_slices_Clone_hold_waiting_p_api_Waiting : Try.prog.funcs[n_slices_Clone_hold_waiting_p_api_Waiting]? = some Try.f80 := Try.func80
abbrev n_hold_waiting_Len : Nat := 81
theorem F_hold_waiting_Len : Try.prog.funcs[n_hold_waiting_Len]? = some Try.f81 := Try.func81
abbrev n_container_heap_Pop : Nat := 82
theorem F_container_heap_Pop : Try.prog.funcs[n_container_heap_Pop]? = some Try.f82 := Try.func82
abbrev n_vector_picked : Nat := 83
theorem F_vector_picked : Try.prog.funcs[n_vector_picked]? = some Try.f83 := Try.func83
abbrev n_vector_Join_1 : Nat := 84
theorem F_vector_Join_1 : Try.prog.funcs[n_vector_Join_1]? = some Try.f84 := Try.func84
abbrev n_vector_fold_bool : Nat := 85
theorem F_vector_fold_bool : Try.prog.funcs[n_vector_fold_bool]? = some Try.f85 := Try.func85
abbrev n_vector_sides : Nat := 86
theorem F_vector_sides : Try.prog.funcs[n_vector_sides]? = some Try.f86 := Try.func86
abbrev n_vector_Leq_1 : Nat := 87
theorem F_vector_Leq_1 : Try.prog.funcs[n_vector_Leq_1]? = some Try.f87 := Try.func87
abbrev n_slices_ContainsFunc_sl_int_int : Nat := 88
theorem F_slices_ContainsFunc_sl_int_int : Try.prog.funcs[n_slices_ContainsFunc_sl_int_int]? = some Try.f88 := Try.func88
abbrev n_hold_numbers_1 : Nat := 89
theorem F_hold_numbers_1 : Try.prog.funcs[n_hold_numbers_1]? = some Try.f89 := Try.func89
abbrev n_entrepotref14_At : Nat := 90
theorem F_entrepotref14_At : Try.prog.funcs[n_entrepotref14_At]? = some Try.f90 := Try.func90
abbrev n_entrepotref19_Less : Nat := 91
theorem F_entrepotref19_Less : Try.prog.funcs[n_entrepotref19_Less]? = some Try.f91 := Try.func91
abbrev n_vector_fold_sl_int : Nat := 92
theorem F_vector_fold_sl_int : Try.prog.funcs[n_vector_fold_sl_int]? = some Try.f92 := Try.func92
abbrev n_vector_picked_1 : Nat := 93
theorem F_vector_picked_1 : Try.prog.funcs[n_vector_picked_1]? = some Try.f93 := Try.func93
abbrev n_vector_sides_1 : Nat := 94
theorem F_vector_sides_1 : Try.prog.funcs[n_vector_sides_1]? = some Try.f94 := Try.func94
abbrev n_slices_IndexFunc_sl_int_int : Nat := 95
theorem F_slices_IndexFunc_sl_int_int : Try.prog.funcs[n_slices_IndexFunc_sl_int_int]? = some Try.f95 := Try.func95
abbrev n_entrepotref14_Less : Nat := 96
theorem F_entrepotref14_Less : Try.prog.funcs[n_entrepotref14_Less]? = some Try.f96 := Try.func96
abbrev n_entrepotref14_Weight : Nat := 97
theorem F_entrepotref14_Weight : Try.prog.funcs[n_entrepotref14_Weight]? = some Try.f97 := Try.func97
abbrev n_p_internal_abi_Type_Align : Nat := 110
theorem F_p_internal_abi_Type_Align : Try.prog.funcs[n_p_internal_abi_Type_Align]? = some Try.f110 := Try.func110
abbrev n_p_internal_abi_Type_Len : Nat := 111
theorem F_p_internal_abi_Type_Len : Try.prog.funcs[n_p_internal_abi_Type_Len]? = some Try.f111 := Try.func111
abbrev n_internal_runtime_maps_unhashableTypeError_Error : Nat := 112
theorem F_internal_runtime_maps_unhashableTypeError_Error : Try.prog.funcs[n_internal_runtime_maps_unhashableTypeError_Error]? = some Try.f112 := Try.func112
abbrev n_internal_runtime_maps_unhashableTypeError_RuntimeError : Nat := 113
theorem F_internal_runtime_maps_unhashableTypeError_RuntimeError : Try.prog.funcs[n_internal_runtime_maps_unhashableTypeError_RuntimeError]? = some Try.f113 := Try.func113
abbrev n_api_Errno_Error : Nat := 114
theorem F_api_Errno_Error : Try.prog.funcs[n_api_Errno_Error]? = some Try.f114 := Try.func114
abbrev n_hold_waiting_Less : Nat := 115
theorem F_hold_waiting_Less : Try.prog.funcs[n_hold_waiting_Less]? = some Try.f115 := Try.func115
abbrev n_hold_waiting_Swap : Nat := 116
theorem F_hold_waiting_Swap : Try.prog.funcs[n_hold_waiting_Swap]? = some Try.f116 := Try.func116
abbrev n_event_Less : Nat := 117
theorem F_event_Less : Try.prog.funcs[n_event_Less]? = some Try.f117 := Try.func117
abbrev n_vector_Less : Nat := 118
theorem F_vector_Less : Try.prog.funcs[n_vector_Less]? = some Try.f118 := Try.func118
abbrev n_vector_Weight : Nat := 119
theorem F_vector_Weight : Try.prog.funcs[n_vector_Weight]? = some Try.f119 := Try.func119
abbrev n_slices_CompareFunc_sl_int_sl_int_int_int : Nat := 120
theorem F_slices_CompareFunc_sl_int_sl_int_int_int : Try.prog.funcs[n_slices_CompareFunc_sl_int_sl_int_int_int]? = some Try.f120 := Try.func120
abbrev n_cmp_Compare_int : Nat := 121
theorem F_cmp_Compare_int : Try.prog.funcs[n_cmp_Compare_int]? = some Try.f121 := Try.func121
abbrev n_vector_fold_int : Nat := 122
theorem F_vector_fold_int : Try.prog.funcs[n_vector_fold_int]? = some Try.f122 := Try.func122
abbrev n_vector_Weight_1 : Nat := 123
theorem F_vector_Weight_1 : Try.prog.funcs[n_vector_Weight_1]? = some Try.f123 := Try.func123
abbrev n_cmp_isNaN_int : Nat := 124
theorem F_cmp_isNaN_int : Try.prog.funcs[n_cmp_isNaN_int]? = some Try.f124 := Try.func124
abbrev n_p_hold_waiting_Pop : Nat := 125
theorem F_p_hold_waiting_Pop : Try.prog.funcs[n_p_hold_waiting_Pop]? = some Try.f125 := Try.func125
abbrev n_p_hold_waiting_Push : Nat := 126
theorem F_p_hold_waiting_Push : Try.prog.funcs[n_p_hold_waiting_Push]? = some Try.f126 := Try.func126
abbrev n_internal_abi_Kind_String : Nat := 127
theorem F_internal_abi_Kind_String : Try.prog.funcs[n_internal_abi_Kind_String]? = some Try.f127 := Try.func127
abbrev t_func : Nat := 1
abbrev t_int64 : Nat := 2
abbrev t_int : Nat := 3
abbrev t_bool : Nat := 4
abbrev t_uint8 : Nat := 5
abbrev t_abi_BoundsErrorCode : Nat := 6
abbrev t_runtime_boundsError : Nat := 8
abbrev t_string : Nat := 9
abbrev t_runtime_errorString : Nat := 10
abbrev t_runtime_plainError : Nat := 11
abbrev t_uintptr : Nat := 12
abbrev t_runtime_errorAddressString : Nat := 14
abbrev t_p_runtime_TypeAssertionError : Nat := 15
abbrev t_p_runtime_PanicNilError : Nat := 16
abbrev t_p_abi_Type : Nat := 17
abbrev t_maps_unhashableTypeError : Nat := 19
abbrev t_int32 : Nat := 21
abbrev t_sl_entrepotlaw21_Act : Nat := 22
abbrev t_func_sl_entrepotlaw21_Act_bool : Nat := 23
abbrev t_func_bool : Nat := 24
abbrev t_p_hold_Queue : Nat := 25
abbrev t_api_Errno : Nat := 26
abbrev t_func_int_p_hold_Queue_api_Errno : Nat := 28
abbrev t_p_entrepotref21_Queue : Nat := 29
abbrev t_func_int_p_entrepotref21_Queue_api_Errno : Nat := 31
abbrev t_func_p_hold_Queue_p_entrepotref21_Queue_entrepotlaw21_Act_bool : Nat := 32
abbrev t_api_Dot : Nat := 34
abbrev t_sl_int : Nat := 35
abbrev t_32_uint8 : Nat := 36
abbrev t_api_ID : Nat := 37
abbrev t_sl_api_ID : Nat := 38
abbrev t_api_Event : Nat := 40
abbrev t_entrepotlaw21_Act : Nat := 42
abbrev t_func_p_hold_Queue_p_entrepotref21_Queue_api_Dot_bool : Nat := 43
abbrev t_func_int_sl_entrepotlaw21_Act_bool : Nat := 44
abbrev t_func_api_Event_bool : Nat := 45
abbrev t_sl_p_api_Waiting : Nat := 46
abbrev t_hold_waiting : Nat := 47
abbrev t_map_api_Dot_p_api_Waiting : Nat := 48
abbrev t_hold_Queue : Nat := 50
abbrev t_sl_p_hold_Queue : Nat := 51
abbrev t_func_api_Event_int_bool_api_Errno : Nat := 53
abbrev t_func_api_Dot_api_Event_api_Errno : Nat := 55
abbrev t_func_int_api_Dot_api_Errno : Nat := 57
abbrev t_api_Waiting : Nat := 59
abbrev t_func_api_Dot_api_Waiting_bool : Nat := 61
abbrev t_func_api_Event_api_Event_bool : Nat := 62
abbrev t_func_sl_int : Nat := 63
abbrev t_sl_api_Waiting : Nat := 64
abbrev t_func_sl_api_Waiting : Nat := 65
abbrev t_sl_api_Dot : Nat := 66
abbrev t_func_sl_api_Dot : Nat := 67
abbrev t_func_api_Event_int_bool : Nat := 68
abbrev t_func_p_hold_Queue : Nat := 69
abbrev t_func_p_hold_Queue_api_Event_int_bool_api_Errno_bool : Nat := 70
abbrev t_func_int_int_int_api_Event : Nat := 71
abbrev t_func_p_hold_Queue_int_int_api_Errno_bool : Nat := 72
abbrev t_func_sl_int_sl_int_bool : Nat := 73
abbrev t_func_int_int_int : Nat := 74
abbrev t_sl_api_Event : Nat := 75
abbrev t_func_int_sl_int_sl_api_Event : Nat := 76
abbrev t_func_p_hold_Queue_sl_int_sl_api_Event_sl_api_Event_bool : Nat := 78
abbrev t_func_sl_int_api_Dot_sl_int : Nat := 79
abbrev t_func_int_sl_int_sl_int_sl_int_bool : Nat := 80
abbrev t_func_sl_api_Waiting_bool : Nat := 81
abbrev t_func_sl_int_sl_int : Nat := 82
abbrev t_func_sl_api_Waiting_sl_api_Waiting : Nat := 83
abbrev t_func_int_sl_int_sl_api_Waiting_p_hold_Queue_api_Errno : Nat := 84
abbrev t_func_int_sl_int_sl_api_Waiting_p_entrepotref21_Queue_api_Errno : Nat := 85
abbrev t_func_sl_api_Waiting_sl_api_Waiting_bool : Nat := 86
abbrev t_func_int_sl_int_sl_api_Waiting_sl_entrepotlaw21_Act_bool : Nat := 89
abbrev t_func_sl_api_Event_int_bool : Nat := 90
abbrev t_entrepotref21_Queue : Nat := 92
abbrev t_func_api_Event_api_Event : Nat := 93
abbrev t_func_sl_api_Event : Nat := 94
abbrev t_func_sl_api_Dot_sl_api_Dot_bool : Nat := 95
abbrev t_func_sl_int_api_Dot_bool : Nat := 97
abbrev t_p_api_Waiting : Nat := 98
abbrev t_func_api_Waiting : Nat := 100
abbrev t_func_p_api_Waiting_bool : Nat := 101
abbrev t_func_heap_Interface_int_interface : Nat := 102
abbrev t_p_hold_waiting : Nat := 103
abbrev t_func_hold_waiting_p_api_Waiting_int : Nat := 104
abbrev t_func_sl_int_int_api_Dot : Nat := 105
abbrev t_func_api_Waiting_api_Waiting : Nat := 106
abbrev t_func_sl_api_ID_sl_api_ID_bool : Nat := 107
abbrev t_func_sl_p_api_Waiting : Nat := 108
abbrev t_sl_sl_int : Nat := 109
abbrev t_func_sl_int_sl_int_sl_int : Nat := 110
abbrev t_func_sl_int_int_int : Nat := 111
abbrev t_func_sl_int_int_bool : Nat := 112
abbrev t_func_api_Event_int_int_bool : Nat := 113
abbrev t_func_api_Dot_int : Nat := 114
abbrev t_func_sl_api_ID : Nat := 115
abbrev t_func_heap_Interface_interface : Nat := 116
abbrev t_heap_Interface : Nat := 118
abbrev t_func_int : Nat := 119
abbrev t_func_int_int : Nat := 120
abbrev t_func_heap_Interface_int_int_bool : Nat := 121
abbrev t_func_heap_Interface_int : Nat := 122
abbrev t_func_interface : Nat := 123
abbrev t_func_sl_api_ID_sl_api_ID : Nat := 124
abbrev t_func_hold_waiting_hold_waiting : Nat := 125
abbrev t_func_sl_int_sl_int_func_int_int_int_sl_int : Nat := 127
abbrev t_func_iter_Seq2_int_int_bool_func_bool_int_int_bool_bool : Nat := 128
abbrev t_func_func_int_int_bool : Nat := 129
abbrev t_iter_Seq2_int_int : Nat := 130
abbrev t_func_sl_int_sl_int_iter_Seq2_int_int : Nat := 131
abbrev t_func_bool_int_int_bool : Nat := 132
abbrev t_func_sl_int_func_int_bool_bool : Nat := 133
abbrev t_func_int_bool : Nat := 134
abbrev t_func_int_int_bool : Nat := 136
abbrev t_func_iter_Seq2_int_int_sl_int_func_sl_int_int_int_sl_int_sl_int : Nat := 137
abbrev t_func_sl_int_int_int_sl_int : Nat := 138
abbrev t_func_sl_int_func_int_bool_int : Nat := 139
abbrev t_func_api_Dot_sl_int_api_Dot_sl_int_bool : Nat := 140
abbrev t_func_sl_int_int : Nat := 141
abbrev t_func_string : Nat := 142
abbrev t_runtime_TypeAssertionError : Nat := 144
abbrev t_0_p_runtime_PanicNilError : Nat := 145
abbrev t_runtime_PanicNilError : Nat := 147
abbrev t_uint32 : Nat := 148
abbrev t_abi_TFlag : Nat := 149
abbrev t_abi_Kind : Nat := 150
abbrev t_func_unsafe_Pointer_unsafe_Pointer_bool : Nat := 151
abbrev t_p_uint8 : Nat := 152
abbrev t_abi_NameOff : Nat := 153
abbrev t_abi_TypeOff : Nat := 154
abbrev t_abi_Type : Nat := 156
abbrev t_func_sl_int_sl_int_func_int_int_int_int : Nat := 157
abbrev t_func_iter_Seq2_int_int_int_func_int_int_int_int_int : Nat := 158
abbrev t_func_int_int_int_int : Nat := 159
abbrev t_unsafe_Pointer : Nat := 160
instance : Bodied Try.prog 3 := bodied_of Try.func3 (by kernel_rfl) rfl -- entrepot/entrepotlaw21.HoldScript
instance : Bodied Try.prog 4 := bodied_of Try.func4 (by kernel_rfl) rfl -- entrepot/entrepotlaw21.HoldNone
instance : Bodied Try.prog 5 := bodied_of Try.func5 (by kernel_rfl) rfl -- entrepot/entrepotlaw21.HoldKnown
instance : Bodied Try.prog 6 := bodied_of Try.func6 (by kernel_rfl) rfl -- entrepot/entrepotlaw21.HoldCausal
instance : Bodied Try.prog 7 := bodied_of Try.func7 (by kernel_rfl) rfl -- entrepot/entrepotlaw21.HoldLoads
instance : Bodied Try.prog 8 := bodied_of Try.func8 (by kernel_rfl) rfl -- entrepot/entrepotlaw21.Long
instance : Bodied Try.prog 9 := bodied_of Try.func9 (by kernel_rfl) rfl -- entrepot/entrepotlaw21.awake
instance : Bodied Try.prog 10 := bodied_of Try.func10 (by kernel_rfl) rfl -- entrepot/hold.New
instance : Bodied Try.prog 11 := bodied_of Try.func11 (by kernel_rfl) rfl -- entrepot/entrepotref21.New
instance : Bodied Try.prog 12 := bodied_of Try.func12 (by kernel_rfl) rfl -- entrepot/entrepotlaw21.acted
instance : Bodied Try.prog 13 := bodied_of Try.func13 (by kernel_rfl) rfl -- entrepot/entrepotlaw21.stands
instance : Bodied Try.prog 14 := bodied_of Try.func14 (by kernel_rfl) rfl -- entrepot/entrepotkit.LongEvent
instance : Bodied Try.prog 15 := bodied_of Try.func15 (by kernel_rfl) rfl -- (*entrepot/hold.Queue).Add
instance : Bodied Try.prog 16 := bodied_of Try.func16 (by kernel_rfl) rfl -- (*entrepot/hold.Queue).Deliver
instance : Bodied Try.prog 17 := bodied_of Try.func17 (by kernel_rfl) rfl -- (*entrepot/hold.Queue).Own
instance : Bodied Try.prog 18 := bodied_of Try.func18 (by kernel_rfl) rfl -- (*entrepot/hold.Queue).Holds
instance : Bodied Try.prog 19 := bodied_of Try.func19 (by kernel_rfl) rfl -- entrepot/entrepotkit.SameEvent
instance : Bodied Try.prog 20 := bodied_of Try.func20 (by kernel_rfl) rfl -- (*entrepot/hold.Queue).Vector
instance : Bodied Try.prog 21 := bodied_of Try.func21 (by kernel_rfl) rfl -- (*entrepot/hold.Queue).Held
instance : Bodied Try.prog 22 := bodied_of Try.func22 (by kernel_rfl) rfl -- (*entrepot/hold.Queue).Ripe
instance : Bodied Try.prog 23 := bodied_of Try.func23 (by kernel_rfl) rfl -- entrepot/entrepotlaw21.one
instance : Bodied Try.prog 24 := bodied_of Try.func24 (by kernel_rfl) rfl -- entrepot/entrepotlaw21.adds
instance : Bodied Try.prog 25 := bodied_of Try.func25 (by kernel_rfl) rfl -- entrepot/entrepotlaw21.at
instance : Bodied Try.prog 26 := bodied_of Try.func26 (by kernel_rfl) rfl -- entrepot/entrepotlaw21.takes
instance : Bodied Try.prog 27 := bodied_of Try.func27 (by kernel_rfl) rfl -- entrepot/entrepotkit.SameInts
instance : Bodied Try.prog 28 := bodied_of Try.func28 (by kernel_rfl) rfl -- entrepot/entrepotkit.Pick
instance : Bodied Try.prog 29 := bodied_of Try.func29 (by kernel_rfl) rfl -- entrepot/entrepotlaw21.made
instance : Bodied Try.prog 30 := bodied_of Try.func30 (by kernel_rfl) rfl -- entrepot/entrepotlaw21.drained
instance : Bodied Try.prog 31 := bodied_of Try.func31 (by kernel_rfl) rfl -- entrepot/vector.With
instance : Bodied Try.prog 32 := bodied_of Try.func32 (by kernel_rfl) rfl -- entrepot/event.Needs
instance : Bodied Try.prog 33 := bodied_of Try.func33 (by kernel_rfl) rfl -- entrepot/entrepotkit.LongWaiting
instance : Bodied Try.prog 34 := bodied_of Try.func34 (by kernel_rfl) rfl -- entrepot/entrepotkit.CopyInts
instance : Bodied Try.prog 35 := bodied_of Try.func35 (by kernel_rfl) rfl -- entrepot/entrepotkit.CopyWaiting
instance : Bodied Try.prog 36 := bodied_of Try.func36 (by kernel_rfl) rfl -- entrepot/hold.Load
instance : Bodied Try.prog 37 := bodied_of Try.func37 (by kernel_rfl) rfl -- entrepot/entrepotref21.Load
instance : Bodied Try.prog 38 := bodied_of Try.func38 (by kernel_rfl) rfl -- entrepot/entrepotkit.SameWaiting
instance : Bodied Try.prog 39 := bodied_of Try.func39 (by kernel_rfl) rfl -- entrepot/entrepotkit.OverInts
instance : Bodied Try.prog 40 := bodied_of Try.func40 (by kernel_rfl) rfl -- entrepot/entrepotkit.OverWaiting
instance : Bodied Try.prog 41 := bodied_of Try.func41 (by kernel_rfl) rfl -- entrepot/entrepotkit.LongEvents
instance : Bodied Try.prog 42 := bodied_of Try.func42 (by kernel_rfl) rfl -- entrepot/entrepotkit.CopyEvent
instance : Bodied Try.prog 43 := bodied_of Try.func43 (by kernel_rfl) rfl -- (*entrepot/entrepotref21.Queue).Add
instance : Bodied Try.prog 44 := bodied_of Try.func44 (by kernel_rfl) rfl -- entrepot/entrepotkit.OverEvents
instance : Bodied Try.prog 45 := bodied_of Try.func45 (by kernel_rfl) rfl -- entrepot/entrepotlaw21.delivers
instance : Bodied Try.prog 46 := bodied_of Try.func46 (by kernel_rfl) rfl -- (*entrepot/entrepotref21.Queue).Own
instance : Bodied Try.prog 47 := bodied_of Try.func47 (by kernel_rfl) rfl -- (*entrepot/entrepotref21.Queue).Ripe
instance : Bodied Try.prog 48 := bodied_of Try.func48 (by kernel_rfl) rfl -- (*entrepot/entrepotref21.Queue).Holds
instance : Bodied Try.prog 49 := bodied_of Try.func49 (by kernel_rfl) rfl -- (*entrepot/entrepotref21.Queue).Held
instance : Bodied Try.prog 50 := bodied_of Try.func50 (by kernel_rfl) rfl -- entrepot/entrepotkit.SameDots
instance : Bodied Try.prog 51 := bodied_of Try.func51 (by kernel_rfl) rfl -- entrepot/entrepotkit.OverDots
instance : Bodied Try.prog 52 := bodied_of Try.func52 (by kernel_rfl) rfl -- (*entrepot/hold.Queue).none
instance : Bodied Try.prog 53 := bodied_of Try.func53 (by kernel_rfl) rfl -- (*entrepot/hold.Queue).fits
instance : Bodied Try.prog 54 := bodied_of Try.func54 (by kernel_rfl) rfl -- entrepot/vector.Has
instance : Bodied Try.prog 55 := bodied_of Try.func55 (by kernel_rfl) rfl -- (*entrepot/hold.Queue).hold
instance : Bodied Try.prog 56 := bodied_of Try.func56 (by kernel_rfl) rfl -- (*entrepot/hold.Queue).ripe
instance : Bodied Try.prog 57 := bodied_of Try.func57 (by kernel_rfl) rfl -- container/heap.Remove
instance : Bodied Try.prog 58 := bodied_of Try.func58 (by kernel_rfl) rfl -- slices.Index[entrepot/hold.waiting,*entrepot/api.Waiting]
instance : Bodied Try.prog 59 := bodied_of Try.func59 (by kernel_rfl) rfl -- entrepot/vector.Next
instance : Bodied Try.prog 60 := bodied_of Try.func60 (by kernel_rfl) rfl -- entrepot/hold.own
instance : Bodied Try.prog 61 := bodied_of Try.func61 (by kernel_rfl) rfl -- entrepot/entrepotkit.SameIDs
instance : Bodied Try.prog 62 := bodied_of Try.func62 (by kernel_rfl) rfl -- slices.Clone[[]int,int]
instance : Bodied Try.prog 63 := bodied_of Try.func63 (by kernel_rfl) rfl -- (entrepot/hold.waiting).drained
instance : Bodied Try.prog 64 := bodied_of Try.func64 (by kernel_rfl) rfl -- entrepot/vector.Join
instance : Bodied Try.prog 65 := bodied_of Try.func65 (by kernel_rfl) rfl -- entrepot/vector.Leq
instance : Bodied Try.prog 66 := bodied_of Try.func66 (by kernel_rfl) rfl -- entrepot/vector.At
instance : Bodied Try.prog 67 := bodied_of Try.func67 (by kernel_rfl) rfl -- entrepot/hold.numbers
instance : Bodied Try.prog 68 := bodied_of Try.func68 (by kernel_rfl) rfl -- entrepot/entrepotref21.vector
instance : Bodied Try.prog 69 := bodied_of Try.func69 (by kernel_rfl) rfl -- entrepot/entrepotref21.fits
instance : Bodied Try.prog 70 := bodied_of Try.func70 (by kernel_rfl) rfl -- entrepot/entrepotref14.Has
instance : Bodied Try.prog 71 := bodied_of Try.func71 (by kernel_rfl) rfl -- (*entrepot/entrepotref21.Queue).lay
instance : Bodied Try.prog 72 := bodied_of Try.func72 (by kernel_rfl) rfl -- (*entrepot/entrepotref21.Queue).place
instance : Bodied Try.prog 73 := bodied_of Try.func73 (by kernel_rfl) rfl -- entrepot/entrepotkit.OverIDs
instance : Bodied Try.prog 74 := bodied_of Try.func74 (by kernel_rfl) rfl -- (*entrepot/entrepotref21.Queue).Deliver
instance : Bodied Try.prog 75 := bodied_of Try.func75 (by kernel_rfl) rfl -- entrepot/entrepotref14.Leq
instance : Bodied Try.prog 76 := bodied_of Try.func76 (by kernel_rfl) rfl -- container/heap.Push
instance : Bodied Try.prog 77 := bodied_of Try.func77 (by kernel_rfl) rfl -- container/heap.down
instance : Bodied Try.prog 78 := bodied_of Try.func78 (by kernel_rfl) rfl -- container/heap.up
instance : Bodied Try.prog 79 := bodied_of Try.func79 (by kernel_rfl) rfl -- slices.Clone[[]entrepot/api.ID,entrepot/api.ID]
instance : Bodied Try.prog 80 := bodied_of Try.func80 (by kernel_rfl) rfl -- slices.Clone[entrepot/hold.waiting,*entrepot/api.Waiting]
instance : Bodied Try.prog 81 := bodied_of Try.func81 (by kernel_rfl) rfl -- (entrepot/hold.waiting).Len
instance : Bodied Try.prog 82 := bodied_of Try.func82 (by kernel_rfl) rfl -- container/heap.Pop
instance : Bodied Try.prog 83 := bodied_of Try.func83 (by kernel_rfl) rfl -- entrepot/vector.picked
instance : Bodied Try.prog 84 := bodied_of Try.func84 (by kernel_rfl) rfl -- entrepot/vector.Join$1
instance : Bodied Try.prog 85 := bodied_of Try.func85 (by kernel_rfl) rfl -- entrepot/vector.fold[bool]
instance : Bodied Try.prog 86 := bodied_of Try.func86 (by kernel_rfl) rfl -- entrepot/vector.sides
instance : Bodied Try.prog 87 := bodied_of Try.func87 (by kernel_rfl) rfl -- entrepot/vector.Leq$1
instance : Bodied Try.prog 88 := bodied_of Try.func88 (by kernel_rfl) rfl -- slices.ContainsFunc[[]int,int]
instance : Bodied Try.prog 89 := bodied_of Try.func89 (by kernel_rfl) rfl -- entrepot/hold.numbers$1
instance : Bodied Try.prog 90 := bodied_of Try.func90 (by kernel_rfl) rfl -- entrepot/entrepotref14.At
instance : Bodied Try.prog 91 := bodied_of Try.func91 (by kernel_rfl) rfl -- entrepot/entrepotref19.Less
instance : Bodied Try.prog 92 := bodied_of Try.func92 (by kernel_rfl) rfl -- entrepot/vector.fold[[]int]
instance : Bodied Try.prog 93 := bodied_of Try.func93 (by kernel_rfl) rfl -- entrepot/vector.picked$1
instance : Bodied Try.prog 94 := bodied_of Try.func94 (by kernel_rfl) rfl -- entrepot/vector.sides$1
instance : Bodied Try.prog 95 := bodied_of Try.func95 (by kernel_rfl) rfl -- slices.IndexFunc[[]int,int]
instance : Bodied Try.prog 96 := bodied_of Try.func96 (by kernel_rfl) rfl -- entrepot/entrepotref14.Less
instance : Bodied Try.prog 97 := bodied_of Try.func97 (by kernel_rfl) rfl -- entrepot/entrepotref14.Weight
instance : Bodied Try.prog 115 := bodied_of Try.func115 (by kernel_rfl) rfl -- (entrepot/hold.waiting).Less
instance : Bodied Try.prog 116 := bodied_of Try.func116 (by kernel_rfl) rfl -- (entrepot/hold.waiting).Swap
instance : Bodied Try.prog 117 := bodied_of Try.func117 (by kernel_rfl) rfl -- entrepot/event.Less
instance : Bodied Try.prog 118 := bodied_of Try.func118 (by kernel_rfl) rfl -- entrepot/vector.Less
instance : Bodied Try.prog 119 := bodied_of Try.func119 (by kernel_rfl) rfl -- entrepot/vector.Weight
instance : Bodied Try.prog 120 := bodied_of Try.func120 (by kernel_rfl) rfl -- slices.CompareFunc[[]int,[]int,int,int]
instance : Bodied Try.prog 121 := bodied_of Try.func121 (by kernel_rfl) rfl -- cmp.Compare[int]
instance : Bodied Try.prog 122 := bodied_of Try.func122 (by kernel_rfl) rfl -- entrepot/vector.fold[int]
instance : Bodied Try.prog 123 := bodied_of Try.func123 (by kernel_rfl) rfl -- entrepot/vector.Weight$1
instance : Bodied Try.prog 124 := bodied_of Try.func124 (by kernel_rfl) rfl -- cmp.isNaN[int]
instance : Bodied Try.prog 125 := bodied_of Try.func125 (by kernel_rfl) rfl -- (*entrepot/hold.waiting).Pop
instance : Bodied Try.prog 126 := bodied_of Try.func126 (by kernel_rfl) rfl -- (*entrepot/hold.waiting).Push
end Go.Proofs.Ytgkhflcpbjlmiaa
/- What the helpers on lists of integers do: two lists are the same; a list is copied; a list is written over. Conditions: the lists may be read. -/
namespace Go.Proofs.Ytgkhflcpbjlmiaa
open Go.Eng Go.RowKit

theorem take_step {α : Type} [DecidableEq α] {xs ys : List α} {k : Nat} (h1 : k < xs.length) (h2 : k < ys.length) (hl : xs.length = ys.length) (ht : xs.take k = ys.take k) :
    decide (xs[k] = ys[k]) = decide (xs.length = ys.length ∧ xs.take (k + 1) = ys.take (k + 1)) := by
  have e1 := List.take_succ_eq_append_getElem h1
  have e2 := List.take_succ_eq_append_getElem h2
  rw [e1, e2, ht]
  simp only [List.append_cancel_left_eq, List.cons.injEq, and_true, hl, true_and]

theorem SameInts_spec {va vb : Value} {xs ys : List Int} {w : World} (ha : IL w va xs) (hb : IL w vb ys) :
    Calls Try.prog n_entrepotkit_SameInts #[va, vb] w fun e w' => e = .returned (.bool (decide (xs = ys))) ∧ Ext w w' := by
  obtain ⟨A, c, rfl, hnc, hcm, hz, hcell⟩ := ha.op
  obtain ⟨A', c', rfl, hnc', hcm', hz', hcell'⟩ := hb.op
  refine enter2 F_entrepotkit_SameInts rfl rfl ?_
  repeat (first | refine o_p rfl rfl rfl ?_ | refine on ?_ | refine sr ?_ | refine ss ?_)
  refine cw_block (cw_loop (G := Nat × Bool) (fun g => [(0, .slice A xs.length c), (1, .slice A' ys.length c'), (5, .bool g.2), (6, .int .i64 (g.1 : Int))])
    (fun g W => Ext w W ∧ g.1 ≤ xs.length ∧ g.2 = decide (xs.length = ys.length ∧ xs.take g.1 = ys.take g.1)) (fun g => xs.length - g.1) ?_ ?_)
  · exact ⟨(0, decide ((xs.length : Int) = ys.length)), ⟨rfl, rfl, rfl, rfl, trivial⟩, Fr.refl _ _, Nat.zero_le _, by simp; omega⟩
  rintro ⟨k, b⟩ W ⟨hE, hk, hb0⟩
  dsimp only at hk hb0 ⊢
  repeat (first | refine o_p rfl rfl rfl ?_ | refine on ?_ | refine sr ?_ | refine ss ?_)
  refine o_split 13 rfl (fun h1 => ?_) (fun h1 => ?_)
  · repeat refine o_p rfl rfl rfl ?_
    rw [h1] at hb0
    have hb1 := of_decide_eq_true hb0.symm
    refine on (cw_if rfl (fun h2 => cw_skip (pn_then (cw_seq (cw_block ?_)))) (fun h2 => cw_exit (pn_then_exit (pn_loop_exit (pn_block_exit (pn_then ?_))))))
    · obtain ⟨bk, off, rfl, hbk, hc⟩ := hcell k (by omega)
      obtain ⟨bk', off', rfl, hbk', hc'⟩ := hcell' k (by omega)
      have hck := hc k (by omega)
      have hck' := hc' k (by omega)
      refine cw_draw flo (fun W' => Ext w W') (by decide) (hE.trans (Fr.drew _)) ?_
      repeat refine d_p rfl rfl rfl rfl ?_
      refine d_ix k rfl rfl rfl rfl rfl (by omega) ?_
      refine dw_rd rfl rfl (fun W' hW' => ex_load rfl rfl rfl (hW'.cell hck)) rfl ?_
      repeat refine d_p rfl rfl rfl rfl ?_
      refine d_ix k rfl rfl rfl rfl rfl (by omega) ?_
      refine dw_rd rfl rfl (fun W' hW' => ex_load rfl rfl rfl (hW'.cell hck')) rfl ?_
      repeat refine d_p rfl rfl rfl rfl ?_
      refine dw_nil (pn_block (pn_then (cw_region ?_)))
      refine o_p rfl rfl rfl ?_
      refine o_c rfl rfl rfl (by unfold I64; omega) ?_
      repeat refine o_p rfl rfl rfl ?_
      refine ow_nil (pn_round (k + 1, decide (xs[k] = ys[k])) ?_ ?_ ?_)
      · exact ⟨rfl, rfl, rfl, rfl, trivial⟩
      · exact ⟨hE.trans (Fr.drew _), by simp only; omega, take_step (by omega) (by omega) hb1.1 hb1.2⟩
      · simp only; omega
    · repeat (first | refine o_p rfl rfl rfl ?_ | refine on ?_ | refine sr ?_ | refine ss ?_)
      refine cw_ret (pn_ret rfl rfl ⟨?_, hE⟩)
      obtain rfl : k = xs.length := by omega
      have h3 := hb1.2
      rw [List.take_of_length_le (Nat.le_refl _), List.take_of_length_le (by omega)] at h3
      rw [h1, decide_eq_true h3]
  · repeat refine ow_skip rfl rfl ?_
    repeat refine o_p rfl rfl rfl ?_
    refine on (cw_cond_f rfl (cw_exit (pn_then_exit (pn_loop_exit (pn_block_exit (pn_then ?_))))))
    repeat (first | refine o_p rfl rfl rfl ?_ | refine on ?_ | refine sr ?_ | refine ss ?_)
    refine cw_ret (pn_ret rfl rfl ⟨?_, hE⟩)
    rw [h1] at hb0
    have h3 := of_decide_eq_false hb0.symm
    rw [h1, decide_eq_false (fun e => h3 (by subst e; simp))]

theorem ints_one {xs : List Int} : ∀ u ∈ xs.map (Value.int .i64), u.oneCell' = true := by
  intro u hu
  obtain ⟨x, _, rfl⟩ := List.mem_map.1 hu
  rfl

/-- A copy: new memory. -/
theorem CopyInts_spec {va : Value} {xs : List Int} {w : World} (ha : IL w va xs) (hlen : xs.length ≤ 1048576) :
    Calls Try.prog n_entrepotkit_CopyInts #[va] w fun e w' => ∃ v, e = .returned v ∧ Mine w' w.heap.size t_int 1 v xs.length (xs.map (Value.int .i64)) ∧ Ext w w' := by
  refine enter1 F_entrepotkit_CopyInts rfl rfl ?_
  repeat (first | refine o_p rfl rfl rfl ?_ | refine on ?_ | refine sr ?_ | refine ss ?_)
  refine ow_ex rfl (ex_buildSlice (vs := []) (cells := []) rfl rfl rfl rfl (by decide) (fun z hz => by simp at hz; subst hz; rfl)) rfl ?_
  refine o_p rfl rfl rfl ?_
  have own0 : Mine (w.alloc (.cells #[] t_int)) w.heap.size t_int 1 (.slice (some ⟨w.heap.size, 0, none⟩) 0 0) 0 [] := World.ownsRow_made w #[] 0 (Nat.le_refl _) (by decide) (by rfl)
  refine ow_append rfl rfl rfl rfl rfl rfl rfl rfl own0 (ha.ext (Fr.alloc _ _)) ints_one (by omega) (by simp) ?_
  intro v' w' own fr
  refine o_p rfl rfl rfl ?_
  refine on (cw_ret (pn_ret rfl rfl ⟨_, rfl, by simpa using own, ?_⟩))
  exact Fr.trans' (Fr.alloc _ _) fr (by intro j hj h; simp [Value.ownBlock] at h; omega)

/-- What the call owns is written over: nothing else turns. -/
theorem OverInts_spec {va : Value} {n base : Nat} {cs : List Value} {w : World} (ha : Mine w base t_int 1 va n cs) :
    Calls Try.prog n_entrepotkit_OverInts #[va] w fun e w' => (∃ v, e = .returned v) ∧ Fr (fun k => va.ownBlock = some k) w w' := by
  have hf : ∃ A c, va = .slice A n c ∧ n ≤ 9223372036854775807 ∧ ∀ i : Nat, i < n → ∃ g cur, A = some ⟨g, 0, none⟩ ∧ w.heap[g]? = some (.cells cur t_int (0, 0)) ∧ n ≤ cur.size := by
    rcases ha.2 with ⟨rfl, rfl⟩ | ⟨g, cap, cur, rfl, hb, hh, hn, hc, hcur, htake⟩
    · exact ⟨none, 0, rfl, by omega, fun i hi => by omega⟩
    · exact ⟨_, cap, rfl, by unfold maxLen at hc; omega, fun i hi => ⟨g, cur, rfl, hh, by omega⟩⟩
  obtain ⟨A, c, rfl, hn, hA⟩ := hf
  refine enter1 F_entrepotkit_OverInts rfl rfl ?_
  repeat (first | refine o_p rfl rfl rfl ?_ | refine on ?_ | refine sr ?_ | refine ss ?_)
  refine cw_block (cw_loop (G := Nat) (fun g => [(0, .slice A n c), (2, .int .i64 (g : Int))])
    (fun k W => k ≤ n ∧ Fr (fun j => Value.ownBlock (.slice A n c) = some j) w W ∧ ∀ i : Nat, i < n → ∃ g cur, A = some ⟨g, 0, none⟩ ∧ W.heap[g]? = some (.cells cur t_int (0, 0)) ∧ n ≤ cur.size) (fun k => n - k) ?_ ?_)
  · exact ⟨0, ⟨rfl, rfl, trivial⟩, Nat.zero_le _, Fr.refl _ _, hA⟩
  rintro k W ⟨hk, hE, hJ⟩
  try dsimp only
  repeat (first | refine o_p rfl rfl rfl ?_ | refine on ?_ | refine sr ?_ | refine ss ?_)
  refine cw_if rfl (fun h => ?_) (fun h => ?_)  -- IF t6
  · obtain ⟨g, cur, rfl, hh, hcur⟩ := hJ k (by omega)
    have hcell := cell_of_row W g k cur t_int (0, 0) hh
    have hkc : k < cur.size := by omega
    obtain ⟨u, hu⟩ : ∃ u, cur[k]? = some u := ⟨_, Array.getElem?_eq_getElem hkc⟩
    rw [hu] at hcell
    have hfr : W.frozen? ⟨g, k, none⟩ = false := frozen_of_row W g k cur t_int hh
    have h0 : 0 + k = k := Nat.zero_add k
    rw [← h0] at hcell hfr
    refine cw_skip (pn_then (cw_seq (cw_block (cw_region ?_))))
    repeat refine o_p rfl rfl rfl ?_
    refine o_ix k rfl rfl rfl (by omega) (by omega) ?_
    refine ow_eu rfl (eu_store rfl rfl rfl rfl rfl hcell hfr) ?_
    refine ow_nil (pn_block (pn_then (cw_region ?_)))
    repeat refine o_p rfl rfl rfl ?_
    refine o_c rfl rfl rfl (by unfold I64; omega) ?_
    repeat refine o_p rfl rfl rfl ?_
    refine ow_nil (pn_round (k + 1) ?_ ?_ ?_)
    · exact ⟨rfl, rfl, trivial⟩
    · refine ⟨by omega, hE.trans' (Fr.setCell _ _ _) (fun j _ hj => by subst hj; rfl), fun i hi => ⟨g, _, rfl, heap_setCell_same _ _ _ _ _ _ hh, ?_⟩⟩
      simpa using hcur
    · show n - (k + 1) < n - k; omega
  · exact cw_exit (pn_then_exit (pn_loop_exit (pn_block_exit (pn_end0 rfl ⟨⟨_, rfl⟩, hE⟩))))

end Go.Proofs.Ytgkhflcpbjlmiaa
/- Vectors, part one: what the walks of package vector's inner functions come to: a region's number, the numbers of two vectors side by side, a fold over them. Conditions: the vectors may be read. -/
namespace Go.Proofs.Ytgkhflcpbjlmiaa
open Go.Eng Go.RowKit

/-- The number of the region i + 1. -/
def nn (xs : List Int) (i : Nat) : Int := max (xs.getD i 0) 0
def atL (xs : List Int) (r : Int) : Int := if 1 ≤ r ∧ r ≤ xs.length then nn xs (r - 1).toNat else 0

theorem nn_in {xs : List Int} {i : Nat} (h : i < xs.length) : nn xs i = max xs[i] 0 := by
  unfold nn
  rw [List.getD_eq_getElem?_getD, List.getElem?_eq_getElem h]
  rfl
theorem nn_out {xs : List Int} {i : Nat} (h : xs.length ≤ i) : nn xs i = 0 := by
  unfold nn
  rw [List.getD_eq_getElem?_getD, List.getElem?_eq_none h]
  rfl
theorem atL_succ (xs : List Int) (i : Nat) : atL xs ((i : Int) + 1) = nn xs i := by
  unfold atL
  by_cases h : i < xs.length
  · rw [if_pos (by omega)]
    congr 1
    omega
  · rw [if_neg (by omega), nn_out (by omega)]

theorem At_spec_vector_At {v : Value} {xs : List Int} {r : Int} {w : World} (hv : IL w v xs) :
    Calls Try.prog n_vector_At #[v, .int .i64 r] w fun e w' => e = .returned (.int .i64 (atL xs r)) ∧ w = w' := by
  obtain ⟨A, c, rfl, hnc, hcm, hz, hcell⟩ := hv.op
  refine enter2 F_vector_At rfl rfl ?_
  refine sr ?_
  refine o_p rfl rfl rfl ?_
  refine on ?_
  refine cw_seq (sr ?_)
  repeat refine o_p rfl rfl rfl ?_
  refine o_if 7 rfl (fun h1 => ?_) (fun h1 => ?_)
  · repeat refine ow_skip rfl rfl ?_
    repeat refine o_p rfl rfl rfl ?_
    refine on (cw_cond_t rfl (sr ?_))
    repeat refine o_p rfl rfl rfl ?_
    refine on (cw_ret (pn_then_ret (pn_ret rfl rfl ⟨?_, rfl⟩)))
    rw [atL, if_neg (by omega)]
  · repeat refine o_p rfl rfl rfl ?_
    refine on (cw_if rfl (fun h2 => sr ?_) (fun h2 => cw_skip (pn_then (sr ?_))))
    · repeat refine o_p rfl rfl rfl ?_
      refine on (cw_ret (pn_then_ret (pn_ret rfl rfl ⟨?_, rfl⟩)))
      rw [atL, if_neg (by omega)]
    · obtain ⟨b, off, rfl, hb, hc⟩ := hcell 0 (by omega)
      have hlt : (r - 1).toNat < xs.length := by omega
      have hck := hc (r - 1).toNat hlt
      repeat refine o_p rfl rfl rfl ?_
      refine o_c rfl rfl rfl (by unfold I64; omega) ?_
      refine o_ix (r - 1).toNat rfl rfl rfl (by omega) hlt ?_
      refine ow_ex rfl (ex_load rfl rfl rfl hck) rfl ?_
      repeat refine o_p rfl rfl rfl ?_
      refine on (cw_ret (pn_ret rfl rfl ⟨?_, rfl⟩))
      rw [atL, if_pos (by omega), nn_in hlt]

theorem At_spec_entrepotref14_At {v : Value} {xs : List Int} {r : Int} {w : World} (hv : IL w v xs) :
    Calls Try.prog n_entrepotref14_At #[v, .int .i64 r] w fun e w' => e = .returned (.int .i64 (atL xs r)) ∧ w = w' := by
  obtain ⟨A, c, rfl, hnc, hcm, hz, hcell⟩ := hv.op
  refine enter2 F_entrepotref14_At rfl rfl ?_
  refine sr ?_
  refine o_p rfl rfl rfl ?_
  refine on ?_
  refine cw_seq (sr ?_)
  repeat refine o_p rfl rfl rfl ?_
  refine o_if 7 rfl (fun h1 => ?_) (fun h1 => ?_)
  · repeat refine ow_skip rfl rfl ?_
    repeat refine o_p rfl rfl rfl ?_
    refine on (cw_cond_t rfl (sr ?_))
    repeat refine o_p rfl rfl rfl ?_
    refine on (cw_ret (pn_then_ret (pn_ret rfl rfl ⟨?_, rfl⟩)))
    rw [atL, if_neg (by omega)]
  · repeat refine o_p rfl rfl rfl ?_
    refine on (cw_if rfl (fun h2 => sr ?_) (fun h2 => cw_skip (pn_then (sr ?_))))
    · repeat refine o_p rfl rfl rfl ?_
      refine on (cw_ret (pn_then_ret (pn_ret rfl rfl ⟨?_, rfl⟩)))
      rw [atL, if_neg (by omega)]
    · obtain ⟨b, off, rfl, hb, hc⟩ := hcell 0 (by omega)
      have hlt : (r - 1).toNat < xs.length := by omega
      have hck := hc (r - 1).toNat hlt
      repeat refine o_p rfl rfl rfl ?_
      refine o_c rfl rfl rfl (by unfold I64; omega) ?_
      refine o_ix (r - 1).toNat rfl rfl rfl (by omega) hlt ?_
      refine ow_ex rfl (ex_load rfl rfl rfl hck) rfl ?_
      repeat refine o_p rfl rfl rfl ?_
      refine on (cw_ret (pn_ret rfl rfl ⟨?_, rfl⟩))
      rw [atL, if_pos (by omega), nn_in hlt]

abbrev pbox (b : Nat) : Value := .pointer (some ⟨b, 0, none⟩)

/-- The numbers of both, side by side: each pair is handed to yield, in turn. -/
theorem sides_1_spec {l b1 b2 : Nat} {va vb : Value} {xs ys : List Int} {We W : World} (J : Nat → World → Prop) (h1 : We.cell? ⟨b1, 0, none⟩ = some va) (h2 : We.cell? ⟨b2, 0, none⟩ = some vb)
    (ha : IL We va xs) (hb : IL We vb ys) (hE : ∀ i W, J i W → Ext We W) (hst : ∀ i W W', J i W → Ext W W' → J i W')
    (hY : ∀ i, i < max xs.length ys.length → ∀ W, J i W → Yld Try.prog l #[.int .i64 (nn xs i), .int .i64 (nn ys i)] W fun e W' => e = .returned (.bool true) ∧ J (i + 1) W') (h0 : J 0 W) :
    Calls Try.prog n_vector_sides_1 #[.func (.yield l) #[] #[], pbox b1, pbox b2] W fun e W' => (∃ v, e = .returned v) ∧ J (max xs.length ys.length) W' := by
  obtain ⟨A, c, rfl, hnc, hcm, hz, hcell⟩ := ha.op
  obtain ⟨A', c', rfl, hnc', hcm', hz', hcell'⟩ := hb.op
  refine enter3 F_vector_sides_1 rfl rfl ?_
  refine (cw_seq (cw_region ?_))
  refine ow_ex rfl (ex_load rfl rfl rfl ((hE _ _ h0).cell h1)) rfl ?_
  repeat refine o_p rfl rfl rfl ?_
  refine ow_ex rfl (ex_load rfl rfl rfl ((hE _ _ h0).cell h2)) rfl ?_
  repeat refine o_p rfl rfl rfl ?_
  have hmax : max (xs.length : Int) (ys.length : Int) = ((max xs.length ys.length : Nat) : Int) := by omega
  refine (ow_nil (pn_then (cw_block (cw_loop (G := Nat) (fun i => [(0, .func (.yield l) #[] #[]), (1, pbox b1), (2, pbox b2), (9, .int .i64 ((max xs.length ys.length : Nat) : Int)), (10, .int .i64 (i : Int))])
    (fun i W => J i W ∧ i ≤ max xs.length ys.length) (fun i => max xs.length ys.length - i) ?_ ?_))))
  · exact ⟨0, ⟨rfl, rfl, rfl, by rw [← hmax]; rfl, rfl, trivial⟩, h0, by omega⟩
  rintro i W ⟨hJ, hi⟩
  refine (cw_seq (cw_region ?_))
  repeat refine o_p rfl rfl rfl ?_
  refine (ow_nil (pn_then (cw_seq (cw_if rfl (fun h => ?_) (fun h => ?_)))))  -- IF t11
  · refine (cw_skip (pn_then (cw_seq (cw_block (cw_seq (cw_region ?_))))))
    repeat refine o_p rfl rfl rfl ?_
    have hJd := hst _ _ _ hJ (Fr.drew W)
    have hEd := hE _ _ hJd
    refine (ow_nil (pn_then (cw_seq (cw_draw flo (fun W' => Ext We W') (by decide) hEd ?_))))
    repeat refine d_p rfl rfl rfl rfl ?_
    refine dw_rd rfl rfl (fun W' hW' => ex_load rfl rfl rfl (hW'.cell h1)) rfl ?_
    repeat refine d_p rfl rfl rfl rfl ?_
    refine d_c rfl rfl rfl rfl (by unfold I64; omega) ?_
    refine dw_call rfl rfl (ec_call rfl) rfl ((At_spec_vector_At (ha.ext hEd)).mono ?_)
    rintro _ w1 ⟨rfl, rfl⟩; refine ⟨_, rfl, hEd, ?_⟩
    rw [atL_succ]
    refine dw_rd rfl rfl (fun W' hW' => ex_load rfl rfl rfl (hW'.cell h2)) rfl ?_
    repeat refine d_p rfl rfl rfl rfl ?_
    refine d_c rfl rfl rfl rfl (by unfold I64; omega) ?_
    refine dw_call rfl rfl (ec_call rfl) rfl ((At_spec_vector_At (hb.ext hEd)).mono ?_)
    rintro _ w1 ⟨rfl, rfl⟩; refine ⟨_, rfl, hEd, ?_⟩
    rw [atL_succ]
    refine dw_yield rfl rfl rfl rfl ((hY i (by omega) _ hJd).mono ?_)
    rintro _ w1 ⟨rfl, hJ1⟩; refine ⟨_, rfl, hE _ _ hJ1, ?_⟩
    repeat refine d_p rfl rfl rfl rfl ?_
    refine dw_nil (pn_then (cw_cond_f rfl (cw_skip (pn_block (pn_then (cw_region ?_))))))
    refine o_c rfl rfl rfl (by unfold I64; omega) ?_
    repeat refine o_p rfl rfl rfl ?_
    refine (ow_nil (pn_round (i + 1) ?_ ?_ ?_))
    · exact ⟨rfl, rfl, rfl, rfl, rfl, trivial⟩
    · exact ⟨hJ1, by omega⟩
    · show max xs.length ys.length - (i + 1) < max xs.length ys.length - i; omega
  · obtain rfl : i = max xs.length ys.length := by omega
    exact cw_exit (pn_then_exit (pn_loop_exit (pn_block_exit (pn_end0 rfl ⟨⟨_, rfl⟩, hJ⟩))))

/-- A value of the iterator's type. -/
theorem sides_spec {va vb : Value} {w : World} :
    Calls Try.prog n_vector_sides #[va, vb] w fun e w' => e = .returned (.func (.func n_vector_sides_1) ⟨[]⟩ ⟨[pbox w.heap.size, pbox (w.heap.size + 1)]⟩) ∧ w' = (w.alloc (.cells va.cells t_sl_int)).alloc (.cells vb.cells t_sl_int) := by
  refine enter2 F_vector_sides rfl rfl ?_
  refine (cw_seq (cw_region ?_))
  refine ow_ex rfl (ex_box rfl) rfl ?_
  refine ow_ex rfl (ex_box rfl) rfl ?_
  repeat (first | refine o_p rfl rfl rfl ?_ | refine on ?_ | refine sr ?_ | refine ss ?_)
  refine cw_ret (pn_ret rfl rfl ⟨?_, rfl⟩)
  simp

theorem fold_bool_spec {b1 b2 : Nat} {va vb : Value} {xs ys : List Int} {w : World} (I : Nat → Value → World → Prop) (g : FuncId) (gc : List Value) [Bodied Try.prog g] (v0 : Value)
    (h1 : w.cell? ⟨b1, 0, none⟩ = some va) (h2 : w.cell? ⟨b2, 0, none⟩ = some vb) (ha : IL w va xs) (hb : IL w vb ys) (hI0 : I 0 v0 w) (hone : ∀ i v W, I i v W → v.oneCell' = true)
    (hst : ∀ i v W W' S, I i v W → Fr S W W' → (∀ k, S k → w.heap.size ≤ k ∧ k < w.heap.size + 4) → I i v W')
    (hstep : ∀ i v W, i < max xs.length ys.length → I i v W → Ext w W → w.heap.size + 4 ≤ W.heap.size → Calls Try.prog g ([v, .int .i64 (nn xs i), .int .i64 (nn ys i)] ++ gc).toArray W fun e W' =>
      ∃ v', e = .returned v' ∧ I (i + 1) v' W' ∧ Fr (fun k => w.heap.size + 4 ≤ k) W W') :
    Calls Try.prog n_vector_fold_bool #[.func (.func n_vector_sides_1) ⟨[]⟩ ⟨[pbox b1, pbox b2]⟩, v0, .func (.func g) ⟨[]⟩ ⟨gc⟩] w fun e W' => ∃ v, e = .returned v ∧ I (max xs.length ys.length) v W' ∧ Ext w W' := by
  have c0 : v0.cells = #[v0] := by have := hone _ _ _ hI0; cases v0 <;> first | rfl | (simp [Value.oneCell'] at this)
  refine enterM3 F_vector_fold_bool rfl rfl ?_
  refine (cw_seq (cw_region ?_))
  refine ow_ex rfl (ex_box rfl) rfl ?_
  refine ow_ex rfl (ex_box rfl) rfl ?_
  rw [c0]
  obtain ⟨w1, hw1⟩ : ∃ w1, (w.alloc (.cells #[v0] t_bool)).alloc (.cells (Value.func (.func g) ⟨[]⟩ ⟨gc⟩).cells t_func_bool_int_int_bool) = w1 := ⟨_, rfl⟩
  have B0 : Blk w1 w.heap.size t_bool [v0] := by rw [← hw1]; exact (Blk.new w _ [v0]).ext (Fr.alloc _ _)
  have B1 : Blk w1 (w.heap.size + 1) t_func_bool_int_int_bool [.func (.func g) ⟨[]⟩ ⟨gc⟩] := by
    rw [← hw1]
    have := Blk.new (w.alloc (.cells #[v0] t_bool)) t_func_bool_int_int_bool [.func (.func g) ⟨[]⟩ ⟨gc⟩]
    rwa [World.size_alloc] at this
  have e1 : Ext w w1 := by rw [← hw1]; exact (Fr.alloc _ _).trans (Fr.alloc _ _)
  have z1 : w1.heap.size = w.heap.size + 2 := by rw [← hw1]; simp
  have I1 : I 0 v0 w1 := hst _ _ _ _ None hI0 e1 (fun k h => h.elim)
  rw [World.size_alloc, hw1]
  clear hw1
  repeat refine o_p rfl rfl rfl ?_
  refine (ow_nil (pn_then (cw_seq (cw_seq (cw_region ?_)))))
  repeat refine o_p rfl rfl rfl ?_
  refine (ow_nil (pn_then (cw_block (cw_rangeFunc rfl ?_))))
  intro r hr1 hr2 hr3 hr4 hr5 hr6 hkn
  obtain ⟨w2, hw2⟩ : ∃ w2, (w1.alloc (.deferred (some []))).alloc (.loop r) = w2 := ⟨_, rfl⟩
  have e2 : Ext w1 w2 := by rw [← hw2]; exact (Fr.alloc _ _).trans (Fr.alloc _ _)
  have D2 : w2.heap[w.heap.size + 2]? = some (.deferred (some [])) := by
    rw [← hw2, ← z1]; exact (Below.heap_alloc _ _ _ (by simp)).trans (World.alloc_heap_new w1 _)
  have L2 : w2.heap[w.heap.size + 3]? = some (.loop r) := by
    rw [← hw2]; have := World.alloc_heap_new (w1.alloc (.deferred (some []))) (.loop r); rwa [World.size_alloc, z1] at this
  have z2 : w2.heap.size = w.heap.size + 4 := by rw [← hw2]; simp [z1]
  rw [hw2]
  rw [z1]
  let J : Nat → World → Prop := fun i W => ∃ v, Blk W w.heap.size t_bool [v] ∧ Blk W (w.heap.size + 1) t_func_bool_int_int_bool [.func (.func g) ⟨[]⟩ ⟨gc⟩] ∧ I i v W ∧ W.heap[w.heap.size + 2]? = some (.deferred (some [])) ∧
    W.heap[w.heap.size + 3]? = some (.loop r) ∧ Ext w W ∧ w.heap.size + 4 ≤ W.heap.size
  have hJ0 : J 0 w2 := ⟨v0, B0.ext e2, B1.ext e2, hst _ _ _ _ None I1 e2 (fun k h => h.elim), D2, L2, e1.trans e2, by omega⟩
  refine (sides_1_spec J h1 h2 ha hb (fun i W ⟨v, _, _, _, _, _, h, _⟩ => h) ?_ ?_ hJ0).mono ?_
  · rintro i W W' ⟨v, hb0, hb1, hI, hD, hL, hE, hz⟩ hW
    exact ⟨v, hb0.ext hW, hb1.ext hW, hst _ _ _ _ None hI hW (fun k h => h.elim), (hW.blk (by omega)).trans hD, (hW.blk (by omega)).trans hL, hE.trans hW, Nat.le_trans hz hW.size⟩
  · rintro i hi W ⟨v, hb0, hb1, hI, hD, hL, hE, hz⟩
    -- A ROUND
    refine yield_of hL (by rw [hr3]; rfl) (by rw [hr3]; decide) hkn ?_
    rw [hr3, hr4, hr5]
    refine (cw_seq (cw_region ?_))
    repeat refine o_p rfl rfl rfl ?_
    refine (ow_nil (pn_then (cw_region ?_)))
    repeat refine o_p rfl rfl rfl ?_
    refine (ow_nil (pn_asg hL hr1 ?_))
    obtain ⟨W1, hW1⟩ : ∃ W1, W.putObj (w.heap.size + 3) (.loop { r with state := .busy }) = W1 := ⟨_, rfl⟩
    have f1 : Fr (· = w.heap.size + 3) W W1 := by rw [← hW1]; exact Fr.putObj _ _ _
    have hL1 : W1.heap[w.heap.size + 3]? = some (.loop { r with state := .busy }) := by rw [← hW1]; exact World.putObj_heap_same (by omega)
    have hb0' := hb0.fr f1 (by omega)
    have hb1' := hb1.fr f1 (by omega)
    have hI' := hst _ _ _ _ _ hI f1 (fun k h => by omega)
    have hD' := (f1.keep (w.heap.size + 2) (by omega) (by omega)).trans hD
    have hE' : Ext w W1 := hE.trans' f1 (fun j hj h => by omega)
    have hz' : w.heap.size + 4 ≤ W1.heap.size := Nat.le_trans hz f1.size
    rw [hW1]
    refine (cw_block (cw_region ?_))
    refine ow_ex rfl (ex_load rfl rfl rfl (hb1'.cell 0)) rfl ?_
    refine ow_ex rfl (ex_load rfl rfl rfl (hb0'.cell 0)) rfl ?_
    repeat refine o_p rfl rfl rfl ?_
    refine ow_call rfl (ec_call rfl) rfl ((hstep i v W1 hi hI' hE' hz').mono ?_)
    rintro _ W2 ⟨v', rfl, hI2, f2⟩; refine ⟨_, rfl, ?_⟩
    have hb0'' := hb0'.fr f2 (by omega)
    have hb1'' := hb1'.fr f2 (by omega)
    have hD'' := (f2.keep (w.heap.size + 2) (by omega) (by omega)).trans hD'
    have hL'' := (f2.keep (w.heap.size + 3) (by omega) (by omega)).trans hL1
    have hE'' : Ext w W2 := hE'.trans' f2 (fun j hj h => by omega)
    have hz'' : w.heap.size + 4 ≤ W2.heap.size := Nat.le_trans hz' f2.size
    refine ow_eu rfl (eu_store rfl rfl rfl rfl (hone _ _ _ hI2) (hb0''.cell 0) (hb0''.frozen 0)) ?_  -- 5: store from
    have f3 := Fr.setCell W2 ⟨w.heap.size, 0, none⟩ v'
    have hL3 := (f3.keep (w.heap.size + 3) (by omega) (by simp)).trans hL''
    have hrr : ({ r with state := .ready, pending := none } : Loop) = r := by cases r; simp_all
    have hL4 : ∀ r', r' = r → ((W2.setCell ⟨w.heap.size, 0, none⟩ v').putObj (w.heap.size + 3) (.loop r')).heap[w.heap.size + 3]? = some (.loop r) := fun r' e => by
      rw [World.putObj_heap_same (by simp; omega), e]
    refine (ow_nil (pn_block (pn_round_go hL3 ⟨rfl, v', ?_⟩)))
    have hL5 := hL4 _ hrr
    generalize hW4 : (W2.setCell ⟨w.heap.size, 0, none⟩ v').putObj (w.heap.size + 3) _ = W4 at hL5
    have f4 : Fr (· = w.heap.size + 3) (W2.setCell ⟨w.heap.size, 0, none⟩ v') W4 := by rw [← hW4]; exact Fr.putObj _ _ _
    show Blk _ _ _ _ ∧ _
    refine ⟨?_, ?_, ?_, ?_, ?_, ?_, ?_⟩
    · exact ((hb0''.set 0 v').fr f4 (by omega))
    · exact (hb1''.fr f3 (by simp)).fr f4 (by omega)
    · exact hst _ _ _ _ _ (hst _ _ _ _ _ hI2 f3 (fun k h => by simp at h; omega)) f4 (fun k h => by omega)
    · exact (f4.keep _ (by simp; omega) (by omega)).trans ((f3.keep _ (by omega) (by simp)).trans hD'')
    · exact hL5
    · exact (hE''.trans' f3 (fun j hj h => by simp at h; omega)).trans' f4 (fun j hj h => by omega)
    · have := f3.size; have := f4.size; omega
  · rintro e W ⟨⟨u, rfl⟩, v, hb0, hb1, hI, hD, hL, hE, hz⟩
    refine ⟨⟨_, rfl⟩, r, hL, by rw [hr1]; decide, ?_⟩
    rw [hr2]
    -- BEHIND
    dsimp only
    generalize hW4 : W.putObj (w.heap.size + 2 + 1) _ = W4
    have f1 : Fr (· = w.heap.size + 3) W W4 := by rw [← hW4]; exact Fr.putObj _ _ _
    refine (pn_block (pn_then (cw_seq (cw_region ?_))))
    refine ow_ex rfl (ex_load rfl rfl rfl ((hb0.fr f1 (by omega)).cell 0)) rfl ?_
    repeat refine o_p rfl rfl rfl ?_
    have hD1 := (f1.keep (w.heap.size + 2) (by omega) (by omega)).trans hD
    refine (ow_nil (pn_then (cw_ret (pn_retM rfl rfl hD1 ⟨v, rfl, ?_, ?_⟩))))
    · exact hst _ _ _ _ _ (hst _ _ _ _ _ hI f1 (fun k h => by omega)) (Fr.putObj _ _ _) (fun k h => by omega)
    · exact (hE.trans' f1 (fun j hj h => by omega)).trans' (Fr.putObj _ _ _) (fun j hj h => by omega)

theorem fold_int_spec {b1 b2 : Nat} {va vb : Value} {xs ys : List Int} {w : World} (I : Nat → Value → World → Prop) (g : FuncId) (gc : List Value) [Bodied Try.prog g] (v0 : Value)
    (h1 : w.cell? ⟨b1, 0, none⟩ = some va) (h2 : w.cell? ⟨b2, 0, none⟩ = some vb) (ha : IL w va xs) (hb : IL w vb ys) (hI0 : I 0 v0 w) (hone : ∀ i v W, I i v W → v.oneCell' = true)
    (hst : ∀ i v W W' S, I i v W → Fr S W W' → (∀ k, S k → w.heap.size ≤ k ∧ k < w.heap.size + 4) → I i v W')
    (hstep : ∀ i v W, i < max xs.length ys.length → I i v W → Ext w W → w.heap.size + 4 ≤ W.heap.size → Calls Try.prog g ([v, .int .i64 (nn xs i), .int .i64 (nn ys i)] ++ gc).toArray W fun e W' =>
      ∃ v', e = .returned v' ∧ I (i + 1) v' W' ∧ Fr (fun k => w.heap.size + 4 ≤ k) W W') :
    Calls Try.prog n_vector_fold_int #[.func (.func n_vector_sides_1) ⟨[]⟩ ⟨[pbox b1, pbox b2]⟩, v0, .func (.func g) ⟨[]⟩ ⟨gc⟩] w fun e W' => ∃ v, e = .returned v ∧ I (max xs.length ys.length) v W' ∧ Ext w W' := by
  have c0 : v0.cells = #[v0] := by have := hone _ _ _ hI0; cases v0 <;> first | rfl | (simp [Value.oneCell'] at this)
  refine enterM3 F_vector_fold_int rfl rfl ?_
  refine (cw_seq (cw_region ?_))
  refine ow_ex rfl (ex_box rfl) rfl ?_
  refine ow_ex rfl (ex_box rfl) rfl ?_
  rw [c0]
  obtain ⟨w1, hw1⟩ : ∃ w1, (w.alloc (.cells #[v0] t_int)).alloc (.cells (Value.func (.func g) ⟨[]⟩ ⟨gc⟩).cells t_func_int_int_int_int) = w1 := ⟨_, rfl⟩
  have B0 : Blk w1 w.heap.size t_int [v0] := by rw [← hw1]; exact (Blk.new w _ [v0]).ext (Fr.alloc _ _)
  have B1 : Blk w1 (w.heap.size + 1) t_func_int_int_int_int [.func (.func g) ⟨[]⟩ ⟨gc⟩] := by
    rw [← hw1]
    have := Blk.new (w.alloc (.cells #[v0] t_int)) t_func_int_int_int_int [.func (.func g) ⟨[]⟩ ⟨gc⟩]
    rwa [World.size_alloc] at this
  have e1 : Ext w w1 := by rw [← hw1]; exact (Fr.alloc _ _).trans (Fr.alloc _ _)
  have z1 : w1.heap.size = w.heap.size + 2 := by rw [← hw1]; simp
  have I1 : I 0 v0 w1 := hst _ _ _ _ None hI0 e1 (fun k h => h.elim)
  rw [World.size_alloc, hw1]
  clear hw1
  repeat refine o_p rfl rfl rfl ?_
  refine (ow_nil (pn_then (cw_seq (cw_seq (cw_region ?_)))))
  repeat refine o_p rfl rfl rfl ?_
  refine (ow_nil (pn_then (cw_block (cw_rangeFunc rfl ?_))))
  intro r hr1 hr2 hr3 hr4 hr5 hr6 hkn
  obtain ⟨w2, hw2⟩ : ∃ w2, (w1.alloc (.deferred (some []))).alloc (.loop r) = w2 := ⟨_, rfl⟩
  have e2 : Ext w1 w2 := by rw [← hw2]; exact (Fr.alloc _ _).trans (Fr.alloc _ _)
  have D2 : w2.heap[w.heap.size + 2]? = some (.deferred (some [])) := by
    rw [← hw2, ← z1]; exact (Below.heap_alloc _ _ _ (by simp)).trans (World.alloc_heap_new w1 _)
  have L2 : w2.heap[w.heap.size + 3]? = some (.loop r) := by
    rw [← hw2]; have := World.alloc_heap_new (w1.alloc (.deferred (some []))) (.loop r); rwa [World.size_alloc, z1] at this
  have z2 : w2.heap.size = w.heap.size + 4 := by rw [← hw2]; simp [z1]
  rw [hw2]
  rw [z1]
  let J : Nat → World → Prop := fun i W => ∃ v, Blk W w.heap.size t_int [v] ∧ Blk W (w.heap.size + 1) t_func_int_int_int_int [.func (.func g) ⟨[]⟩ ⟨gc⟩] ∧ I i v W ∧ W.heap[w.heap.size + 2]? = some (.deferred (some [])) ∧
    W.heap[w.heap.size + 3]? = some (.loop r) ∧ Ext w W ∧ w.heap.size + 4 ≤ W.heap.size
  have hJ0 : J 0 w2 := ⟨v0, B0.ext e2, B1.ext e2, hst _ _ _ _ None I1 e2 (fun k h => h.elim), D2, L2, e1.trans e2, by omega⟩
  refine (sides_1_spec J h1 h2 ha hb (fun i W ⟨v, _, _, _, _, _, h, _⟩ => h) ?_ ?_ hJ0).mono ?_
  · rintro i W W' ⟨v, hb0, hb1, hI, hD, hL, hE, hz⟩ hW
    exact ⟨v, hb0.ext hW, hb1.ext hW, hst _ _ _ _ None hI hW (fun k h => h.elim), (hW.blk (by omega)).trans hD, (hW.blk (by omega)).trans hL, hE.trans hW, Nat.le_trans hz hW.size⟩
  · rintro i hi W ⟨v, hb0, hb1, hI, hD, hL, hE, hz⟩
    -- A ROUND
    refine yield_of hL (by rw [hr3]; rfl) (by rw [hr3]; decide) hkn ?_
    rw [hr3, hr4, hr5]
    refine (cw_seq (cw_region ?_))
    repeat refine o_p rfl rfl rfl ?_
    refine (ow_nil (pn_then (cw_region ?_)))
    repeat refine o_p rfl rfl rfl ?_
    refine (ow_nil (pn_asg hL hr1 ?_))
    obtain ⟨W1, hW1⟩ : ∃ W1, W.putObj (w.heap.size + 3) (.loop { r with state := .busy }) = W1 := ⟨_, rfl⟩
    have f1 : Fr (· = w.heap.size + 3) W W1 := by rw [← hW1]; exact Fr.putObj _ _ _
    have hL1 : W1.heap[w.heap.size + 3]? = some (.loop { r with state := .busy }) := by rw [← hW1]; exact World.putObj_heap_same (by omega)
    have hb0' := hb0.fr f1 (by omega)
    have hb1' := hb1.fr f1 (by omega)
    have hI' := hst _ _ _ _ _ hI f1 (fun k h => by omega)
    have hD' := (f1.keep (w.heap.size + 2) (by omega) (by omega)).trans hD
    have hE' : Ext w W1 := hE.trans' f1 (fun j hj h => by omega)
    have hz' : w.heap.size + 4 ≤ W1.heap.size := Nat.le_trans hz f1.size
    rw [hW1]
    refine (cw_block (cw_region ?_))
    refine ow_ex rfl (ex_load rfl rfl rfl (hb1'.cell 0)) rfl ?_
    refine ow_ex rfl (ex_load rfl rfl rfl (hb0'.cell 0)) rfl ?_
    repeat refine o_p rfl rfl rfl ?_
    refine ow_call rfl (ec_call rfl) rfl ((hstep i v W1 hi hI' hE' hz').mono ?_)
    rintro _ W2 ⟨v', rfl, hI2, f2⟩; refine ⟨_, rfl, ?_⟩
    have hb0'' := hb0'.fr f2 (by omega)
    have hb1'' := hb1'.fr f2 (by omega)
    have hD'' := (f2.keep (w.heap.size + 2) (by omega) (by omega)).trans hD'
    have hL'' := (f2.keep (w.heap.size + 3) (by omega) (by omega)).trans hL1
    have hE'' : Ext w W2 := hE'.trans' f2 (fun j hj h => by omega)
    have hz'' : w.heap.size + 4 ≤ W2.heap.size := Nat.le_trans hz' f2.size
    refine ow_eu rfl (eu_store rfl rfl rfl rfl (hone _ _ _ hI2) (hb0''.cell 0) (hb0''.frozen 0)) ?_  -- 5: store from
    have f3 := Fr.setCell W2 ⟨w.heap.size, 0, none⟩ v'
    have hL3 := (f3.keep (w.heap.size + 3) (by omega) (by simp)).trans hL''
    have hrr : ({ r with state := .ready, pending := none } : Loop) = r := by cases r; simp_all
    have hL4 : ∀ r', r' = r → ((W2.setCell ⟨w.heap.size, 0, none⟩ v').putObj (w.heap.size + 3) (.loop r')).heap[w.heap.size + 3]? = some (.loop r) := fun r' e => by
      rw [World.putObj_heap_same (by simp; omega), e]
    refine (ow_nil (pn_block (pn_round_go hL3 ⟨rfl, v', ?_⟩)))
    have hL5 := hL4 _ hrr
    generalize hW4 : (W2.setCell ⟨w.heap.size, 0, none⟩ v').putObj (w.heap.size + 3) _ = W4 at hL5
    have f4 : Fr (· = w.heap.size + 3) (W2.setCell ⟨w.heap.size, 0, none⟩ v') W4 := by rw [← hW4]; exact Fr.putObj _ _ _
    show Blk _ _ _ _ ∧ _
    refine ⟨?_, ?_, ?_, ?_, ?_, ?_, ?_⟩
    · exact ((hb0''.set 0 v').fr f4 (by omega))
    · exact (hb1''.fr f3 (by simp)).fr f4 (by omega)
    · exact hst _ _ _ _ _ (hst _ _ _ _ _ hI2 f3 (fun k h => by simp at h; omega)) f4 (fun k h => by omega)
    · exact (f4.keep _ (by simp; omega) (by omega)).trans ((f3.keep _ (by omega) (by simp)).trans hD'')
    · exact hL5
    · exact (hE''.trans' f3 (fun j hj h => by simp at h; omega)).trans' f4 (fun j hj h => by omega)
    · have := f3.size; have := f4.size; omega
  · rintro e W ⟨⟨u, rfl⟩, v, hb0, hb1, hI, hD, hL, hE, hz⟩
    refine ⟨⟨_, rfl⟩, r, hL, by rw [hr1]; decide, ?_⟩
    rw [hr2]
    -- BEHIND
    dsimp only
    generalize hW4 : W.putObj (w.heap.size + 2 + 1) _ = W4
    have f1 : Fr (· = w.heap.size + 3) W W4 := by rw [← hW4]; exact Fr.putObj _ _ _
    refine (pn_block (pn_then (cw_seq (cw_region ?_))))
    refine ow_ex rfl (ex_load rfl rfl rfl ((hb0.fr f1 (by omega)).cell 0)) rfl ?_
    repeat refine o_p rfl rfl rfl ?_
    have hD1 := (f1.keep (w.heap.size + 2) (by omega) (by omega)).trans hD
    refine (ow_nil (pn_then (cw_ret (pn_retM rfl rfl hD1 ⟨v, rfl, ?_, ?_⟩))))
    · exact hst _ _ _ _ _ (hst _ _ _ _ _ hI f1 (fun k h => by omega)) (Fr.putObj _ _ _) (fun k h => by omega)
    · exact (hE.trans' f1 (fun j hj h => by omega)).trans' (Fr.putObj _ _ _) (fun j hj h => by omega)

theorem fold_sl_int_spec {b1 b2 : Nat} {va vb : Value} {xs ys : List Int} {w : World} (I : Nat → Value → World → Prop) (g : FuncId) (gc : List Value) [Bodied Try.prog g] (v0 : Value)
    (h1 : w.cell? ⟨b1, 0, none⟩ = some va) (h2 : w.cell? ⟨b2, 0, none⟩ = some vb) (ha : IL w va xs) (hb : IL w vb ys) (hI0 : I 0 v0 w) (hone : ∀ i v W, I i v W → v.oneCell' = true)
    (hst : ∀ i v W W' S, I i v W → Fr S W W' → (∀ k, S k → w.heap.size ≤ k ∧ k < w.heap.size + 4) → I i v W')
    (hstep : ∀ i v W, i < max xs.length ys.length → I i v W → Ext w W → w.heap.size + 4 ≤ W.heap.size → Calls Try.prog g ([v, .int .i64 (nn xs i), .int .i64 (nn ys i)] ++ gc).toArray W fun e W' =>
      ∃ v', e = .returned v' ∧ I (i + 1) v' W' ∧ Fr (fun k => w.heap.size + 4 ≤ k) W W') :
    Calls Try.prog n_vector_fold_sl_int #[.func (.func n_vector_sides_1) ⟨[]⟩ ⟨[pbox b1, pbox b2]⟩, v0, .func (.func g) ⟨[]⟩ ⟨gc⟩] w fun e W' => ∃ v, e = .returned v ∧ I (max xs.length ys.length) v W' ∧ Ext w W' := by
  have c0 : v0.cells = #[v0] := by have := hone _ _ _ hI0; cases v0 <;> first | rfl | (simp [Value.oneCell'] at this)
  refine enterM3 F_vector_fold_sl_int rfl rfl ?_
  refine (cw_seq (cw_region ?_))
  refine ow_ex rfl (ex_box rfl) rfl ?_
  refine ow_ex rfl (ex_box rfl) rfl ?_
  rw [c0]
  obtain ⟨w1, hw1⟩ : ∃ w1, (w.alloc (.cells #[v0] t_sl_int)).alloc (.cells (Value.func (.func g) ⟨[]⟩ ⟨gc⟩).cells t_func_sl_int_int_int_sl_int) = w1 := ⟨_, rfl⟩
  have B0 : Blk w1 w.heap.size t_sl_int [v0] := by rw [← hw1]; exact (Blk.new w _ [v0]).ext (Fr.alloc _ _)
  have B1 : Blk w1 (w.heap.size + 1) t_func_sl_int_int_int_sl_int [.func (.func g) ⟨[]⟩ ⟨gc⟩] := by
    rw [← hw1]
    have := Blk.new (w.alloc (.cells #[v0] t_sl_int)) t_func_sl_int_int_int_sl_int [.func (.func g) ⟨[]⟩ ⟨gc⟩]
    rwa [World.size_alloc] at this
  have e1 : Ext w w1 := by rw [← hw1]; exact (Fr.alloc _ _).trans (Fr.alloc _ _)
  have z1 : w1.heap.size = w.heap.size + 2 := by rw [← hw1]; simp
  have I1 : I 0 v0 w1 := hst _ _ _ _ None hI0 e1 (fun k h => h.elim)
  rw [World.size_alloc, hw1]
  clear hw1
  repeat refine o_p rfl rfl rfl ?_
  refine (ow_nil (pn_then (cw_seq (cw_seq (cw_region ?_)))))
  repeat refine o_p rfl rfl rfl ?_
  refine (ow_nil (pn_then (cw_block (cw_rangeFunc rfl ?_))))
  intro r hr1 hr2 hr3 hr4 hr5 hr6 hkn
  obtain ⟨w2, hw2⟩ : ∃ w2, (w1.alloc (.deferred (some []))).alloc (.loop r) = w2 := ⟨_, rfl⟩
  have e2 : Ext w1 w2 := by rw [← hw2]; exact (Fr.alloc _ _).trans (Fr.alloc _ _)
  have D2 : w2.heap[w.heap.size + 2]? = some (.deferred (some [])) := by
    rw [← hw2, ← z1]; exact (Below.heap_alloc _ _ _ (by simp)).trans (World.alloc_heap_new w1 _)
  have L2 : w2.heap[w.heap.size + 3]? = some (.loop r) := by
    rw [← hw2]; have := World.alloc_heap_new (w1.alloc (.deferred (some []))) (.loop r); rwa [World.size_alloc, z1] at this
  have z2 : w2.heap.size = w.heap.size + 4 := by rw [← hw2]; simp [z1]
  rw [hw2]
  rw [z1]
  let J : Nat → World → Prop := fun i W => ∃ v, Blk W w.heap.size t_sl_int [v] ∧ Blk W (w.heap.size + 1) t_func_sl_int_int_int_sl_int [.func (.func g) ⟨[]⟩ ⟨gc⟩] ∧ I i v W ∧ W.heap[w.heap.size + 2]? = some (.deferred (some [])) ∧
    W.heap[w.heap.size + 3]? = some (.loop r) ∧ Ext w W ∧ w.heap.size + 4 ≤ W.heap.size
  have hJ0 : J 0 w2 := ⟨v0, B0.ext e2, B1.ext e2, hst _ _ _ _ None I1 e2 (fun k h => h.elim), D2, L2, e1.trans e2, by omega⟩
  refine (sides_1_spec J h1 h2 ha hb (fun i W ⟨v, _, _, _, _, _, h, _⟩ => h) ?_ ?_ hJ0).mono ?_
  · rintro i W W' ⟨v, hb0, hb1, hI, hD, hL, hE, hz⟩ hW
    exact ⟨v, hb0.ext hW, hb1.ext hW, hst _ _ _ _ None hI hW (fun k h => h.elim), (hW.blk (by omega)).trans hD, (hW.blk (by omega)).trans hL, hE.trans hW, Nat.le_trans hz hW.size⟩
  · rintro i hi W ⟨v, hb0, hb1, hI, hD, hL, hE, hz⟩
    -- A ROUND
    refine yield_of hL (by rw [hr3]; rfl) (by rw [hr3]; decide) hkn ?_
    rw [hr3, hr4, hr5]
    refine (cw_seq (cw_region ?_))
    repeat refine o_p rfl rfl rfl ?_
    refine (ow_nil (pn_then (cw_region ?_)))
    repeat refine o_p rfl rfl rfl ?_
    refine (ow_nil (pn_asg hL hr1 ?_))
    obtain ⟨W1, hW1⟩ : ∃ W1, W.putObj (w.heap.size + 3) (.loop { r with state := .busy }) = W1 := ⟨_, rfl⟩
    have f1 : Fr (· = w.heap.size + 3) W W1 := by rw [← hW1]; exact Fr.putObj _ _ _
    have hL1 : W1.heap[w.heap.size + 3]? = some (.loop { r with state := .busy }) := by rw [← hW1]; exact World.putObj_heap_same (by omega)
    have hb0' := hb0.fr f1 (by omega)
    have hb1' := hb1.fr f1 (by omega)
    have hI' := hst _ _ _ _ _ hI f1 (fun k h => by omega)
    have hD' := (f1.keep (w.heap.size + 2) (by omega) (by omega)).trans hD
    have hE' : Ext w W1 := hE.trans' f1 (fun j hj h => by omega)
    have hz' : w.heap.size + 4 ≤ W1.heap.size := Nat.le_trans hz f1.size
    rw [hW1]
    refine (cw_block (cw_region ?_))
    refine ow_ex rfl (ex_load rfl rfl rfl (hb1'.cell 0)) rfl ?_
    refine ow_ex rfl (ex_load rfl rfl rfl (hb0'.cell 0)) rfl ?_
    repeat refine o_p rfl rfl rfl ?_
    refine ow_call rfl (ec_call rfl) rfl ((hstep i v W1 hi hI' hE' hz').mono ?_)
    rintro _ W2 ⟨v', rfl, hI2, f2⟩; refine ⟨_, rfl, ?_⟩
    have hb0'' := hb0'.fr f2 (by omega)
    have hb1'' := hb1'.fr f2 (by omega)
    have hD'' := (f2.keep (w.heap.size + 2) (by omega) (by omega)).trans hD'
    have hL'' := (f2.keep (w.heap.size + 3) (by omega) (by omega)).trans hL1
    have hE'' : Ext w W2 := hE'.trans' f2 (fun j hj h => by omega)
    have hz'' : w.heap.size + 4 ≤ W2.heap.size := Nat.le_trans hz' f2.size
    refine ow_eu rfl (eu_store rfl rfl rfl rfl (hone _ _ _ hI2) (hb0''.cell 0) (hb0''.frozen 0)) ?_  -- 5: store from
    have f3 := Fr.setCell W2 ⟨w.heap.size, 0, none⟩ v'
    have hL3 := (f3.keep (w.heap.size + 3) (by omega) (by simp)).trans hL''
    have hrr : ({ r with state := .ready, pending := none } : Loop) = r := by cases r; simp_all
    have hL4 : ∀ r', r' = r → ((W2.setCell ⟨w.heap.size, 0, none⟩ v').putObj (w.heap.size + 3) (.loop r')).heap[w.heap.size + 3]? = some (.loop r) := fun r' e => by
      rw [World.putObj_heap_same (by simp; omega), e]
    refine (ow_nil (pn_block (pn_round_go hL3 ⟨rfl, v', ?_⟩)))
    have hL5 := hL4 _ hrr
    generalize hW4 : (W2.setCell ⟨w.heap.size, 0, none⟩ v').putObj (w.heap.size + 3) _ = W4 at hL5
    have f4 : Fr (· = w.heap.size + 3) (W2.setCell ⟨w.heap.size, 0, none⟩ v') W4 := by rw [← hW4]; exact Fr.putObj _ _ _
    show Blk _ _ _ _ ∧ _
    refine ⟨?_, ?_, ?_, ?_, ?_, ?_, ?_⟩
    · exact ((hb0''.set 0 v').fr f4 (by omega))
    · exact (hb1''.fr f3 (by simp)).fr f4 (by omega)
    · exact hst _ _ _ _ _ (hst _ _ _ _ _ hI2 f3 (fun k h => by simp at h; omega)) f4 (fun k h => by omega)
    · exact (f4.keep _ (by simp; omega) (by omega)).trans ((f3.keep _ (by omega) (by simp)).trans hD'')
    · exact hL5
    · exact (hE''.trans' f3 (fun j hj h => by simp at h; omega)).trans' f4 (fun j hj h => by omega)
    · have := f3.size; have := f4.size; omega
  · rintro e W ⟨⟨u, rfl⟩, v, hb0, hb1, hI, hD, hL, hE, hz⟩
    refine ⟨⟨_, rfl⟩, r, hL, by rw [hr1]; decide, ?_⟩
    rw [hr2]
    -- BEHIND
    dsimp only
    generalize hW4 : W.putObj (w.heap.size + 2 + 1) _ = W4
    have f1 : Fr (· = w.heap.size + 3) W W4 := by rw [← hW4]; exact Fr.putObj _ _ _
    refine (pn_block (pn_then (cw_seq (cw_region ?_))))
    refine ow_ex rfl (ex_load rfl rfl rfl ((hb0.fr f1 (by omega)).cell 0)) rfl ?_
    repeat refine o_p rfl rfl rfl ?_
    have hD1 := (f1.keep (w.heap.size + 2) (by omega) (by omega)).trans hD
    refine (ow_nil (pn_then (cw_ret (pn_retM rfl rfl hD1 ⟨v, rfl, ?_, ?_⟩))))
    · exact hst _ _ _ _ _ (hst _ _ _ _ _ hI f1 (fun k h => by omega)) (Fr.putObj _ _ _) (fun k h => by omega)
    · exact (hE.trans' f1 (fun j hj h => by omega)).trans' (Fr.putObj _ _ _) (fun j hj h => by omega)

end Go.Proofs.Ytgkhflcpbjlmiaa
/- Vectors, part two: package vector's and entrepotref14's functions. Conditions: the vectors may be read, and are not too long. -/
namespace Go.Proofs.Ytgkhflcpbjlmiaa
open Go.Eng Go.RowKit

def pickL (p : Int → Int → Int) (xs ys : List Int) : List Int := (List.range (max xs.length ys.length)).map fun i => p (nn xs i) (nn ys i)
abbrev joinL := pickL max
abbrev meetL := pickL min

/-! ## The closures -/
theorem Join_1_spec (a b : Int) (w : World) : Calls Try.prog n_vector_Join_1 #[.int .i64 a, .int .i64 b] w fun e w' => e = .returned (.int .i64 (max a b)) ∧ w = w' := by
  refine enter2 F_vector_Join_1 rfl rfl ?_
  repeat (first | refine o_p rfl rfl rfl ?_ | refine on ?_ | refine sr ?_ | refine ss ?_)
  exact cw_ret (pn_ret rfl rfl ⟨rfl, rfl⟩)
theorem Leq_1_spec (b : Bool) (x y : Int) (w : World) : Calls Try.prog n_vector_Leq_1 #[.bool b, .int .i64 x, .int .i64 y] w fun e w' => e = .returned (.bool (b && decide (x ≤ y))) ∧ w = w' := by
  refine enter3 F_vector_Leq_1 rfl rfl ?_
  refine (cw_seq (cw_region ?_))
  repeat refine o_p rfl rfl rfl ?_
  refine (ow_nil (pn_then (cw_seq (cw_region ?_))))
  repeat refine o_p rfl rfl rfl ?_
  cases b
  · repeat (first | refine ow_skip rfl rfl ?_ | refine o_p rfl rfl rfl ?_)
    exact (ow_nil (pn_then (cw_ret (pn_ret rfl rfl ⟨rfl, rfl⟩))))
  · repeat (first | refine ow_skip rfl rfl ?_ | refine o_p rfl rfl rfl ?_)
    exact (ow_nil (pn_then (cw_ret (pn_ret rfl rfl ⟨rfl, rfl⟩))))
def capI : Int := 4611686018427387904
theorem Weight_1_spec (n a y : Int) (w : World) (hn : 0 ≤ n ∧ n ≤ capI) (ha : 0 ≤ a) : Calls Try.prog n_vector_Weight_1 #[.int .i64 n, .int .i64 a, .int .i64 y] w fun e w' => e = .returned (.int .i64 (n + min a (capI - n))) ∧ w = w' := by
  unfold capI at *
  refine enter3 F_vector_Weight_1 rfl rfl ?_
  refine (cw_seq (cw_region ?_))
  repeat refine o_p rfl rfl rfl ?_
  refine (ow_nil (pn_then (cw_seq (cw_region ?_))))
  repeat refine o_p rfl rfl rfl ?_
  refine o_c rfl rfl rfl (by unfold I64; omega) ?_
  repeat refine o_p rfl rfl rfl ?_
  refine o_c rfl rfl rfl (by unfold I64; omega) ?_
  repeat refine o_p rfl rfl rfl ?_
  exact (ow_nil (pn_then (cw_ret (pn_ret rfl rfl ⟨rfl, rfl⟩))))

theorem picked_1_spec (p : Int → Int → Int) (g : FuncId) [Bodied Try.prog g] (hg : ∀ a b w, Calls Try.prog g #[.int .i64 a, .int .i64 b] w fun e w' => e = .returned (.int .i64 (p a b)) ∧ w = w')
    {v : Value} {i base bp : Nat} {cs : List Value} {a b : Int} {w : World} (hv : Mine w base t_int 1 v i cs) (hbp : w.cell? ⟨bp, 0, none⟩ = some (.func (.func g) ⟨[]⟩ ⟨[]⟩)) (hi : i + 1 ≤ 67108864) (hbase : base ≤ w.heap.size) :
    Calls Try.prog n_vector_picked_1 #[v, .int .i64 a, .int .i64 b, pbox bp] w fun e w' => ∃ v', e = .returned v' ∧ Mine w' base t_int 1 v' (i + 1) (cs ++ [.int .i64 (p a b)]) ∧ Fr (fun k => base ≤ k) w w' := by
  refine enter4 F_vector_picked_1 rfl rfl ?_
  refine (cw_seq (cw_region ?_))
  repeat refine o_p rfl rfl rfl ?_
  refine (ow_nil (pn_then (cw_seq (cw_region ?_))))
  repeat refine o_p rfl rfl rfl ?_
  refine ow_ex rfl (ex_load rfl rfl rfl hbp) rfl ?_
  repeat refine o_p rfl rfl rfl ?_
  refine ow_call rfl (ec_call rfl) rfl ((hg a b w).mono ?_)
  rintro _ w1 ⟨rfl, rfl⟩; refine ⟨_, rfl, ?_⟩
  refine ow_ex rfl (ex_buildSlice (vs := [(0, .int .i64 (p a b))]) (cells := [.int .i64 (p a b)]) rfl rfl rfl rfl (by decide) (fun z hz => by
    match z, hz with
    | [y], _ => rfl)) rfl ?_
  have B := Blk.new w t_int [.int .i64 (p a b)]
  refine ow_append rfl rfl rfl rfl rfl rfl rfl rfl (Mine.ext hv (Fr.alloc _ _)) (B.sl (n := 1) (sz := 1) rfl (by decide)) (by simp; rfl) hi (by simp; omega) ?_; intro v' w' own fr
  repeat refine o_p rfl rfl rfl ?_
  refine (ow_nil (pn_then (cw_ret (pn_ret rfl rfl ⟨v', rfl, own, ?_⟩))))
  refine (Fr.alloc _ _).trans' (fr.mono fun k _ hk => ?_) (fun j hj h => h)
  exact (Mine.block hv hk).1

theorem picked_spec (p : Int → Int → Int) (g : FuncId) [Bodied Try.prog g] (hg : ∀ a b w, Calls Try.prog g #[.int .i64 a, .int .i64 b] w fun e w' => e = .returned (.int .i64 (p a b)) ∧ w = w')
    {va vb : Value} {xs ys : List Int} {w : World} (ha : IL w va xs) (hb : IL w vb ys) (hx : xs.length ≤ 1048576) (hy : ys.length ≤ 1048576) :
    Calls Try.prog n_vector_picked #[va, vb, .func (.func g) ⟨[]⟩ ⟨[]⟩] w fun e w' => ∃ v, e = .returned v ∧ Mine w' w.heap.size t_int 1 v (pickL p xs ys).length ((pickL p xs ys).map (Value.int .i64)) ∧ Ext w w' := by
  have ca : va.cells = #[va] := by obtain ⟨A, c, rfl, _⟩ := ha.op; rfl
  have cb : vb.cells = #[vb] := by obtain ⟨A, c, rfl, _⟩ := hb.op; rfl
  refine enter3 F_vector_picked rfl rfl ?_
  refine (cw_seq (cw_region ?_))
  refine ow_ex rfl (ex_box rfl) rfl ?_
  repeat refine o_p rfl rfl rfl ?_
  refine (ow_nil (pn_then (cw_seq (cw_region ?_))))
  repeat refine o_p rfl rfl rfl ?_
  refine ow_call rfl (ec_call rfl) rfl (sides_spec.mono ?_)
  rintro _ w1 ⟨rfl, rfl⟩; refine ⟨_, rfl, ?_⟩
  rw [ca, cb]
  have B0 : Blk (w.alloc (.cells (Value.func (.func g) ⟨[]⟩ ⟨[]⟩).cells t_func_int_int_int)) w.heap.size t_func_int_int_int [.func (.func g) ⟨[]⟩ ⟨[]⟩] := Blk.new w _ _
  generalize hw0 : w.alloc (.cells (Value.func (.func g) ⟨[]⟩ ⟨[]⟩).cells t_func_int_int_int) = w0 at *
  have e0 : Ext w w0 := by rw [← hw0]; exact Fr.alloc _ _
  have z0 : w0.heap.size = w.heap.size + 1 := by rw [← hw0]; simp
  have B1 : Blk (w0.alloc (.cells #[va] t_sl_int)) w0.heap.size t_sl_int [va] := Blk.new w0 _ [va]
  generalize hw1 : w0.alloc (.cells #[va] t_sl_int) = w1 at *
  have e1 : Ext w0 w1 := by rw [← hw1]; exact Fr.alloc _ _
  have z1 : w1.heap.size = w0.heap.size + 1 := by rw [← hw1]; simp
  have B2 : Blk (w1.alloc (.cells #[vb] t_sl_int)) w1.heap.size t_sl_int [vb] := Blk.new w1 _ [vb]
  generalize hw2 : w1.alloc (.cells #[vb] t_sl_int) = w2 at *
  have e2 : Ext w1 w2 := by rw [← hw2]; exact Fr.alloc _ _
  have z2 : w2.heap.size = w1.heap.size + 1 := by rw [← hw2]; simp
  have eE : Ext w w2 := (e0.trans e1).trans e2
  repeat refine o_p rfl rfl rfl ?_
  rw [z1] at B2
  have hlen : (pickL p xs ys).length = max xs.length ys.length := by simp [pickL]
  have Bf := (B0.ext e1).ext e2
  refine ow_call rfl (ec_call rfl) rfl ((fold_sl_int_spec (fun i v W => Blk W w.heap.size t_func_int_int_int [.func (.func g) ⟨[]⟩ ⟨[]⟩] ∧ Mine W (w2.heap.size + 4) t_int 1 v i (((pickL p xs ys).take i).map (Value.int .i64)))
    n_vector_picked_1 [pbox w.heap.size] (.slice none 0 0) ((B1.ext e2).cell 0) (B2.cell 0) (ha.ext eE) (hb.ext eE) ⟨Bf, by simpa using Mine.nil _ _ _ _⟩ ?_ ?_ ?_).mono ?_)
  · rintro i v W ⟨_, hI⟩
    rcases hI.2 with ⟨rfl, _⟩ | ⟨_, _, _, rfl, _⟩ <;> rfl
  · rintro i v W W' S ⟨hB, hI⟩ hf hS
    refine ⟨hB.fr hf (fun h => by have := hS _ h; omega), Mine.fr hI hf (fun k hk hs => ?_)⟩
    have h1 := hS k hs
    have h2 := (Mine.block hI hk).1
    omega
  · rintro i v W hi ⟨hB, hI⟩ hE hz
    refine (picked_1_spec p g hg hI (hB.cell 0) (by omega) (by omega)).mono ?_
    rintro e W' ⟨v', rfl, hI', f⟩
    refine ⟨v', rfl, ⟨hB.fr f (by omega), ?_⟩, f⟩
    have hi' : i < (pickL p xs ys).length := by omega
    rw [List.take_succ_eq_append_getElem hi']
    have : (pickL p xs ys)[i] = p (nn xs i) (nn ys i) := by simp [pickL]
    rw [List.map_append, List.map_singleton, this]
    exact hI'
  · rintro _ w3 ⟨v, rfl, ⟨hB, hI⟩, hE⟩
    refine ⟨_, rfl, ?_⟩
    repeat refine o_p rfl rfl rfl ?_
    refine (ow_nil (pn_then (cw_ret (pn_ret rfl rfl ⟨v, rfl, ?_, eE.trans hE⟩))))
    rw [← hlen, List.take_length] at hI
    exact Mine.weaken hI (by omega)

theorem Join_spec {va vb : Value} {xs ys : List Int} {w : World} (ha : IL w va xs) (hb : IL w vb ys) (hx : xs.length ≤ 1048576) (hy : ys.length ≤ 1048576) :
    Calls Try.prog n_vector_Join #[va, vb] w fun e w' => ∃ v, e = .returned v ∧ Mine w' w.heap.size t_int 1 v (joinL xs ys).length ((joinL xs ys).map (Value.int .i64)) ∧ Ext w w' := by
  refine enter2 F_vector_Join rfl rfl ?_
  repeat (first | refine o_p rfl rfl rfl ?_ | refine on ?_ | refine sr ?_ | refine ss ?_)
  refine ow_call rfl (ec_call rfl) rfl ((picked_spec max n_vector_Join_1 Join_1_spec ha hb hx hy).mono ?_)
  rintro _ w1 ⟨v, rfl, hm, hE⟩; refine ⟨_, rfl, ?_⟩
  repeat (first | refine o_p rfl rfl rfl ?_ | refine on ?_ | refine sr ?_ | refine ss ?_)
  exact cw_ret (pn_ret rfl rfl ⟨v, rfl, hm, hE⟩)
end Go.Proofs.Ytgkhflcpbjlmiaa
/- Vectors, part three: Leq, Same, Weight, Has, Next of both packages. Conditions: the vectors may be read, and are not too long. -/
namespace Go.Proofs.Ytgkhflcpbjlmiaa
open Go.Eng Go.RowKit

theorem nn_nonneg (xs : List Int) (i : Nat) : 0 ≤ nn xs i := by unfold nn; omega
theorem atL_nonneg (xs : List Int) (r : Int) : 0 ≤ atL xs r := by unfold atL; split <;> first | exact nn_nonneg _ _ | omega

def leqL (xs ys : List Int) : Bool := (List.range (max xs.length ys.length)).all fun i => decide (nn xs i ≤ nn ys i)
def sameL (xs ys : List Int) : Bool := (List.range (max xs.length ys.length)).all fun i => decide (nn xs i = nn ys i)
theorem leqL_iff (xs ys : List Int) : leqL xs ys = true ↔ ∀ i, nn xs i ≤ nn ys i := by
  simp only [leqL, List.all_eq_true, List.mem_range, decide_eq_true_eq]
  refine ⟨fun h i => ?_, fun h i _ => h i⟩
  by_cases hi : i < max xs.length ys.length
  · exact h i hi
  · rw [nn_out (by omega), nn_out (by omega)]; omega
theorem sameL_iff (xs ys : List Int) : sameL xs ys = true ↔ ∀ i, nn xs i = nn ys i := by
  simp only [sameL, List.all_eq_true, List.mem_range, decide_eq_true_eq]
  refine ⟨fun h i => ?_, fun h i _ => h i⟩
  by_cases hi : i < max xs.length ys.length
  · exact h i hi
  · rw [nn_out (by omega), nn_out (by omega)]
theorem sameL_eq (xs ys : List Int) : sameL xs ys = (leqL xs ys && leqL ys xs) := by
  rw [Bool.eq_iff_iff, Bool.and_eq_true, sameL_iff, leqL_iff, leqL_iff]
  refine ⟨fun h => ⟨fun i => by rw [h i]; omega, fun i => by rw [h i]; omega⟩, fun ⟨h1, h2⟩ i => by have := h1 i; have := h2 i; omega⟩

def weightF (xs : List Int) : Nat → Int
  | 0 => 0
  | i + 1 => weightF xs i + min (nn xs i) (capI - weightF xs i)
def weightL (xs : List Int) : Int := weightF xs xs.length
theorem weightF_bound (xs : List Int) (i : Nat) : 0 ≤ weightF xs i ∧ weightF xs i ≤ capI := by
  induction i with
  | zero => simp [weightF, capI]
  | succ i ih => have := nn_nonneg xs i; simp only [weightF]; omega
theorem weightF_cap (xs : List Int) (i k : Nat) (h : weightF xs i = capI) : weightF xs (i + k) = capI := by
  induction k with
  | zero => exact h
  | succ k ih => have := nn_nonneg xs (i + k); rw [← Nat.add_assoc]; simp only [weightF, ih]; omega

/-- Both vectors in cells, and then a fold of bools. -/
theorem foldB_spec (q : Int → Int → Bool) (g : FuncId) [Bodied Try.prog g] (hg : ∀ b x y w, Calls Try.prog g #[.bool b, .int .i64 x, .int .i64 y] w fun e w' => e = .returned (.bool (b && q x y)) ∧ w = w')
    {va vb : Value} {xs ys : List Int} {w : World} (ha : IL w va xs) (hb : IL w vb ys) :
    Calls Try.prog n_vector_fold_bool #[.func (.func n_vector_sides_1) ⟨[]⟩ ⟨[pbox w.heap.size, pbox (w.heap.size + 1)]⟩, .bool true, .func (.func g) ⟨[]⟩ ⟨[]⟩] ((w.alloc (.cells va.cells t_sl_int)).alloc (.cells vb.cells t_sl_int))
      fun e w' => e = .returned (.bool ((List.range (max xs.length ys.length)).all fun i => q (nn xs i) (nn ys i))) ∧ Ext w w' := by
  have ca : va.cells = #[va] := by obtain ⟨A, c, rfl, _⟩ := ha.op; rfl
  have cb : vb.cells = #[vb] := by obtain ⟨A, c, rfl, _⟩ := hb.op; rfl
  rw [ca, cb]
  have B1 : Blk (w.alloc (.cells #[va] t_sl_int)) w.heap.size t_sl_int [va] := Blk.new w _ [va]
  have e1 : Ext w (w.alloc (.cells #[va] t_sl_int)) := Fr.alloc _ _
  have z1 : (w.alloc (.cells #[va] t_sl_int)).heap.size = w.heap.size + 1 := by simp
  generalize w.alloc (.cells #[va] t_sl_int) = w1 at *
  have B2 : Blk (w1.alloc (.cells #[vb] t_sl_int)) w1.heap.size t_sl_int [vb] := Blk.new w1 _ [vb]
  have e2 : Ext w1 (w1.alloc (.cells #[vb] t_sl_int)) := Fr.alloc _ _
  generalize w1.alloc (.cells #[vb] t_sl_int) = w2 at *
  have eE : Ext w w2 := e1.trans e2
  rw [z1] at B2
  refine (fold_bool_spec (fun i v _ => v = .bool ((List.range i).all fun i => q (nn xs i) (nn ys i))) g [] (.bool true) ((B1.ext e2).cell 0) (B2.cell 0) (ha.ext eE) (hb.ext eE) rfl ?_ ?_ ?_).mono ?_
  · rintro i v W rfl; rfl
  · rintro i v W W' S rfl _ _; rfl
  · rintro i v W hi rfl hE hz
    refine (hg _ _ _ _).mono ?_
    rintro e W' ⟨rfl, rfl⟩
    exact ⟨_, rfl, by simp [List.range_succ], Fr.refl _ _⟩
  · rintro e w3 ⟨v, rfl, rfl, hE⟩
    exact ⟨rfl, eE.trans hE⟩

theorem Leq_spec {va vb : Value} {xs ys : List Int} {w : World} (ha : IL w va xs) (hb : IL w vb ys) : Calls Try.prog n_vector_Leq #[va, vb] w fun e w' => e = .returned (.bool (leqL xs ys)) ∧ Ext w w' := by
  refine enter2 F_vector_Leq rfl rfl ?_
  (refine sr ?_; refine o_p rfl rfl rfl ?_; refine on ?_; refine sr ?_; (iterate 2 refine o_p rfl rfl rfl ?_))
  refine ow_call rfl (ec_call rfl) rfl (sides_spec.mono ?_)
  rintro _ w1 ⟨rfl, rfl⟩; refine ⟨_, rfl, ?_⟩
  refine ow_call rfl (ec_call rfl) rfl ((foldB_spec (fun x y => decide (x ≤ y)) n_vector_Leq_1 Leq_1_spec ha hb).mono ?_)
  rintro _ w1 ⟨rfl, e1⟩; refine ⟨_, rfl, ?_⟩
  (refine o_p rfl rfl rfl ?_; refine on ?_)
  exact cw_ret (pn_ret rfl rfl ⟨rfl, e1⟩)
theorem Weight_spec {va : Value} {xs : List Int} {w : World} (ha : IL w va xs) : Calls Try.prog n_vector_Weight #[va] w fun e w' => e = .returned (.int .i64 (weightL xs)) ∧ Ext w w' := by
  have ca : va.cells = #[va] := by obtain ⟨A, c, rfl, _⟩ := ha.op; rfl
  have hb : IL w (.slice none 0 0) ([] : List Int) := VL.nil _ _
  have cb : (Value.slice none 0 0).cells = #[.slice none 0 0] := rfl
  refine enter1 F_vector_Weight rfl rfl ?_
  (refine sr ?_; refine o_p rfl rfl rfl ?_; refine on ?_; refine sr ?_; refine o_p rfl rfl rfl ?_)
  refine ow_call rfl (ec_call rfl) rfl (sides_spec.mono ?_)
  rintro _ w1 ⟨rfl, rfl⟩; refine ⟨_, rfl, ?_⟩
  rw [ca, cb]
  have B1 : Blk (w.alloc (.cells #[va] t_sl_int)) w.heap.size t_sl_int [va] := Blk.new w _ [va]
  have e1 : Ext w (w.alloc (.cells #[va] t_sl_int)) := Fr.alloc _ _
  have z1 : (w.alloc (.cells #[va] t_sl_int)).heap.size = w.heap.size + 1 := by simp
  generalize w.alloc (.cells #[va] t_sl_int) = w1 at *
  have B2 : Blk (w1.alloc (.cells #[.slice none 0 0] t_sl_int)) w1.heap.size t_sl_int [.slice none 0 0] := Blk.new w1 _ _
  have e2 : Ext w1 (w1.alloc (.cells #[.slice none 0 0] t_sl_int)) := Fr.alloc _ _
  generalize w1.alloc (.cells #[.slice none 0 0] t_sl_int) = w2 at *
  have eE : Ext w w2 := e1.trans e2
  rw [z1] at B2
  refine ow_call rfl (ec_call rfl) rfl ((fold_int_spec (fun i v _ => v = .int .i64 (weightF xs i)) n_vector_Weight_1 [] (.int .i64 0) ((B1.ext e2).cell 0) (B2.cell 0) (ha.ext eE) (hb.ext eE) rfl ?_ ?_ ?_).mono ?_)
  · rintro i v W rfl; rfl
  · rintro i v W W' S rfl _ _; rfl
  · rintro i v W hi rfl hE hz
    refine (Weight_1_spec _ _ _ _ (weightF_bound xs i) (nn_nonneg xs i)).mono ?_
    rintro e W' ⟨rfl, rfl⟩
    exact ⟨_, rfl, rfl, Fr.refl _ _⟩
  · rintro e w3 ⟨v, rfl, rfl, hE⟩
    refine ⟨_, rfl, ?_⟩
    (refine o_p rfl rfl rfl ?_; refine on ?_)
    have hm : max xs.length ([] : List Int).length = xs.length := by simp
    rw [hm]
    exact cw_ret (pn_ret rfl rfl ⟨rfl, eE.trans hE⟩)

/-! ## A dot -/
abbrev dotV (r n : Int) : Value := .agg #[.int .i64 r, .int .i64 n]
def hasL (xs : List Int) (r n : Int) : Bool := decide (1 ≤ r) && decide (1 ≤ n) && decide (n ≤ atL xs r)

theorem Has_spec_vector_Has {va : Value} {xs : List Int} {r n : Int} {w : World} (ha : IL w va xs) : Calls Try.prog n_vector_Has #[va, dotV r n] w fun e w' => e = .returned (.bool (hasL xs r n)) ∧ Ext w w' := by
  refine enter2 F_vector_Has rfl rfl ?_
  refine (cw_seq (cw_region ?_))
  refine ow_ex rfl (ex_box rfl) rfl ?_
  have B : Blk (w.alloc (.cells (dotV r n).cells t_api_Dot)) w.heap.size t_api_Dot [.int .i64 r, .int .i64 n] := Blk.new w _ _
  have e1 : Ext w (w.alloc (.cells (dotV r n).cells t_api_Dot)) := Fr.alloc _ _
  generalize w.alloc (.cells (dotV r n).cells t_api_Dot) = w1 at *
  have hR := B.cell 0
  have hN := B.cell 1
  (refine o_p rfl rfl rfl ?_)
  refine (ow_nil (pn_then (cw_seq (cw_draw flo (fun W' => Ext w1 W') (by decide) (Fr.drew _) ?_))))
  (refine d_p rfl rfl rfl rfl ?_)
  refine dw_rd rfl rfl (fun W' hW' => ex_load rfl rfl rfl (hW'.cell hR)) rfl ?_
  ((iterate 2 refine d_p rfl rfl rfl rfl ?_))
  refine d_if 8 rfl (fun h1 => ?_) (fun h1 => ?_)
  · (refine d_p rfl rfl rfl rfl ?_)
    refine dw_rd rfl rfl (fun W' hW' => ex_load rfl rfl rfl (hW'.cell hN)) rfl ?_
    ((iterate 3 refine d_p rfl rfl rfl rfl ?_))
    refine d_if 13 rfl (fun h2 => ?_) (fun h2 => ?_)
    · (refine d_p rfl rfl rfl rfl ?_)
      refine dw_rd rfl rfl (fun W' hW' => ex_load rfl rfl rfl (hW'.cell hN)) rfl ?_
      ((iterate 2 refine d_p rfl rfl rfl rfl ?_))
      refine dw_rd rfl rfl (fun W' hW' => ex_load rfl rfl rfl (hW'.cell hR)) rfl ?_
      refine dw_call rfl rfl (ec_call rfl) rfl ((At_spec_vector_At (ha.ext (e1.trans (Fr.drew _)))).mono ?_)
      rintro _ w2 ⟨rfl, rfl⟩; refine ⟨_, rfl, Fr.drew _, ?_⟩
      ((iterate 3 refine d_p rfl rfl rfl rfl ?_))
      refine (dw_nil (pn_then (cw_ret (pn_ret rfl rfl ⟨?_, e1.trans (Fr.drew _)⟩))))
      simp [hasL, h1, h2]
    · ((iterate 7 refine dw_skip rfl rfl ?_); (iterate 2 refine d_p rfl rfl rfl rfl ?_))
      refine (dw_nil (pn_then (cw_ret (pn_ret rfl rfl ⟨?_, e1.trans (Fr.drew _)⟩))))
      simp [hasL, h2]
  · ((iterate 3 refine dw_skip rfl rfl ?_); (iterate 2 refine d_p rfl rfl rfl rfl ?_); (iterate 7 refine dw_skip rfl rfl ?_); (iterate 2 refine d_p rfl rfl rfl rfl ?_))
    refine (dw_nil (pn_then (cw_ret (pn_ret rfl rfl ⟨?_, e1.trans (Fr.drew _)⟩))))
    simp [hasL, h1]

def nextL (xs : List Int) (r : Int) : Int × Int := if r < 1 ∨ capI ≤ atL xs r then (0, 0) else (r, atL xs r + 1)

theorem Next_spec_vector {va : Value} {xs : List Int} {r : Int} {w : World} (ha : IL w va xs) : Calls Try.prog n_vector_Next #[va, .int .i64 r] w fun e w' => e = .returned (dotV (nextL xs r).1 (nextL xs r).2) ∧ Ext w w' := by
  refine enter2 F_vector_Next rfl rfl ?_
  refine (cw_seq (cw_region ?_))
  refine ow_ex rfl (ex_alloc rfl) rfl ?_
  have B : Blk (w.alloc (.cells (dotV 0 0).cells t_api_Dot)) w.heap.size t_api_Dot [.int .i64 0, .int .i64 0] := Blk.new w _ _
  have e1 : Ext w (w.alloc (.cells (dotV 0 0).cells t_api_Dot)) := Fr.alloc _ _
  change OW _ _ _ _ _ _ _ _ (w.alloc (.cells (dotV 0 0).cells t_api_Dot))
  have z1 : (w.alloc (.cells (dotV 0 0).cells t_api_Dot)).heap.size = w.heap.size + 1 := by simp
  generalize w.alloc (.cells (dotV 0 0).cells t_api_Dot) = w1 at *
  (refine on ?_; refine sr ?_; (iterate 2 refine o_p rfl rfl rfl ?_))
  refine ow_call rfl (ec_call rfl) rfl ((At_spec_vector_At (ha.ext e1)).mono ?_)
  rintro _ w2 ⟨rfl, rfl⟩; refine ⟨_, rfl, ?_⟩
  (refine o_p rfl rfl rfl ?_; refine on ?_; refine sr ?_; (iterate 2 refine o_p rfl rfl rfl ?_))
  refine o_w rfl rfl rfl ?_
  refine o_b rfl rfl rfl ?_
  refine ow_ex rfl (ex_alloc rfl) rfl ?_
  have B2 : Blk (w1.alloc (.cells (dotV 0 0).cells t_api_Dot)) w1.heap.size t_api_Dot [.int .i64 0, .int .i64 0] := Blk.new w1 _ _
  have e2 : Ext w1 (w1.alloc (.cells (dotV 0 0).cells t_api_Dot)) := Fr.alloc _ _
  change OW _ _ _ _ _ _ _ _ (w1.alloc (.cells (dotV 0 0).cells t_api_Dot))
  have z2 : (w1.alloc (.cells (dotV 0 0).cells t_api_Dot)).heap.size = w1.heap.size + 1 := by simp
  generalize w1.alloc (.cells (dotV 0 0).cells t_api_Dot) = w2 at *
  have hone : ∀ a b : Int, ∀ u ∈ [Value.int .i64 a, .int .i64 b], u.oneCell' = true := by intro a b u hu; simp at hu; rcases hu with rfl | rfl <;> rfl
  refine ow_eu rfl (eu_storeB (vs := [.int .i64 r, .int .i64 (IntKind.i64.wrap (atL xs r + 1))]) rfl rfl rfl rfl rfl (hone _ _) B2 rfl) ?_
  have B3 := B2.setRow (ds := spl [.int .i64 0, .int .i64 0] 0 [.int .i64 r, .int .i64 (IntKind.i64.wrap (atL xs r + 1))])
  have f3 := Fr.setRow w2 w1.heap.size (spl [.int .i64 0, .int .i64 0] 0 [.int .i64 r, .int .i64 (IntKind.i64.wrap (atL xs r + 1))]).toArray
  generalize World.setRow w2 _ _ = w3 at *
  have e3 : Ext w w3 := (e1.trans e2).trans' f3 (fun j hj h => by omega)
  have B' := (B.ext e2).fr f3 (by omega)
  refine on (ss ?_)
  (refine sr ?_; (iterate 3 refine o_p rfl rfl rfl ?_))
  refine o_if 16 rfl (fun h1 => ?_) (fun h1 => ?_)
  · ((iterate 2 refine ow_skip rfl rfl ?_); refine o_p rfl rfl rfl ?_)
    refine on (cw_cond_t rfl ?_)
    refine sr ?_
    refine o_b rfl rfl rfl ?_
    refine ow_eu rfl (eu_storeB (vs := [.int .i64 0, .int .i64 0]) rfl rfl rfl rfl rfl (hone _ _) B' rfl) ?_
    refine (ow_nil (pn_then (cw_ret (pn_then_ret (pn_retC rfl rfl rfl rfl rfl (B'.setRow) ⟨?_, ?_⟩)))))
    · simp [nextL, h1, spl]
    · exact e3.trans' (Fr.setRow _ _ _) (fun j hj h => by omega)
  · ((iterate 3 refine o_p rfl rfl rfl ?_))
    refine on (cw_if rfl (fun h2 => ?_) (fun h2 => ?_))
    · refine sr ?_
      refine o_b rfl rfl rfl ?_
      refine ow_eu rfl (eu_storeB (vs := [.int .i64 0, .int .i64 0]) rfl rfl rfl rfl rfl (hone _ _) B' rfl) ?_
      refine (ow_nil (pn_then (cw_ret (pn_then_ret (pn_retC rfl rfl rfl rfl rfl (B'.setRow) ⟨?_, ?_⟩)))))
      · have : capI ≤ atL xs r := h2
        simp [nextL, this, spl]
      · exact e3.trans' (Fr.setRow _ _ _) (fun j hj h => by omega)
    · refine (cw_skip (pn_then (cw_seq (cw_region ?_))))
      refine ow_ex rfl (ex_loadN (cs := [.int .i64 r, .int .i64 (IntKind.i64.wrap (atL xs r + 1))]) rfl rfl rfl rfl (fun j _ => by rw [Nat.zero_add]; exact B3.cell j)) rfl ?_
      refine ow_eu rfl (eu_storeB (vs := [.int .i64 r, .int .i64 (IntKind.i64.wrap (atL xs r + 1))]) rfl rfl rfl rfl rfl (hone _ _) B' rfl) ?_
      refine (ow_nil (pn_then (cw_ret (pn_retC rfl rfl rfl rfl rfl (B'.setRow) ⟨?_, ?_⟩))))
      · have h3 : ¬ capI ≤ atL xs r := h2
        have h4 : IntKind.i64.wrap (atL xs r + 1) = atL xs r + 1 := I64.wrap (by have := atL_nonneg xs r; unfold capI at h3; unfold I64; omega)
        simp [nextL, h1, h3, h4, spl]
      · exact e3.trans' (Fr.setRow _ _ _) (fun j hj h => by omega)
end Go.Proofs.Ytgkhflcpbjlmiaa
/- Vectors, part four: the document's answers (entrepotref14): Leq, Same, Join, Meet, Has, Next, Weight. Conditions: the vectors may be read, and are not too long. -/
namespace Go.Proofs.Ytgkhflcpbjlmiaa
open Go.Eng Go.RowKit

theorem refLeq_spec {va vb : Value} {xs ys : List Int} {w : World} (ha : IL w va xs) (hb : IL w vb ys) (hx : xs.length ≤ 1048576) : Calls Try.prog n_entrepotref14_Leq #[va, vb] w fun e w' => e = .returned (.bool (leqL xs ys)) ∧ Ext w w' := by
  obtain ⟨A, c, rfl, hnc, hcm, hz, hcell⟩ := id ha
  refine enter2 F_entrepotref14_Leq rfl rfl ?_
  (refine sr ?_; refine o_p rfl rfl rfl ?_; refine on ?_; refine ss ?_; refine sr ?_; refine o_p rfl rfl rfl ?_; refine on ?_)
  refine cw_block (cw_loop (G := Nat) (fun i => [(0, .slice A xs.length c), (1, vb), (5, .int .i64 ((i : Int) + 1))]) (fun i W => Ext w W ∧ i ≤ xs.length ∧ ∀ j, j < i → nn xs j ≤ nn ys j) (fun i => xs.length - i) ?_ ?_)
  · exact ⟨0, ⟨rfl, rfl, rfl, trivial⟩, Fr.refl _ _, Nat.zero_le _, fun j hj => by omega⟩
  rintro i W ⟨hE, hi, hJ⟩
  try dsimp only
  (refine ss ?_; refine sr ?_; (iterate 4 refine o_p rfl rfl rfl ?_); refine on ?_)
  refine cw_if rfl (fun h => ?_) (fun h => ?_)
  · refine (cw_skip (pn_then (cw_seq (cw_block (cw_seq (cw_region ?_))))))
    ((iterate 2 refine o_p rfl rfl rfl ?_))
    refine ow_call rfl (ec_call rfl) rfl ((At_spec_entrepotref14_At (ha.ext hE)).mono ?_)
    rintro _ w1 ⟨rfl, rfl⟩; refine ⟨_, rfl, ?_⟩
    ((iterate 2 refine o_p rfl rfl rfl ?_))
    refine ow_call rfl (ec_call rfl) rfl ((At_spec_entrepotref14_At (hb.ext hE)).mono ?_)
    rintro _ w1 ⟨rfl, rfl⟩; refine ⟨_, rfl, ?_⟩
    (refine o_p rfl rfl rfl ?_)
    rw [atL_succ, atL_succ]
    refine (ow_nil (pn_then (cw_if rfl (fun h2 => ?_) (fun h2 => ?_))))
    · refine (cw_seq (cw_region ?_))
      (refine o_p rfl rfl rfl ?_)
      refine (ow_nil (pn_then (cw_ret (pn_block_ret (pn_then_ret (pn_loop_ret (pn_block_ret (pn_then_ret (pn_ret rfl rfl ⟨?_, hE⟩)))))))))
      have : ¬ leqL xs ys = true := fun hh => by have := (leqL_iff xs ys).1 hh i; omega
      simp [this]
    · refine (cw_skip (pn_block (pn_then (cw_region ?_))))
      (refine o_p rfl rfl rfl ?_)
      refine o_c rfl rfl rfl (by unfold I64; omega) ?_
      (refine o_p rfl rfl rfl ?_)
      refine (ow_nil (pn_round (i + 1) ?_ ?_ ?_))
      · exact ⟨rfl, rfl, rfl, trivial⟩
      · refine ⟨hE, by omega, fun j hj => ?_⟩
        rcases Nat.lt_or_ge j i with h3 | h3
        · exact hJ j h3
        · obtain rfl : j = i := by omega
          omega
      · show xs.length - (i + 1) < xs.length - i; omega
  · refine (cw_exit (pn_then_exit (pn_loop_exit (pn_block_exit (pn_then (cw_seq (cw_region ?_)))))))
    (refine o_p rfl rfl rfl ?_)
    refine (ow_nil (pn_then (cw_ret (pn_ret rfl rfl ⟨?_, hE⟩))))
    have : leqL xs ys = true := (leqL_iff xs ys).2 fun j => by
      rcases Nat.lt_or_ge j i with h3 | h3
      · exact hJ j h3
      · rw [nn_out (xs := xs) (by omega)]; exact nn_nonneg _ _
    rw [this]

theorem refHas_spec {va : Value} {xs : List Int} {r n : Int} {w : World} (ha : IL w va xs) : Calls Try.prog n_entrepotref14_Has #[va, dotV r n] w fun e w' => e = .returned (.bool (hasL xs r n)) ∧ Ext w w' := by
  refine enter2 F_entrepotref14_Has rfl rfl ?_
  refine (cw_seq (cw_region ?_))
  refine ow_ex rfl (ex_box rfl) rfl ?_
  have B : Blk (w.alloc (.cells (dotV r n).cells t_api_Dot)) w.heap.size t_api_Dot [.int .i64 r, .int .i64 n] := Blk.new w _ _
  have e1 : Ext w (w.alloc (.cells (dotV r n).cells t_api_Dot)) := Fr.alloc _ _
  generalize w.alloc (.cells (dotV r n).cells t_api_Dot) = w1 at *
  have hR := B.cell 0
  have hN := B.cell 1
  (refine o_p rfl rfl rfl ?_)
  refine (ow_nil (pn_then (cw_seq (cw_draw flo (fun W' => Ext w1 W') (by decide) (Fr.drew _) ?_))))
  (refine d_p rfl rfl rfl rfl ?_)
  refine dw_rd rfl rfl (fun W' hW' => ex_load rfl rfl rfl (hW'.cell hR)) rfl ?_
  ((iterate 2 refine d_p rfl rfl rfl rfl ?_))
  refine d_if 8 rfl (fun h1 => ?_) (fun h1 => ?_)
  · (refine d_p rfl rfl rfl rfl ?_)
    refine dw_rd rfl rfl (fun W' hW' => ex_load rfl rfl rfl (hW'.cell hN)) rfl ?_
    ((iterate 3 refine d_p rfl rfl rfl rfl ?_))
    refine d_if 13 rfl (fun h2 => ?_) (fun h2 => ?_)
    · (refine d_p rfl rfl rfl rfl ?_)
      refine dw_rd rfl rfl (fun W' hW' => ex_load rfl rfl rfl (hW'.cell hN)) rfl ?_
      ((iterate 2 refine d_p rfl rfl rfl rfl ?_))
      refine dw_rd rfl rfl (fun W' hW' => ex_load rfl rfl rfl (hW'.cell hR)) rfl ?_
      refine dw_call rfl rfl (ec_call rfl) rfl ((At_spec_entrepotref14_At (ha.ext (e1.trans (Fr.drew _)))).mono ?_)
      rintro _ w2 ⟨rfl, rfl⟩; refine ⟨_, rfl, Fr.drew _, ?_⟩
      ((iterate 3 refine d_p rfl rfl rfl rfl ?_))
      refine (dw_nil (pn_then (cw_ret (pn_ret rfl rfl ⟨?_, e1.trans (Fr.drew _)⟩))))
      simp [hasL, h1, h2]
    · ((iterate 7 refine dw_skip rfl rfl ?_); (iterate 2 refine d_p rfl rfl rfl rfl ?_))
      refine (dw_nil (pn_then (cw_ret (pn_ret rfl rfl ⟨?_, e1.trans (Fr.drew _)⟩))))
      simp [hasL, h2]
  · ((iterate 3 refine dw_skip rfl rfl ?_); (iterate 2 refine d_p rfl rfl rfl rfl ?_); (iterate 7 refine dw_skip rfl rfl ?_); (iterate 2 refine d_p rfl rfl rfl rfl ?_))
    refine (dw_nil (pn_then (cw_ret (pn_ret rfl rfl ⟨?_, e1.trans (Fr.drew _)⟩))))
    simp [hasL, h1]

theorem refWeight_spec {va : Value} {xs : List Int} {w : World} (ha : IL w va xs) (hx : xs.length ≤ 1048576) : Calls Try.prog n_entrepotref14_Weight #[va] w fun e w' => e = .returned (.int .i64 (weightL xs)) ∧ Ext w w' := by
  obtain ⟨A, c, rfl, hnc, hcm, hz, hcell⟩ := id ha
  refine enter1 F_entrepotref14_Weight rfl rfl ?_
  (refine sr ?_; refine o_p rfl rfl rfl ?_; refine on ?_; refine sr ?_; refine o_p rfl rfl rfl ?_; refine on ?_; refine ss ?_; refine sr ?_; refine o_p rfl rfl rfl ?_; refine on ?_)
  refine cw_block (cw_loop (G := Nat) (fun i => [(0, .slice A xs.length c), (3, .int .i64 (weightF xs i)), (4, .int .i64 ((i : Int) + 1))]) (fun i W => Ext w W ∧ i ≤ xs.length) (fun i => xs.length - i) ?_ ?_)
  · exact ⟨0, ⟨rfl, rfl, rfl, trivial⟩, Fr.refl _ _, Nat.zero_le _⟩
  rintro i W ⟨hE, hi⟩
  try dsimp only
  have hwb := weightF_bound xs i
  have hnn := nn_nonneg xs i
  unfold capI at hwb
  (refine ss ?_; refine sr ?_; (iterate 4 refine o_p rfl rfl rfl ?_); refine on ?_)
  refine cw_if rfl (fun h => ?_) (fun h => ?_)
  · refine (cw_skip (pn_then (cw_seq (cw_block (cw_seq (cw_region ?_))))))
    ((iterate 2 refine o_p rfl rfl rfl ?_))
    refine ow_call rfl (ec_call rfl) rfl ((At_spec_entrepotref14_At (ha.ext hE)).mono ?_)
    rintro _ w1 ⟨rfl, rfl⟩; refine ⟨_, rfl, ?_⟩
    rw [atL_succ]
    (refine o_p rfl rfl rfl ?_; refine on ?_; refine ss ?_; refine sr ?_; (iterate 2 refine o_p rfl rfl rfl ?_))
    refine o_c rfl rfl rfl (by unfold I64; omega) ?_
    (refine o_p rfl rfl rfl ?_)
    refine on (cw_if rfl (fun h2 => ?_) (fun h2 => ?_))
    · refine (cw_seq (cw_region ?_))
      (refine o_p rfl rfl rfl ?_)
      refine (ow_nil (pn_then (cw_ret (pn_then_ret (pn_block_ret (pn_then_ret (pn_loop_ret (pn_block_ret (pn_then_ret (pn_ret rfl rfl ⟨?_, hE⟩))))))))))
      have h3 : weightF xs (i + 1) = capI := by simp only [weightF]; unfold capI; omega
      have := weightF_cap xs (i + 1) (xs.length - (i + 1)) h3
      rw [show i + 1 + (xs.length - (i + 1)) = xs.length from by omega] at this
      rw [weightL, this]; rfl
    · refine (cw_skip (pn_then (cw_region ?_)))
      ((iterate 2 refine o_p rfl rfl rfl ?_))
      refine o_c rfl rfl rfl (by unfold I64; omega) ?_
      (refine o_p rfl rfl rfl ?_)
      refine (ow_nil (pn_block (pn_then (cw_region ?_))))
      (refine o_p rfl rfl rfl ?_)
      refine o_c rfl rfl rfl (by unfold I64; omega) ?_
      (refine o_p rfl rfl rfl ?_)
      have h3 : weightF xs i + nn xs i = weightF xs (i + 1) := by simp only [weightF]; unfold capI; omega
      rw [h3]
      refine (ow_nil (pn_round (i + 1) ?_ ?_ ?_))
      · exact ⟨rfl, rfl, rfl, trivial⟩
      · exact ⟨hE, by omega⟩
      · show xs.length - (i + 1) < xs.length - i; omega
  · refine (cw_exit (pn_then_exit (pn_loop_exit (pn_block_exit (pn_then (cw_seq (cw_region ?_)))))))
    ((iterate 2 refine o_p rfl rfl rfl ?_))
    refine (ow_nil (pn_then (cw_ret (pn_ret rfl rfl ⟨?_, hE⟩))))
    obtain rfl : i = xs.length := by omega
    rfl

end Go.Proofs.Ytgkhflcpbjlmiaa
/- Vectors, part five: With of both packages, Less of both packages, and what the laws use besides. Conditions: the vectors may be read, and are not too long. -/
namespace Go.Proofs.Ytgkhflcpbjlmiaa
open Go.Eng Go.RowKit

abbrev MI (w : World) (base : Nat) (v : Value) (xs : List Int) : Prop := Mine w base t_int 1 v xs.length (xs.map (Value.int .i64))
theorem MI.il {w : World} {base : Nat} {v : Value} {xs : List Int} (h : MI w base v xs) : IL w v xs := Mine.sl h
theorem madeCells_one (v : Value) (n : Nat) : (madeCells #[v] n).toList = List.replicate n v := by
  apply List.ext_getElem
  · simp [madeCells]
  · intro i h1 h2
    simp [madeCells, Nat.mod_one]

def oneL (r n : Int) : List Int := (List.replicate r.toNat 0).set (r - 1).toNat n
def withL (xs : List Int) (r n : Int) : List Int := if r < 1 ∨ 16 < r ∨ n < 1 ∨ n ≤ atL xs r then joinL xs [] else joinL xs (oneL r n)

theorem With_spec_vector {va : Value} {xs : List Int} {r n : Int} {w : World} (ha : IL w va xs) (hx : xs.length ≤ 1048576) :
    Calls Try.prog n_vector_With #[va, dotV r n] w fun e w' => ∃ v, e = .returned v ∧ MI w' w.heap.size v (withL xs r n) ∧ Ext w w' := by
  refine enter2 F_vector_With rfl rfl ?_
  refine (cw_seq (cw_region ?_))
  refine ow_ex rfl (ex_box rfl) rfl ?_
  have B : Blk (w.alloc (.cells (dotV r n).cells t_api_Dot)) w.heap.size t_api_Dot [.int .i64 r, .int .i64 n] := Blk.new w _ _
  have e1 : Ext w (w.alloc (.cells (dotV r n).cells t_api_Dot)) := Fr.alloc _ _
  generalize w.alloc (.cells (dotV r n).cells t_api_Dot) = w1 at *
  have hR := B.cell 0
  have hN := B.cell 1
  (refine o_p rfl rfl rfl ?_; refine on ?_; refine ss ?_; refine sr ?_; refine o_p rfl rfl rfl ?_)
  refine ow_ex rfl (ex_load rfl rfl rfl hR) rfl ?_
  ((iterate 2 refine o_p rfl rfl rfl ?_))
  have out : ∀ W, Ext w1 W → (r < 1 ∨ 16 < r ∨ n < 1 ∨ n ≤ atL xs r) → Calls Try.prog n_vector_Join #[va, .slice none 0 0] W fun e w' => ∃ v, e = .returned v ∧ MI w' w.heap.size v (withL xs r n) ∧ Ext w w' := by
    intro W hW hc
    refine (Join_spec (ha.ext (e1.trans hW)) (VL.nil _ _) hx (by simp)).mono ?_
    rintro e w2 ⟨v, rfl, hM, hE⟩
    refine ⟨v, rfl, ?_, (e1.trans hW).trans hE⟩
    rw [withL, if_pos hc]
    exact hM.weaken (e1.trans hW).size
  refine o_split 9 rfl (fun h1 => ?_) (fun h1 => ?_)
  · have h1 := of_decide_eq_true h1
    ((iterate 3 refine ow_skip rfl rfl ?_); (iterate 2 refine o_p rfl rfl rfl ?_); (iterate 3 refine ow_skip rfl rfl ?_); refine o_p rfl rfl rfl ?_)
    refine on (cw_cond_t rfl (sr ?_))
    (refine o_p rfl rfl rfl ?_)
    refine ow_call rfl (ec_call rfl) rfl ((out w1 (Fr.refl _ _) (.inl h1)).mono ?_)
    rintro _ w2 ⟨v, rfl, hM, hE⟩; refine ⟨_, rfl, ?_⟩
    (refine o_p rfl rfl rfl ?_)
    exact (ow_nil (pn_then (cw_ret (pn_then_ret (pn_ret rfl rfl ⟨v, rfl, hM, hE⟩)))))
  · have h1 := of_decide_eq_false h1
    (refine o_p rfl rfl rfl ?_)
    refine ow_ex rfl (ex_load rfl rfl rfl hR) rfl ?_
    ((iterate 3 refine o_p rfl rfl rfl ?_))
    refine o_split 14 rfl (fun h2 => ?_) (fun h2 => ?_)
    · have h2 := of_decide_eq_true h2
      ((iterate 3 refine ow_skip rfl rfl ?_); refine o_p rfl rfl rfl ?_)
      refine on (cw_cond_t rfl (sr ?_))
      (refine o_p rfl rfl rfl ?_)
      refine ow_call rfl (ec_call rfl) rfl ((out w1 (Fr.refl _ _) (.inr (.inl h2))).mono ?_)
      rintro _ w2 ⟨v, rfl, hM, hE⟩; refine ⟨_, rfl, ?_⟩
      (refine o_p rfl rfl rfl ?_)
      exact (ow_nil (pn_then (cw_ret (pn_then_ret (pn_ret rfl rfl ⟨v, rfl, hM, hE⟩)))))
    · have h2 := of_decide_eq_false h2
      (refine o_p rfl rfl rfl ?_)
      refine ow_ex rfl (ex_load rfl rfl rfl hN) rfl ?_
      ((iterate 2 refine o_p rfl rfl rfl ?_))
      refine on (cw_if rfl (fun h3 => ?_) (fun h3 => ?_))
      · refine sr ?_
        (refine o_p rfl rfl rfl ?_)
        refine ow_call rfl (ec_call rfl) rfl ((out w1 (Fr.refl _ _) (.inr (.inr (.inl h3)))).mono ?_)
        rintro _ w2 ⟨v, rfl, hM, hE⟩; refine ⟨_, rfl, ?_⟩
        (refine o_p rfl rfl rfl ?_)
        exact (ow_nil (pn_then (cw_ret (pn_then_ret (pn_ret rfl rfl ⟨v, rfl, hM, hE⟩)))))
      · refine (cw_skip (pn_then (cw_seq (cw_seq (cw_draw flo (fun W' => Ext w1 W') (by decide) (Fr.drew _) ?_)))))
        (refine d_p rfl rfl rfl rfl ?_)
        refine dw_rd rfl rfl (fun W' hW' => ex_load rfl rfl rfl (hW'.cell hN)) rfl ?_
        ((iterate 2 refine d_p rfl rfl rfl rfl ?_))
        refine dw_rd rfl rfl (fun W' hW' => ex_load rfl rfl rfl (hW'.cell hR)) rfl ?_
        refine dw_call rfl rfl (ec_call rfl) rfl ((At_spec_vector_At (ha.ext (e1.trans (Fr.drew _)))).mono ?_)
        rintro _ w2 ⟨rfl, rfl⟩; refine ⟨_, rfl, Fr.drew _, ?_⟩
        (refine d_p rfl rfl rfl rfl ?_)
        refine (dw_nil (pn_then (cw_if rfl (fun h4 => ?_) (fun h4 => ?_))))
        · refine sr ?_
          (refine o_p rfl rfl rfl ?_)
          refine ow_call rfl (ec_call rfl) rfl ((out _ (Fr.drew _) (.inr (.inr (.inr h4)))).mono ?_)
          rintro _ w2 ⟨v, rfl, hM, hE⟩; refine ⟨_, rfl, ?_⟩
          (refine o_p rfl rfl rfl ?_)
          exact (ow_nil (pn_then (cw_ret (pn_then_ret (pn_ret rfl rfl ⟨v, rfl, hM, hE⟩)))))
        · have e2 : Ext w1 w1.drew := Fr.drew _
          generalize w1.drew = w2 at *
          refine (cw_skip (pn_then (cw_seq (cw_region ?_))))
          (refine o_p rfl rfl rfl ?_)
          refine ow_ex rfl (ex_load rfl rfl rfl (e2.cell hR)) rfl ?_
          refine ow_make (n := r.toNat) (base := w2.heap.size) (sz := 1) rfl rfl rfl rfl rfl rfl rfl rfl (by omega) (by omega) (Nat.le_refl _) ?_
          intro w3 own e3
          have hz3 := Mine.block own rfl
          rw [Nat.mul_one] at own
          change Mine w3 _ _ _ _ _ (madeCells #[.int .i64 0] r.toNat).toList at own
          rw [madeCells_one] at own
          (refine o_p rfl rfl rfl ?_; refine on ?_; refine sr ?_; (iterate 2 refine o_p rfl rfl rfl ?_))
          refine ow_ex rfl (ex_load rfl rfl rfl (Ext.cell (e2.trans e3) hR)) rfl ?_
          refine o_c rfl rfl rfl (by unfold I64; omega) ?_
          (refine o_p rfl rfl rfl ?_)
          refine ow_ex rfl (ex_load rfl rfl rfl (Ext.cell (e2.trans e3) hN)) rfl ?_
          refine o_ix (r - 1).toNat rfl rfl rfl (by omega) (by omega) ?_
          obtain ⟨g, cap, cur, hv, hbg, hg3, hh, hcl, htk⟩ := Mine.row own (by omega)
          simp only [Value.slice.injEq, Option.some.injEq, Addr.mk.injEq, and_true, true_and] at hv
          obtain ⟨rfl, rfl⟩ := hv
          have hcell := cell_of_row w3 _ (r - 1).toNat cur _ (0, 0) hh
          have hlt : (r - 1).toNat < cur.size := by simp at hcl; omega
          obtain ⟨x0, hx0⟩ : ∃ u, cur[(r - 1).toNat]? = some u := ⟨_, Array.getElem?_eq_getElem hlt⟩; rw [hx0] at hcell
          have h0 : 0 + (r - 1).toNat = (r - 1).toNat := Nat.zero_add _
          have hfr := frozen_of_row w3 w2.heap.size (r - 1).toNat cur t_int hh
          rw [← h0] at hcell hfr
          refine ow_eu rfl (eu_store rfl rfl rfl rfl rfl hcell hfr) ?_
          have st := (World.ownsRow.stored (w := w3) own (r - 1).toNat (.int .i64 n)).1
          have f4 := Fr.setCell w3 ⟨w2.heap.size, (r - 1).toNat, none⟩ (.int .i64 n)
          have e4 : Ext w1 (w3.setCell ⟨w2.heap.size, (r - 1).toNat, none⟩ (.int .i64 n)) := (e2.trans e3).trans' f4 (fun j hj h => by have := e2.size; simp at h; omega)
          change OW _ _ _ _ _ _ _ _ (w3.setCell ⟨w2.heap.size, 0 + (r - 1).toNat, none⟩ (.int .i64 n))
          rw [h0]
          generalize w3.setCell ⟨w2.heap.size, (r - 1).toNat, none⟩ (.int .i64 n) = w4 at *
          have hone : IL w4 (.slice (some ⟨w2.heap.size, 0, none⟩) r.toNat r.toNat) (oneL r n) := by
            have := Mine.sl st
            unfold IL VL oneL
            simp only [List.length_set, List.length_replicate, List.map_set, List.map_replicate]
            exact this
          (refine on ?_; refine sr ?_; (iterate 2 refine o_p rfl rfl rfl ?_))
          refine ow_call rfl (ec_call rfl) rfl ((Join_spec (ha.ext (e1.trans e4)) hone hx (by simp [oneL]; omega)).mono ?_)
          rintro _ w5 ⟨v, rfl, hM, hE⟩; refine ⟨_, rfl, ?_⟩
          (refine o_p rfl rfl rfl ?_)
          refine (ow_nil (pn_then (cw_ret (pn_ret rfl rfl ⟨v, rfl, ?_, (e1.trans e4).trans hE⟩))))
          rw [withL, if_neg (by omega)]
          exact hM.weaken (e1.trans e4).size

theorem with_ref {xs : List Int} {r n : Int} (h1 : 1 ≤ r) (h4 : atL xs r < n) :
    joinL xs (oneL r n) = (joinL xs [] ++ List.replicate (r.toNat - (joinL xs []).length) 0).set (r - 1).toNat n := by
  have hl : (joinL xs []).length = xs.length := by simp [pickL]
  apply List.ext_getElem
  · simp [pickL, oneL]; omega
  · intro i hi1 hi2
    rw [List.getElem_set]
    have e1 : (joinL xs (oneL r n))[i] = max (nn xs i) (nn (oneL r n) i) := by simp [pickL]
    have hat : atL xs r = nn xs (r - 1).toNat := by
      have := atL_succ xs (r - 1).toNat
      rwa [show (((r - 1).toNat : Nat) : Int) + 1 = r from by omega] at this
    have hn0 := nn_nonneg xs (r - 1).toNat
    rw [e1]
    split
    · rename_i h; subst h
      have : nn (oneL r n) (r - 1).toNat = max n 0 := by
        have hlt : (r - 1).toNat < (oneL r n).length := by simp [oneL]; omega
        rw [nn_in hlt]; simp [oneL]
      rw [this]; omega
    · rename_i h
      have h0 : nn (oneL r n) i = 0 := by
        by_cases hlt : i < (oneL r n).length
        · have e0 : (oneL r n)[i] = 0 := by simp only [oneL]; rw [List.getElem_set_ne h]; simp
          rw [nn_in hlt, e0]; rfl
        · exact nn_out (by omega)
      rw [h0]
      have := nn_nonneg xs i
      by_cases hi : i < xs.length
      · rw [List.getElem_append_left (by omega)]
        have : (joinL xs [])[i]'(by omega) = max (nn xs i) (nn [] i) := by simp [pickL]
        rw [this, nn_out (xs := []) (by simp)]
      · rw [List.getElem_append_right (by omega), nn_out (by omega)]
        simp

end Go.Proofs.Ytgkhflcpbjlmiaa
/- Vectors, part six: Less of both packages, and what the laws use besides. Conditions: the vectors may be read, and are not too long. -/
namespace Go.Proofs.Ytgkhflcpbjlmiaa
open Go.Eng Go.RowKit

instance : EqT Try.prog t_api_Dot := ⟨by kernel_rfl⟩
set_option maxRecDepth 100000 in
theorem eq_dot (a b c d : Int) (w : World) : (Op.equalIn 10000 t_api_Dot (dotV a b) (dotV c d)).run Try.prog w = .ok (decide (a = c ∧ b = d)) w := by
  have hS : Try.prog.underlying t_api_Dot = some (.struct (Try.prog.fieldsOf t_api_Dot)) := by kernel_rfl
  have hp : Try.prog.stoodInHeld t_api_Dot = false := by kernel_rfl
  have hf : ∃ f g : Field, (Try.prog.fieldsOf t_api_Dot).toList = [f, g] ∧ f.name ≠ "_" ∧ g.name ≠ "_" ∧ f.type = t_int ∧ g.type = t_int ∧ f.offset = 0 ∧ g.offset = 1 :=
    ⟨_, _, rfl, by decide, by decide, rfl, rfl, rfl, rfl⟩
  obtain ⟨f, g, h1, h2, h3, h4, h5, h6, h7⟩ := hf
  have ui : Try.prog.underlying t_int = some (.int .i64) := by kernel_rfl
  rw [show (10000 : Nat) = 9998 + 1 + 1 from rfl, run_equalIn_struct w 9999 t_api_Dot _ _ hS hp, h1]
  have p0 : ∀ (x y : Int), (part t_int #[.int .i64 x, .int .i64 y] 0).run Try.prog w = .ok (.int .i64 x) w := fun x y => by simp [part, isAgg, run_underlying ui]
  have p1 : ∀ (x y : Int), (part t_int #[.int .i64 x, .int .i64 y] 1).run Try.prog w = .ok (.int .i64 y) w := fun x y => by simp [part, isAgg, run_underlying ui]
  have q : ∀ x y : Int, (Op.equalIn 9999 t_int (.int .i64 x) (.int .i64 y)).run Try.prog w = .ok (x == y) w := fun x y => run_equalIn_int w 9998 t_int .i64 .i64 x y ui
  simp only [Op.eqFields, h2, h3, h4, h5, h6, h7, ne_eq, not_false_eq_true, if_true, Sem.run_bind, p0, p1, q, Result.andThen_ok]
  by_cases e1 : a = c <;> by_cases e2 : b = d <;> simp [e1, e2, p1, q]

def cmpV (a b : Int) : Int := if a < b then -1 else if b < a then 1 else 0
def cmpVs : List Int → List Int → Int
  | [], [] => 0
  | [], _ :: _ => -1
  | _ :: _, [] => 1
  | x :: xs, y :: ys => if cmpV x y ≠ 0 then cmpV x y else cmpVs xs ys

theorem isNaN_spec (a : Int) (w : World) : Calls Try.prog n_cmp_isNaN_int #[.int .i64 a] w fun e w' => e = .returned (.bool false) ∧ w = w' := by
  refine enter1 F_cmp_isNaN_int rfl rfl ?_
  (refine sr ?_; refine o_p rfl rfl rfl ?_; refine on ?_; refine sr ?_; (iterate 4 refine o_p rfl rfl rfl ?_); refine on ?_)
  exact cw_ret (pn_ret rfl rfl ⟨by simp, rfl⟩)

theorem Compare_spec (a b : Int) (w : World) : Calls Try.prog n_cmp_Compare_int #[.int .i64 a, .int .i64 b] w fun e w' => e = .returned (.int .i64 (cmpV a b)) ∧ w = w' := by
  refine enter2 F_cmp_Compare_int rfl rfl ?_
  (refine sr ?_; refine o_p rfl rfl rfl ?_; refine on ?_; refine sr ?_; refine o_p rfl rfl rfl ?_)
  refine ow_call rfl (ec_call rfl) rfl ((isNaN_spec a w).mono ?_)
  rintro _ w1 ⟨rfl, rfl⟩; refine ⟨_, rfl, ?_⟩
  (refine o_p rfl rfl rfl ?_; refine on ?_; refine sr ?_; refine o_p rfl rfl rfl ?_)
  refine ow_call rfl (ec_call rfl) rfl ((isNaN_spec b w).mono ?_)
  rintro _ w1 ⟨rfl, rfl⟩; refine ⟨_, rfl, ?_⟩
  (refine o_p rfl rfl rfl ?_; refine on ?_; refine ss ?_; refine sr ?_; refine o_p rfl rfl rfl ?_; refine on ?_)
  refine cw_cond_f rfl (cw_skip (pn_then (ss (sr ?_))))
  (refine o_p rfl rfl rfl ?_; refine on ?_)
  refine cw_cond_f rfl (cw_skip (pn_then (ss (sr ?_))))
  ((iterate 3 refine o_p rfl rfl rfl ?_); refine on ?_)
  refine cw_if rfl (fun h1 => sr ?_) (fun h1 => cw_skip (pn_then (ss (sr ?_))))
  · (refine o_p rfl rfl rfl ?_; refine on ?_)
    exact cw_ret (pn_then_ret (pn_ret rfl rfl ⟨by simp [cmpV, h1], rfl⟩))
  · ((iterate 3 refine o_p rfl rfl rfl ?_); refine on ?_)
    refine cw_if rfl (fun h2 => sr ?_) (fun h2 => cw_skip (pn_then (sr ?_)))
    · (refine o_p rfl rfl rfl ?_; refine on ?_)
      exact cw_ret (pn_then_ret (pn_ret rfl rfl ⟨by simp [cmpV, h1, h2], rfl⟩))
    · (refine o_p rfl rfl rfl ?_; refine on ?_)
      exact cw_ret (pn_ret rfl rfl ⟨by simp [cmpV, h1, h2], rfl⟩)

theorem CompareFunc_spec {va vb : Value} {xs ys : List Int} {w : World} (ha : IL w va xs) (hb : IL w vb ys) (hx : xs.length ≤ 1048576) :
    Calls Try.prog n_slices_CompareFunc_sl_int_sl_int_int_int #[va, vb, .func (.func n_cmp_Compare_int) ⟨[]⟩ ⟨[]⟩] w fun e w' => e = .returned (.int .i64 (cmpVs xs ys)) ∧ w = w' := by
  obtain ⟨A, c, rfl, hnc, hcm, hz, hcell⟩ := ha.op
  obtain ⟨A', c', rfl, hnc', hcm', hz', hcell'⟩ := hb.op
  refine enter3 F_slices_CompareFunc_sl_int_sl_int_int_int rfl rfl ?_
  (refine sr ?_; refine o_p rfl rfl rfl ?_; refine on ?_; refine ss ?_; refine sr ?_; (iterate 3 refine o_p rfl rfl rfl ?_); refine on ?_)
  refine cw_block (cw_loop (G := Nat) (fun k => [(0, .slice A xs.length c), (1, .slice A' ys.length c'), (2, .func (.func n_cmp_Compare_int) ⟨[]⟩ ⟨[]⟩), (11, .slice A xs.length c), (12, .int .i64 xs.length), (13, .int .i64 (k : Int))])
    (fun k W => w = W ∧ k ≤ xs.length ∧ k ≤ ys.length ∧ cmpVs xs ys = cmpVs (xs.drop k) (ys.drop k)) (fun k => xs.length - k) ?_ ?_)
  · exact ⟨0, ⟨rfl, rfl, rfl, rfl, rfl, rfl, trivial⟩, rfl, Nat.zero_le _, Nat.zero_le _, by simp⟩
  rintro k W ⟨rfl, hk, hk', hJ⟩
  try dsimp only
  (refine sr ?_; refine o_p rfl rfl rfl ?_; refine on ?_)
  refine cw_seq (cw_if rfl (fun h => ?_) (fun h => ?_))
  · refine (cw_skip (pn_then (cw_seq (cw_block (sr ?_)))))
    obtain ⟨bk, off, rfl, hbk, hc⟩ := hcell k (by omega)
    have hck := hc k (by omega)
    (refine o_p rfl rfl rfl ?_)
    refine o_ix k rfl rfl rfl (by omega) (by omega) ?_
    refine ow_ex rfl (ex_load rfl rfl rfl hck) rfl ?_
    ((iterate 2 refine o_p rfl rfl rfl ?_); refine on ?_; refine ss ?_; refine sr ?_; (iterate 4 refine o_p rfl rfl rfl ?_); refine on ?_)
    refine cw_if rfl (fun h1 => ?_) (fun h1 => ?_)
    · refine sr ?_
      (refine o_p rfl rfl rfl ?_)
      refine (ow_nil (pn_then (cw_ret (pn_then_ret (pn_block_ret (pn_then_ret (pn_loop_ret (pn_block_ret (pn_then_ret (pn_ret rfl rfl ⟨?_, rfl⟩))))))))))
      rw [hJ, List.drop_eq_getElem_cons (by omega), List.drop_eq_nil_of_le (show ys.length ≤ _ by omega)]
      rfl
    · obtain ⟨bk', off', rfl, hbk', hc'⟩ := hcell' k (by omega)
      have hck' := hc' k (by omega)
      refine cw_skip (pn_then (sr ?_))
      ((iterate 2 refine o_p rfl rfl rfl ?_))
      refine o_ix k rfl rfl rfl (by omega) (by omega) ?_
      refine ow_ex rfl (ex_load rfl rfl rfl hck') rfl ?_
      (refine o_p rfl rfl rfl ?_; refine on ?_; refine sr ?_; (iterate 3 refine o_p rfl rfl rfl ?_))
      refine ow_call rfl (ec_call rfl) rfl ((Compare_spec _ _ _).mono ?_)
      rintro _ w1 ⟨rfl, rfl⟩; refine ⟨_, rfl, ?_⟩
      (refine o_p rfl rfl rfl ?_; refine on ?_; refine sr ?_; (iterate 2 refine o_p rfl rfl rfl ?_); refine on ?_)
      have hstep : cmpVs xs ys = if cmpV xs[k] ys[k] ≠ 0 then cmpV xs[k] ys[k] else cmpVs (xs.drop (k + 1)) (ys.drop (k + 1)) := by
        rw [hJ, List.drop_eq_getElem_cons (l := xs) (by omega), List.drop_eq_getElem_cons (l := ys) (by omega)]
        rfl
      refine cw_cond rfl (fun h2 => ?_) (fun h2 => ?_)
      · refine sr ?_
        ((iterate 2 refine o_p rfl rfl rfl ?_))
        refine (ow_nil (pn_then (cw_ret (pn_block_ret (pn_then_ret (pn_loop_ret (pn_block_ret (pn_then_ret (pn_ret rfl rfl ⟨?_, rfl⟩)))))))))
        rw [hstep, if_pos (by simpa using h2)]
      · refine (cw_skip (pn_block (pn_then (cw_region ?_))))
        refine o_c rfl rfl rfl (by unfold I64; omega) ?_
        (refine o_p rfl rfl rfl ?_)
        refine (ow_nil (pn_round (k + 1) ?_ ?_ ?_))
        · exact ⟨rfl, rfl, rfl, rfl, rfl, rfl, trivial⟩
        · exact ⟨rfl, by omega, by omega, by rw [hstep, if_neg (by simpa using h2)]⟩
        · show xs.length - (k + 1) < xs.length - k; omega
  · refine (cw_exit (pn_then_exit (pn_loop_exit (pn_block_exit (pn_then (ss (sr ?_)))))))
    obtain rfl : k = xs.length := by omega
    rw [List.drop_length] at hJ
    ((iterate 5 refine o_p rfl rfl rfl ?_); refine on ?_)
    refine cw_if rfl (fun h1 => ?_) (fun h1 => ?_)
    · refine sr ?_
      (refine o_p rfl rfl rfl ?_)
      refine (ow_nil (pn_then (cw_ret (pn_then_ret (pn_ret rfl rfl ⟨?_, rfl⟩)))))
      rw [hJ, List.drop_eq_getElem_cons (l := ys) (by omega)]
      rfl
    · refine cw_skip (pn_then (sr ?_))
      (refine o_p rfl rfl rfl ?_)
      refine (ow_nil (pn_then (cw_ret (pn_ret rfl rfl ⟨?_, rfl⟩))))
      rw [hJ, List.drop_eq_nil_of_le (show ys.length ≤ _ by omega)]
      rfl

def lessL (ra na : Int) (xs : List Int) (rb nb : Int) (ys : List Int) : Bool :=
  decide (weightL xs < weightL ys ∨ (weightL xs = weightL ys ∧ (ra < rb ∨ (ra = rb ∧ na < nb))))
theorem less_cmp {ra na rb nb : Int} {xs ys : List Int} (h : ¬ (ra = rb ∧ na = nb)) : decide (cmpVs [weightL xs, ra, na] [weightL ys, rb, nb] < 0) = lessL ra na xs rb nb ys := by
  unfold lessL
  rw [decide_eq_decide]
  simp only [cmpVs, cmpV]
  split <;> (try split) <;> (try split) <;> omega

theorem refLess_spec {va vb : Value} {xs ys : List Int} {ra na rb nb : Int} {w : World} (ha : IL w va xs) (hb : IL w vb ys) (hx : xs.length ≤ 1048576) (hy : ys.length ≤ 1048576) :
    Calls Try.prog n_entrepotref14_Less #[dotV ra na, va, dotV rb nb, vb] w fun e w' => e = .returned (.bool (lessL ra na xs rb nb ys)) ∧ Ext w w' := by
  refine enter4 F_entrepotref14_Less rfl rfl ?_
  refine (cw_seq (cw_region ?_))
  refine ow_ex rfl (ex_box rfl) rfl ?_
  have B : Blk (w.alloc (.cells (dotV ra na).cells t_api_Dot)) w.heap.size t_api_Dot [.int .i64 ra, .int .i64 na] := Blk.new w _ _
  have e1 : Ext w (w.alloc (.cells (dotV ra na).cells t_api_Dot)) := Fr.alloc _ _
  generalize w.alloc (.cells (dotV ra na).cells t_api_Dot) = w1 at *
  refine ow_ex rfl (ex_box rfl) rfl ?_
  have B' : Blk (w1.alloc (.cells (dotV rb nb).cells t_api_Dot)) w1.heap.size t_api_Dot [.int .i64 rb, .int .i64 nb] := Blk.new w1 _ _
  have e2 : Ext w1 (w1.alloc (.cells (dotV rb nb).cells t_api_Dot)) := Fr.alloc _ _
  generalize w1.alloc (.cells (dotV rb nb).cells t_api_Dot) = w2 at *
  (refine o_p rfl rfl rfl ?_; refine on ?_; refine sr ?_; refine o_p rfl rfl rfl ?_)
  refine ow_call rfl (ec_call rfl) rfl ((refWeight_spec (ha.ext (e1.trans e2)) hx).mono ?_)
  rintro _ w3 ⟨rfl, e3⟩; refine ⟨_, rfl, ?_⟩
  (refine o_p rfl rfl rfl ?_)
  refine ow_call rfl (ec_call rfl) rfl ((refWeight_spec (hb.ext ((e1.trans e2).trans e3)) hy).mono ?_)
  rintro _ w4 ⟨rfl, e4⟩; refine ⟨_, rfl, ?_⟩
  have e34 := e3.trans e4
  have C := (B.ext e2).ext e34
  have C' := B'.ext e34
  have eE := (e1.trans e2).trans e34
  ((iterate 2 refine o_p rfl rfl rfl ?_))
  refine (ow_nil (pn_then (cw_seq (cw_block (cw_seq (cw_region ?_))))))
  ((iterate 4 refine o_p rfl rfl rfl ?_))
  refine (ow_nil (pn_then (cw_cond rfl (fun h1 => ?_) (fun h1 => ?_))))
  · refine sr ?_
    ((iterate 4 refine o_p rfl rfl rfl ?_))
    refine (ow_nil (pn_then (cw_ret (pn_block_ret (pn_then_ret (pn_ret rfl rfl ⟨?_, eE⟩))))))
    have h1 : ¬ weightL xs = weightL ys := by simpa using h1
    simp [lessL, h1]
  · have h1 : weightL xs = weightL ys := by simpa using h1
    refine sr ?_
    (refine o_p rfl rfl rfl ?_)
    refine ow_ex rfl (ex_load rfl rfl rfl (C.cell 0)) rfl ?_
    (refine o_p rfl rfl rfl ?_)
    refine ow_ex rfl (ex_load rfl rfl rfl (C'.cell 0)) rfl ?_
    ((iterate 2 refine o_p rfl rfl rfl ?_))
    refine (ow_nil (pn_then (cw_cond rfl (fun h2 => ?_) (fun h2 => ?_))))
    · refine sr ?_
      (refine o_p rfl rfl rfl ?_)
      refine ow_ex rfl (ex_load rfl rfl rfl (C.cell 0)) rfl ?_
      (refine o_p rfl rfl rfl ?_)
      refine ow_ex rfl (ex_load rfl rfl rfl (C'.cell 0)) rfl ?_
      ((iterate 2 refine o_p rfl rfl rfl ?_))
      refine (ow_nil (pn_then (cw_ret (pn_block_ret (pn_then_ret (pn_ret rfl rfl ⟨?_, eE⟩))))))
      have h2 : ¬ ra = rb := by simpa using h2
      simp [lessL, h1, h2]
    · refine (cw_skip (pn_block (pn_then (cw_seq (cw_region ?_)))))
      (refine o_p rfl rfl rfl ?_)
      refine ow_ex rfl (ex_load rfl rfl rfl (C.cell 1)) rfl ?_
      (refine o_p rfl rfl rfl ?_)
      refine ow_ex rfl (ex_load rfl rfl rfl (C'.cell 1)) rfl ?_
      ((iterate 2 refine o_p rfl rfl rfl ?_))
      refine (ow_nil (pn_then (cw_ret (pn_ret rfl rfl ⟨?_, eE⟩))))
      have h2 : ra = rb := by simpa using h2
      simp [lessL, h1, h2]

theorem fill3 (a b c : Value) (ha : a.cells.toList = [a]) (hb : b.cells.toList = [b]) (hc : c.cells.toList = [c]) (z : List Value) (hz : z.length = 3 * 1) : fillL (fun k => some (k * 1, 1)) z [(0, a), (1, b), (2, c)] = some [a, b, c] := by
  match z, hz with
  | [x, y, u], _ =>
    have e : ∀ v : Value, v.cells.toList = [v] → v.cells.size = 1 := fun v h => by rw [← Array.length_toList, h]; rfl
    simp [fillL, spl, ha, hb, hc, e a ha, e b hb, e c hc]

theorem Less_spec {va vb : Value} {xs ys : List Int} {ra na rb nb : Int} {w : World} (ha : IL w va xs) (hb : IL w vb ys) :
    Calls Try.prog n_vector_Less #[dotV ra na, va, dotV rb nb, vb] w fun e w' => e = .returned (.bool (lessL ra na xs rb nb ys)) ∧ Ext w w' := by
  refine enter4 F_vector_Less rfl rfl ?_
  refine (cw_seq (cw_region ?_))
  refine ow_ex rfl (ex_box rfl) rfl ?_
  have B : Blk (w.alloc (.cells (dotV ra na).cells t_api_Dot)) w.heap.size t_api_Dot [.int .i64 ra, .int .i64 na] := Blk.new w _ _
  have e1 : Ext w (w.alloc (.cells (dotV ra na).cells t_api_Dot)) := Fr.alloc _ _
  generalize w.alloc (.cells (dotV ra na).cells t_api_Dot) = w1 at *
  refine ow_ex rfl (ex_box rfl) rfl ?_
  have B' : Blk (w1.alloc (.cells (dotV rb nb).cells t_api_Dot)) w1.heap.size t_api_Dot [.int .i64 rb, .int .i64 nb] := Blk.new w1 _ _
  have e2 : Ext w1 (w1.alloc (.cells (dotV rb nb).cells t_api_Dot)) := Fr.alloc _ _
  generalize w1.alloc (.cells (dotV rb nb).cells t_api_Dot) = w2 at *
  have B := B.ext e2
  have e2 := e1.trans e2
  (refine o_p rfl rfl rfl ?_)
  refine (ow_nil (pn_then (cw_seq (cw_draw flo (fun W' => Ext w2 W') (by decide) (Fr.drew _) ?_))))
  (refine d_p rfl rfl rfl rfl ?_)
  refine dw_call rfl rfl (ec_call rfl) rfl ((Weight_spec (ha.ext (e2.trans (Fr.drew _)))).mono ?_)
  rintro _ w3 ⟨rfl, e3⟩; refine ⟨_, rfl, (Fr.drew _).trans e3, ?_⟩
  (refine d_p rfl rfl rfl rfl ?_)
  refine dw_rd rfl rfl (fun W' hW' => ex_load rfl rfl rfl (hW'.cell (B.cell 0))) rfl ?_
  (refine d_p rfl rfl rfl rfl ?_)
  refine dw_rd rfl rfl (fun W' hW' => ex_load rfl rfl rfl (hW'.cell (B.cell 1))) rfl ?_
  refine dw_ex rfl rfl (ex_buildSlice (vs := [(0, .int .i64 (weightL xs)), (1, .int .i64 ra), (2, .int .i64 na)]) (cells := [.int .i64 (weightL xs), .int .i64 ra, .int .i64 na]) rfl rfl rfl rfl (by decide) (fill3 _ _ _ rfl rfl rfl)) (((Fr.drew _).trans e3).trans (Fr.alloc _ _)) rfl ?_
  have D := Blk.new w3 t_int [.int .i64 (weightL xs), .int .i64 ra, .int .i64 na]
  have e4 : Ext w2 (w3.alloc (.cells [.int .i64 (weightL xs), .int .i64 ra, .int .i64 na].toArray t_int)) := ((Fr.drew _).trans e3).trans (Fr.alloc _ _)
  generalize hw4 : w3.alloc (.cells [.int .i64 (weightL xs), .int .i64 ra, .int .i64 na].toArray t_int) = w4 at *
  (refine d_p rfl rfl rfl rfl ?_)
  refine (dw_nil (pn_then (cw_seq (cw_draw flo (fun W' => Ext w4 W') (by decide) (Fr.drew _) ?_))))
  (refine d_p rfl rfl rfl rfl ?_)
  refine dw_call rfl rfl (ec_call rfl) rfl ((Weight_spec (hb.ext ((e2.trans e4).trans (Fr.drew _)))).mono ?_)
  rintro _ w5 ⟨rfl, e5⟩; refine ⟨_, rfl, (Fr.drew _).trans e5, ?_⟩
  (refine d_p rfl rfl rfl rfl ?_)
  refine dw_rd rfl rfl (fun W' hW' => ex_load rfl rfl rfl (hW'.cell (e4.cell (B'.cell 0)))) rfl ?_
  (refine d_p rfl rfl rfl rfl ?_)
  refine dw_rd rfl rfl (fun W' hW' => ex_load rfl rfl rfl (hW'.cell (e4.cell (B'.cell 1)))) rfl ?_
  refine dw_ex rfl rfl (ex_buildSlice (vs := [(0, .int .i64 (weightL ys)), (1, .int .i64 rb), (2, .int .i64 nb)]) (cells := [.int .i64 (weightL ys), .int .i64 rb, .int .i64 nb]) rfl rfl rfl rfl (by decide) (fill3 _ _ _ rfl rfl rfl)) (((Fr.drew _).trans e5).trans (Fr.alloc _ _)) rfl ?_
  have D' := Blk.new w5 t_int [.int .i64 (weightL ys), .int .i64 rb, .int .i64 nb]
  have e6 : Ext w4 (w5.alloc (.cells [.int .i64 (weightL ys), .int .i64 rb, .int .i64 nb].toArray t_int)) := ((Fr.drew _).trans e5).trans (Fr.alloc _ _)
  generalize hw6 : w5.alloc (.cells [.int .i64 (weightL ys), .int .i64 rb, .int .i64 nb].toArray t_int) = w6 at *
  (refine d_p rfl rfl rfl rfl ?_)
  have eE := (e2.trans e4).trans e6
  have C := (B.ext e4).ext e6
  have C' := (B'.ext e4).ext e6
  have x1 : IL w6 (.slice (some ⟨w3.heap.size, 0, none⟩) 3 3) [weightL xs, ra, na] := (D.ext e6).sl (n := 3) (sz := 1) rfl (by decide)
  have x2 : IL w6 (.slice (some ⟨w5.heap.size, 0, none⟩) 3 3) [weightL ys, rb, nb] := D'.sl (n := 3) (sz := 1) rfl (by decide)
  refine (dw_nil (pn_then (cw_seq (cw_region ?_))))
  refine ow_ex rfl (ex_loadN (cs := [.int .i64 ra, .int .i64 na]) rfl rfl rfl rfl (fun j _ => by rw [Nat.zero_add]; exact C.cell j)) rfl ?_
  refine ow_ex rfl (ex_loadN (cs := [.int .i64 rb, .int .i64 nb]) rfl rfl rfl rfl (fun j _ => by rw [Nat.zero_add]; exact C'.cell j)) rfl ?_
  refine ow_pu rfl (pu_neA rfl rfl (eq_dot ra na rb nb)) rfl ?_
  (refine o_p rfl rfl rfl ?_)
  refine o_split 28 rfl (fun h1 => ?_) (fun h1 => ?_)
  · have h1 : ¬ (ra = rb ∧ na = nb) := by simpa only [Bool.not_eq_true', decide_eq_false_iff_not] using h1
    ((iterate 2 refine o_p rfl rfl rfl ?_))
    refine ow_call rfl (ec_call rfl) rfl ((CompareFunc_spec x1 x2 (by simp)).mono ?_)
    rintro _ w7 ⟨rfl, rfl⟩; refine ⟨_, rfl, ?_⟩
    ((iterate 3 refine o_p rfl rfl rfl ?_))
    rw [less_cmp h1]
    refine o_split 34 rfl (fun h2 => ?_) (fun h2 => ?_)
    · ((iterate 10 refine ow_skip rfl rfl ?_); (iterate 2 refine o_p rfl rfl rfl ?_))
      refine (ow_nil (pn_then (cw_ret (pn_ret rfl rfl ⟨?_, eE⟩))))
      rw [h2]
    · refine ow_ex rfl (ex_loadN (cs := [.int .i64 ra, .int .i64 na]) rfl rfl rfl rfl (fun j _ => by rw [Nat.zero_add]; exact C.cell j)) rfl ?_
      refine ow_ex rfl (ex_loadN (cs := [.int .i64 rb, .int .i64 nb]) rfl rfl rfl rfl (fun j _ => by rw [Nat.zero_add]; exact C'.cell j)) rfl ?_
      refine ow_pu rfl (pu_eqA rfl rfl (eq_dot ra na rb nb)) rfl ?_
      (refine o_p rfl rfl rfl ?_)
      rw [decide_eq_false h1]
      ((iterate 5 refine ow_skip rfl rfl ?_); (iterate 3 refine o_p rfl rfl rfl ?_))
      refine (ow_nil (pn_then (cw_ret (pn_ret rfl rfl ⟨?_, eE⟩))))
      rw [h2]
  · have h1 : ra = rb ∧ na = nb := by simpa using h1
    ((iterate 4 refine ow_skip rfl rfl ?_); (iterate 2 refine o_p rfl rfl rfl ?_))
    refine ow_ex rfl (ex_loadN (cs := [.int .i64 ra, .int .i64 na]) rfl rfl rfl rfl (fun j _ => by rw [Nat.zero_add]; exact C.cell j)) rfl ?_
    refine ow_ex rfl (ex_loadN (cs := [.int .i64 rb, .int .i64 nb]) rfl rfl rfl rfl (fun j _ => by rw [Nat.zero_add]; exact C'.cell j)) rfl ?_
    refine ow_pu rfl (pu_eqA rfl rfl (eq_dot ra na rb nb)) rfl ?_
    (refine o_p rfl rfl rfl ?_)
    rw [decide_eq_true h1]
    (refine o_p rfl rfl rfl ?_)
    refine ow_call rfl (ec_call rfl) rfl ((Weight_spec (ha.ext eE)).mono ?_)
    rintro _ w7 ⟨rfl, e7⟩; refine ⟨_, rfl, ?_⟩
    (refine o_p rfl rfl rfl ?_)
    refine ow_call rfl (ec_call rfl) rfl ((Weight_spec (hb.ext (eE.trans e7))).mono ?_)
    rintro _ w8 ⟨rfl, e8⟩; refine ⟨_, rfl, ?_⟩
    ((iterate 4 refine o_p rfl rfl rfl ?_))
    refine (ow_nil (pn_then (cw_ret (pn_ret rfl rfl ⟨?_, (eE.trans e7).trans e8⟩))))
    simp [lessL, h1]

/-! ## The laws' own helpers -/
def pickI (r n : Int) : Int := if n ≤ 0 then 0 else r % n
theorem Pick_spec (r n : Int) (hn : I64 n) (w : World) : Calls Try.prog n_entrepotkit_Pick #[.int .i64 r, .int .i64 n] w fun e w' => e = .returned (.int .i64 (pickI r n)) ∧ w = w' := by
  refine enter2 F_entrepotkit_Pick rfl rfl ?_
  (refine sr ?_; refine o_p rfl rfl rfl ?_; refine on ?_; refine ss ?_; refine sr ?_; (iterate 2 refine o_p rfl rfl rfl ?_); refine on ?_)
  refine cw_if rfl (fun h => ?_) (fun h => ?_)
  · refine sr ?_
    (refine o_p rfl rfl rfl ?_)
    exact (ow_nil (pn_then (cw_ret (pn_then_ret (pn_ret rfl rfl ⟨by simp [pickI, h], rfl⟩)))))
  · have e := Int.emod_def r n
    have h0 := Int.emod_nonneg r (show n ≠ 0 by omega)
    have h1 := Int.emod_lt_of_pos r (show 0 < n by omega)
    have ht : r.tmod n = if 0 ≤ r ∨ r % n = 0 then r % n else r % n - n := by
      rw [Int.tmod_eq_emod]
      have hn : ((n.natAbs : Nat) : Int) = n := by omega
      have hd : n ∣ r ↔ r % n = 0 := Int.dvd_iff_emod_eq_zero
      simp only [hd]
      split
      · omega
      · rw [hn]
    refine cw_skip (pn_then (sr ?_))
    ((iterate 2 refine o_p rfl rfl rfl ?_))
    refine o_c rfl rfl rfl (by omega) ?_
    (refine o_p rfl rfl rfl ?_; refine on ?_; refine ss ?_; refine sr ?_; (iterate 2 refine o_p rfl rfl rfl ?_); refine on ?_)
    refine cw_if rfl (fun h2 => ?_) (fun h2 => ?_)
    · refine (cw_region ?_)
      ((iterate 2 refine o_p rfl rfl rfl ?_))
      unfold I64 at hn
      refine o_c rfl rfl rfl (by unfold I64; rw [ht]; split <;> omega) ?_
      (refine o_p rfl rfl rfl ?_; refine on ?_; refine sr ?_; (iterate 2 refine o_p rfl rfl rfl ?_); refine on ?_)
      refine cw_ret (pn_ret rfl rfl ⟨?_, rfl⟩)
      rw [ht] at h2 ⊢
      split at h2
      · omega
      · rename_i h3
        rw [if_neg h3, pickI, if_neg h]
        have : r % n - n + n = r % n := by omega
        rw [this]
    · refine cw_skip (pn_then (sr ?_))
      ((iterate 2 refine o_p rfl rfl rfl ?_))
      refine (ow_nil (pn_then (cw_ret (pn_ret rfl rfl ⟨?_, rfl⟩))))
      rw [ht] at h2 ⊢
      split at h2
      · rename_i h3
        rw [if_pos h3, pickI, if_neg h]
      · omega

def wideL (xs : List Int) : Bool := xs.any fun x => decide (1125899906842624 < x)
end Go.Proofs.Ytgkhflcpbjlmiaa
/- Digests, part one: words of 32 bits; how a block's 64 words are spread. Conditions: the bytes may be read. -/
namespace Go.Proofs.Ytgkhflcpbjlmiaa
open Go.Eng Go.RowKit

/-! ## Words -/
def or32 (a b : Int) : Int := bitv .or .u32 a b
def xor32 (a b : Int) : Int := bitv .xor .u32 a b
def and32 (a b : Int) : Int := bitv .and .u32 a b
def add32 (a b : Int) : Int := IntKind.u32.wrap (a + b)
def shl32 (a : Int) (n : Nat) : Int := IntKind.u32.wrap (a * 2 ^ n)
def shr32 (a : Int) (n : Nat) : Int := a.fdiv (2 ^ n)
def rotr (a : Int) (n : Nat) : Int := or32 (shl32 a (32 - n)) (shr32 a n)
theorem or32_comm (a b : Int) : or32 a b = or32 b a := by simp [or32, bitv, BitVec.or_comm]

theorem rot_amount : ∀ n : Fin 32, 1 ≤ n.val → bitv .and .u64 (IntKind.u64.wrap (IntKind.i64.wrap (0 - (n.val : Int)))) 31 = ((32 - n.val : Nat) : Int) := by decide +kernel
theorem rot_back : ∀ n : Fin 32, 1 ≤ n.val → IntKind.u64.wrap (32 - ((32 - n.val : Nat) : Int)) = (n.val : Int) := by decide +kernel

def byteL (b : List Int) (i : Nat) : Int := b.getD i 0
def packW (b : List Int) (i : Nat) : Int :=
  or32 (or32 (or32 (shl32 (IntKind.u32.wrap (byteL b (4 * i))) 24) (shl32 (IntKind.u32.wrap (byteL b (4 * i + 1))) 16)) (shl32 (IntKind.u32.wrap (byteL b (4 * i + 2))) 8)) (IntKind.u32.wrap (byteL b (4 * i + 3)))
def sig0 (x : Int) : Int := xor32 (xor32 (rotr x 7) (rotr x 18)) (shr32 x 3)
def sig1 (x : Int) : Int := xor32 (xor32 (rotr x 17) (rotr x 19)) (shr32 x 10)
def wNext (b W : List Int) (i : Nat) : Int :=
  if i < 16 then packW b i else add32 (add32 (add32 (W.getD (i - 16) 0) (sig0 (W.getD (i - 15) 0))) (W.getD (i - 7) 0)) (sig1 (W.getD (i - 2) 0))
def schedL (b : List Int) : Nat → List Int
  | 0 => []
  | i + 1 => schedL b i ++ [wNext b (schedL b i) i]
theorem sched_len (b : List Int) (i : Nat) : (schedL b i).length = i := by
  induction i with
  | zero => rfl
  | succ i ih => simp [schedL, ih]
def u32s (l : List Int) : List Value := l.map (Value.int .u32)
def wCells (b : List Int) (i : Nat) : List Value := u32s (schedL b i) ++ List.replicate (64 - i) (.int .u32 0)
theorem wCells_len (b : List Int) (i : Nat) (h : i ≤ 64) : (wCells b i).length = 64 := by simp [wCells, u32s, sched_len]; omega
theorem wCells_get (b : List Int) (i j : Nat) (h : j < i) : (wCells b i)[j]? = some (.int .u32 ((schedL b i).getD j 0)) := by
  have hl := sched_len b i
  rw [wCells, List.getElem?_append_left (by simp [u32s, hl]; omega)]
  simp only [u32s, List.getElem?_map, List.getD_eq_getElem?_getD]
  rw [List.getElem?_eq_getElem (by omega)]
  rfl
theorem wCells_set (b : List Int) (i : Nat) (h : i < 64) : (wCells b i).set i (.int .u32 (wNext b (schedL b i) i)) = wCells b (i + 1) := by
  have hl := sched_len b i
  unfold wCells
  rw [List.set_append_right _ _ (by simp [u32s, hl])]
  have e : 64 - i = (64 - (i + 1)) + 1 := by omega
  rw [e, List.replicate_succ]
  simp [u32s, schedL, hl]

end Go.Proofs.Ytgkhflcpbjlmiaa
/- Digests, part two: a block is taken in. Conditions: the bytes may be read. -/
namespace Go.Proofs.Ytgkhflcpbjlmiaa
open Go.Eng Go.RowKit

def keyL : List Int := [
  0x428a2f98, 0x71374491, 0xb5c0fbcf, 0xe9b5dba5, 0x3956c25b, 0x59f111f1, 0x923f82a4, 0xab1c5ed5,
  0xd807aa98, 0x12835b01, 0x243185be, 0x550c7dc3, 0x72be5d74, 0x80deb1fe, 0x9bdc06a7, 0xc19bf174,
  0xe49b69c1, 0xefbe4786, 0x0fc19dc6, 0x240ca1cc, 0x2de92c6f, 0x4a7484aa, 0x5cb0a9dc, 0x76f988da,
  0x983e5152, 0xa831c66d, 0xb00327c8, 0xbf597fc7, 0xc6e00bf3, 0xd5a79147, 0x06ca6351, 0x14292967,
  0x27b70a85, 0x2e1b2138, 0x4d2c6dfc, 0x53380d13, 0x650a7354, 0x766a0abb, 0x81c2c92e, 0x92722c85,
  0xa2bfe8a1, 0xa81a664b, 0xc24b8b70, 0xc76c51a3, 0xd192e819, 0xd6990624, 0xf40e3585, 0x106aa070,
  0x19a4c116, 0x1e376c08, 0x2748774c, 0x34b0bcb5, 0x391c0cb3, 0x4ed8aa4a, 0x5b9cca4f, 0x682e6ff3,
  0x748f82ee, 0x78a5636f, 0x84c87814, 0x8cc70208, 0x90befffa, 0xa4506ceb, 0xbef9a3f7, 0xc67178f2]
def beginL : List Int := [0x6a09e667, 0xbb67ae85, 0x3c6ef372, 0xa54ff53a, 0x510e527f, 0x9b05688c, 0x1f83d9ab, 0x5be0cd19]

theorem u32s_one (l : List Int) : ∀ u ∈ u32s l, u.oneCell' = true := by intro u hu; obtain ⟨x, _, rfl⟩ := List.mem_map.1 hu; rfl
theorem u32s_len (l : List Int) : (u32s l).length = l.length := by simp [u32s]
theorem u32s_get (l : List Int) (i : Nat) (h : i < l.length) : (u32s l)[i]? = some (.int .u32 (l.getD i 0)) := by
  simp only [u32s, List.getElem?_map, List.getD_eq_getElem?_getD]
  rw [List.getElem?_eq_getElem h]; rfl
theorem spl_whole (cs vs : List Value) (h : vs.length = cs.length) : spl cs 0 vs = vs := by simp [spl, h]

structure W8 where
  a : Int
  b : Int
  c : Int
  d : Int
  e : Int
  f : Int
  g : Int
  h : Int
def W8.l (s : W8) : List Int := [s.a, s.b, s.c, s.d, s.e, s.f, s.g, s.h]
def rndX (s : W8) (k x : Int) : Int := add32 (add32 (add32 (add32 s.h (xor32 (xor32 (rotr s.e 6) (rotr s.e 11)) (rotr s.e 25))) (xor32 (and32 s.e s.f) (and32 (cpl .u32 s.e) s.g))) k) x
def rndY (s : W8) : Int := add32 (xor32 (xor32 (rotr s.a 2) (rotr s.a 13)) (rotr s.a 22)) (xor32 (xor32 (and32 s.a s.b) (and32 s.a s.c)) (and32 s.b s.c))
def rnd (s : W8) (k x : Int) : W8 := ⟨add32 (rndX s k x) (rndY s), s.a, s.b, s.c, add32 s.d (rndX s k x), s.e, s.f, s.g⟩
def rnds (s : W8) (K X : List Int) : Nat → W8
  | 0 => s
  | n + 1 => rnd (rnds s K X n) (K.getD n 0) (X.getD n 0)
def upd (A C : List Int) (i : Nat) : List Int := (List.range 8).map fun j => if j < i then add32 (A.getD j 0) (C.getD j 0) else A.getD j 0
theorem upd_len (A C : List Int) (i : Nat) : (upd A C i).length = 8 := by simp [upd]
theorem upd_get (A C : List Int) (i j : Nat) (h : j < 8) : (upd A C i).getD j 0 = if j < i then add32 (A.getD j 0) (C.getD j 0) else A.getD j 0 := by
  rw [List.getD_eq_getElem?_getD, List.getElem?_eq_getElem (by rw [upd_len]; exact h)]; simp [upd]
theorem upd_set (A C : List Int) (i : Nat) (h : i < 8) : (upd A C i).set i (add32 (A.getD i 0) (C.getD i 0)) = upd A C (i + 1) := by
  apply List.ext_getElem
  · simp [upd_len]
  · intro j h1 h2
    rw [List.getElem_set]
    simp only [upd, List.getElem_map, List.getElem_range]
    split
    · rename_i e; subst e; rw [if_pos (by omega)]
    · rename_i e
      by_cases hj : j < i
      · rw [if_pos hj, if_pos (by omega)]
      · rw [if_neg hj, if_neg (by omega)]
theorem upd_zero (A C : List Int) (h : A.length = 8) : upd A C 0 = A := by
  apply List.ext_getElem
  · rw [upd_len, h]
  · intro j h1 h2
    simp [upd, List.getElem?_eq_getElem h2]
def toW (l : List Int) : W8 := ⟨l.getD 0 0, l.getD 1 0, l.getD 2 0, l.getD 3 0, l.getD 4 0, l.getD 5 0, l.getD 6 0, l.getD 7 0⟩
theorem toW_l (l : List Int) (h : l.length = 8) : (toW l).l = l := by
  match l, h with
  | [_, _, _, _, _, _, _, _], _ => rfl
/-- A block is taken in. -/
def blockM (A b : List Int) : List Int := upd A (rnds (toW A) keyL (schedL b 64) 64).l 8
theorem blockM_len (A b : List Int) : (blockM A b).length = 8 := upd_len _ _ _
end Go.Proofs.Ytgkhflcpbjlmiaa
/- Digests, part three: the walk of the block. Conditions: the bytes may be read; the words lie at the head of a block. -/
namespace Go.Proofs.Ytgkhflcpbjlmiaa
open Go.Eng Go.RowKit

theorem dw_sub {P : Program} {fl : Oper → Bool} {ro : Option Nat} {N : Nat} {S : World → Prop} {l : List Oper} {k : Nat} {rest : List Oper} {Q : Exit → Act → World → Prop} {E E' : List (Nat × Value)} {ds : List Deferred} {w : World} (hs : Sub E' E)
    (h : DW P fl ro N S l k rest Q E' ds w) : DW P fl ro N S l k rest Q E ds w := fun a hk hd hS hl => h a (hk.sub hs) hd hS hl
def headOf : Option Code → Code
  | some (.seq r _) => r
  | _ => .skip
end Go.Proofs.Ytgkhflcpbjlmiaa
/- Digests, part four: what a hash is; is it none; how long it is. Conditions: the hash is nil, or lies whole in a block of its own. -/
namespace Go.Proofs.Ytgkhflcpbjlmiaa
open Go.Eng Go.RowKit

/-- A hash's cells. -/
def hashC (a : List Int) (r : Value) (n : Int) (m : Bool) : List Value := u32s a ++ [r, .int .i64 n, .bool m]
theorem hashC_8 (a : List Int) (r : Value) (n : Int) (m : Bool) (h : a.length = 8) : (hashC a r n m)[8]? = some r ∧ (hashC a r n m)[9]? = some (.int .i64 n) ∧ (hashC a r n m)[10]? = some (.bool m) := by
  match a, h with
  | [_, _, _, _, _, _, _, _], _ => exact ⟨rfl, rfl, rfl⟩

end Go.Proofs.Ytgkhflcpbjlmiaa
/- Digests, part five: bytes are written into a hash. Conditions: the hash lies whole in a block of its own; the bytes may be read, and lie elsewhere; not too many. -/
namespace Go.Proofs.Ytgkhflcpbjlmiaa
open Go.Eng Go.RowKit

abbrev u8s (l : List Int) : List Value := l.map (Value.int .u8)
theorem u8s_one (l : List Int) : ∀ u ∈ u8s l, u.oneCell' = true := by intro u hu; obtain ⟨x, _, rfl⟩ := List.mem_map.1 hu; rfl
/-- Whole blocks are taken in, from the head. -/
def absorb : Nat → List Int → List Int → List Int × List Int
  | 0, a, l => (a, l)
  | k + 1, a, l => if 64 ≤ l.length then absorb k (blockM a (l.take 64)) (l.drop 64) else (a, l)
theorem absorb_end (k : Nat) (a l : List Int) (h : l.length < 64) : absorb k a l = (a, l) := by
  cases k with
  | zero => rfl
  | succ k => rw [absorb, if_neg (by omega)]
theorem hashC_set9 (a : List Int) (r : Value) (n n' : Int) (m : Bool) (h : a.length = 8) : (hashC a r n m).set 9 (.int .i64 n') = hashC a r n' m := by
  match a, h with
  | [_, _, _, _, _, _, _, _], _ => rfl
theorem hashC_set8 (a : List Int) (r r' : Value) (n : Int) (m : Bool) (h : a.length = 8) : (hashC a r n m).set 8 r' = hashC a r' n m := by
  match a, h with
  | [_, _, _, _, _, _, _, _], _ => rfl
abbrev OB (w : World) (base : Nat) (v : Value) (l : List Int) : Prop := Oat w base t_uint8 1 v l.length (u8s l)

end Go.Proofs.Ytgkhflcpbjlmiaa
/- Digests, part six: copies of bytes. Conditions: the bytes may be read, and are not too many. -/
namespace Go.Proofs.Ytgkhflcpbjlmiaa
open Go.Eng Go.RowKit

abbrev MB (w : World) (base : Nat) (v : Value) (l : List Int) : Prop := Mine w base t_uint8 1 v l.length (u8s l)
theorem Mine.made0 (w : World) : MB (w.alloc (.cells #[] t_uint8)) w.heap.size (.slice (some ⟨w.heap.size, 0, none⟩) 0 0) [] := World.ownsRow_made w #[] 0 (Nat.le_refl _) (by decide) (by rfl)

end Go.Proofs.Ytgkhflcpbjlmiaa
/- Digests, part eight: what is written, piece by piece; the digest of what was written. Conditions: the bytes may be read, and are not too many. -/
namespace Go.Proofs.Ytgkhflcpbjlmiaa
open Go.Eng Go.RowKit

theorem hC8 {a : List Int} {r : Value} {n : Int} {m : Bool} (h : a.length = 8) : nth (hashC a r n m) 8 = some r := by
  match a, h with
  | [_, _, _, _, _, _, _, _], _ => rfl
theorem hC9 {a : List Int} {r : Value} {n : Int} {m : Bool} (h : a.length = 8) : nth (hashC a r n m) 9 = some (.int .i64 n) := by
  match a, h with
  | [_, _, _, _, _, _, _, _], _ => rfl
theorem hS8 {a : List Int} {r r' : Value} {n : Int} {m : Bool} (h : a.length = 8) : stO (hashC a r n m) 8 r' = some (hashC a r' n m) := by
  match a, h with
  | [_, _, _, _, _, _, _, _], _ => rfl
theorem hS9 {a : List Int} {r : Value} {n n' : Int} {m : Bool} (h : a.length = 8) : stO (hashC a r n m) 9 (.int .i64 n') = some (hashC a r n' m) := by
  match a, h with
  | [_, _, _, _, _, _, _, _], _ => rfl
/-- A row of bytes of its own. -/
abbrev rB (v : Value) (l : List Int) : SP := row t_uint8 1 v l.length (u8s l)
theorem rB_app (v : Value) (l m : List Int) : row t_uint8 1 v (l.length + m.length) (u8s l ++ u8s m) = rB v (l ++ m) := by simp [rB, u8s]
end Go.Proofs.Ytgkhflcpbjlmiaa
/- Digests, part nine: New, and the digest of what was written. Conditions: not too many bytes. -/
namespace Go.Proofs.Ytgkhflcpbjlmiaa
open Go.Eng Go.RowKit

theorem ent_rB {F G : List SP} {v : Value} {n : Nat} {cs : List Value} {l : List Int} (k : Nat) (hk : nth F k = some (row t_uint8 1 v n cs)) (hl : n = l.length) (hc : cs = u8s l) (hG : setF F k (rB v l) = some G) : Ent F G := by
  subst hl; subst hc; exact ent_set k hk (fun _ h => h) hG
theorem vlB {b : World} {F : List SP} {v : Value} {l : List Int} {k : Nat} (hk : nth F k = some (rB v l)) : ∀ w, Sat b F w → VL (Value.int .u8) w v l := fun w H => (H.oat hk).sl
theorem vl1 {b : World} {F : List SP} {g t : Nat} {l : List Int} {n k : Nat} (hn : n = l.length) (hm : n ≤ 67108864) (hk : nth F k = some (pt g t (u8s l))) : ∀ w, Sat b F w → VL (Value.int .u8) w (.slice (some ⟨g, 0, none⟩) n n) l := fun w H => by
  subst hn
  exact (H.blk hk).sl (by simp) hm

theorem u8s_len (l : List Int) : (u8s l).length = l.length := by simp [u8s]
def zeroN (l : List Int) : Nat := (120 - (l.length + 1) % 64) % 64
def lenB (n : Int) (i : Nat) : Int := IntKind.u8.wrap ((IntKind.u64.wrap (IntKind.u64.wrap n * 8)).fdiv (2 ^ (56 - 8 * i)))
def lenL (n : Int) (i : Nat) : List Int := (List.range i).map (lenB n)
def endM (l : List Int) (n : Int) : List Int := l ++ [128] ++ List.replicate (zeroN l) 0 ++ lenL n 8
def idB (a : List Int) (i : Nat) : Int := IntKind.u8.wrap ((a.getD (i / 4) 0).fdiv (2 ^ (24 - 8 * (i % 4))))
def idM (a : List Int) : List Int := (List.range 32).map (idB a)
def idP (a : List Int) (i : Nat) : List Int := (List.range i).map (idB a) ++ List.replicate (32 - i) 0
theorem idP_len (a : List Int) (i : Nat) (h : i ≤ 32) : (idP a i).length = 32 := by simp [idP]; omega
theorem idP_set (a : List Int) (i : Nat) (h : i < 32) : (u8s (idP a i)).set i (.int .u8 (idB a i)) = u8s (idP a (i + 1)) := by
  have e : 32 - i = (32 - (i + 1)) + 1 := by omega
  simp only [u8s, ← List.map_set, idP]
  rw [List.set_append_right _ _ (by simp), e, List.replicate_succ, List.range_succ]
  simp
theorem idP_end (a : List Int) : idP a 32 = idM a := by simp [idP, idM]
theorem endM_len (l : List Int) (n : Int) : (endM l n).length % 64 = 0 ∧ (endM l n).length ≤ l.length + 80 := by
  simp only [endM, lenL, zeroN, List.length_append, List.length_replicate, List.length_map, List.length_range, List.length_cons, List.length_nil]
  omega
def sumA (a l : List Int) (n : Int) : List Int := (absorb (endM l n).length a (endM l n)).1
abbrev idV (l : List Int) : Value := .agg ⟨u8s l⟩
theorem tmod64 (k : Nat) : Int.tmod (k : Int) 64 = ((k % 64 : Nat) : Int) := by
  rw [Int.tmod_eq_emod_of_nonneg (by omega)]; omega
theorem hCw {a : List Int} {r : Value} {n : Int} {m : Bool} (h : a.length = 8) : segO (hashC a r n m) 0 8 = some (u32s a) := by
  match a, h with
  | [_, _, _, _, _, _, _, _], _ => rfl
theorem u32nth {a : List Int} {j : Nat} (h : j < a.length) : nth (u32s a) j = some (.int .u32 (a.getD j 0)) := by rw [nth_eq]; exact u32s_get a j h
theorem stO_ok {cs r : List Value} {o : Nat} {v : Value} (h : o < cs.length) (hr : cs.set o v = r) : stO cs o v = some r := by
  subst hr
  induction cs generalizing o with
  | nil => simp at h
  | cons c cs ih =>
    cases o with
    | zero => rfl
    | succ o => simp only [stO, ih (by simpa using h)]; rfl
theorem segO_all {cs : List Value} {n : Nat} (h : n = cs.length) : segO cs 0 n = some cs := by
  subst h
  induction cs with
  | nil => rfl
  | cons c cs ih => simp only [List.length_cons, segO, ih]

end Go.Proofs.Ytgkhflcpbjlmiaa
/- Digests, part ten: the digest of what was written: the walk. Conditions: not too many bytes. -/
namespace Go.Proofs.Ytgkhflcpbjlmiaa
open Go.Eng Go.RowKit

end Go.Proofs.Ytgkhflcpbjlmiaa
/- Digests, part eleven: Sum, Cut, Of, Has, Compare. Conditions: not too many bytes. -/
namespace Go.Proofs.Ytgkhflcpbjlmiaa
open Go.Eng Go.RowKit

instance : EqT Try.prog t_api_ID := ⟨by kernel_rfl⟩
instance : ArrI Try.prog t_api_ID 32 .u8 := by
  obtain ⟨j, hj, hs, _⟩ := TT.info (P := Try.prog) t_uint8 _ rfl
  exact ⟨⟨t_uint8, j, by kernel_rfl, by kernel_rfl, hj, hs⟩⟩

/-- The digest of bytes. -/
def sumM (xs : List Int) : List Int := idM (sumA (absorb xs.length beginL xs).1 (absorb xs.length beginL xs).2 xs.length)
theorem sumM_len (xs : List Int) : (sumM xs).length = 32 := by simp [sumM, idM]
theorem absorb_len (k : Nat) (a l : List Int) (ha : a.length = 8) : (absorb k a l).1.length = 8 ∧ (absorb k a l).2.length ≤ l.length := by
  induction k generalizing a l with
  | zero => exact ⟨ha, Nat.le_refl _⟩
  | succ k ih =>
    rw [absorb]
    split
    · have := ih (blockM a (l.take 64)) (l.drop 64) (blockM_len _ _)
      refine ⟨this.1, Nat.le_trans this.2 (by simp)⟩
    · exact ⟨ha, Nat.le_refl _⟩

theorem segID {l : List Int} (h : l.length = 32) : segO (u8s l) 0 32 = some (u8s l) := segO_all (by simp [h])
/-- Cut to a width. -/
def cutM (l : List Int) (n : Nat) : List Int := l.take n ++ List.replicate (32 - n) 0
theorem cutM_len (l : List Int) (n : Nat) (h : l.length = 32) (hn : n ≤ 32) : (cutM l n).length = 32 := by simp [cutM, h]; omega
def cutR (l : List Int) (w : Int) : List Int := if w < 1 ∨ 32 < w then List.replicate 32 0 else cutM l w.toNat
def cutE (w : Int) : Int := if w < 1 ∨ 32 < w then 3 else 0
theorem cutR_len (l : List Int) (w : Int) (h : l.length = 32) : (cutR l w).length = 32 := by
  unfold cutR; split
  · simp
  · exact cutM_len l _ h (by omega)
/-- Has a digest a width? -/
def hasM (l : List Int) (w : Int) : Bool := decide (cutE w = 0) && decide (cutR l w = l)
end Go.Proofs.Ytgkhflcpbjlmiaa
/- Digests, part twelve: texts, and which digest is less. Conditions: cells are bytes. -/
namespace Go.Proofs.Ytgkhflcpbjlmiaa
open Go.Eng Go.RowKit

def byteW (l : List Int) : Prop := ∀ c ∈ l, 0 ≤ c ∧ c < 256
/-- A digit. -/
def hx (n : Int) : Int := if n < 10 then 48 + n else 87 + n
def hexD : List UInt8 := [48, 49, 50, 51, 52, 53, 54, 55, 56, 57, 97, 98, 99, 100, 101, 102]
theorem hexD_get : ∀ n : Fin 16, ((hexD.getD n.val 0).toNat : Int) = hx (n.val : Int) := by decide +kernel
theorem and15 : ∀ c : Fin 256, bitv .and .u8 (c.val : Int) 15 = ((c.val % 16 : Nat) : Int) := by decide +kernel
theorem and15' {c : Int} (h : 0 ≤ c ∧ c < 256) : bitv .and .u8 c 15 = c % 16 := by
  have := and15 ⟨c.toNat, by omega⟩
  dsimp only at this
  rw [show ((c.toNat : Nat) : Int) = c by omega] at this
  rw [this]; omega
theorem shr4 (c : Int) : c.fdiv (2 ^ min (4 : Int).toNat IntKind.u8.bits) = c / 16 := by
  show c.fdiv 16 = c / 16
  rw [Int.fdiv_eq_ediv_of_nonneg _ (by decide)]
def textL (id : List Int) : List Int := id.flatMap fun c => [hx (c / 16), hx (c % 16)]
theorem textL_len (id : List Int) : (textL id).length = 2 * id.length := by
  induction id with
  | nil => rfl
  | cons c id ih => simp only [textL, List.flatMap_cons, List.length_append] at ih ⊢; rw [ih]; simp; omega
theorem textL_take (id : List Int) (i : Nat) (h : i < id.length) : textL (id.take (i + 1)) = textL (id.take i) ++ [hx (id[i] / 16), hx (id[i] % 16)] := by
  have e : id.take (i + 1) = id.take i ++ [id[i]] := by rw [List.take_add_one, List.getElem?_eq_getElem h]; rfl
  rw [e]
  simp only [textL, List.flatMap_append]
  rfl
theorem getD_nat {l : List Value} {i : Nat} {v : Value} (h : l[i]? = some v) : l.getD ((i : Int)).toNat undef = v := by
  rw [Int.toNat_natCast, List.getD_eq_getElem?_getD, h]; rfl
theorem hex_at {n : Int} (h : 0 ≤ n ∧ n < 16) : ((hexD.getD n.toNat 0).toNat : Int) = hx n := by
  have := hexD_get ⟨n.toNat, by omega⟩
  dsimp only at this
  rw [this]; congr 1; omega

end Go.Proofs.Ytgkhflcpbjlmiaa
/- Digests, part thirteen: what a text is; which digest is less. Conditions: cells are bytes. -/
namespace Go.Proofs.Ytgkhflcpbjlmiaa
open Go.Eng Go.RowKit

abbrev u8l (xs : List Int) : List UInt8 := xs.map fun n => UInt8.ofNat n.toNat
/-- A digit's number, below 0 if it is none. -/
def dig (c : Int) : Int := if 48 ≤ c ∧ c ≤ 57 then c - 48 else if 97 ≤ c ∧ c ≤ 102 then c - 87 else -1
def hexI : List Int := [48, 49, 50, 51, 52, 53, 54, 55, 56, 57, 97, 98, 99, 100, 101, 102]
theorem dig_ix : ∀ c : Fin 256, Lib.indexByte (u8l hexI) ((c.val : Int).toNat.toUInt8) = dig (c.val : Int) := by decide +kernel
theorem dig_ix' {c : Int} (h : 0 ≤ c ∧ c < 256) : Lib.indexByte (u8l hexI) c.toNat.toUInt8 = dig c := by
  have := dig_ix ⟨c.toNat, by omega⟩
  dsimp only at this
  rwa [show ((c.toNat : Nat) : Int) = c by omega] at this
theorem dig_lt (c : Int) : -1 ≤ dig c ∧ dig c < 16 := by
  unfold dig; split
  · omega
  · split <;> omega
/-- What a text is. -/
def readB (s : List Int) (i : Nat) : Int := 16 * dig (s.getD (2 * i) 0) + dig (s.getD (2 * i + 1) 0)
def okD (s : List Int) (i : Nat) : Prop := 0 ≤ dig (s.getD (2 * i) 0) ∧ 0 ≤ dig (s.getD (2 * i + 1) 0)
instance (s : List Int) (i : Nat) : Decidable (okD s i) := inferInstanceAs (Decidable (_ ∧ _))
def okR (s : List Int) : Prop := s.length = 64 ∧ ∀ i, i < 32 → okD s i
instance (s : List Int) : Decidable (okR s) := inferInstanceAs (Decidable (_ ∧ _))
def readI (s : List Int) : List Int := if okR s then (List.range 32).map (readB s) else List.replicate 32 0
def readE (s : List Int) : Int := if okR s then 0 else 5
theorem readI_len (s : List Int) : (readI s).length = 32 := by unfold readI; split <;> simp
def rdP (s : List Int) (i : Nat) : List Int := (List.range i).map (readB s) ++ List.replicate (32 - i) 0
theorem rdP_len (s : List Int) (i : Nat) (h : i ≤ 32) : (rdP s i).length = 32 := by simp [rdP]; omega
theorem rdP_set (s : List Int) (i : Nat) (h : i < 32) : (u8s (rdP s i)).set i (.int .u8 (readB s i)) = u8s (rdP s (i + 1)) := by
  have e : 32 - i = (32 - (i + 1)) + 1 := by omega
  simp only [u8s, ← List.map_set, rdP]
  rw [List.set_append_right _ _ (by simp), e, List.replicate_succ, List.range_succ]
  simp
theorem strI_get (s : ByteArray) (i : Nat) : ((s.data.toList.getD i 0).toNat : Int) = (strI s).getD i 0 := by
  simp only [strI, List.getD_eq_getElem?_getD, List.getElem?_map]
  cases s.data.toList[i]? <;> rfl
theorem strI_byte (s : ByteArray) (i : Nat) : 0 ≤ (strI s).getD i 0 ∧ (strI s).getD i 0 < 256 := by
  rw [← strI_get]
  have := (s.data.toList.getD i 0).toNat_lt
  omega
theorem nibble : ∀ a b : Fin 16, IntKind.u8.wrap (bitv .or .i64 (IntKind.i64.wrap ((a.val : Int) * 2 ^ min (4 : Int).toNat IntKind.i64.bits)) (b.val : Int)) = 16 * (a.val : Int) + (b.val : Int) := by decide +kernel
theorem nibble' {a b : Int} (ha : 0 ≤ a ∧ a < 16) (hb : 0 ≤ b ∧ b < 16) : IntKind.u8.wrap (bitv .or .i64 (IntKind.i64.wrap (a * 2 ^ min (4 : Int).toNat IntKind.i64.bits)) b) = 16 * a + b := by
  have := nibble ⟨a.toNat, by omega⟩ ⟨b.toNat, by omega⟩
  dsimp only at this
  rwa [show ((a.toNat : Nat) : Int) = a by omega, show ((b.toNat : Nat) : Int) = b by omega] at this

def cmpM (x y : List Int) : Int := Lib.compareBytes (u8l x) (u8l y)
end Go.Proofs.Ytgkhflcpbjlmiaa
/- Digests, part fourteen: the document's answers: Cut, digits, which one is less. Conditions: cells are bytes. -/
namespace Go.Proofs.Ytgkhflcpbjlmiaa
open Go.Eng Go.RowKit

def zP (l : List Int) (w i : Nat) : List Int := l.take w ++ List.replicate (i - w) 0 ++ l.drop i
theorem zP_len (l : List Int) (w i : Nat) (h : l.length = 32) (hw : w ≤ i) (hi : i ≤ 32) : (zP l w i).length = 32 := by simp [zP, h]; omega
theorem zP_set (l : List Int) (w i : Nat) (h : l.length = 32) (hw : w ≤ i) (hi : i < 32) : (u8s (zP l w i)).set i (.int .u8 0) = u8s (zP l w (i + 1)) := by
  have e : i + 1 - w = (i - w) + 1 := by omega
  simp only [u8s, ← List.map_set, zP]
  rw [List.set_append_right _ _ (by simp [h]; omega), e, List.replicate_succ', List.drop_eq_getElem_cons (by omega : i < l.length)]
  have e2 : i - (l.take w ++ List.replicate (i - w) 0).length = 0 := by simp [h]; omega
  rw [e2]
  simp only [List.set_cons_zero, List.append_assoc, List.cons_append, List.nil_append]

/-- The document's digit. -/
def digR (c : Int) : Int := if dig c < 0 then 16 else dig c
theorem digR_a {c : Int} (h : 48 ≤ c ∧ c ≤ 57) : digR c = c - 48 := by
  have : dig c = c - 48 := by rw [dig, if_pos h]
  rw [digR, this, if_neg (by omega)]
theorem digR_b {c : Int} (h : 97 ≤ c ∧ c ≤ 102) : digR c = c - 87 := by
  have : dig c = c - 87 := by rw [dig, if_neg (by omega), if_pos h]
  rw [digR, this, if_neg (by omega)]
theorem digR_n {c : Int} (h : ¬ (48 ≤ c ∧ c ≤ 57)) (h' : ¬ (97 ≤ c ∧ c ≤ 102)) : digR c = 16 := by
  have : dig c = -1 := by rw [dig, if_neg h, if_neg h']
  rw [digR, this, if_pos (by omega)]
theorem wrap_small : ∀ c : Fin 256, IntKind.u8.wrap (c.val : Int) = (c.val : Int) := by decide +kernel
theorem wrap_small' {c : Int} (h : 0 ≤ c ∧ c < 256) : IntKind.u8.wrap c = c := by
  have := wrap_small ⟨c.toNat, by omega⟩
  dsimp only at this
  rwa [show ((c.toNat : Nat) : Int) = c by omega] at this
/-- Which list is less. -/
def cmpI : List Int → List Int → Int
  | [], [] => 0
  | [], _ :: _ => -1
  | _ :: _, [] => 1
  | a :: x, b :: y => if a < b then -1 else if b < a then 1 else cmpI x y
theorem u8lt : ∀ a b : Fin 256, (UInt8.ofNat a.val < UInt8.ofNat b.val) = (a.val < b.val) := by
  intro a b
  simp only [UInt8.lt_iff_toNat_lt, UInt8.toNat_ofNat']
  rw [Nat.mod_eq_of_lt (by omega), Nat.mod_eq_of_lt (by omega)]
theorem u8lt' {a b : Int} (ha : 0 ≤ a ∧ a < 256) (hb : 0 ≤ b ∧ b < 256) : (UInt8.ofNat a.toNat < UInt8.ofNat b.toNat) = (a < b) := by
  have := u8lt ⟨a.toNat, by omega⟩ ⟨b.toNat, by omega⟩
  dsimp only at this
  rw [this]
  exact propext (by omega)
theorem cmpM_I : ∀ {x y : List Int}, byteW x → byteW y → cmpM x y = cmpI x y
  | [], [], _, _ => rfl
  | [], _ :: _, _, _ => rfl
  | _ :: _, [], _, _ => rfl
  | a :: x, b :: y, hx, hy => by
    have ih := cmpM_I (x := x) (y := y) (fun c hc => hx c (List.mem_cons_of_mem _ hc)) (fun c hc => hy c (List.mem_cons_of_mem _ hc))
    have ha := hx a List.mem_cons_self
    have hb := hy b List.mem_cons_self
    unfold cmpM at ih
    simp only [cmpM, u8l, List.map_cons, Lib.compareBytes, cmpI, u8lt' ha hb, u8lt' hb ha] at ih ⊢
    split
    · rfl
    · split
      · rfl
      · exact ih
theorem cmpI_at : ∀ {x y : List Int} (i : Nat) (h1 : i < x.length) (h2 : i < y.length), x.take i = y.take i → cmpI x y = if x[i] < y[i] then -1 else if y[i] < x[i] then 1 else cmpI (x.drop (i + 1)) (y.drop (i + 1))
  | [], _, _, h1, _, _ => absurd h1 (by simp)
  | _ :: _, [], _, _, h2, _ => absurd h2 (by simp)
  | a :: x, b :: y, 0, _, _, _ => by simp [cmpI]
  | a :: x, b :: y, i + 1, h1, h2, h => by
    simp only [List.take_succ_cons, List.cons.injEq] at h
    obtain ⟨rfl, h⟩ := h
    have := cmpI_at i (by simpa using h1) (by simpa using h2) h
    simp only [cmpI, Int.lt_irrefl, if_false, List.getElem_cons_succ, List.drop_succ_cons]
    exact this
theorem cmpI_self : ∀ x : List Int, cmpI x x = 0
  | [] => rfl
  | a :: x => by simp only [cmpI, Int.lt_irrefl, if_false]; exact cmpI_self x

end Go.Proofs.Ytgkhflcpbjlmiaa
/- Digests, part fifteen: the document's answers: texts. Conditions: cells are bytes. -/
namespace Go.Proofs.Ytgkhflcpbjlmiaa
open Go.Eng Go.RowKit

theorem strOf_app (x y : List Int) : strOfNums x ++ strOfNums y = strOfNums (x ++ y) := by
  apply ByteArray.ext
  simp [strOfNums, ByteArray.data_append]
def hexS : ByteArray := ⟨#[48, 49, 50, 51, 52, 53, 54, 55, 56, 57, 97, 98, 99, 100, 101, 102]⟩
theorem hexS_ext : ∀ n : Fin 16, (hexS.extract n.val (n.val + 1)).data = (strOfNums [hx (n.val : Int)]).data := by decide +kernel
theorem hexS_ext' {n : Int} (h : 0 ≤ n ∧ n < 16) : hexS.extract n.toNat (n + 1).toNat = strOfNums [hx n] := by
  have := hexS_ext ⟨n.toNat, by omega⟩
  dsimp only at this
  rw [show (n + 1).toNat = n.toNat + 1 by omega]
  apply ByteArray.ext
  rw [this, show ((n.toNat : Nat) : Int) = n by omega]
theorem hexS_size : hexS.size = 16 := rfl

theorem nibbleR : ∀ a b : Fin 16, bitv .or .u8 (IntKind.u8.wrap ((a.val : Int) * 2 ^ min (4 : Int).toNat IntKind.u8.bits)) (b.val : Int) = 16 * (a.val : Int) + (b.val : Int) := by decide +kernel
theorem nibbleR' {a b : Int} (ha : 0 ≤ a ∧ a < 16) (hb : 0 ≤ b ∧ b < 16) : bitv .or .u8 (IntKind.u8.wrap (a * 2 ^ min (4 : Int).toNat IntKind.u8.bits)) b = 16 * a + b := by
  have := nibbleR ⟨a.toNat, by omega⟩ ⟨b.toNat, by omega⟩
  dsimp only at this
  rwa [show ((a.toNat : Nat) : Int) = a by omega, show ((b.toNat : Nat) : Int) = b by omega] at this
theorem digR_16 {c : Int} : digR c = 16 ↔ dig c < 0 := by
  have := dig_lt c
  unfold digR; split <;> omega
theorem digR_ok {c : Int} (h : ¬ digR c = 16) : digR c = dig c ∧ 0 ≤ dig c := by
  rw [digR_16] at h
  exact ⟨by rw [digR, if_neg h], by omega⟩

end Go.Proofs.Ytgkhflcpbjlmiaa
/- Digests, part sixteen: the document's block. Conditions: the bytes may be read. -/
namespace Go.Proofs.Ytgkhflcpbjlmiaa
open Go.Eng Go.RowKit

theorem add32_comm (a b : Int) : add32 a b = add32 b a := by rw [add32, add32, Int.add_comm]
theorem wc_at {l : List Int} {i k : Nat} {z : Int} (hz : z.toNat = k) (h : k < i) : nth (wCells l i) (0 + mulz z.toNat 1) = some (.int .u32 ((schedL l i).getD k 0)) := by
  rw [mulz_eq, hz, nth_eq]; simpa using wCells_get l i k h
theorem wc_st {l : List Int} {i : Nat} (h : i < 64) : stO (wCells l i) (0 + mulz (i : Int).toNat 1) (.int .u32 (wNext l (schedL l i) i)) = some (wCells l (i + 1)) :=
  stO_ok (by rw [mulz_eq, wCells_len l i (by omega)]; simp; omega) (by rw [mulz_eq]; simpa using wCells_set l i h)
theorem u32at {a : List Int} {k : Nat} {z : Int} (hz : z.toNat = k) (h : k < a.length) : nth (u32s a) (0 + mulz z.toNat 1) = some (.int .u32 (a.getD k 0)) := by
  rw [mulz_eq, hz]; simpa using u32nth h
theorem seg32 {a : List Int} {n : Nat} (h : n = a.length) : segO (u32s a) 0 n = some (u32s a) := segO_all (by rw [u32s_len]; exact h)

theorem rd_at {b : World} {F : List SP} {bk off n c : Nat} {l : List Int} (hb : ∀ w, Sat b F w → VL (Value.int .u8) w (.slice (some ⟨bk, off, none⟩) n c) l) {k : Nat} {z : Int} (hz : z.toNat = k) (hk : k < l.length) :
    ∀ w, Sat b F w → w.cell? ⟨bk, off + mulz z.toNat 1, none⟩ = some (.int .u8 (byteL l k)) := fun w H => by
  rw [mulz_eq, hz, Nat.mul_one, (hb w H).at k hk, byteL, List.getD_eq_getElem?_getD, List.getElem?_eq_getElem hk]; rfl

end Go.Proofs.Ytgkhflcpbjlmiaa
/- Digests, part seventeen: the document's digest. Conditions: not too many bytes, which may be read. -/
namespace Go.Proofs.Ytgkhflcpbjlmiaa
open Go.Eng Go.RowKit

def sumR (xs : List Int) : List Int := idM (absorb (endM xs xs.length).length beginL (endM xs xs.length)).1
theorem sumR_len (xs : List Int) : (sumR xs).length = 32 := by simp [sumR, idM]

theorem sd_stW {P : Program} {tt : Nat → Option TI} [TT P tt] {ro : Option Nat} {N : Nat} {fl : Oper → Bool} {l rest : List Oper} {kk : Nat} {Q : Exit → Act → World → Prop} {E : List (Nat × Value)} {ds : List Deferred} {b : World} {F0 F G : List SP}
    {op : Op} {ty : TypeId} {pos : String} {aft : Array Edge} {g : Option (Nat × Bool)} {t g' t0 : Nat} {x y : Operand} {i : TI} {cs vs : List Value} (k : Nat) (hg : wants l E g = some true) (hf : fl ⟨none, op, ty, pos, aft, g⟩ = false) (hop : op = .store t x y) (ht : tt t = some i) (hx : ev E x = some (.pointer (some ⟨g', 0, none⟩))) (hy : ev E y = some (.agg ⟨vs⟩)) (hF : nth F k = some (pt g' t0 cs)) (hG : setF F k (pt g' t0 vs) = some G)
    (hs : vs.length = i.size) (hv : ∀ u ∈ vs, u.oneCell' = true) (hc : vs.length = cs.length) (he : Ent G F0) (h : SD P fl ro N F0 l (kk + 1) rest Q E ds b G) : SD P fl ro N F0 l kk (⟨none, op, ty, pos, aft, g⟩ :: rest) Q E ds b F := by
  subst hop
  refine sd_wr hg hf (fun w H => ?_) he h
  have B := H.blk hF
  exact ⟨_, eu_storeW (vs := vs) ht hx hy rfl (by rw [hs]; exact Nat.beq_refl _) hv B hc, H.write hF (Fr.setRow _ _ _) B.setRow hG⟩
theorem sl_at {g o m c n' c' : Nat} (h : c ≠ m) : Value.slice (if c = m then some ⟨g, o, none⟩ else (some ⟨g, o, none⟩ : Option Addr).map fun x => x.add (m * 1)) n' c' = .slice (some ⟨g, o + m, none⟩) n' c' := by
  rw [if_neg h]
  simp only [Option.map_some, Addr.add, Nat.mul_one]
  split
  · rename_i h0; simp [h0]
  · rfl

theorem absorb_more : ∀ (k j : Nat) (a l : List Int), l.length ≤ k → l.length ≤ j → absorb k a l = absorb j a l
  | 0, j, a, l, h, _ => by
    have : l = [] := List.eq_nil_of_length_eq_zero (by omega)
    subst this
    rw [absorb_end 0 a [] (by simp), absorb_end j a [] (by simp)]
  | k + 1, 0, a, l, _, h => by
    have : l = [] := List.eq_nil_of_length_eq_zero (by omega)
    subst this
    rw [absorb_end _ a [] (by simp), absorb_end 0 a [] (by simp)]
  | k + 1, j + 1, a, l, h1, h2 => by
    rw [absorb, absorb]
    split
    · exact absorb_more k j _ _ (by simp; omega) (by simp; omega)
    · rfl
/-- What is taken in behind what was taken in. -/
theorem absorb_app : ∀ (k : Nat) (a l m : List Int), l.length ≤ k → absorb (k + m.length) a (l ++ m) = absorb ((absorb k a l).2.length + m.length) (absorb k a l).1 ((absorb k a l).2 ++ m)
  | 0, a, l, m, h => by
    have : l = [] := List.eq_nil_of_length_eq_zero (by omega)
    subst this
    simp [absorb]
  | k + 1, a, l, m, h => by
    by_cases h64 : 64 ≤ l.length
    · have e1 : absorb (k + 1) a l = absorb k (blockM a (l.take 64)) (l.drop 64) := by rw [absorb, if_pos h64]
      have ih := absorb_app k (blockM a (l.take 64)) (l.drop 64) m (by simp; omega)
      rw [e1, ← ih, show k + 1 + m.length = (k + m.length) + 1 by omega, absorb, if_pos (by simp; omega), List.take_append_of_le_length h64, List.drop_append_of_le_length h64]
    · rw [absorb_end (k + 1) a l (by omega)]
      exact absorb_more _ _ _ _ (by simp; omega) (by simp)
theorem zeroN_eq {l m : List Int} (h : l.length % 64 = m.length % 64) : zeroN l = zeroN m := by unfold zeroN; omega
theorem absorb_rest : ∀ (k : Nat) (a l : List Int), l.length ≤ k → (absorb k a l).2.length = l.length % 64
  | 0, a, l, h => by
    have : l = [] := List.eq_nil_of_length_eq_zero (by omega)
    subst this; rfl
  | k + 1, a, l, h => by
    rw [absorb]
    split
    · rw [absorb_rest k _ _ (by simp; omega)]; simp; omega
    · show l.length = l.length % 64
      omega
/-- Taken in by pieces, the digest is that of all. -/
theorem sumA_pieces (xs : List Int) : sumA (absorb xs.length beginL xs).1 (absorb xs.length beginL xs).2 xs.length = (absorb (endM xs xs.length).length beginL (endM xs xs.length)).1 := by
  have hr := absorb_rest xs.length beginL xs (Nat.le_refl _)
  have hz : zeroN (absorb xs.length beginL xs).2 = zeroN xs := zeroN_eq (by omega)
  have e : ∀ l : List Int, zeroN l = zeroN xs → endM l xs.length = l ++ ([128] ++ List.replicate (zeroN xs) 0 ++ lenL xs.length 8) := by
    intro l hl; simp [endM, hl]
  rw [sumA, e _ hz, e xs rfl]
  generalize [128] ++ List.replicate (zeroN xs) 0 ++ lenL xs.length 8 = m
  have := absorb_app xs.length beginL xs m (Nat.le_refl _)
  rw [List.length_append, List.length_append, this]
theorem sum_RM (xs : List Int) : sumR xs = sumM xs := by rw [sumR, sumM, sumA_pieces]
end Go.Proofs.Ytgkhflcpbjlmiaa
/- Digests, part eighteen: the chapter's examples; lent bytes, written-over bytes, a number picked. Conditions: not too many bytes. -/
namespace Go.Proofs.Ytgkhflcpbjlmiaa
open Go.Eng Go.RowKit

theorem u8_range (x : Int) : 0 ≤ IntKind.u8.wrap x ∧ IntKind.u8.wrap x < 256 := by
  have : IntKind.u8.wrap x = x % 256 := by simp [IntKind.wrap, IntKind.signed, IntKind.bits]
  omega
theorem sumM_byte (xs : List Int) : byteW (sumM xs) := by
  intro c hc
  simp only [sumM, idM, List.mem_map] at hc
  obtain ⟨i, _, rfl⟩ := hc
  exact u8_range _
theorem cutR_byte {l : List Int} (h : byteW l) (w : Int) : byteW (cutR l w) := by
  intro c hc
  unfold cutR at hc
  split at hc
  · rw [List.eq_of_mem_replicate hc]; omega
  · rw [cutM, List.mem_append] at hc
    rcases hc with hc | hc
    · exact h c (List.mem_of_mem_take hc)
    · rw [List.eq_of_mem_replicate hc]; omega
theorem rep0_byte (n : Nat) : byteW (List.replicate n 0) := by
  intro c hc; rw [List.eq_of_mem_replicate hc]; omega

def abcS : ByteArray := ⟨#[98, 97, 55, 56, 49, 54, 98, 102, 56, 102, 48, 49, 99, 102, 101, 97, 52, 49, 52, 49, 52, 48, 100, 101, 53, 100, 97, 101, 50, 50, 50, 51, 98, 48, 48, 51, 54, 49, 97, 51, 57, 54, 49, 55, 55, 97, 57, 99, 98, 52, 49, 48, 102, 102, 54, 49, 102, 50, 48, 48, 49, 53, 97, 100]⟩
def noneS : ByteArray := ⟨#[101, 51, 98, 48, 99, 52, 52, 50, 57, 56, 102, 99, 49, 99, 49, 52, 57, 97, 102, 98, 102, 52, 99, 56, 57, 57, 54, 102, 98, 57, 50, 52, 50, 55, 97, 101, 52, 49, 101, 52, 54, 52, 57, 98, 57, 51, 52, 99, 97, 52, 57, 53, 57, 57, 49, 98, 55, 56, 53, 50, 98, 56, 53, 53]⟩
theorem txtN : (strOfNums (textL (sumM []))).data = noneS.data := by decide +kernel
theorem txtA : (strOfNums (textL (sumM [97, 98, 99]))).data = abcS.data := by decide +kernel
theorem rdA : readI (strI abcS) = sumM [97, 98, 99] := by decide +kernel
theorem rdE : readE (strI abcS) = 0 := by decide +kernel

theorem tmod_neg' {x n : Int} (hx : x < 0) : x.tmod n = -((-x) % n) := by
  have h1 : (-x).tmod n = (-x) % n := Int.tmod_eq_emod_of_nonneg (by omega)
  rw [← h1, Int.neg_tmod, Int.neg_neg]
theorem tmod_bd {x n : Int} (hn : 0 < n) : -n < x.tmod n ∧ x.tmod n < n := by
  by_cases hx : x < 0
  · have := Int.emod_nonneg (-x) (by omega : n ≠ 0)
    have := Int.emod_lt_of_pos (-x) hn
    rw [tmod_neg' hx]; omega
  · have := Int.emod_nonneg x (by omega : n ≠ 0)
    have := Int.emod_lt_of_pos x hn
    rw [Int.tmod_eq_emod_of_nonneg (by omega)]; omega
theorem emod_of {x n q s : Int} (h : x = n * q + s) (h0 : 0 ≤ s) (h1 : s < n) : x % n = s := by
  rw [h, Int.add_comm, Int.add_mul_emod_self_left, Int.emod_eq_of_lt h0 h1]
theorem pick_lt {x n : Int} (hn : 0 < n) (h : x.tmod n < 0) : x.tmod n + n = x % n := by
  have hx : x < 0 := by
    apply Classical.byContradiction
    intro hx
    have := Int.emod_nonneg x (by omega : n ≠ 0)
    rw [Int.tmod_eq_emod_of_nonneg (by omega)] at h; omega
  rw [tmod_neg' hx] at h ⊢
  have h1 := Int.emod_lt_of_pos (-x) hn
  have h2 := Int.emod_add_mul_ediv (-x) n
  refine (emod_of (q := -((-x) / n) - 1) ?_ (by omega) (by omega)).symm
  rw [Int.mul_sub, Int.mul_neg]; omega
theorem pick_ge {x n : Int} (hn : 0 < n) (h : ¬ x.tmod n < 0) : x.tmod n = x % n := by
  by_cases hx : x < 0
  · rw [tmod_neg' hx] at h ⊢
    have h1 := Int.emod_nonneg (-x) (by omega : n ≠ 0)
    have h2 := Int.emod_add_mul_ediv (-x) n
    have h3 : (-x) % n = 0 := by omega
    refine (emod_of (q := -((-x) / n)) ?_ (by omega) (by omega)).symm
    rw [Int.mul_neg]; omega
  · exact Int.tmod_eq_emod_of_nonneg (by omega)
theorem Pick_S {b : World} {F : List SP} {x n : Int} (hn : I64 n) : SC Try.prog n_entrepotkit_Pick [.int .i64 x, .int .i64 n] b F (fun v F' => v = .int .i64 (if n ≤ 0 then 0 else x % n) ∧ F' = F) := by
  unfold I64 at hn
  refine enterS F_entrepotkit_Pick rfl rfl rfl ?_
  (refine sw_seq ?_; refine sw_region ?_; refine so_1 rfl ?_; refine so_nil ?_; refine sn_then ?_; (iterate 2 refine sw_seq ?_); refine sw_region ?_; (iterate 2 refine so_1 rfl ?_); refine so_nil ?_; refine sn_then ?_)
  refine sw_if rfl (fun h => ?_) (fun h => ?_)
  · (refine sw_seq ?_; refine sw_region ?_; refine so_1 rfl ?_; refine so_nil ?_; refine sn_then ?_; refine sw_ret ?_; refine sn_then_ret ?_)
    refine sn_ret rfl (.tmp rfl .nil) (Ent.refl _) ?_
    exact ⟨by rw [if_pos h]; rfl, rfl⟩
  (refine sw_skip ?_; refine sn_then ?_; refine sw_seq ?_; refine sw_region ?_; (iterate 2 refine so_1 rfl ?_); refine so_2 rfl (by omega) ?_; refine so_1 rfl ?_; refine so_nil ?_; refine sn_then ?_; (iterate 2 refine sw_seq ?_); refine sw_region ?_; (iterate 2 refine so_1 rfl ?_); refine so_nil ?_; refine sn_then ?_)
  refine sw_if rfl (fun h2 => ?_) (fun h2 => ?_)
  · (refine sw_region ?_; (iterate 2 refine so_1 rfl ?_))
    have hb := tmod_bd (x := x) (n := n) (by omega)
    have e := pick_lt (x := x) (n := n) (by omega) h2
    (refine so_2 rfl (by (unfold I64; omega)) ?_; refine so_1 rfl ?_; refine so_nil ?_; refine sn_then ?_; refine sw_seq ?_; refine sw_region ?_; (iterate 2 refine so_1 rfl ?_); refine so_nil ?_; refine sn_then ?_; refine sw_ret ?_)
    refine sn_ret rfl (.tmp rfl .nil) (Ent.refl _) ?_
    exact ⟨by rw [if_neg h, ← e]; rfl, rfl⟩
  (refine sw_skip ?_; refine sn_then ?_; refine sw_seq ?_; refine sw_region ?_; (iterate 2 refine so_1 rfl ?_); refine so_nil ?_; refine sn_then ?_; refine sw_ret ?_)
  refine sn_ret rfl (.tmp rfl .nil) (Ent.refl _) ?_
  exact ⟨by rw [if_neg h, ← pick_ge (by omega) h2]; rfl, rfl⟩

theorem spl_u8 {l : List Int} {i : Nat} {x : Int} (h : i < l.length) : spl (u8s l) i [.int .u8 x] = u8s (l.set i x) := by
  simp only [spl, u8s, List.map_set, List.length_cons, List.length_nil, List.cons_append, List.nil_append, Nat.zero_add]
  rw [List.set_eq_take_append_cons_drop, if_pos (by simpa using h)]
def lent4 : List Int := [201, 202, 203, 204]
/-- Bytes with room behind them. -/
abbrev rL (A : Option Addr) (c : Nat) (l : List Int) : SP := row t_uint8 1 (.slice A (l.length + 4) c) (l.length + 4) (u8s (l ++ lent4))
theorem rL_vl {b : World} {F : List SP} {A : Option Addr} {c k : Nat} {l : List Int} (hk : nth F k = some (rL A c l)) : ∀ w, Sat b F w → VL (Value.int .u8) w (.slice A l.length c) l := fun w H => by
  have := (Oat.take (H.oat hk) (k := l.length) (by omega)).sl
  rw [show (u8s (l ++ lent4)).take (l.length * 1) = u8s l by simp [u8s]] at this
  exact this
theorem rL_all {b : World} {F : List SP} {A : Option Addr} {c k : Nat} {l : List Int} (hk : nth F k = some (rL A c l)) : ∀ w, Sat b F w → VL (Value.int .u8) w (.slice A (l.length + 4) c) (l ++ lent4) := fun w H => by
  have := (H.oat hk).sl
  unfold VL
  rw [show (l ++ lent4).length = l.length + 4 by simp [lent4]]
  exact this
theorem sd_re {P : Program} {ro : Option Nat} {N : Nat} {fl : Oper → Bool} {l rest : List Oper} {kk : Nat} {Q : Exit → Act → World → Prop} {E : List (Nat × Value)} {ds : List Deferred} {b : World} {F0 F : List SP}
    {d : Nat} {op : Op} {ty : TypeId} {pos : String} {aft : Array Edge} {g : Option (Nat × Bool)} {v : Value} (hg : wants l E g = some true) (hf : fl ⟨some d, op, ty, pos, aft, g⟩ = false) (hx : ∀ w, Sat b F w → Ex P E op ty w v w) (hd : Nat.blt d N = true) (he : Ent F F0)
    (h : SD P fl ro N F0 l (kk + 1) rest Q ((d, v) :: E) ds b F) : SD P fl ro N F0 l kk (⟨some d, op, ty, pos, aft, g⟩ :: rest) Q E ds b F := by
  constructor
  intro w H
  exact dw_ex hg hf (hx w H) (H.ent he) hd (h.1 w H)
def floN (n : Nat) (o : Oper) : Bool := flo o && (match o.dst with | some d => !Nat.beq d n | none => true)
end Go.Proofs.Ytgkhflcpbjlmiaa
/- Blobs, part one: how a store lies in memory; whether nobody made it; how it stands. Conditions: none. -/
namespace Go.Proofs.Ytgkhflcpbjlmiaa
open Go.Eng Go.RowKit Go.WideMaps

theorem idArr : ArrKey Try.prog t_api_ID t_uint8 32 := ⟨by kernel_rfl, by kernel_rfl, by kernel_rfl, by kernel_rfl⟩
def idOk (a : List Int) : Prop := a.length = 32 ∧ ∀ x ∈ a, (Lit.int .u8 x).wf = true
theorem idMK : MK Try.prog t_api_ID (fun a : List Int => .agg ⟨a.map (Value.int .u8)⟩) idOk := mk_ints idArr (by kernel_rfl) ⟨_, (by kernel_rfl : Try.prog.types.size = (Try.prog.types.size - 1) + 1)⟩

/-- A blob that is kept, and where. -/
structure Kp where
  id : List Int
  b : List Int
  g : Nat
  v : Value
def kM : List Kp → List (List Int × Value)
  | [] => []
  | e :: l => (e.id, .pointer (some ⟨e.g, 0, none⟩)) :: kM l
def findK (a : List Int) : List Kp → Option Kp
  | [] => none
  | e :: l => if e.id = a then some e else findK a l
abbrev mpB (gm : Nat) (l : List Kp) : SP := mp gm (fun a : List Int => .agg ⟨a.map (Value.int .u8)⟩) idOk (kM l)
abbrev stC (w r u : Int) (gm : Nat) : List Value := [.int .i64 w, .int .i64 r, .int .i64 u, .map (some gm)]
theorem getM_k (a : List Int) (l : List Kp) : getM a (kM l) = (findK a l).map fun e => .pointer (some ⟨e.g, 0, none⟩) := by
  induction l with
  | nil => rfl
  | cons e l ih =>
    simp only [kM, getM, findK]
    split
    · rfl
    · exact ih
section
variable {b : World} {F : List SP} {gs gm : Nat} {w r u : Int} {l : List Kp}
end
end Go.Proofs.Ytgkhflcpbjlmiaa
/- Blobs, part two: Width, Room, Used, New, and what tells a blob. Conditions: not too many bytes. -/
namespace Go.Proofs.Ytgkhflcpbjlmiaa
open Go.Eng Go.RowKit Go.WideMaps

section
variable {b : World} {F : List SP} {gs gm : Nat} {w r u : Int} {l : List Kp}
def newOk (w r : Int) : Prop := ¬ w < 1 ∧ ¬ 32 < w ∧ ¬ r < 0 ∧ ¬ 67108864 < r
end
end Go.Proofs.Ytgkhflcpbjlmiaa
/- Blobs, part three: Size and Drop. Conditions: not too many bytes. -/
namespace Go.Proofs.Ytgkhflcpbjlmiaa
open Go.Eng Go.RowKit Go.WideMaps

def delK (a : List Int) : List Kp → List Kp
  | [] => []
  | e :: l => if e.id = a then l else e :: delK a l
theorem delM_k (a : List Int) (l : List Kp) : delM a (kM l) = kM (delK a l) := by
  induction l with
  | nil => rfl
  | cons e l ih =>
    simp only [kM, delM, delK]
    split
    · rfl
    · simp only [kM, ih]
theorem delK_split {a : List Int} {l1 l2 : List Kp} {e : Kp} (h : findK a l1 = none) (he : e.id = a) : delK a (l1 ++ e :: l2) = l1 ++ l2 := by
  induction l1 with
  | nil => simp [delK, he]
  | cons x l ih =>
    simp only [findK] at h
    split at h
    · cases h
    · rename_i hx
      simp only [List.cons_append, delK, if_neg hx, ih h]
section
variable {b : World} {F : List SP} {gs gm : Nat} {w r u : Int} {l : List Kp}
end
end Go.Proofs.Ytgkhflcpbjlmiaa
/- Blobs, part four: what Put asks. Conditions: not too many bytes. -/
namespace Go.Proofs.Ytgkhflcpbjlmiaa
open Go.Eng Go.RowKit Go.WideMaps

theorem u8wf (x : Int) : (Lit.int .u8 x).wf = true ↔ 0 ≤ x ∧ x < 256 := by
  have h1 : IntKind.u8.min = 0 := by decide
  have h2 : IntKind.u8.max = 255 := by decide
  simp [Lit.wf, h1, h2]; omega
theorem idOk_of {a : List Int} (h : a.length = 32) (hw : byteW a) : idOk a := ⟨h, fun x hx => (u8wf x).2 (hw x hx)⟩
theorem strOf_inj : ∀ {x y : List Int}, byteW x → byteW y → (strOfNums x).data = (strOfNums y).data → x = y := by
  have key : ∀ z : List Int, byteW z → (z.map fun n => UInt8.ofNat n.toNat).map (fun u => (u.toNat : Int)) = z := fun z hz => by
    rw [List.map_map]
    conv => rhs; rw [← List.map_id z]
    refine List.map_congr_left fun n hn => ?_
    have := hz n hn
    simp only [Function.comp, id, UInt8.toNat_ofNat']
    omega
  intro x y hx hy h
  have h1 : (strOfNums x).data.toList = (strOfNums y).data.toList := by rw [h]
  simp only [strOfNums] at h1
  rw [← key x hx, ← key y hy, h1]
theorem strOf_dec {x y : List Int} (hx : byteW x) (hy : byteW y) : decide ((strOfNums x).data = (strOfNums y).data) = decide (x = y) := decide_eq_decide.2 ⟨strOf_inj hx hy, fun h => by rw [h]⟩
section
variable {b : World} {F : List SP}
variable {A : SP} {g9 g8 g5 g4 g3 gs gm : Nat} {is : Bool} {old vb : Value} {id xs : List Int} {w r u : Int} {l : List Kp}
end
end Go.Proofs.Ytgkhflcpbjlmiaa
/- Blobs, part five: Put. Conditions: not too many bytes. -/
namespace Go.Proofs.Ytgkhflcpbjlmiaa
open Go.Eng Go.RowKit Go.WideMaps

theorem findK_put {a : List Int} {l : List Kp} (e : Kp) (he : e.id = a) (h : findK a l = none) : putM a (.pointer (some ⟨e.g, 0, none⟩)) (kM l) = kM (l ++ [e]) := by
  induction l with
  | nil => subst he; rfl
  | cons x l ih =>
    simp only [findK] at h
    split at h
    · cases h
    · rename_i hx
      simp only [kM, putM, if_neg hx, List.cons_append, ih h]
section
variable {b : World} {F : List SP} {gs gm : Nat} {w r u : Int} {l : List Kp} {vb : Value} {id xs : List Int}
def kv : Nat → Int
  | 0 => 0
  | 1 => 1
  | 2 => 2
  | 3 => 3
  | _ => 4
def putE0 (id xs : List Int) (w r u : Int) : Int := if 4096 < xs.length then 4 else if cutR (sumM xs) w = id then (if r < u + xs.length then 10 else 0) else 8
end
end Go.Proofs.Ytgkhflcpbjlmiaa
/- Blobs, part six: Put, where something is kept. Conditions: not too many bytes. -/
namespace Go.Proofs.Ytgkhflcpbjlmiaa
open Go.Eng Go.RowKit Go.WideMaps

section
variable {b : World} {F : List SP} {gs gm : Nat} {w r u : Int} {l : List Kp} {vb : Value} {id xs : List Int}
def putE1 (id xs : List Int) (e : Kp) (w : Int) : Int := if 4096 < xs.length then 4 else if cutR (sumM xs) w = id then (if e.b = xs then 0 else 9) else 8
end
end Go.Proofs.Ytgkhflcpbjlmiaa
/- Blobs, part seven: the heap's methods. Conditions: not too many. -/
namespace Go.Proofs.Ytgkhflcpbjlmiaa
open Go.Eng Go.RowKit Go.WideMaps

def idsC : List (List Int) → List Value
  | [] => []
  | a :: l => u8s a ++ idsC l
def len32 (l : List (List Int)) : Prop := ∀ a ∈ l, a.length = 32
theorem idsC_len {l : List (List Int)} (h : len32 l) : (idsC l).length = l.length * 32 := by
  induction l with
  | nil => rfl
  | cons a l ih => simp only [idsC, List.length_append, u8s_len, h a (by simp), ih (fun x hx => h x (by simp [hx])), List.length_cons]; omega
theorem idsC_seg {l : List (List Int)} (h : len32 l) {i : Nat} (hi : i < l.length) : ((idsC l).drop (i * 32)).take 32 = u8s (l.getD i []) := by
  induction l generalizing i with
  | nil => simp at hi
  | cons a l ih =>
    have ha := h a (by simp)
    have hl : len32 l := fun x hx => h x (by simp [hx])
    cases i with
    | zero =>
      simp only [idsC, Nat.zero_mul, List.drop_zero, List.getD_cons_zero]
      rw [List.take_append_of_le_length (by rw [u8s_len, ha]; omega), List.take_of_length_le (by rw [u8s_len, ha]; omega)]
    | succ i =>
      simp only [idsC, List.getD_cons_succ]
      rw [show (i + 1) * 32 = (u8s a).length + i * 32 by rw [u8s_len, ha]; omega, List.drop_append, List.drop_of_length_le (by omega), List.nil_append]
      rw [show (u8s a).length + i * 32 - (u8s a).length = i * 32 by omega]
      exact ih hl (by simpa using hi)
abbrev rI (A : Option Addr) (c : Nat) (l : List (List Int)) : SP := row t_api_ID 32 (.slice A l.length c) l.length (idsC l)
section
variable {b : World} {F : List SP} {A : Option Addr} {c : Nat} {l : List (List Int)}
theorem idsC_set {l : List (List Int)} (h : len32 l) {i : Nat} {x : List Int} (hx : x.length = 32) (hi : i < l.length) : spl (idsC l) (i * 32) (u8s x) = idsC (l.set i x) := by
  induction l generalizing i with
  | nil => simp at hi
  | cons a l ih =>
    have ha := h a (by simp)
    have hl : len32 l := fun x hx => h x (by simp [hx])
    cases i with
    | zero =>
      simp only [idsC, spl, Nat.zero_mul, List.take_zero, List.nil_append, Nat.zero_add, List.set_cons_zero]
      congr 1
      rw [u8s_len, hx, show 32 = (u8s a).length by rw [u8s_len, ha]]
      exact List.drop_left
    | succ i =>
      have := ih hl (i := i) (by simpa using hi)
      simp only [spl] at this
      simp only [idsC, List.set_cons_succ, ← this, spl]
      rw [show (i + 1) * 32 = (u8s a).length + i * 32 by rw [u8s_len, ha]; omega, List.take_append, List.take_of_length_le (by omega), List.drop_append, List.drop_of_length_le (l := u8s a) (by omega)]
      rw [show (u8s a).length + i * 32 - (u8s a).length = i * 32 by omega, show (u8s a).length + i * 32 + (u8s x).length - (u8s a).length = i * 32 + (u8s x).length by omega]
      simp
def swapL (l : List (List Int)) (i j : Nat) : List (List Int) := (l.set i (l.getD j [])).set j (l.getD i [])
theorem len32_set {l : List (List Int)} (h : len32 l) {x : List Int} (hx : x.length = 32) (i : Nat) : len32 (l.set i x) := fun a ha => by
  rcases List.mem_or_eq_of_mem_set ha with h' | rfl
  · exact h a h'
  · exact hx
theorem len32_get {l : List (List Int)} (h : len32 l) {i : Nat} (hi : i < l.length) : (l.getD i []).length = 32 := by rw [List.getD_eq_getElem?_getD, List.getElem?_eq_getElem hi]; exact h _ (List.getElem_mem hi)
abbrev rN (A : Option Addr) (c n : Nat) (l : List (List Int)) : SP := row t_api_ID 32 (.slice A n c) n (idsC l)
end
end Go.Proofs.Ytgkhflcpbjlmiaa
/- Blobs, part eight: the heap's Push and Pop. Conditions: not too many. -/
namespace Go.Proofs.Ytgkhflcpbjlmiaa
open Go.Eng Go.RowKit Go.WideMaps

theorem idsC_app (l : List (List Int)) (x : List Int) : idsC l ++ u8s x = idsC (l ++ [x]) := by
  induction l with
  | nil => simp [idsC]
  | cons a l ih => simp only [idsC, List.cons_append, List.append_assoc, ih]
section
variable {b : World} {F : List SP} {A : Option Addr} {c n gh : Nat} {l : List (List Int)} {x : List Int}
end
end Go.Proofs.Ytgkhflcpbjlmiaa
/- Blobs, part nine: the heap: up. Conditions: not too many. -/
namespace Go.Proofs.Ytgkhflcpbjlmiaa
open Go.Eng Go.RowKit Go.WideMaps

end Go.Proofs.Ytgkhflcpbjlmiaa
/- Blobs, part ten: the heap: up. Conditions: not too many. -/
namespace Go.Proofs.Ytgkhflcpbjlmiaa
open Go.Eng Go.RowKit Go.WideMaps

def upM : Nat → List (List Int) → Nat → List (List Int)
  | 0, l, _ => l
  | k + 1, l, j => if j = 0 then l else if cmpM (l.getD j []) (l.getD ((j - 1) / 2) []) < 0 then upM k (swapL l ((j - 1) / 2) j) ((j - 1) / 2) else l
theorem swapL_len (l : List (List Int)) (i j : Nat) : (swapL l i j).length = l.length := by simp [swapL]
theorem swapL_32 {l : List (List Int)} (h : len32 l) {i j : Nat} (hi : i < l.length) (hj : j < l.length) : len32 (swapL l i j) := len32_set (len32_set h (len32_get h hj) i) (len32_get h hi) j
theorem upM_fuel (k : Nat) : ∀ l p, p < k → upM k l p = upM (p + 1) l p := by
  induction k using Nat.strongRecOn with
  | ind k ih =>
    intro l p hp
    cases k with
    | zero => omega
    | succ k =>
      simp only [upM]
      split
      · rfl
      · split
        · exact (ih k (by omega) _ _ (by omega)).trans (ih p (by omega) _ _ (by omega)).symm
        · rfl
theorem tdiv2 (j : Nat) : Int.tdiv ((j : Int) - 1) 2 = (((j - 1) / 2 : Nat) : Int) := by
  cases j with
  | zero => rfl
  | succ j =>
    have : (((j + 1 : Nat) : Int) - 1) = (j : Int) := by omega
    rw [this, Nat.add_sub_cancel]
    rfl
theorem tdiv2w {j : Nat} (h : j ≤ 1000000) : IntKind.i64.wrap (Int.tdiv ((j : Int) - 1) 2) = (((j - 1) / 2 : Nat) : Int) := by
  rw [tdiv2]; exact I64.wrap (by unfold I64; omega)
section
variable {b : World} {F : List SP} {A : Option Addr} {c n gh : Nat} {l : List (List Int)}
end
end Go.Proofs.Ytgkhflcpbjlmiaa
